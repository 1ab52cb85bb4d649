/- Part 7 of the proof; the last part says what is proved. -/
import Derived.Test.YtbnonpbnhenkfaaGreatDoorQ06
import Derived.Recover
set_option linter.all false
set_option maxRecDepth 1000000
set_option maxHeartbeats 8000000
namespace Go.Proofs.YtbnonpbnhenkfaaGreatDoor
section
open Go.RowKit
theorem xh(p:Nat->Bool):∀(f i j:Nat),i<=j->i<=gK p f i j/\gK p f i j<=j
 |0,i,j,h=>⟨j2 _,h⟩
 |f+1,i,j,h=>by
  unfold gK
  split
  ·exact⟨j2 _,h⟩
  ·rename_i h1
   have h1:=j5 h1
   split
   ·have:=xh p f ((i+j) / 2+1) j om;omega
   ·have:=xh p f i ((i+j) / 2) om;omega
theorem Ep(p:Nat->Bool)(f:Nat){i j:Nat}(h:¬i<j):gK p f i j=i:=by
 cases f with
 |zero=>rfl
 |succ f=>unfold gK;rw[j1 h]
theorem Bj{p:Nat->Bool}{f i j:Nat}(h:i<j)(hp:p ((i+j) / 2)=true):gK p (f+1) i j=gK p f ((i+j) / 2+1) j:=by
 conv=>lhs;unfold gK
 rw[l9 h,hp]
theorem Cm{p:Nat->Bool}{f i j:Nat}(h:i<j)(hp:p ((i+j) / 2)=false):gK p (f+1) i j=gK p f i ((i+j) / 2):=by
 conv=>lhs;unfold gK
 rw[l9 h,hp]
theorem SJ{α:Type}:∀(n k:Nat) (L:List α),oz (n+1) k L=swp (oz n k L) (k+n) (k+n+1)
 |0,_,_=>rfl
 |n+1,k,L=>by
  show oz (n+1) (k+1) (swp L k (k+1))=_
  rw[SJ n (k+1)]
  show swp (oz n (k+1) (swp L k (k+1))) _ _=swp (oz n (k+1) (swp L k (k+1))) _ _
  congr 1<;>omega
theorem IQ{α:Type}:∀(n k:Nat) (L:List α),(oz n k L).length=L.length
 |0,_,_=>rfl
 |n+1,k,L=>by show(oz n (k+1) (swp L k (k+1))).length=_;rw[IQ n,Du]
theorem NQ{α:Type}:∀(n k:Nat) (L:List α),oT (n+1) k L=swp (oT n k L) (k-n) (k-n-1)
 |0,_,_=>rfl
 |n+1,k,L=>by
  show oT (n+1) (k-1) (swp L k (k-1))=_
  rw[NQ n (k-1)]
  show swp (oT n (k-1) (swp L k (k-1))) _ _=swp (oT n (k-1) (swp L k (k-1))) _ _
  congr 1<;>omega
theorem IG{α:Type}:∀(n k:Nat) (L:List α),(oT n k L).length=L.length
 |0,_,_=>rfl
 |n+1,k,L=>by show(oT n (k-1) (swp L k (k-1))).length=_;rw[IG n,Du]
section
variable {α:Type}(lt:α→α→Bool)
def zT(S m e:Nat)(L:List α):List α:=match decide (S<m),decide (m<e)with|true,true=>lU S m e L|_,_=>L
def yI(F a S mid:Nat)(L:List α):List α:=match decide (a<S),decide (S<mid)with|true,true=>gI lt F a S mid L|_,_=>L
def yP(F a e b:Nat)(L:List α):List α:=match decide (a<e),decide (e<b)with|true,true=>gI lt F a e b L|_,_=>L
theorem Lb(F a m b:Nat)(L:List α)(h1:¬m-a=1)(h2:¬b-m=1)(s0 r S:Nat)(d:s0=match decide ((a+b) / 2<m)with|true=>(a+b) / 2+m-b|false=>a)(e:r=match decide ((a+b) / 2<m)with|true=>(a+b) / 2|false=>m)(f:S=gK (λc=>!fM lt L ((a+b) / 2+m-1-c) c) (r-s0) s0 r):
 gI lt (F+1) a m b L=yP lt F ((a+b) / 2) ((a+b) / 2+m-S) b (yI lt F a S ((a+b) / 2) (zT S m ((a+b) / 2+m-S) L)):=by
 subst f d e
 conv=>lhs;unfold gI
 rw[j1 h1,j1 h2]
 rfl
theorem ajR(F a m b:Nat)(L:List α)(h1:m-a=1):gI lt (F+1) a m b L=oz (gK (λh=>fM lt L h a) (b-m) m b-1-a) a L:=by
 conv=>lhs;unfold gI
 rw[l9 h1]
theorem YV(F a m b:Nat)(L:List α)(h1:¬m-a=1)(h2:b-m=1):gI lt (F+1) a m b L=oT (m-gK (λh=>!fM lt L m h) (m-a) a m) m L:=by
 conv=>lhs;unfold gI
 rw[j1 h1,l9 h2]
theorem wF:∀(F a m b:Nat) (L:List α),(gI lt F a m b L).length=L.length
 |0,_,_,_,_=>rfl
 |F+1,a,m,b,L=>by
  by_cases h1:m-a=1
  ·unfold gI;rw[l9 h1];exact IQ _ _ _
  ·by_cases h2:b-m=1
   ·unfold gI;rw[j1 h1,l9 h2];exact IG _ _ _
   ·rw[Lb lt F a m b L h1 h2 _ _ _ rr rr rfl]
    generalize gK _ _ _ _=S
    have e1:∀(e:Nat) (L:List α),(zT S m e L).length=L.length:=λe L=>by
     unfold zT;split
     ·exact zn _ _ _ _ _
     ·rfl
    have e2:∀(c:Nat) (L:List α),(yI lt F a S c L).length=L.length:=λc L=>by
     unfold yI;split
     ·exact wF F _ _ _ _
     ·rfl
    have e3:∀(c e:Nat) (L:List α),(yP lt F c e b L).length=L.length:=λc e L=>by
     unfold yP;split
     ·exact wF F _ _ _ _
     ·rfl
    rw[e3,e2,e1]
end
theorem BH{lt:ax->ax->Bool}{L:List ax}{i k:Nat}{x y:ax}(a:L[i]? = some x)(b:L[k]? = some y):fM lt L i k=lt x y:=by unfold fM;rw[a,b]
def CU(M:Nat)(P:Program)(G:World->Prop)(T:TT)(fn:Func)(args:List PV)(bs:List aI)(js:List Nat)(nx:Nat)(post:PV->cU->Prop):Prop:=
 match fn.body with
 |some c=>match Nat.ble args.length fn.ntmps with
  |true=>vc P G T M fn.ntmps c M ⟨mf args 0,sm bs 0⟩ (yg T fn js nx post)
  |false=>False
 |none=>False
theorem Ah{P:Program}{G:World->Prop}{T:TT}{fn:Func}{args:List PV}{bs:List aI}{j nx:Nat}{post:PV->cU->Prop}(h:CU 1 P G T fn args bs [j] nx post):se P G T fn args bs [j] nx post:=h
theorem Qu{hp:Nat->Option aI}{b:Bool}{f:PV->cU->Prop}(h:f (.at (.bool b)) []):Tr.wp hp (bT b) f:=h
theorem NR{n:Nat}{bD:Nat->Option PV}{hp:Nat->Option aI}{t:Nat}{v:PV}{k:AS->Prop}(a:Nat.ble (t+1) n=true)(h:k ⟨da bD t (some v),hp⟩):qN n bD hp (some t) v k:=by unfold qN;dsimp only;rw[a];exact h
theorem RU{P:Program}{G:World->Prop}{T:TT}{n:Nat}{all:List Oper}{nx:Nat}{s:AS}{k:Nat->AS->Prop}(h:k nx s):oW P G T n all [] nx s k:=h
theorem afZ{P:Program}{G:World->Prop}{T:TT}{M n:Nat}{x:Operand}{a b:Code}{nx:Nat}{s:AS}{k:Ex->Nat->AS->Prop}(c:s.ev x=some (.at (.bool false)))(h:vc P G T M n b nx s k):vc P G T M n (.cond x a b) nx s k:=by unfold vc;rw[c];exact .f rr h
theorem aa4{P:Program}{G:World->Prop}{T:TT}{M n:Nat}{x:Operand}{a b:Code}{nx:Nat}{s:AS}{k:Ex->Nat->AS->Prop}(c:s.ev x=some (.at (.bool true)))(h:vc P G T M n a nx s k):vc P G T M n (.cond x a b) nx s k:=by unfold vc;rw[c];exact .t rr h
theorem akW{P:Program}{G:World->Prop}{T:TT}{M n i:Nat}{nx:Nat}{s:AS}{k:Ex->Nat->AS->Prop}(h:k (.exit i) nx s):vc P G T M n (.exit i) nx s k:=h
theorem gz{a b:Nat}(h:decide ((a:Int)<(b:Int))=true):a<b:=fE h
theorem pV{a b:Nat}(h:decide ((a:Int)<(b:Int))=false):¬a<b:=jN h
end
section
open Go.RowKit Go.Proofs.Tryz
section
variable {zs:List PV}(hz:dP zs){c:ax→ax→Int}(hc:∀a b:ax,PC 108 [a.pv,b.pv] (·=i64 (c a b)))
include hz hc
theorem afV(F:Nat)(L:List ax)(a m b:Nat)(J:a<m)(K:m<b)(hb:b<=L.length)(N:L.length<=1000)(O:b-a<=F+1)(c1:m-a=1):∀(f:PV),f=.fn 108 []->∀(j nx:Nat),Nat.beq nx j=false->LC 254 [.aS j 0 L.length,i64 a,i64 m,i64 b,f] [(j,SB zs L)] nx λr d=>r=.aU []/\d=[(j,some (SB zs (gI (dA c) (F+1) a m b L))),(j,none)]:=by
 intro f D j nx w;subst D;refine fX (js:=[j]) (bs:=[SB zs L]) (args:=[.aS 0 0 L.length,i64 a,i64 m,i64 b,.fn 108 []]) func254 rr rr ?_ rr ⟨⟨rr,dY hz L⟩,trivial⟩ rr ?_
 ·unfold cW;rw[w];rfl
 refine aF (gm m a)<|aj.t (congrArg (λn:Nat=>(n:Int)) c1)<|an ?_;have E:=xh (λh=>fM (dA c) L h a) (b-m) m b om;generalize o:gK (λh=>fM (dA c) L h a) (b-m) m b=R at E;refine cV.bA (ι:={p:Nat×Nat×Nat//m<=p.1/\p.1<=p.2.1/\p.2.1<=b/\p.2.1-p.1<=p.2.2/\gK (λh=>fM (dA c) L h a) p.2.2 p.1 p.2.1=R}) ⟨λp=>[(10,i64 p.1.1),(11,i64 p.1.2.1)],[0,1,2,3,4],λ_=>[(0,SB zs L)],[]⟩ (λp=>p.1.2.1-p.1.1) ⟨(m,b,b-m),j2 _,by show m<=b;omega,j2 _,j2 _,o⟩ ?_ ?_
 ·exact cS rr (dY hz _)
 rintro⟨⟨i,k,g⟩,h1,h2,C,G,v⟩;dsimp only at h1 h2 C G v;refine aj.aN (λd1=>?_) (λd1=>?_)
 ·have u:i<k:=fE d1;obtain⟨g,rfl⟩:∃g',g=g'+1:=⟨g-1,om⟩;refine an<|aF (eJ i k)<|aF (yd (i+k))<|xw<|aF (xm (i+k))<|aF (yr ((i+k) / 2)) ?_;obtain⟨x,e⟩:=cw (l:=L) (k:=(i+k) / 2) om;obtain⟨y,s⟩:=cw (l:=L) (k:=a) om;have hp:fM (dA c) L ((i+k) / 2) (a)=decide (c x y<0):=BH e s;refine aq.mk (bS (show(i+k) / 2<L.length by omega))<|iZ zs e<|aq.mk (bS (show a<L.length by omega))<|iZ zs s<|aJ (hc x y) rfl<|aj.aN (λd2=>?_) (λd2=>?_)
  ·refine az<|an<|aF (dq ((i+k) / 2))<|⟨⟨((i+k) / 2+1,k,g),by show m<=(i+k) / 2+1;omega,by show(i+k) / 2+1<=k;omega,C,by show k-((i+k) / 2+1)<=g;omega,(Bj u (by show fM (dA c) L ((i+k) / 2) (a)=true;rw[hp,d2])).symm.trans v⟩,id,?_,?_⟩
   ·show k-((i+k) / 2+1)<k-i;omega
   exact cS rr (dY hz _)
  ·refine az<|ab<|⟨⟨(i,(i+k) / 2,g),h1,by show i<=(i+k) / 2;omega,by show(i+k) / 2<=b;omega,by show(i+k) / 2-i<=g;omega,(Cm u (by show fM (dA c) L ((i+k) / 2) (a)=false;rw[hp,d2])).symm.trans v⟩,id,?_,?_⟩
   ·show(i+k) / 2-i<k-i;omega
   exact cS rr (dY hz _)
 ·have d1:¬i<k:=jN d1;have A:i=R:=(Ep _ g d1).symm.trans v;subst A;refine ab ?_;refine cV.bA (ι:={p:Nat×List ax//a<=p.1/\p.1<=i-1/\p.2=oz (p.1-a) a L}) ⟨λp=>[(13,i64 p.1.1)],[0,1,2,3,4,10],λp=>[(0,SB zs p.1.2)],[]⟩ (λp=>i-1-p.1.1) ⟨(a,L),j2 _,by show a<=i-1;omega,by rw[G0];rfl⟩ ?_ ?_
  ·exact cS rr (dY hz _)
  rintro⟨⟨q,M⟩,e1,e2,e3⟩;dsimp only at e1 e2 e3;have H:M.length=L.length:=by rw[e3];exact IQ _ _ _
  refine aF (GP i)<|aj.aN (λe4=>?_) (λe4=>?_)
  ·have e4:q<i-1:=fE e4;refine an ?_;obtain⟨x,e⟩:=cw (l:=M) (k:=q) om;obtain⟨y,s⟩:=cw (l:=M) (k:=q+1) om;obtain⟨z,B⟩:=cw (l:=M.set (q) y) (k:=q+1) (by rw[x9];omega);refine aF (dq q)<|aF (dq q)<|aq.mk (bS (show q+1<L.length by omega))<|iZ zs s<|aq.mk (bS (show q<L.length by omega))<|iZ zs e<|aq.mk (bS (show q<L.length by omega))<|iZ zs e<|aq.mk (bS (show q+1<L.length by omega))<|fF.intro (ax.pv z) (Bg zs (show q<M.length by omega) B) (C7 _)<|az<|aF (dq q) ?_;have I:PV.eO (PV.eO (M.map ax.pv++zs) (0+(q)) (ax.pv y)) (0+(q+1)) (ax.pv x)=((M.set (q) y).set (q+1) x).map ax.pv++zs:=by
    rw[tO zs M (q) y om,tO zs _ (q+1) x (by rw[x9];omega)]
   refine⟨⟨(q+1,(M.set q y).set (q+1) x),by show a<=q+1;omega,by show q+1<=i-1;omega,?_⟩,id,?_,?_⟩
   ·show(M.set q y).set (q+1) x=oz (q+1-a) a L
    rw[show q+1-a=(q-a)+1 by omega,SJ,<-e3,show a+(q-a)=q by omega,Bq e s]
   ·show i-1-(q+1)<i-1-q;omega
   exact eB ⟨⟨BB.br (congrArg (λr=>some (aI.rows 12 r true none _)) I) (dY hz _),rr⟩,trivial⟩
  ·have e4:¬q<i-1:=jN e4;exact ab<|ey<|kY (0,j) rr rr (dY hz _)<|az<|congrArg (λx=>[(j,some (SB zs x)),(j,none)]) (e3.trans (by rw[ajR (dA c) F a m b L c1,o];congr 1;omega))
end
section
variable {zs:List PV}(hz:dP zs){c:ax→ax→Int}(hc:∀a b:ax,PC 108 [a.pv,b.pv] (·=i64 (c a b)))
include hz hc
theorem ahE(F:Nat)(L:List ax)(a m b:Nat)(K:a<m)(N:m<b)(hb:b<=L.length)(O:L.length<=1000)(P:b-a<=F+1)(c1:¬m-a=1)(c2:b-m=1):∀(f:PV),f=.fn 108 []->∀(j nx:Nat),Nat.beq nx j=false->LC 254 [.aS j 0 L.length,i64 a,i64 m,i64 b,f] [(j,SB zs L)] nx λr d=>r=.aU []/\d=[(j,some (SB zs (gI (dA c) (F+1) a m b L))),(j,none)]:=by
 intro f E j nx A;subst E;refine fX (js:=[j]) (bs:=[SB zs L]) (args:=[.aS 0 0 L.length,i64 a,i64 m,i64 b,.fn 108 []]) func254 rr rr ?_ rr ⟨⟨rr,dY hz L⟩,trivial⟩ rr ?_
 ·unfold cW;rw[A];rfl
 refine Ah<|aF (gm m a)<|aj.f (λe=>c1 (N1.1 e))<|ab<|aF (gm b m)<|aj.t (congrArg (λn:Nat=>(n:Int)) c2)<|an ?_;have G:=xh (λh=>!fM (dA c) L m h) (m-a) a m om;generalize s:gK (λh=>!fM (dA c) L m h) (m-a) a m=R at G;refine cV.bA (ι:={p:Nat×Nat×Nat//a<=p.1/\p.1<=p.2.1/\p.2.1<=m/\p.2.1-p.1<=p.2.2/\gK (λh=>!fM (dA c) L m h) p.2.2 p.1 p.2.1=R}) ⟨λp=>[(14,i64 p.1.1),(15,i64 p.1.2.1)],[0,1,2,3,4],λ_=>[(0,SB zs L)],[]⟩ (λp=>p.1.2.1-p.1.1) ⟨(a,m,m-a),j2 _,by show a<=m;omega,j2 _,j2 _,s⟩ ?_ ?_
 ·exact cS rr (dY hz _)
 rintro⟨⟨i,k,g⟩,h1,h2,D,H,w⟩;dsimp only at h1 h2 D H w;refine aj.aN (λd1=>?_) (λd1=>?_)
 ·have v:i<k:=fE d1;obtain⟨g,rfl⟩:∃g',g=g'+1:=⟨g-1,om⟩;refine Qu<|NR rfl<|RU<|aa4 rr ?_;dsimp only;refine aF (eJ i k)<|aF (yd (i+k))<|xw<|aF (xm (i+k))<|aF (yr ((i+k) / 2)) ?_;obtain⟨x,o⟩:=cw (l:=L) (k:=m) om;obtain⟨y,u⟩:=cw (l:=L) (k:=(i+k) / 2) om;have hp:fM (dA c) L (m) ((i+k) / 2)=decide (c x y<0):=BH o u;refine aq.mk (bS (show m<L.length by omega))<|iZ zs o<|aq.mk (bS (show(i+k) / 2<L.length by omega))<|iZ zs u<|aJ (hc x y) rfl<|aj.aN (λd2=>?_) (λd2=>?_)
  ·refine az<|ab<|⟨⟨(i,(i+k) / 2,g),h1,by show i<=(i+k) / 2;omega,by show(i+k) / 2<=m;omega,by show(i+k) / 2-i<=g;omega,(Cm v (by show(!fM (dA c) L (m) ((i+k) / 2))=false;rw[hp,d2];rfl)).symm.trans w⟩,id,?_,?_⟩
   ·show(i+k) / 2-i<k-i;omega
   exact cS rr (dY hz _)
  ·refine az<|an<|aF (dq ((i+k) / 2))<|⟨⟨((i+k) / 2+1,k,g),by show a<=(i+k) / 2+1;omega,by show(i+k) / 2+1<=k;omega,D,by show k-((i+k) / 2+1)<=g;omega,(Bj v (by show(!fM (dA c) L (m) ((i+k) / 2))=true;rw[hp,d2];rfl)).symm.trans w⟩,id,?_,?_⟩
   ·show k-((i+k) / 2+1)<k-i;omega
   exact cS rr (dY hz _)
 ·have d1:¬i<k:=jN d1;have B:i=R:=(Ep _ g d1).symm.trans w;subst B;refine Qu<|NR rfl<|RU<|afZ rfl<|akW ?_;dsimp only;refine cV.bA (ι:={p:Nat×List ax//i<=p.1/\p.1<=m/\p.2=oT (m-p.1) m L}) ⟨λp=>[(17,i64 p.1.1)],[0,1,2,3,4,14],λp=>[(0,SB zs p.1.2)],[]⟩ (λp=>p.1.1) ⟨(m,L),by show i<=m;omega,j2 _,by rw[G0];rfl⟩ ?_ ?_
  ·exact cS rr (dY hz _)
  rintro⟨⟨q,M⟩,e1,e2,e3⟩;dsimp only at e1 e2 e3;have I:M.length=L.length:=by rw[e3];exact IG _ _ _
  refine aj.aN (λe4=>?_) (λe4=>?_)
  ·have e4:i<q:=fE e4;refine an ?_;obtain⟨q,rfl⟩:∃q',q=q'+1:=⟨q-1,om⟩;obtain⟨x,o⟩:=cw (l:=M) (k:=q+1) om;obtain⟨y,u⟩:=cw (l:=M) (k:=q) om;obtain⟨z,C⟩:=cw (l:=M.set (q+1) y) (k:=q) (by rw[x9];omega);refine aF (fD q)<|aF (fD q)<|aq.mk (bS (show q<L.length by omega))<|iZ zs u<|aq.mk (bS (show q+1<L.length by omega))<|iZ zs o<|aq.mk (bS (show q+1<L.length by omega))<|iZ zs o<|aq.mk (bS (show q<L.length by omega))<|fF.intro (ax.pv z) (Bg zs (show q+1<M.length by omega) C) (C7 _)<|az<|aF (fD q) ?_;have J:PV.eO (PV.eO (M.map ax.pv++zs) (0+(q+1)) (ax.pv y)) (0+(q)) (ax.pv x)=((M.set (q+1) y).set (q) x).map ax.pv++zs:=by
    rw[tO zs M (q+1) y om,tO zs _ (q) x (by rw[x9];omega)]
   refine⟨⟨(q,(M.set (q+1) y).set q x),by show i<=q;omega,by show q<=m;omega,?_⟩,id,D8 q,?_⟩
   ·show(M.set (q+1) y).set q x=oT (m-q) m L
    rw[show m-q=(m-(q+1))+1 by omega,NQ,<-e3,show m-(m-(q+1))=q+1 by omega,Nat.add_sub_cancel,Bq o u]
   exact eB ⟨⟨BB.br (congrArg (λr=>some (aI.rows 12 r true none _)) J) (dY hz _),rr⟩,trivial⟩
  ·have e4:¬i<q:=jN e4;exact ab<|ey<|kY (0,j) rr rr (dY hz _)<|az<|congrArg (λx=>[(j,some (SB zs x)),(j,none)]) (e3.trans (by rw[YV (dA c) F a m b L c1 c2,s];congr 1;omega))
end
section
variable {zs:List PV}(hz:dP zs){c:ax→ax→Int}(hc:∀a b:ax,PC 108 [a.pv,b.pv] (·=i64 (c a b)))
include hz hc
theorem akk(F:Nat)(N:∀(L:List ax) (a m b:Nat),a<m->m<b->b<=L.length->L.length<=1000->b-a<=F->∀(f:PV),f=.fn 108 []->∀(j nx:Nat),Nat.beq nx j=false->LC 254 [.aS j 0 L.length,i64 a,i64 m,i64 b,f] [(j,SB zs L)] nx λr d=>r=.aU []/\d=[(j,some (SB zs (gI (dA c) F a m b L))),(j,none)])(L:List ax)(a m b:Nat)(O:a<m)(P:m<b)(hb:b<=L.length)(G:L.length<=1000)(A:b-a<=F+1)(c1:¬m-a=1)(c2:¬b-m=1)(c3:(a+b) / 2<m):∀(f:PV),f=.fn 108 []->∀(j nx:Nat),Nat.beq nx j=false->LC 254 [.aS j 0 L.length,i64 a,i64 m,i64 b,f] [(j,SB zs L)] nx λr d=>r=.aU []/\d=[(j,some (SB zs (gI (dA c) (F+1) a m b L))),(j,none)]:=by
 intro f H j nx v;subst H;refine fX (js:=[j]) (bs:=[SB zs L]) (args:=[.aS 0 0 L.length,i64 a,i64 m,i64 b,.fn 108 []]) func254 rr rr ?_ rr ⟨⟨rr,dY hz L⟩,trivial⟩ rr ?_
 ·unfold cW;rw[v];rfl
 refine aF (gm m a)<|aj.f (λe=>c1 (N1.1 e))<|ab<|aF (gm b m)<|aj.f (λe=>c2 (N1.1 e))<|ab<|aF (eJ a b)<|aF (yd (a+b))<|xw<|aF (xm (a+b))<|aF (yr ((a+b) / 2)) ?_;have B:a+2<=(a+b) / 2/\(a+b) / 2+2<=b:=om
 refine aF (eJ ((a+b) / 2) m)<|aj.t (B1.2 c3)<|an<|aF (gm ((a+b) / 2+m) b)<|aF (GP ((a+b) / 2+m)) ?_;have I:=xh (λc'=>!fM (dA c) L ((a+b) / 2+m-1-c') c') (((a+b) / 2)-((a+b) / 2+m-b)) ((a+b) / 2+m-b) ((a+b) / 2) om;generalize h:gK (λc'=>!fM (dA c) L ((a+b) / 2+m-1-c') c') (((a+b) / 2)-((a+b) / 2+m-b)) ((a+b) / 2+m-b) ((a+b) / 2)=R at I;refine cV.bA (ι:={p:Nat×Nat×Nat//((a+b) / 2+m-b)<=p.1/\p.1<=p.2.1/\p.2.1<=((a+b) / 2)/\p.2.1-p.1<=p.2.2/\gK (λc'=>!fM (dA c) L ((a+b) / 2+m-1-c') c') p.2.2 p.1 p.2.1=R}) ⟨λp=>[(20,i64 p.1.1),(21,i64 p.1.2.1)],[0,1,2,3,4,18,19,22],λ_=>[(0,SB zs L)],[]⟩ (λp=>p.1.2.1-p.1.1) ⟨(((a+b) / 2+m-b),((a+b) / 2),((a+b) / 2)-((a+b) / 2+m-b)),j2 _,by show((a+b) / 2+m-b)<=((a+b) / 2);omega,j2 _,j2 _,h⟩ ?_ ?_
 ·exact cS rr (dY hz _)
 rintro⟨⟨i,k,g⟩,h1,h2,C,J,u⟩;dsimp only at h1 h2 C J u;refine aj.aN (λd1=>?_) (λd1=>?_)
 ·have s:i<k:=fE d1;obtain⟨g,rfl⟩:∃g',g=g'+1:=⟨g-1,om⟩;refine an<|aF (eJ i k)<|aF (yd (i+k))<|xw<|aF (xm (i+k))<|aF (yr ((i+k) / 2)) ?_;obtain⟨x,D⟩:=cw (l:=L) (k:=(a+b) / 2+m-1-(i+k) / 2) om;obtain⟨y,E⟩:=cw (l:=L) (k:=(i+k) / 2) om;have hp:fM (dA c) L ((a+b) / 2+m-1-(i+k) / 2) ((i+k) / 2)=decide (c x y<0):=BH D E;refine aF (gm ((a+b) / 2+m-1) ((i+k) / 2))<|aq.mk (bS (show(a+b) / 2+m-1-(i+k) / 2<L.length by omega))<|iZ zs D<|aq.mk (bS (show(i+k) / 2<L.length by omega))<|iZ zs E<|aJ (hc x y) rfl<|aj.aN (λd2=>?_) (λd2=>?_)
  ·refine az<|ab<|⟨⟨(i,(i+k) / 2,g),h1,by show i<=(i+k) / 2;omega,by show(i+k) / 2<=((a+b) / 2);omega,by show(i+k) / 2-i<=g;omega,(Cm s (by show(!fM (dA c) L ((a+b) / 2+m-1-(i+k) / 2) ((i+k) / 2))=false;rw[hp,d2];rfl)).symm.trans u⟩,id,?_,?_⟩
   ·show(i+k) / 2-i<k-i;omega
   exact cS rr (dY hz _)
  ·refine az<|an<|aF (dq ((i+k) / 2))<|⟨⟨((i+k) / 2+1,k,g),by show((a+b) / 2+m-b)<=(i+k) / 2+1;omega,by show(i+k) / 2+1<=k;omega,C,by show k-((i+k) / 2+1)<=g;omega,(Bj s (by show(!fM (dA c) L ((a+b) / 2+m-1-(i+k) / 2) ((i+k) / 2))=true;rw[hp,d2];rfl)).symm.trans u⟩,id,?_,?_⟩
   ·show k-((i+k) / 2+1)<k-i;omega
   exact cS rr (dY hz _)
 ·have d1:¬i<k:=jN d1;have w:i=R:=(Ep _ g d1).symm.trans u;subst w;refine ab ?_;have K:=Lb (dA c) F a m b L c1 c2 ((a+b) / 2+m-b) ((a+b) / 2) i (by rw[l9 c3]) (by rw[l9 c3]) h.symm;refine aF (gm ((a+b) / 2+m) i) ?_;have o:∀{X:List ax} {p q r:Nat},p<q->q<r->r-p<=F->X.length=L.length->r<=b->∀nx,Nat.beq nx 0=false->LC 254 [.aS 0 0 L.length,i64 p,i64 q,i64 r,.fn 108 []] [(0,SB zs X)] nx λr' d=>r'=.aU []/\d=[(0,some (SB zs (gI (dA c) F p q r X))),(0,none)]:=fun{X p q r} hp hq A e Q nx M=>by
   rw[<-e];exact N X p q r hp hq om om A (.fn 108 []) rr 0 nx M
  have z:(lU i m ((a+b) / 2+m-i) L).length=L.length:=zn _ _ _ _ _;refine aj.aN (λs1=>aj.aN (λs2=>gQ.t rr (bu.bH [0] (n:=200) (Xg hz L i m ((a+b) / 2+m-i) (gz s1) (gz s2) om G (.fn 108 []) rr 0 _ rr) rr ⟨rr,trivial⟩ ?_)) λs2=>gQ.f rr ?_) λs1=>gQ.f rr ?_
  all_goals refine aj.aN (λs3=>aj.aN (λs4=>gQ.t rfl (bu.bH [0] (n:=200) (o (gz s3) (gz s4) om (by first|exact z|rfl) om _ rfl) rfl ⟨rfl,trivial⟩ ?_)) λs4=>gQ.f rfl ?_) λs3=>gQ.f rfl ?_
  all_goals refine aj.aN (λs5=>aj.aN (λs6=>gQ.t rfl (bu.bH [0] (n:=200) (o (gz s5) (gz s6) om (by first|exact z|rfl|(rw[wF];exact z)|rw[wF]) om _ rr) rr ⟨rr,trivial⟩ ?_)) λs6=>gQ.f rr ?_) λs5=>gQ.f rr ?_
  all_goals
   refine ey<|kY (0,j) rr rr (dY hz _)<|az<|congrArg (λx=>[(j,some (SB zs x)),(j,none)]) (K.trans ?_).symm;unfold zT;first|rw[l9 (gz s1),l9 (gz s2)]|rw[l9 (gz s1),j1 (pV s2)]|rw[j1 (pV s1)]
   unfold yI;first|rw[l9 (gz s3),l9 (gz s4)]|rw[l9 (gz s3),j1 (pV s4)]|rw[j1 (pV s3)]
   unfold yP;first|rw[l9 (gz s5),l9 (gz s6)]|rw[l9 (gz s5),j1 (pV s6)]|rw[j1 (pV s5)]
end
section
variable {zs:List PV}(hz:dP zs){c:ax→ax→Int}(hc:∀a b:ax,PC 108 [a.pv,b.pv] (·=i64 (c a b)))
include hz hc
theorem ag3(F:Nat)(N:∀(L:List ax) (a m b:Nat),a<m->m<b->b<=L.length->L.length<=1000->b-a<=F->∀(f:PV),f=.fn 108 []->∀(j nx:Nat),Nat.beq nx j=false->LC 254 [.aS j 0 L.length,i64 a,i64 m,i64 b,f] [(j,SB zs L)] nx λr d=>r=.aU []/\d=[(j,some (SB zs (gI (dA c) F a m b L))),(j,none)])(L:List ax)(a m b:Nat)(O:a<m)(P:m<b)(hb:b<=L.length)(G:L.length<=1000)(A:b-a<=F+1)(c1:¬m-a=1)(c2:¬b-m=1)(c3:¬(a+b) / 2<m):∀(f:PV),f=.fn 108 []->∀(j nx:Nat),Nat.beq nx j=false->LC 254 [.aS j 0 L.length,i64 a,i64 m,i64 b,f] [(j,SB zs L)] nx λr d=>r=.aU []/\d=[(j,some (SB zs (gI (dA c) (F+1) a m b L))),(j,none)]:=by
 intro f H j nx v;subst H;refine fX (js:=[j]) (bs:=[SB zs L]) (args:=[.aS 0 0 L.length,i64 a,i64 m,i64 b,.fn 108 []]) func254 rr rr ?_ rr ⟨⟨rr,dY hz L⟩,trivial⟩ rr ?_
 ·unfold cW;rw[v];rfl
 refine aF (gm m a)<|aj.f (λe=>c1 (N1.1 e))<|ab<|aF (gm b m)<|aj.f (λe=>c2 (N1.1 e))<|ab<|aF (eJ a b)<|aF (yd (a+b))<|xw<|aF (xm (a+b))<|aF (yr ((a+b) / 2)) ?_;have B:a+2<=(a+b) / 2/\(a+b) / 2+2<=b:=om
 refine aF (eJ ((a+b) / 2) m)<|aj.f (λe=>c3 (B1.1 e))<|ab<|aF (GP ((a+b) / 2+m)) ?_;have I:=xh (λc'=>!fM (dA c) L ((a+b) / 2+m-1-c') c') (m-a) a m om;generalize h:gK (λc'=>!fM (dA c) L ((a+b) / 2+m-1-c') c') (m-a) a m=R at I;refine cV.bA (ι:={p:Nat×Nat×Nat//a<=p.1/\p.1<=p.2.1/\p.2.1<=m/\p.2.1-p.1<=p.2.2/\gK (λc'=>!fM (dA c) L ((a+b) / 2+m-1-c') c') p.2.2 p.1 p.2.1=R}) ⟨λp=>[(20,i64 p.1.1),(21,i64 p.1.2.1)],[0,1,2,3,4,18,19,22],λ_=>[(0,SB zs L)],[]⟩ (λp=>p.1.2.1-p.1.1) ⟨(a,m,m-a),j2 _,by show a<=m;omega,j2 _,j2 _,h⟩ ?_ ?_
 ·exact cS rr (dY hz _)
 rintro⟨⟨i,k,g⟩,h1,h2,C,J,u⟩;dsimp only at h1 h2 C J u;refine aj.aN (λd1=>?_) (λd1=>?_)
 ·have s:i<k:=fE d1;obtain⟨g,rfl⟩:∃g',g=g'+1:=⟨g-1,om⟩;refine an<|aF (eJ i k)<|aF (yd (i+k))<|xw<|aF (xm (i+k))<|aF (yr ((i+k) / 2)) ?_;obtain⟨x,D⟩:=cw (l:=L) (k:=(a+b) / 2+m-1-(i+k) / 2) om;obtain⟨y,E⟩:=cw (l:=L) (k:=(i+k) / 2) om;have hp:fM (dA c) L ((a+b) / 2+m-1-(i+k) / 2) ((i+k) / 2)=decide (c x y<0):=BH D E;refine aF (gm ((a+b) / 2+m-1) ((i+k) / 2))<|aq.mk (bS (show(a+b) / 2+m-1-(i+k) / 2<L.length by omega))<|iZ zs D<|aq.mk (bS (show(i+k) / 2<L.length by omega))<|iZ zs E<|aJ (hc x y) rfl<|aj.aN (λd2=>?_) (λd2=>?_)
  ·refine az<|ab<|⟨⟨(i,(i+k) / 2,g),h1,by show i<=(i+k) / 2;omega,by show(i+k) / 2<=m;omega,by show(i+k) / 2-i<=g;omega,(Cm s (by show(!fM (dA c) L ((a+b) / 2+m-1-(i+k) / 2) ((i+k) / 2))=false;rw[hp,d2];rfl)).symm.trans u⟩,id,?_,?_⟩
   ·show(i+k) / 2-i<k-i;omega
   exact cS rr (dY hz _)
  ·refine az<|an<|aF (dq ((i+k) / 2))<|⟨⟨((i+k) / 2+1,k,g),by show a<=(i+k) / 2+1;omega,by show(i+k) / 2+1<=k;omega,C,by show k-((i+k) / 2+1)<=g;omega,(Bj s (by show(!fM (dA c) L ((a+b) / 2+m-1-(i+k) / 2) ((i+k) / 2))=true;rw[hp,d2];rfl)).symm.trans u⟩,id,?_,?_⟩
   ·show k-((i+k) / 2+1)<k-i;omega
   exact cS rr (dY hz _)
 ·have d1:¬i<k:=jN d1;have w:i=R:=(Ep _ g d1).symm.trans u;subst w;refine ab ?_;have K:=Lb (dA c) F a m b L c1 c2 a m i (by rw[j1 c3]) (by rw[j1 c3]) h.symm;refine aF (gm ((a+b) / 2+m) i) ?_;have o:∀{X:List ax} {p q r:Nat},p<q->q<r->r-p<=F->X.length=L.length->r<=b->∀nx,Nat.beq nx 0=false->LC 254 [.aS 0 0 L.length,i64 p,i64 q,i64 r,.fn 108 []] [(0,SB zs X)] nx λr' d=>r'=.aU []/\d=[(0,some (SB zs (gI (dA c) F p q r X))),(0,none)]:=fun{X p q r} hp hq A e Q nx M=>by
   rw[<-e];exact N X p q r hp hq om om A (.fn 108 []) rr 0 nx M
  have z:(lU i m ((a+b) / 2+m-i) L).length=L.length:=zn _ _ _ _ _;refine aj.aN (λs1=>aj.aN (λs2=>gQ.t rr (bu.bH [0] (n:=200) (Xg hz L i m ((a+b) / 2+m-i) (gz s1) (gz s2) om G (.fn 108 []) rr 0 _ rr) rr ⟨rr,trivial⟩ ?_)) λs2=>gQ.f rr ?_) λs1=>gQ.f rr ?_
  all_goals refine aj.aN (λs3=>aj.aN (λs4=>gQ.t rfl (bu.bH [0] (n:=200) (o (gz s3) (gz s4) om (by first|exact z|rfl) om _ rfl) rfl ⟨rfl,trivial⟩ ?_)) λs4=>gQ.f rfl ?_) λs3=>gQ.f rfl ?_
  all_goals refine aj.aN (λs5=>aj.aN (λs6=>gQ.t rfl (bu.bH [0] (n:=200) (o (gz s5) (gz s6) om (by first|exact z|rfl|(rw[wF];exact z)|rw[wF]) om _ rr) rr ⟨rr,trivial⟩ ?_)) λs6=>gQ.f rr ?_) λs5=>gQ.f rr ?_
  all_goals
   refine ey<|kY (0,j) rr rr (dY hz _)<|az<|congrArg (λx=>[(j,some (SB zs x)),(j,none)]) (K.trans ?_).symm;unfold zT;first|rw[l9 (gz s1),l9 (gz s2)]|rw[l9 (gz s1),j1 (pV s2)]|rw[j1 (pV s1)]
   unfold yI;first|rw[l9 (gz s3),l9 (gz s4)]|rw[l9 (gz s3),j1 (pV s4)]|rw[j1 (pV s3)]
   unfold yP;first|rw[l9 (gz s5),l9 (gz s6)]|rw[l9 (gz s5),j1 (pV s6)]|rw[j1 (pV s5)]
end
end
section
open Go.RowKit
section
variable {zs:List PV}(hz:dP zs){c:ax→ax→Int}(hc:∀a b:ax,PC 108 [a.pv,b.pv] (·=i64 (c a b)))
include hz hc
theorem aot(F:Nat):∀(L:List ax) (a m b:Nat),a<m->m<b->b<=L.length->L.length<=1000->b-a<=F->∀(f:PV),f=.fn 108 []->∀(j nx:Nat),Nat.beq nx j=false->LC 254 [.aS j 0 L.length,i64 a,i64 m,i64 b,f] [(j,SB zs L)] nx λr d=>r=.aU []/\d=[(j,some (SB zs (gI (dA c) F a m b L))),(j,none)]:=by
 induction F with
 |zero=>intro L a m b e g hb h i;omega
 |succ F ih=>
  intro L a m b e g hb h i;by_cases c1:m-a=1
  ·exact afV hz hc F L a m b e g hb h i c1
  by_cases c2:b-m=1
  ·exact ahE hz hc F L a m b e g hb h i c1 c2
  by_cases c3:(a+b) / 2<m
  ·exact akk hz hc F ih L a m b e g hb h i c1 c2 c3
  ·exact ag3 hz hc F ih L a m b e g hb h i c1 c2 c3
end
end
section
open Go.RowKit Go.Proofs.Tryz
theorem wI{α:Type}(lt:α->α->Bool)(a b:Nat)(L:List α):(lL lt a b L).length=L.length:=Fj _ _ _ _ _
section
variable {zs:List PV}(hz:dP zs){c:ax→ax→Int}(hc:∀a b:ax,PC 108 [a.pv,b.pv] (·=i64 (c a b)))
include hz hc
attribute [local irreducible] lL gI lH
theorem aoJ(L:List ax)(y:L.length<=39)(f:PV)(v:f=.fn 108 [])(j nx:Nat)(q:Nat.beq nx j=false):LC 184 [.aS j 0 L.length,i64 L.length,f] [(j,SB zs L)] nx λr d=>r=.aU []/\d=[(j,some (SB zs (lH (dA c) L))),(j,none)]:=by
 subst v;refine fX (js:=[j]) (bs:=[SB zs L]) (args:=[.aS 0 0 L.length,i64 L.length,.fn 108 []]) func184 rr rr ?_ rr ⟨⟨rr,dY hz L⟩,trivial⟩ rr ?_
 ·unfold cW;rw[q];rfl
 refine Ah<|cV.bA (ι:={p:Nat×List ax//(p.1=0/\p.2=L)\/(p.1=20/\20<=L.length/\p.2=lL (dA c) 0 20 L)}) ⟨λp=>[(7,i64 p.1.1),(8,i64 ((p.1.1+20:Nat):Int))],[0,1,2,6],λp=>[(0,SB zs p.1.2)],[]⟩ (λp=>20-p.1.1) ⟨(0,L),.inl ⟨rr,rr⟩⟩ ?_ ?_
 ·exact cS rr (dY hz _)
 rintro⟨⟨a,M⟩,h⟩;dsimp only at h;have i:M.length=L.length:=by
  rcases h with⟨_,rfl⟩|⟨_,_,rfl⟩
  ·rfl
  ·exact wI _ _ _ _
 refine aj.aN (λe1=>?_) (λe1=>?_)
 ·have e1:((a+20:Nat):Int)<=(L.length:Nat):=j5 e1;have e1:=E8.1 e1;have u:a=0/\M=L:=by
   rcases h with h|⟨h,_⟩
   ·exact h
   ·omega
  obtain⟨rfl,rfl⟩:=u;refine an<|bu.bH [0] (n:=200) (PI hz hc M 0 20 om om om (.fn 108 []) rr 0 _ rr) rr ⟨rr,trivial⟩<|cj.intro ((20+20:Nat):Int) rfl<|⟨⟨(20,lL (dA c) 0 20 M),.inr ⟨rr,om,rr⟩⟩,id,by show 20-20<20-0;decide,?_⟩;exact cS rr (dY hz _)
 ·have e1:¬((a+20:Nat):Int)<=(L.length:Nat):=j4 e1;have e1:¬a+20<=L.length:=λe=>e1 (E8.2 e)
  refine ab ?_;have u:a<=20:=by rcases h with⟨h,_⟩|⟨h,_⟩<;>omega
  have hi:=PI hz hc M a L.length om om om (.fn 108 []) rr 0;rw[i]at hi;refine bu.bH [0] (n:=200) (hi _ rr) rr ⟨rr,trivial⟩ ?_;have k:¬20<L.length->lL (dA c) a L.length M=lH (dA c) L:=by
   intro e;unfold lH;rcases h with⟨rfl,rfl⟩|⟨rfl,g,rfl⟩
   ·rw[j1 (show¬20<=M.length by omega)]
   ·rw[l9 g,j1 e]
  have l:20<L.length->gI (dA c) L.length 0 20 L.length (lL (dA c) a L.length M)=lH (dA c) L:=by
   intro e;unfold lH;rcases h with⟨rfl,rfl⟩|⟨rfl,g,rfl⟩
   ·omega
   ·rw[l9 g,l9 e]
  have m:(lL (dA c) a L.length M).length=L.length:=by rw[wI,i]
  generalize z:lL (dA c) a L.length M=N at k l m;refine cV.bA (ι:={p:Nat×List ax//(p.1=20/\p.2=N)\/(p.1=40/\p.2=lH (dA c) L)}) ⟨λp=>[(6,i64 p.1.1)],[0,1,2],λp=>[(0,SB zs p.1.2)],[]⟩ (λp=>40-p.1.1) ⟨(20,N),.inl ⟨rr,rr⟩⟩ ?_ ?_
  ·exact cS rr (dY hz _)
  rintro⟨⟨s,K⟩,h2⟩;dsimp only at h2;refine aj.aN (λd2=>?_) (λd2=>?_)
  ·have e2:s<L.length:=fE d2;have o:s=20/\K=N:=by
    rcases h2 with h|⟨h,_⟩
    ·exact h
    ·omega
   obtain⟨rfl,rfl⟩:=o;refine an<|cj.intro ((40:Nat):Int) rfl<|cV.bA (ι:=Unit) ⟨λ_=>[(7,i64 0),(8,i64 ((40:Nat):Int))],[0,1,2,6],λ_=>[(0,SB zs K)],[]⟩ (λ_=>0) () ?_ ?_
   ·exact cS rr (dY hz _)
   intro _;refine aj.f (λe=>absurd (E8.1 e) (show¬40<=L.length by omega))<|ab<|cj.intro ((20:Nat):Int) rfl<|aj.t (B1.2 e2)<|an ?_;have o:=aot hz hc L.length K 0 20 L.length (by decide) e2 om om (Nat.sub_le _ _) (.fn 108 []) rr 0;rw[m]at o;refine bu.bH [0] (n:=200) (o _ rr) rr ⟨rr,trivial⟩<|cj.intro ((40:Nat):Int) rfl<|⟨⟨(40,lH (dA c) L),.inr ⟨rr,rr⟩⟩,id,by show 40-40<40-20;decide,?_⟩;exact eB ⟨⟨BB.br (congrArg (λx=>some (SB zs x)) (l e2)) (dY hz _),rr⟩,trivial⟩
  ·have e2:¬s<L.length:=jN d2;refine ab ?_;have w:K=lH (dA c) L:=by
    rcases h2 with⟨rfl,rfl⟩|⟨_,h⟩
    ·exact k e2
    ·exact h
   exact ey<|kY (0,j) rr rr (dY hz _)<|az<|congrArg (λx=>[(j,some (SB zs x)),(j,none)]) w
end
end
section
open Go.RowKit
def Ps{q:List QE}(e:QE)(h:q.length<=32):(fq q e).1.length<=32:=by grind [fq,Df]
def NH{q:List QE}(id:UInt64)(h:q.length<=32):(jA q id).1.length<=32:=by grind [Ke]
def Vr{x:fY}(n:cZ)(h:x.l.length<=32):(lT x n).l.length<=32:=by grind [lT]
def af.Sz.jt{m:Nat}{s:af}(h:s.Sz m)(id:UInt64)(k:Int):(s.jt id k).Sz m:=
 ⟨h.al,h.places,h.aH,h.ae,h.bg,Vr _ h.ev,h.au,h.spec,h.ao⟩
def af.Sz.le{m n:Nat}{s:af}(h:s.Sz m)(a:m<=n):s.Sz n:=⟨h.al,r8 h.places a,h.aH,h.ae,h.bg,h.ev,h.au,h.spec,h.ao⟩
def af.Sz.Kn{m:Nat}{s:af}(h:s.Sz m){l:List ax}(a:l.length<=32)(b:∀j∈l,j.x.Sz/\0<=j.x.count):({s with ae:=l}:af).Sz m:=⟨h.al,h.places,h.aH,a,h.bg,h.ev,h.au,b,h.ao⟩
def af.Sz.Md{m:Nat}{s:af}(h:s.Sz m){q:List QE}(hq:q.length<=32):({s with bg:=q}:af).Sz m:=⟨h.al,h.places,h.aH,h.ae,hq,h.ev,h.au,h.spec,h.ao⟩
def af.Sz.with{m:Nat}{s:af}(h:s.Sz m)(k:Nat){j:ax}(b:j.x.Sz/\0<=j.x.count):(s.with k j).Sz m:=
 h.Kn (by rw[x9];exact h.ae) λx a=>by
  rcases x6 a with a|rfl
  ·exact h.spec x a
  ·exact b
theorem af.Sz.du{m:Nat}{s:af}(h:s.Sz m)(j:ax):(s.du j).Sz m:=by
 obtain⟨c,a,b⟩:=nQ s j;obtain⟨h1,h2,d,e,f⟩:=GS s j;refine⟨by rw[c.al];exact h.al,?_,by rw[h2];exact h.aH,by rw[a];exact h.ae,by rw[b];exact h.bg,by rw[h1];exact h.ev,by rw[e];exact h.au,by rw[a];exact h.spec,by rw[c.al];exact h.ao⟩;rw[d];exact r8 (C6 ..) h.places
theorem af.Sz.stop{m:Nat}{s:af}(h:s.Sz m)(id:UInt64)(k:Int):(s.stop id k).1.Sz m:=by
 unfold af.stop;rcases nF s.ae id with⟨h1,h2⟩|⟨n,h1,h2,b⟩
 ·simp_all
 rw[h1,j1 om];dsimp only;have a:=h.spec _ (i7 h2);generalize(bK s.ae id).1=j at a⊢;cases j.bB
 ·exact h
 exact(((h.du j).Md (Ps _ (h.du j).bg)).with _ (j:={j with bB:=false,left:=0}) a).jt _ _
theorem af.Sz.fh{m:Nat}{s:af}(h:s.Sz m)(id:UInt64)(k:Int):(s.fh id k).1.Sz m:=by
 unfold af.fh;rcases nF s.ae id with⟨h1,h2⟩|⟨n,h1,h2,d⟩
 ·simp_all
 rw[h1,j1 om];dsimp only;generalize(bK s.ae id).1=j;have b:∀t:af,t.Sz m->({t with ae:=t.ae.eraseIdx (n:Int).toNat}:af).Sz m:=λt a=>a.Kn (r8 (I0 _ _).length_le a.ae) λx c=>a.spec x (uw c)
 cases j.bB
 case true=>exact(b _ (h.du j)).jt _ _
 exact(b _ (h.Md (NH id h.bg))).jt _ _
theorem XY(aZ:UInt64)(v:V4):∀(ns:List BA) (p:bf),(iS aZ v ns p).1.places.length<=p.places.length+ns.length/\(iS aZ v ns p).1.al=p.al
 | [],p=>⟨j2 _,rr⟩
 |n::ns,p=>by
  unfold iS
  split
  ·obtain⟨h1,h2⟩:=XY aZ v ns ⟨p.al,p.places++[⟨aZ,n,v⟩]⟩
   grind
  simp_all
def aiM(p:bf)(aZ:UInt64)(ns:List BA)(v:V4):(p.gB aZ ns v).1.places.length<=p.places.length+ns.length/\(p.gB aZ ns v).1.al=p.al:=by grind [bf.gB,XY]
def ah3(t:List aB)(aa:BA)(act:aB->aB×Int)(a:∀e,(act e).1.aa=e.aa/\(act e).1.bI=e.bI):(jJ t aa act).1.length=t.length:=by grind [yE,List.length_map]
theorem af.Sz.begin{m:Nat}{s:af}(h:s.Sz m)(id:UInt64)(al:List BA)(k:al.length<=8):(s.begin id al).1.Sz (m+8):=by
 have b:=af.Sz.le h (D3 m 8);unfold af.begin;rcases nF s.ae id with⟨h1,h2⟩|⟨n,h1,h2,l⟩
 ·simp_all
 rw[h1,j1 om];dsimp only;have i:=h.spec _ (i7 h2);generalize(bK s.ae id).1=j at i⊢;cases j.bB
 case true=>exact b
 dsimp only;cases decide ((al.length:Int)=j.x.count)
 ·exact b
 dsimp only;rcases j.x.total with⟨v,_|_⟩
 ·exact b
 dsimp only;have c:=ah3 s.aH j.x.aa (aB.jP v) (Gl v);have c:(jw s.aH j.x.aa v).1.length=s.aH.length:=c;rcases f:jw s.aH j.x.aa v with⟨t,e⟩
 rw[f]at c;dsimp only at c⊢;cases decide (e=0)
 ·exact b
 dsimp only;obtain⟨d,a⟩:=aiM s.ar id al j.x.cT;rcases g:s.ar.gB id al j.x.cT with⟨p,e'⟩
 rw[g]at d a;dsimp only at d a⊢;cases decide (e'=0)
 ·exact b
 dsimp only;have bZ:({s with aH:=t,ar:=p,bg:=(jA s.bg id).1}:af).Sz (m+8):=
  ⟨by show p.al.length<=16;rw[a];exact h.al,by show p.places.length<=m+8;have:=h.places;omega,by show t.length<=16;rw[c];exact h.aH,h.ae,NH id h.bg,h.ev,h.au,h.spec,by show∀n∈p.al,_;rw[a];exact h.ao⟩
 exact(bZ.with _ (j:={j with bB:=true,left:=j.x.dF}) i).jt _ _
def af.Sz.eu{m:Nat}:∀{s:af} (l:List UInt64),s.Sz m->(eu s l).Sz m
 |_,[],h=>h
 |_,id::l,h=>af.Sz.eu l (h.stop id 5)
def af.Sz.fv{m:Nat}{s:af}(h:s.Sz m){x:bM}(c:x.Sz):(s.fv x).1.Sz m:=by
 unfold af.fv;cases d:decide (x.check=0)
 ·exact h
 dsimp only;cases there s.aH x.aa
 ·exact h
 dsimp only;cases b:decide (32<=(s.ae.length:Int))
 case true=>exact h
 dsimp only;cases e:decide (s.next=18446744073709551615)
 case true=>exact h
 dsimp only;cases hq:decide ((fq s.bg ⟨s.next,x.bC⟩).2=0)
 ·exact h
 dsimp only;have b:=j4 b;have bZ:({s with bg:=(fq s.bg ⟨s.next,x.bC⟩).1,ae:=s.ae++[⟨s.next,x,false,0⟩],next:=s.next+1}:af).Sz m:=
  ⟨h.al,h.places,h.aH,by grind,Ps _ h.bg,h.ev,h.au,λj a=>by
   rcases s8.1 a with a|a
   ·exact h.spec j a
   simp_all [TU],h.ao⟩
 exact bZ.jt _ _
end
section
open Go.RowKit Go.Proofs.Tryz
def Dd(a b:ax):Int:=if xe a.x.bC b.x.bC=0 then mz b.id a.id else xe a.x.bC b.x.bC
def anM(a b:ax):PC 108 [a.pv,b.pv] (·=i64 (Dd a b)):=aw func108<|aJ (ZV a.x.bC b.x.bC) rfl<|aJ (zx b.id a.id) rfl<|aJ (aow (xe a.x.bC b.x.bC) (mz b.id a.id)) rfl<|az<|ah
def anG(a b:ax):a.nh b=decide (Dd a b<0):=by
 unfold ax.nh Dd xe mz;rcases Int.lt_trichotomy a.x.bC b.x.bC with h|h|h
 ·simp[h]
 ·rw[h];rcases Nat.lt_trichotomy b.id.toNat a.id.toNat with h2|h2|h2
  ·simp[h2]
  ·simp[h2]
  ·have:¬b.id.toNat<a.id.toNat:=om
   simp[this,h2]
 ·have h1:¬a.x.bC<b.x.bC:=om
  have h2:¬a.x.bC=b.x.bC:=om
  simp[h,h1,h2]
def Y_(s:af)(id:UInt64)(a:s.ae.length<=67108864):PC 174 [s.pv,pu id] (·=.aU [(waits s id).1.pv,bo (waits s id).2]):=by
 refine aw func174<|ak (xZ s id a) rr ?_;unfold waits;rcases bK s.ae id with⟨⟨c,b,bB,left⟩,_|_⟩
 ·exact az<|ah
 ·exact az<|ah
def Xv(s:af)(id:UInt64)(p:bf){g:Nat}{cs:List PV}(lets:BA->V4->Bool)(r:∀(aa:BA) (v:V4),aa.size<=1000000->PC g [st aa,v.pv,.ip cs 0] (·=bo (lets aa v))){m:Nat}(h:s.Sz m)(k:p.al.length<=16)(hp:p.places.length<=60000000)(l:∀n∈p.al,n.ao.length<=67108864):PC 97 [s.pv,pu id,p.pv,.fn g [.ip cs 0]] (·=.aU [sl st (tJ s id p lets).1,bo (tJ s id p lets).2]):=by
 refine aw func97 ?_;have u:=h.ae;refine ak (Y_ s id om) rr ?_;have o:(waits s id).2=true->(waits s id).1∈s.ae:=λe=>by
  unfold waits at e⊢;cases h2:(bK s.ae id).2
  ·rw[h2]at e;cases e
  exact(oh h2).1
 have a:tJ s id p lets=match(waits s id).2 with
  |false=>([],false)
  |true=>match(waits s id).1.x.total.2 with
   |false=>([],false)
   |true=>match(li p.mw (waits s id).1.x.dv (waits s id).1.x.cT (waits s id).1.x.count).2 with
    |false=>([],false)
    |true=>match lets (waits s id).1.x.aa (waits s id).1.x.total.1 with
     |false=>([],false)
     |true=>((li p.mw (waits s id).1.x.dv (waits s id).1.x.cT (waits s id).1.x.count).1,true):=rfl
 rcases q:waits s id with⟨⟨A,b,bB,left⟩,ok⟩
 rw[q]at a o;cases ok
 ·rw[a];exact an<|ah
 dsimp only at a o;have j:=h.spec _ (o rr);refine ab<|ak (zt b) rfl<|aJ (aiT p om om) rr ?_;have w:p.mw.length<=16:=r8 (List.length_filterMap_le ..) k;have d:∀s∈p.mw,s.ao.length<=67108864:=λs y=>by
  obtain⟨n,k,e⟩:=J3.1 y;unfold qL at e;split at e
  ·cases e
  ·split at e
   ·cases e
   ·cases e;exact l n k
 refine aJ (aie p.mw b.dv b.cT b.count om j.1.2.1 d (λt z=>(j.1.2.2 t z).1) (Int.le_trans (by decide) (show 0<=b.count from j.2))) rfl<|az ?_;rcases c:b.total with⟨v,_|_⟩
 ·rw[c]at a;rw[a];exact an<|ah
 rw[c]at a;dsimp only at a;rcases f:li p.mw b.dv b.cT b.count with⟨al,_|_⟩
 ·rw[f]at a;rw[a];exact an<|ah
 rw[f]at a;dsimp only at a;refine ak (r b.aa v j.1.1) rr ?_;cases i:lets b.aa v
 ·rw[i]at a;rw[a];exact an<|ah
 rw[i]at a;rw[a];exact ab<|ah
def ad2(s:af)(aa:BA)(v:V4)(a:s.aH.length<=60000000)(hp:aa.size<=1000000):PC 101 [st aa,v.pv,.ip s.cells 0] (·=bo (decide ((jw s.aH aa v).2=0))):=aw func101<|ak (EV s.aH aa v om hp) rfl<|aj.is _ rfl<|ah
theorem ajg(s:af)(id:UInt64){m:Nat}(h:s.Sz m)(hm:m≤50000000):PC 44 [s.pv,pu id] (·=.aU [sl st (db s id).1,bo (db s id).2]):=by
 refine aw Tryz.func44 ?_;have ht:=h.aH;have hp:=h.places;exact ak (Xv s id s.ar (fun aa v=>decide ((jw s.aH aa v).2=0)) (fun aa v hp=>ad2 s aa v (by omega) hp) h h.al (by omega) h.ao) rfl<|ah
def alB(s:af)(aa:BA)(v:V4)(a:s.aH.length<=60000000)(hp:aa.size<=1000000):PC 99 [st aa,v.pv,.ip s.cells 0] (·=bo (uv s.aH aa v)):=aw func99<|ak (adv s.aH aa v om hp) rfl<|ah
theorem ani(s:af)(id:UInt64){m:Nat}(h:s.Sz m):PC 42 [s.pv,pu id] (·=bo (nU s id)):=by
 refine aw Tryz.func42 ?_;have ht:=h.aH;exact aJ (aeX s.ar) rfl<|aJ (Xv s id s.ar.bare (fun aa v=>uv s.aH aa v) (fun aa v hp=>alB s aa v (by omega) hp) h h.al (j9 _) h.ao) rfl<|az<|ah
def lu(s:af)(l:List UInt64)(q:Nat):af:=eu s (l.take q)
def Oi{s:af}{l:List UInt64}{q:Nat}{id:UInt64}(h:l[q]? = some id):lu s l (q+1)=((lu s l q).stop id 5).1:=by
 unfold lu eu;rw[fW h,G6];rfl
def akS(s:af)(l:List UInt64){m:Nat}(h:s.Sz m)(e:m<=50000000)(o:l.length<=67108864):PC 45 [s.pv,sl (λn:UInt64=>pu n) l] (·=(eu s l).pv):=by
 refine aw func45<|iV l.length (.of (lu s l) (λ_=>[]) [4,2,7,8] (λt=>[(0,.rows 11 [t.pv] true none 74)]) [1]) (λ_=>True) trivial ?_ (λk g i=>?_) (λi=>?_)
 ·exact bP
 ·obtain⟨x,c⟩:=cw g;have d:=Oi (s:=s) c;have a:(lu s l k).Sz m:=h.eu (l.take k);generalize b:lu s l k=t at d a;rw[cE b];exact bG (f:=λn:UInt64=>pu n) c<|ak (EW t x 5 a e) rfl<|ck.of id d trivial rfl<|bP
 ·have j:eu s l=lu s l l.length:=by unfold lu;rw[s9]
  rw[j];generalize b:lu s l l.length=t;rw[cE b];exact ah
def VF(s:af)(id:UInt64)(l:List UInt64){m:Nat}(h:s.Sz m)(a:m<=50000000)(b:l.length<=67108864):PC 43 [sl (λn:UInt64=>pu n) l,.ip s.cells 0,.ip [pu id] 0] (·=.aU [sl st (db (eu s l) id).1,bo (db (eu s l) id).2]):=aw func43<|aJ (akS s l h a b) rfl<|aJ (ajg (eu s l) id (h.eu l) a) rfl<|az<|ah
section
variable {zs:List PV}(hz:dP zs){c:ax→ax→Int}(hc:∀a b:ax,PC 108 [a.pv,b.pv] (·=i64 (c a b)))
include hz hc
theorem acZ(L:List ax)(g:L.length<=39)(f:PV)(h:f=.fn 108 [])(j nx:Nat)(e:Nat.beq nx j=false):LC 107 [.aS j 0 L.length,f] [(j,SB zs L)] nx λr d=>r=.aU []/\d=[(j,some (SB zs (lH (dA c) L))),(j,none)]:=by
 subst h;refine fX (js:=[j]) (bs:=[SB zs L]) (args:=[.aS 0 0 L.length,.fn 108 []]) func107 rr rr ?_ rr ⟨⟨rr,dY hz L⟩,trivial⟩ rr ?_
 ·unfold cW;rw[e];rfl
 exact bu.bH [0] (n:=200) (aoJ hz hc L g (.fn 108 []) rr 0 _ rr) rr ⟨rr,trivial⟩<|ey<|kY (0,j) rr rr (dY hz _)<|az rr
end
theorem aaj(o j:ax):PC 106 [o.pv,.ip j.pv.cells 0] (·=bo (!oA j o)):=by
 refine aw func106 ?_;unfold oA;rcases o with⟨e,d,bB,left⟩
 cases bB
 ·exact ah
 exact aj.is (!decide (d.bC<j.x.bC)) (by rw[<-decide_not];exact C3.2 Int.not_lt.symm)<|ah
theorem Pk{α:Type}(lt:α->α->Bool)(L:List α):(lH lt L).length=L.length:=by
 unfold lH;split
 ·exact wI _ _ _ _
 ·split
  ·rw[wI,wI]
  ·rw[wF,wI,wI]
theorem aeU(s:af)(id:UInt64){m:Nat}(h:s.Sz m):PC 46 [s.pv,pu id] (·=sl (λn:UInt64=>pu n) (nf s id)):=by
 refine aw func46 ?_;have p:=h.ae;refine ak (xZ s id om) rr ?_;cases h2:(bK s.ae id).2
 ·rw[show nf s id=[]by unfold nf;rw[h2]];rcases e:bK s.ae id with⟨j,b⟩
  rw[e]at h2;dsimp only at h2;subst h2;exact an<|ah
 have t:nf s id=(lH ax.nh (s.ae.filter (oA (bK s.ae id).1))).map ax.id:=by unfold nf;rw[h2]
 rcases e:bK s.ae id with⟨j,b⟩
 rw[e]at h2 t;dsimp only at h2 t;subst h2;refine ab<|bu.bH [] (n:=200) (x_ s.ae om _) rr trivial ?_;have u:(s.ae.filter λx=>!(!oA j x))=s.ae.filter (oA j):=by congr 1;funext x;exact Bool.not_not _
 have g:=ZG s.ae (λo=>!oA j o) om (λo _=>aaj o j) 15;rw[u]at g;refine bu.bH [15] (n:=200) (g _ rr) rr ⟨rr,trivial⟩ ?_;have d:dP (List.replicate (s.ae.length-(s.ae.filter (oA j)).length) (kq 90)):=λr B=>by rw[D5 B];rfl
 have C:(s.ae.filter (oA j)).length<=32:=r8 (C6 ..) p;refine bu.bH [17] (n:=200) (acZ d anM (s.ae.filter (oA j)) om (.fn 108 []) rr 17 _ rr) rr ⟨rr,trivial⟩ ?_;have v:dA Dd=ax.nh:=by funext a b;exact(anG a b).symm
 rw[v,t];have i:=Pk ax.nh (s.ae.filter (oA j));rw[<-i]at d⊢;generalize F:lH ax.nh (s.ae.filter (oA j))=R at i d⊢;generalize D:List.replicate (s.ae.length-R.length) (kq 90)=zs at d⊢;refine lY.k_ [(8,1,30)] ⟨rr,trivial⟩<|vu R.length (.of (λq=>(R.take q).map ax.id) (λl=>[(8,.aS 25 0 l.length)]) [26,27] (λl=>[(25,.rows 1 (l.map (λn:UInt64=>pu n)) true none 30)]) [17]) (λ_=>True) trivial ?_ (λk E e=>?_) (λe=>?_)
 ·exact Cu ⟨⟨BB.br rr (kH.cf _),rr⟩,trivial⟩ ⟨⟨_,rr,BB.br rr (dY d _),rr⟩,trivial⟩
 ·obtain⟨x,z⟩:=cw E;have A:(R.take (k+1)).map ax.id=(R.take k).map ax.id++[x.id]:=by rw[fW z,l6];rfl
  have w:((R.take k).map ax.id).length<=32:=by rw[c8,l8];omega
  generalize y:(R.take k).map ax.id=L at A w;rw[cE y];refine aq.mk (bS (show k<R.length by omega))<|iZ zs z<|dS.l (aq.mk (eE (f:=λn:UInt64=>pu n) kH L x.id om) ?_);exact ck.of (sw 25 35) A trivial rfl<|⟨⟨⟨by rw[i6];rfl,rr⟩,trivial⟩,⟨⟨_,rr,rr,rr⟩,⟨_,rr,rr,rr⟩,trivial⟩,⟨⟨BB.br (by rw[l6];rfl) (kH.cf _),rr⟩,trivial⟩,⟨⟨_,rr,BB.br rr (dY d _),rr⟩,trivial⟩,rr,rr,rr⟩
 ·rw[show R.map ax.id=(R.take R.length).map ax.id by rw[s9]];generalize y:(R.take R.length).map ax.id=L;rw[cE y];exact⟨L.length+100,_,_,.inl (a_ (dC (l:=L) (f:=λn:UInt64=>pu n) rr rr kH.bL rr rr) rr),rr⟩
abbrev g_(n:UInt64):PV:=pu n
def wr0(q:Nat):Bool:=match q with|0=>true|_+1=>false
theorem Xx(s:af)(id:UInt64):(nf s id).length<=s.ae.length:=by grind [nf,Pk]
def ahd(s:af)(id:UInt64){m:Nat}(h:s.Sz m)(D:m<=50000000):PC 18 [s.pv,pu id] (·=.aU [sl g_ (eR s id).l,sl st (eR s id).al,bo (eR s id).ok]):=by
 refine aw func18<|ak (aeU s id h) rr ?_;have u:=r8 (Xx s id) h.ae;have hv:eR s id=match re (λl=>db (eu s l) id) (nf s id) ((nf s id).length+1) 0 with
  |none=>⟨[],[],false⟩
  |some (l,al)=>⟨(jD (λl=>db (eu s l) id) l.length 0 l al).1,(jD (λl=>db (eu s l) id) l.length 0 l al).2,true⟩:=rfl
 generalize nf s id=all at u hv;generalize I:all.length+1=N at hv;have E:(all.map g_).length=all.length:=c8 ..;refine cj.intro (N:Int) (wrap_i64 (by grind) om)<|iV N (.of wr0 (λ_=>[(6,bo false)]) [7,8,20] (λw=>[(0,.rows 11 [s.pv] w none 74),(1,.rows 1 [pu id] w none 30)]) []) (λq=>re (λl=>db (eu s l) id) all N 0=re (λl=>db (eu s l) id) all (N-q) q) rr ?_ (λk J j=>?_) (λj=>?_)
 ·exact eB ⟨⟨BB.br rr (λr a=>by rw[o6.1 a];rfl),rr⟩,⟨BB.br rr (λr a=>by rw[o6.1 a];rfl),rr⟩,trivial⟩
 ·refine aq.mk (kH.rows _).k<|aq.mk ⟨C7 _,by grind⟩ ?_;have hcut:(((all.map g_).drop 0).take ((k:Int).toNat-0))=(all.take k).map g_:=by simp_all
  have v:(all.take k).length=k:=by grind
  have x:∀nx,LC 47 [.sl false (((all.map g_).drop 0).take ((k:Int).toNat-0))] [] nx λr d=>r=.aS nx 0 (all.take k).length/\d=[(nx,some (.rows 1 ((all.take k).map g_) true none 30))]:=λnx=>by
   grind [PZ]
  refine bu.bH [] (n:=200) (x _) rr trivial<|bu.by (n:=(all.take k).length+100) (VF s id (all.take k) h D om) (a_ (dC (l:=all.take k) (f:=g_) rr rr kH.bL rr rr) (a_ rr (a_ rr rr))) ?_;rw[show N-k=(N-(k+1))+1 by omega]at j;have b:re (λl=>db (eu s l) id) all N 0=match db (eu s (all.take k)) id with
   |(al,true)=>some (all.take k,al)
   |(_,false)=>re (λl=>db (eu s l) id) all (N-(k+1)) (k+1):=j
  rcases y:db (eu s (all.take k)) id with⟨al,_|_⟩
  ·rw[y]at b;exact ab<|ck.is _root_.id b rfl<|eB ⟨⟨BB.br rr (λr a=>by rw[o6.1 a];rfl),rr⟩,⟨BB.br rr (λr a=>by rw[o6.1 a];rfl),rr⟩,trivial⟩
  ·rw[y]at b;rw[b]at hv;dsimp only at hv;refine an<|ab ?_;generalize z:all.take k=i at v hv y;have F:jD (λl=>db (eu s l) id) (i.length-0) 0 i al=jD (λl=>db (eu s l) id) i.length 0 i al:=rfl;generalize A:jD (λl=>db (eu s l) id) i.length 0 i al=R at hv F;rw[show eR s id=⟨R.1,R.2,true⟩from hv];refine cV.bA (ι:={p:Nat×List UInt64×List BA×List PV//p.1<=p.2.1.length/\p.2.1.length<=32/\dP p.2.2.2/\jD (λl=>db (eu s l) id) (p.2.1.length-p.1) p.1 p.2.1 p.2.2.1=R}) ⟨λp=>[(10,i64 p.1.1),(4,.aS 21 0 p.1.2.1.length),(5,sl st p.1.2.2.1)],[7],λp=>[(21,.rows 1 (p.1.2.1.map g_++p.1.2.2.2) false none 30),(0,.rows 11 [s.pv] false none 74),(1,.rows 1 [pu id] false none 30)],[]⟩ (λp=>p.1.2.1.length-p.1.1) ⟨(0,i,al,[]),j9 _,by grind,(λr a=>by cases a),A⟩ ?_ ?_
   ·exact eB ⟨⟨BB.br (by subst z;exact congrArg (λr=>some (aI.rows 1 r false none 30)) (A2 _).symm) (λr a=>by rw[A2]at a;exact kH.cf _ r a),rr⟩,⟨BB.br rr (λr a=>by rw[o6.1 a];rfl),rr⟩,⟨BB.br rr (λr a=>by rw[o6.1 a];rfl),rr⟩,trivial⟩
   rintro⟨⟨q,l,ns,js⟩,g1,g2,g3,g4⟩;dsimp only at g1 g2 g3 g4;have c:∀(l:List UInt64) (js:List PV),dP js->dP (l.map g_++js):=λl js B r a=>(s8.1 a).elim (kH.cf l r) (B r)
   refine aj.aN (λe1=>?_) (λe1=>?_)
   ·have e:q<l.length:=fE e1;refine an<|bu.bH [] (n:=l.length+100) (PZ l om _) (a_ (tT (l:=l) (f:=g_) rr (vS g_ l js) (show l.length<=(l.map g_++js).length by simp_all) kH.bL rr) rr) trivial<|aF (dq q)<|bu.bH [40] (n:=200) (adQ l q e om 40 _ rr) rr ⟨rr,trivial⟩ ?_;have C:(l.eraseIdx q).length=l.length-1:=by grind
    refine bu.by (n:=(l.eraseIdx q).length+100) (VF s id (l.eraseIdx q) h D om) (a_ (tT (l:=l.eraseIdx q) (f:=g_) rr (by grind [vS]) (by simp_all) kH.bL rr) (a_ rr (a_ rr rr))) ?_;have g:(match db (eu s (l.eraseIdx q)) id with
     |(spare,true)=>jD (λl=>db (eu s l) id) (l.length-q-1) q (l.eraseIdx q) spare
     |(_,false)=>jD (λl=>db (eu s l) id) (l.length-q-1) (q+1) l ns)=R:=by
     rw[<-g4];obtain⟨d,K⟩:∃d,l.length-q=d+1:=⟨l.length-q-1,om⟩;grind [jD]
    rcases o:db (eu s (l.eraseIdx q)) id with⟨spare,_|_⟩
    ·rw[o]at g;refine an<|aF (dq q)<|⟨⟨(q+1,l,ns,js),e,g2,g3,(show jD _ (l.length-(q+1)) (q+1) l ns=R from g)⟩,_root_.id,?_,?_⟩
     ·show l.length-(q+1)<l.length-q;omega
     exact eB ⟨⟨BB.br rr (c l js g3),rr⟩,⟨BB.br rr (λr a=>by rw[o6.1 a];rfl),rr⟩,⟨BB.br rr (λr a=>by rw[o6.1 a];rfl),rr⟩,trivial⟩
    ·rw[o]at g;refine ab<|⟨⟨(q,l.eraseIdx q,spare,[kq 30]),by grind,by grind,λr a=>by rw[o6.1 a];rfl,(show jD _ ((l.eraseIdx q).length-q) q (l.eraseIdx q) spare=R by grind)⟩,sw 21 44,?_,?_⟩
     ·show(l.eraseIdx q).length-q<l.length-q;omega
     exact jn ⟨⟨rr,rr⟩,⟨congrArg (λn=>some (PV.aS 44 0 n)) C.symm,rr⟩,⟨rr,rr⟩,trivial⟩ ⟨⟨BB.br rr (c _ _ λr a=>by rw[o6.1 a];rfl),rr⟩,⟨BB.br rr (λr a=>by rw[o6.1 a];rfl),rr⟩,⟨BB.br rr (λr a=>by rw[o6.1 a];rfl),rr⟩,trivial⟩
   ·have e:¬q<l.length:=jN e1;refine ab ?_;have t:R=(l,ns):=by
     rw[<-g4,show l.length-q=0 by omega];rfl
    exact⟨l.length+100,_,_,.inl (a_ (tT (l:=l) (f:=g_) rr (vS g_ l js) (show l.length<=(l.map g_++js).length by simp_all) kH.bL rr) (a_ rr (a_ rr rr))),(show PV.aU [sl g_ l,sl st ns,bo true]=PV.aU [sl g_ R.1,sl st R.2,bo true]by rw[t])⟩
 ·have G:N-N=0:=G0 N;rw[G]at j;rw[j]at hv;have H:eR s id=⟨[],[],false⟩:=hv;exact an<|⟨200,_,_,.inl rr,by rw[H];rfl⟩
def qW(s:af)(q:Nat):List UInt64:=((s.ae.take q).filter ax.bB).map ax.id
def abp{s:af}{q:Nat}{j:ax}(h:s.ae[q]? = some j):qW s (q+1)=match j.bB with|true=>qW s q++[j.id]|false=>qW s q:=by
 unfold qW;rw[fW h,D6,l6,I9,J6];cases j.bB
 ·simp_all
 ·rfl
def ae5(s:af)(q:Nat):(qW s q).length<=q:=by grind [qW]
def acF(s:af)(j:s.ae.length<=67108864):PC 376 [s.pv] (·=sl g_ (jh s)):=by
 refine aw func376<|lY.k_ [(3,1,30)] ⟨rr,trivial⟩<|Af ⟨⟨rr,rr,rr⟩,⟨rr,rr,rr⟩,rr,rr,rr⟩ s.ae.length om (.of (qW s) (λl=>[(3,.aS 7 0 l.length)]) [7,8] (λl=>[(7,.rows 1 (l.map g_) true none 30)]) []) (λ_=>True) rr (by show some _=_;simp_all) (λ_=>rfl) ⟨rr,rr,rr,rr,rr⟩ rr trivial ?_ (λk e g=>?_) (λg=>?_)
 ·exact cS rr (kH.cf _)
 ·obtain⟨x,d⟩:=cw e;have a:=abp d;have b:=ae5 s k;generalize c:qW s k=L at a b;rw[cE c];refine bG d ?_;rcases x with⟨i,m,bB,left⟩
  cases bB
  case true=>
   refine an<|dS.l (aq.mk (eE (f:=g_) kH L i om) ?_);exact ck.of (sw 7 19) a trivial rfl<|jn ⟨⟨by rw[i6];rfl,rr⟩,trivial⟩ ⟨⟨BB.br (by rw[l6];rfl) (kH.cf _),rr⟩,trivial⟩
  exact ab<|ck.of id a trivial rfl<|cS rr (kH.cf _)
 ·have h:jh s=qW s s.ae.length:=by grind [jh,qW]
  rw[h];generalize c:qW s s.ae.length=L;rw[cE c];exact⟨L.length+100,_,_,.inl (a_ (dC (l:=L) (f:=g_) rr rr kH.bL rr rr) rr),rr⟩
def RN(j:ax)(id:UInt64):PC 377 [j.pv,.ip [pu id] 0] (·=bo (decide (j.id=id))):=aw func377<|aj.is (decide (j.id=id)) (qG j.id id)<|ah
def af.Lf(s:af):Prop:=∀j∈s.ae,(0<=j.left/\j.left<=100)/\0<=j.x.dF/\j.x.dF<=100
def D_(t:af)(id:UInt64){n:Nat}(h:eK t.ae id=(n:Int)):fS t id=match decide ((bK t.ae id).1.left-1<=0)with
 |true=>(({t with ae:=t.ae.set n {(bK t.ae id).1 with left:=(bK t.ae id).1.left-1}}:af).fh id 3).1
 |false=>{t with ae:=t.ae.set n {(bK t.ae id).1 with left:=(bK t.ae id).1.left-1}}:=by
 grind [fS]
def mA(s:af)(q:Nat):af:=((jh s).take q).foldl fS {s with round:=s.round+1}
def af.Sz.set{m:Nat}{s:af}(h:s.Sz m){n:Nat}{j:ax}(b:s.ae[n]? = some j)(v:Int):({s with ae:=s.ae.set n {j with left:=v}}:af).Sz m:=
 h.Kn (by rw[x9];exact h.ae) λx a=>by
  rcases x6 a with a|rfl
  ·exact h.spec x a
  ·exact h.spec j (i7 b)
theorem af.Sz.fS{m:Nat}{s:af}(h:s.Sz m)(id:UInt64):(fS s id).Sz m:=by
 rcases nF s.ae id with⟨h1,h2⟩|⟨n,h1,h2,a⟩
 ·grind [Proofs.YtbnonpbnhenkfaaGreatDoor.fS]
 ·rw[D_ s id h1];split
  ·exact(h.set h2 _).fh _ _
  ·exact h.set h2 _
def Qy{α:Type}{l:List α}{n:Nat}{x y:α}(h:l[n]? = some x):(l.set n y)[n]? = some y:=by grind
def PK{t:af}(id:UInt64)(k:Int){n:Nat}(h:eK t.ae id=(n:Int)):(t.fh id k).1.ae=t.ae.eraseIdx n:=by
 unfold af.fh;rw[h,j1 om];dsimp only;cases(bK t.ae id).1.bB with
 |true=>
  show((t.du _).ae.eraseIdx (n:Int).toNat)=_
  grind [nQ]
 |false=>rfl
def Zj{l:List ax}{id:UInt64}{n:Nat}{j j':ax}(h:eK l id=(n:Int))(a:l[n]? = some j)(hid:j'.id=j.id):eK (l.set n j') id=(n:Int):=by
 have key:∀(l:List ax) (i n:Nat),l[n]? = some j->cJ (λx:ax=>decide (x.id=id)) (l.set n j') i=cJ (λx:ax=>decide (x.id=id)) l i:=by
  intro l;induction l with
  |nil=>simp_all
  |cons x l ih=>
   intro i n h;cases n with
   |zero=>
    grind [cJ]
   |succ n=>
    show cJ _ (x::l.set n j') i=cJ _ (x::l) i
    unfold cJ;cases decide (x.id=id)
    case true=>rfl
    exact ih (i+1) n (by simp_all)
 exact(key l 0 n a).trans h
theorem af.Lf.fS{s:af}(h:s.Lf)(id:UInt64):(fS s id).Lf:=by
 rcases nF s.ae id with⟨h1,h2⟩|⟨n,h1,h2,f⟩
 ·grind [Proofs.YtbnonpbnhenkfaaGreatDoor.fS]
 ·have d:=h _ (i7 h2);rw[D_ s id h1];generalize(bK s.ae id).1=j at h2 d⊢;cases c:decide (j.left-1<=0)
  case true=>
   show af.Lf (af.fh _ id 3).1
   intro x b;rw[PK (t:={s with ae:=s.ae.set n {j with left:=j.left-1}}) id 3 (Zj h1 h2 rr)]at b;obtain⟨i,hi,a⟩:=G2.1 b;have a:(s.ae.set n {j with left:=j.left-1})[i]? = some x:=a;rw[P0,y8 (λe=>hi e.symm)]at a;exact h x (i7 a)
  have c:=j4 c;intro x b;rcases x6 b with b|rfl
  ·exact h x b
  grind
theorem af.Sz.mA{m:Nat}{s:af}(h:s.Sz m)(q:Nat):(mA s q).Sz m:=by
 unfold Proofs.YtbnonpbnhenkfaaGreatDoor.mA;have h0:({s with round:=s.round+1}:af).Sz m:=⟨h.al,h.places,h.aH,h.ae,h.bg,h.ev,h.au,h.spec,h.ao⟩;generalize(jh s).take q=l;generalize({s with round:=s.round+1}:af)=t at h0;induction l generalizing t with
 |nil=>exact h0
 |cons i l ih=>exact ih _ (h0.fS i)
theorem af.Lf.mA{s:af}(h:s.Lf)(q:Nat):(mA s q).Lf:=by
 unfold Proofs.YtbnonpbnhenkfaaGreatDoor.mA;have h0:({s with round:=s.round+1}:af).Lf:=h;generalize(jh s).take q=l;generalize({s with round:=s.round+1}:af)=t at h0;induction l generalizing t with
 |nil=>exact h0
 |cons i l ih=>exact ih _ (h0.fS i)
def rI(t:af)(id:UInt64)(r:Bool):Bool:=match decide (eK t.ae id<0)with
 |true=>r
 |false=>match decide ((bK t.ae id).1.left-1<=0)with
  |true=>false
  |false=>true
def qy(s:af)(q:Nat):af×Bool:=((jh s).take q).foldl (λp id=>(fS p.1 id,rI p.1 id p.2)) ({s with round:=s.round+1},false)
def al2{s:af}{q:Nat}{id:UInt64}(h:(jh s)[q]? = some id):qy s (q+1)=(fS (qy s q).1 id,rI (qy s q).1 id (qy s q).2):=by simp_all [qy,fW]
theorem RO(s:af)(q:Nat):(qy s q).1=mA s q:=by
 unfold qy mA;generalize(jh s).take q=l;generalize({s with round:=s.round+1}:af)=t;generalize false=b;induction l generalizing t b<;>grind
def aoH(p:af×Bool):List (Nat×aI):=match p.2 with
 |false=>[(0,.rows 11 [p.1.pv] true none 74)]
 |true=>[(0,.rows 11 [.agg [pu p.1.round,pu p.1.next,sl bR.pv p.1.ar.al,sl dt.pv p.1.ar.places,sl aB.pv p.1.aH,.aS 5 0 p.1.ae.length,sl QE.pv p.1.bg,pu p.1.dX.first,sl cZ.pv p.1.dX.l,pu p.1.dy.first,sl cZ.pv p.1.dy.l]] true none 74),(5,.rows 12 (p.1.ae.map ax.pv) true none 90)]
def agT(s:af){m:Nat}(h:s.Sz m)(z:m<=50000000)(A:s.Lf):PC 341 [s.pv] (·=s.count.pv):=by
 refine aw func341 ?_;have B:=h.ae;refine aF (Gr s.round) ?_;have v:jh {s with round:=s.round+1}=jh s:=rfl;refine ak (acF {s with round:=s.round+1} (by grind)) rr ?_;rw[v];have C:(jh s).length<=32:=by
  grind [jh]
 refine iC ⟨⟨rr,rr,rr⟩,⟨rr,rr,rr⟩,rr,rr,rr⟩ (jh s).length om (.of (qy s) (λ_=>[]) [1,2,11,12] aoH [1]) (λ_=>True) rr (by show some _=_;simp_all) (λ_=>rfl) ⟨rr,rr,rr,rr,rr⟩ rr trivial ?_ (λk D E=>?_) (λE=>?_)
 ·exact bP
 ·obtain⟨id,w⟩:=cw D;have c:=al2 w;have b:=h.mA k;have d:=A.mA k;rw[<-RO]at b d;rcases q:qy s k with⟨t,_|_⟩
  ·rw[q]at c b d;dsimp only at c b d;have x:=b.ae;rw[cE q];refine bG (f:=g_) w<|ak (EK dx.one t.ae (λj=>decide (j.id=id)) om λj _=>RN j id) rr ?_;rcases nF t.ae id with⟨h1,h2⟩|⟨n,h1,h2,F⟩
   ·have e:fS t id=t:=by grind [fS]
    have g:rI t id false=false:=by grind [rI]
    rw[e,g]at c;have h1:cJ (λj:ax=>decide (j.id=id)) t.ae 0=-1:=h1;rw[h1];exact aj.t (by decide)<|an<|ck.of _root_.id c trivial rfl<|bP
   ·have e:=D_ t id h1;have g:rI t id false=match decide ((bK t.ae id).1.left-1<=0)with|true=>false|false=>true:=by grind [rI]
    have y:=(c9.1 h2).1;have u:=d _ (i7 h2);have h1:cJ (λj:ax=>decide (j.id=id)) t.ae 0=(n:Int):=h1;rw[h1];generalize(bK t.ae id).1=j at h2 e g u;refine aj.f om<|ab<|bu.bH [] (n:=200) (x_ t.ae om _) rr trivial<|aq.mk ⟨om,om⟩ ?_;refine bG (i:=0+n) (by rw[j7];exact h2)<|cj.intro (j.left-1) (wrap_i64 rr om)<|aq.mk ⟨om,om⟩ ?_;refine bG (i:=0+n) (by rw[j7];exact h2) ?_;have a:PV.eO (t.ae.map ax.pv) (0+n) (ax.pv {j with left:=j.left-1})=(t.ae.set n {j with left:=j.left-1}).map ax.pv:=by grind [qA]
    have p:(t.ae.set n {j with left:=j.left-1}).length=t.ae.length:=x9 ..;refine aq.mk ⟨om,om⟩ ?_;refine fF.intro (ax.pv {j with left:=j.left-1}) (show PV.cR (PV.eO (t.ae.map ax.pv) (0+n) (ax.pv {j with left:=j.left-1})) (0+n)=_ by rw[a,j7];exact yR ax.pv _ _ _ (Qy h2)) (C7 _)<|aj.aN (λo=>?_) (λo=>?_)
    ·have o:decide (j.left-1<=0)=true:=o;rw[o]at e g;rw[e,g]at c;exact an<|bu.by (n:=(t.ae.set n {j with left:=j.left-1}).length+100) (IU {t with ae:=t.ae.set n {j with left:=j.left-1}} id 3 (b.set h2 _) z) (a_ (ke (a_ rr (a_ rr (a_ rr (a_ rr (a_ rr (a_ (dC (l:=t.ae.set n {j with left:=j.left-1}) rr a fz.bL p.symm rr) rr))))))) (a_ rr (a_ rr rr)))<|ck.of _root_.id c trivial rfl<|bP
    ·have o:decide (j.left-1<=0)=false:=o;rw[o]at e g;rw[e,g]at c;exact ab<|ck.of (sw 5 25) c trivial rfl<|eB ⟨⟨BB.rn (by show _=some (aI.rows 11 [PV.agg _] true none _);rw[p];rfl) rr,rr⟩,⟨BB.br (congrArg (λr=>some (aI.rows 12 r true none _)) a) (fz.cf _),rr⟩,trivial⟩
  ·rw[q]at c b d;dsimp only at c b d;have x:=b.ae;rw[cE q];refine bG (f:=g_) w<|bu.by (n:=t.ae.length+100) (EK dx.one t.ae (λj=>decide (j.id=id)) om λj _=>RN j id) (a_ (dC (l:=t.ae) rr rr fz.bL rr rr) (a_ rr rr)) ?_;rcases nF t.ae id with⟨h1,h2⟩|⟨n,h1,h2,F⟩
   ·have e:fS t id=t:=by grind [fS]
    have g:rI t id true=true:=by grind [rI]
    rw[e,g]at c;have h1:cJ (λj:ax=>decide (j.id=id)) t.ae 0=-1:=h1;rw[h1];exact aj.t (by decide)<|an<|ck.of _root_.id c trivial rfl<|eB ⟨⟨BB.rn rr rr,rr⟩,⟨BB.br rr (fz.cf _),rr⟩,trivial⟩
   ·have e:=D_ t id h1;have g:rI t id true=match decide ((bK t.ae id).1.left-1<=0)with|true=>false|false=>true:=by grind [rI]
    have y:=(c9.1 h2).1;have u:=d _ (i7 h2);have h1:cJ (λj:ax=>decide (j.id=id)) t.ae 0=(n:Int):=h1;rw[h1];generalize(bK t.ae id).1=j at h2 e g u;refine aj.f om<|ab<|bu.bH [] (n:=t.ae.length+100) (x_ t.ae om _) (a_ (dC (l:=t.ae) rr rr fz.bL rr rr) rr) trivial<|aq.mk ⟨om,om⟩ ?_;refine bG (i:=0+n) (by rw[j7];exact h2)<|cj.intro (j.left-1) (wrap_i64 rr om)<|aq.mk ⟨om,om⟩ ?_;refine bG (i:=0+n) (by rw[j7];exact h2) ?_;have a:PV.eO (t.ae.map ax.pv) (0+n) (ax.pv {j with left:=j.left-1})=(t.ae.set n {j with left:=j.left-1}).map ax.pv:=by grind [qA]
    have p:(t.ae.set n {j with left:=j.left-1}).length=t.ae.length:=x9 ..;refine aq.mk ⟨om,om⟩ ?_;refine fF.intro (ax.pv {j with left:=j.left-1}) (show PV.cR (PV.eO (t.ae.map ax.pv) (0+n) (ax.pv {j with left:=j.left-1})) (0+n)=_ by rw[a,j7];exact yR ax.pv _ _ _ (Qy h2)) (C7 _)<|aj.aN (λo=>?_) (λo=>?_)
    ·have o:decide (j.left-1<=0)=true:=o;rw[o]at e g;rw[e,g]at c;exact an<|bu.by (n:=(t.ae.set n {j with left:=j.left-1}).length+100) (IU {t with ae:=t.ae.set n {j with left:=j.left-1}} id 3 (b.set h2 _) z) (a_ (ke (a_ rr (a_ rr (a_ rr (a_ rr (a_ rr (a_ (dC (l:=t.ae.set n {j with left:=j.left-1}) rr a fz.bL p.symm rr) rr))))))) (a_ rr (a_ rr rr)))<|ck.of _root_.id c trivial rfl<|bP
    ·have o:decide (j.left-1<=0)=false:=o;rw[o]at e g;rw[e,g]at c;exact ab<|ck.of (sw 5 25) c trivial rfl<|eB ⟨⟨BB.rn (by show _=some (aI.rows 11 [PV.agg _] true none _);rw[p];rfl) rr,rr⟩,⟨BB.br (congrArg (λr=>some (aI.rows 12 r true none _)) a) (fz.cf _),rr⟩,trivial⟩
 ·have G:s.count=(qy s (jh s).length).1:=by grind [RO,af.count,mA]
  rw[G];rcases q:qy s (jh s).length with⟨t,_|_⟩
  ·rw[cE q];exact ah
  ·rw[cE q];exact⟨t.ae.length+100,_,_,.inl (a_ (ke (a_ rr (a_ rr (a_ rr (a_ rr (a_ rr (a_ (dC (l:=t.ae) rr rr fz.bL rr rr) rr))))))) rr),rr⟩
def amb(s:af)(behind:Nat){m:Nat}(h:s.Sz m)(hb:behind<=1000000):PC 17 [s.pv,i64 behind] (·=.aU [pu (dD s behind).id,i64 ((dD s behind).cm:Nat),bo (dD s behind).ok]):=by
 refine aw func17 ?_;have hq:=h.bg;have e:(s.bg.map QE.pv).length=s.bg.length:=c8 ..;refine cj.intro (behind:Int) om<|cV.bA (ι:={q:Nat//behind<=q/\q<=behind+32/\qP s (s.bg.drop q) q=dD s behind}) ⟨λq=>[(7,i64 q.1)],[2,4,5,6],λ_=>[],[0]⟩ (λq=>behind+32-q.1) ⟨behind,j2 _,om,rr⟩ ?_ ?_
 ·exact bP
 rintro⟨q,h1,h2,b⟩;refine aj.aN (λe1=>?_) (λe1=>?_)
 ·have e1:q<s.bg.length:=by simp_all
  obtain⟨x,c⟩:=cw e1;have f:s.bg.drop q=x::s.bg.drop (q+1):=by
   grind [List.drop_eq_getElem_cons]
  rw[f]at b;have a:(match nU s x.id with|true=>(⟨x.id,q,true⟩:Nx)|false=>qP s (s.bg.drop (q+1)) (q+1))=dD s behind:=b;refine an<|bG c<|aJ (ani s x.id h) rfl<|az ?_;cases d:nU s x.id
  case true=>
   rw[d]at a;exact an<|bG c<|⟨200,_,_,.inl rr,(show PV.aU [pu x.id,i64 (q:Nat),bo true]=PV.aU [pu (dD s behind).id,i64 ((dD s behind).cm:Nat),bo (dD s behind).ok]by rw[<-a])⟩
  rw[d]at a;refine ab<|aF (dq q)<|⟨⟨q+1,om,om,a⟩,id,?_,?_⟩
  ·grind
  exact bP
 ·have e1:¬q<s.bg.length:=by
   simp_all
  rw[r9 om]at b;have b:(⟨0,0,false⟩:Nx)=dD s behind:=b;exact ab<|⟨200,_,_,.inl rr,(show PV.aU [pu 0,i64 0,bo false]=PV.aU [pu (dD s behind).id,i64 ((dD s behind).cm:Nat),bo (dD s behind).ok]by rw[<-b];rfl)⟩
def fB.pv(t:fB):PV:=.agg [pu t.s.round,pu t.s.next,sl bR.pv t.s.ar.al,sl dt.pv t.s.ar.places,sl aB.pv t.s.aH,sl ax.pv t.s.ae,sl QE.pv t.s.bg,pu t.s.dX.first,sl cZ.pv t.s.dX.l,pu t.s.dy.first,sl cZ.pv t.s.dy.l,i64 (t.cm:Nat)]
theorem I_(tr:List UInt64->List BA×Bool):∀(m k:Nat) (l:List UInt64) (al:List BA),(jD tr m k l al).1.length<=l.length
 |0,_,_,_=>j2 _
 |m+1,k,l,al=>by
  unfold jD
  split
  ·simp_all
  ·split
   ·exact r8 (I_ tr m k _ _) (I0 _ _).length_le
   ·exact I_ tr m (k+1) l al
def Sd(tr:List UInt64->List BA×Bool)(all:List UInt64):∀(m n:Nat) {l:List UInt64} {al:List BA},re tr all m n=some (l,al)->l.length<=all.length
 |0,_,_,_,h=>by cases h
 |m+1,n,l,al,h=>by
  unfold re at h
  split at h
  ·grind
  ·exact Sd tr all m (n+1) h
def anw{s:af}{id:UInt64}(h:s.ae.length<=32):(eR s id).l.length<=32:=by
 unfold eR;dsimp only;split
 ·simp_all
 ·rename_i l al e;have h1:=Sd _ _ _ _ e;grind [Xx,I_]
theorem TR(d:V4):∀(n:Nat) (l:List dc) (out:List BA),(mX d n l out).2=true->(mX d n l out).1.length=out.length+n
 |0,_,_,_=>rfl
 |n+1,l,out,h=>by
  unfold mX at h⊢
  cases hb:(gl l d).ok
  ·simp_all
  rw[hb]at h
  dsimp only at h⊢
  rw[TR d n _ _ h,i6]
  grind
theorem afI{l:List dc}{x:List bX}{d:V4}{c:Int}(h:(li l x d c).2=true):(li l x d c).1.length<=8:=by grind [li,TR]
theorem UU{s:af}{id:UInt64}:(db s id).1.length<=8:=by grind [db,tJ,afI]
def aau(t:fB){m:Nat}(h:t.s.Sz m)(y:m<=40000000)(o:t.cm<=1000000):PC 375 [t.pv] (·=.aU [t.next.1.pv,bo t.next.2]):=by
 refine aw func375 ?_;obtain⟨s,cm⟩:=t;dsimp only at h o;refine ak (amb s cm h o) rr ?_;rcases z:dD s cm with⟨id,a,_|_⟩
 ·rw[show fB.next ⟨s,cm⟩=(⟨s,cm⟩,false)by grind [fB.next]];exact an<|ah
 refine ab<|ak (ahd s id h om) rr ?_;have i:(eR s id).l.length<=32:=anw h.ae;have c:(eR s id).ok=true->(eR s id).al.length<=8:=λe=>by
  grind [Bv,UU]
 rcases hv:eR s id with⟨l,al,_|_⟩
 ·rw[show fB.next ⟨s,cm⟩=(⟨s,cm⟩,false)by grind [fB.next]];exact an<|ah
 rw[hv]at i c;dsimp only at i c;have q:=c rr;refine ab<|iC ⟨⟨rr,rr,rr⟩,⟨rr,rr,rr⟩,rr,rr,rr⟩ l.length om (.of (lu s l) (λ_=>[]) [1,2,4,5,8,36,37] (λu=>[(0,.rows 12 [fB.pv ⟨u,cm⟩] true none 467)]) [1]) (λ_=>True) rr (by show some _=_;simp_all) (λ_=>rfl) ⟨rr,rr,rr,rr,rr⟩ rr trivial ?_ (λk r v=>?_) (λv=>?_)
 ·exact bP
 ·obtain⟨x,p⟩:=cw r;have j:=Oi (s:=s) p;have d:(lu s l k).Sz m:=h.eu (l.take k);generalize n:lu s l k=u at j d;rw[cE n];exact bG (f:=g_) p<|ak (EW u x 5 d om) rfl<|ck.of _root_.id j trivial rfl<|bP
 ·have A:eu s l=lu s l l.length:=by grind [lu]
  have d:(lu s l l.length).Sz m:=h.eu (l.take l.length);have b:fB.next ⟨s,cm⟩=match af.begin (lu s l l.length) id al with
   |(u,e)=>match decide (e=0)with
    |true=>(⟨u,a⟩,true)
    |false=>(⟨lu s l l.length,cm⟩,false):=by
   grind [fB.next]
  generalize n:lu s l l.length=u at d b;rw[cE n];refine ak (abx u id al d om om) rr ?_;rcases hb:u.begin id al with⟨w,e⟩
  rw[hb]at b;dsimp only at b;refine aj.aN (λg=>?_) (λg=>?_)
  ·have g:decide (e=0)=true:=g;rw[g]at b;rw[b];exact ab<|ah
  ·have g:decide (e=0)=false:=g;rw[g]at b;rw[b];exact an<|ah
def UP{t:fB}{m:Nat}(h:t.s.Sz m)(f:t.cm<=1000000):t.next.1.s.Sz (m+8)/\t.next.1.cm<=1000000:=by
 have g:=af.Sz.le h (D3 m 8);unfold fB.next;cases c:(dD t.s t.cm).ok
 ·simp_all
 dsimp only;cases hv:(eR t.s (dD t.s t.cm).id).ok
 ·simp_all
 dsimp only;have d:(dD t.s t.cm).cm<=1000000:=by
  obtain⟨i,e,h1,h2,b,j⟩:=Kl (s:=t.s) (l:=t.s.bg.drop t.cm) (k:=t.cm) c;have b:(dD t.s t.cm).cm=t.cm+i:=b;have:=(c9.1 h1).1;rw[w7]at this;have:=h.bg;omega
 have a:(eR t.s (dD t.s t.cm).id).al.length<=8:=by
  grind [Bv,UU]
 have hb:=(h.eu (eR t.s (dD t.s t.cm).id).l).begin (dD t.s t.cm).id (eR t.s (dD t.s t.cm).id).al a;have n:=af.Sz.le (h.eu (eR t.s (dD t.s t.cm).id).l) (D3 m 8);grind
end
section
open Go.RowKit
theorem vn{n a b:Int}:fJ n a b=true↔a<=n/\n<=b:=by grind [fJ]
def yc{x:bM}(h:x.check=0):pg x.aa x.aa=true/\fJ x.count 1 8=true/\fJ x.bC 0 9=true/\fJ x.dF 1 100=true/\mD x.dv=true/\x.total.2=true:=by
 unfold bM.check at h;cases h1:pg x.aa x.aa
 ·simp_all
 rw[h1]at h;grind
abbrev ax.lf(j:ax):Prop:=(0<=j.left/\j.left<=100)/\0<=j.x.dF/\j.x.dF<=100
def af.Lf.with{s:af}(h:s.Lf)(k:Nat){j:ax}(b:j.lf):(s.with k j).Lf:=λx a=>by
 rcases x6 a with a|rfl
 ·exact h x a
 ·exact b
theorem af.Lf.du{s:af}(h:s.Lf)(j:ax):(s.du j).Lf:=λx a=>by
 rw[(nQ s j).2.1]at a
 exact h x a
theorem af.Lf.stop{s:af}(h:s.Lf)(id:UInt64)(k:Int):(s.stop id k).1.Lf:=by
 unfold af.stop;rcases nF s.ae id with⟨h1,h2⟩|⟨n,h1,h2,b⟩
 ·simp_all
 rw[h1,j1 om];dsimp only;have a:=h _ (i7 h2);generalize(bK s.ae id).1=j at a⊢;cases j.bB
 ·exact h
 exact af.Lf.with (s:={s.du j with bg:=_}) (h.du j) _ (j:={j with bB:=false,left:=0}) ⟨⟨Int.le_refl _,by simp_all⟩,a.2⟩
theorem af.Lf.fh{s:af}(h:s.Lf)(id:UInt64)(k:Int):(s.fh id k).1.Lf:=by
 rcases nF s.ae id with⟨h1,h2⟩|⟨n,h1,h2,b⟩
 ·grind [af.fh]
 ·intro x a;rw[PK id k h1]at a;exact h x (uw a)
theorem af.Lf.begin{s:af}(h:s.Lf)(id:UInt64)(al:List BA):(s.begin id al).1.Lf:=by
 unfold af.begin;rcases nF s.ae id with⟨h1,h2⟩|⟨n,h1,h2,b⟩
 ·simp_all
 rw[h1,j1 om];dsimp only;have a:=h _ (i7 h2);generalize(bK s.ae id).1=j at a⊢;cases j.bB
 case true=>exact h
 dsimp only;cases decide ((al.length:Int)=j.x.count)
 ·exact h
 dsimp only;rcases j.x.total with⟨v,_|_⟩
 ·exact h
 dsimp only;rcases jw s.aH j.x.aa v with⟨t,e⟩
 dsimp only;cases decide (e=0)
 ·exact h
 dsimp only;rcases s.ar.gB id al j.x.cT with⟨p,e'⟩
 dsimp only;cases decide (e'=0)
 ·exact h
 exact af.Lf.with (s:={s with aH:=t,ar:=p,bg:=_}) h _ (j:={j with bB:=true,left:=j.x.dF}) ⟨a.2,a.2⟩
def af.Lf.stops{k:Int}:∀{s:af} (l:List UInt64),s.Lf->(l.foldl (λs id=>(s.stop id k).1) s).Lf
 |_,[],h=>h
 |_,id::l,h=>af.Lf.stops l (h.stop id k)
def af.Sz.stops{m:Nat}{k:Int}:∀{s:af} (l:List UInt64),s.Sz m->(l.foldl (λs id=>(s.stop id k).1) s).Sz m
 |_,[],h=>h
 |_,id::l,h=>af.Sz.stops l (h.stop id k)
def adt{t:fB}(h:t.s.Lf):t.next.1.s.Lf:=by
 unfold fB.next;cases(dD t.s t.cm).ok with
 |false=>exact h
 |true=>
 dsimp only;cases(eR t.s (dD t.s t.cm).id).ok with
 |false=>exact h
 |true=>
 dsimp only;have a:(eu t.s (eR t.s (dD t.s t.cm).id).l).Lf:=h.stops _;have hb:=a.begin (dD t.s t.cm).id (eR t.s (dD t.s t.cm).id).al;grind
def Ro:∀(n:Nat) {t:fB} {m:Nat},t.s.Sz m->t.cm<=1000000->t.s.Lf->(jH n t).s.Sz (m+8*n)/\(jH n t).s.Lf
 |0,t,m,h,_,a=>⟨h,a⟩
 |n+1,t,m,h,c,a=>by
  have h1:=UP h c
  have h2:=adt a
  unfold jH
  rcases b:t.next with⟨u,_|_⟩
  ·rw[b]at h1 h2
   exact⟨h1.1.le om,h2⟩
  ·rw[b]at h1 h2
   have:=Ro n h1.1 h1.2 h2
   grind
def Nr{s:af}{m:Nat}(h:s.Sz m)(b:s.Lf):s.oI.Sz (m+1024)/\s.oI.Lf:=by
 have a:s.count.Sz m/\s.count.Lf:=by
  have h1:=h.mA (jh s).length;have h2:=b.mA (jh s).length;unfold mA at h1 h2;rw[s9]at h1 h2;exact⟨h1,h2⟩
 exact Ro 128 a.1 (by simp_all) a.2
structure dw(m:Nat)(s:af):Prop where
 bA:eF s
 sz:s.Sz m
 lf:s.Lf
def dw.le{m n:Nat}{s:af}(h:dw m s)(a:m<=n):dw n s:=⟨h.bA,h.sz.le a,h.lf⟩
def Ot(p:bf)(name:BA)(up:Bool):(p.turn name up).1.al.length=p.al.length/\(p.turn name up).1.places=p.places:=by grind [bf.turn]
def ac2{p:bf}(name:BA)(up:Bool)(h:∀n∈p.al,n.ao.length<=67108864):∀n∈(p.turn name up).1.al,n.ao.length<=67108864:=by
 unfold bf.turn;cases b:decide (p.at name<0)
 case true=>exact h
 dsimp only;cases(p.find name).1.up==up with
 |true=>exact h
 |false=>
  dsimp only;intro n a;rcases x6 a with a|rfl
  ·exact h n a
  ·show(p.find name).1.ao.length<=_
   unfold bf.find;cases c:p.al.find? (λn=>seq n.name name)with
   |none=>exact j9 _
   |some x=>grind
def dw.ar{m:Nat}{s:af}(h:dw m s){p:bf}(h1:(p.al.map bR.name).Nodup)(h2:p.al.length<=16)(a:p.places=s.ar.places)(b:∀n∈p.al,n.ao.length<=67108864):dw m {s with ar:=p}:=
 ⟨⟨h.bA.eU,h.bA.dL,h.bA.fp,h.bA.len,h.bA.gp,h.bA.kK,h1⟩,⟨h2,by show p.places.length<=m;rw[a];exact h.sz.places,h.sz.aH,h.sz.ae,h.sz.bg,h.sz.ev,h.sz.au,h.sz.spec,b⟩,h.lf⟩
theorem dw.turn{m:Nat}{s:af}(h:dw m s)(name:BA)(up:Bool):dw m {s with ar:=(s.ar.turn name up).1}:=
 h.ar (by rw[GN];exact h.bA.jT) (by rw[(Ot s.ar name up).1];exact h.sz.al) (Ot s.ar name up).2 (ac2 name up h.sz.ao)
theorem xC{l:List cC}(h:iy l=true):l.length<=8:=by grind [iy]
theorem dw.add{m:Nat}{s:af}(h:dw m s)(n:bR):dw m {s with ar:=(s.ar.add n).1}:=by
 refine h.ar (MK h.bA.jT n) ?_ ?_ ?_<;>
 ·unfold bf.add;cases d_ n.name with
  |false=>first|exact h.sz.al|rfl|exact h.sz.ao
  |true=>
  dsimp only;cases c:iy n.ao with
  |false=>first|exact h.sz.al|rfl|exact h.sz.ao
  |true=>
  dsimp only;cases decide (0<=s.ar.at n.name)with
  |true=>first|exact h.sz.al|rfl|exact h.sz.ao
  |false=>
  dsimp only;cases b:decide (16<=(s.ar.al.length:Int))
  case true=>first|exact h.sz.al|rfl|exact h.sz.ao
  first
  |rfl
  |(have b:=j4 b
    dsimp only;rw[i6,w6,l8,w7];omega)
  |(dsimp only
    intro x a;rcases s8.1 a with a|a
    ·exact h.sz.ao x (u6 a)
    ·rcases p9.1 a with rfl|a
     ·grind [xC]
     ·exact h.sz.ao x (B3 a))
def Vn{t:List aB}(aa:BA)(v:V4)(h:t.length<=16):(gg t aa v).1.length<=16:=by
 unfold gg;grind
def dw.aH{m:Nat}{s:af}(h:dw m s){t:List aB}(a:t.length<=16):dw m {s with aH:=t}:=
 ⟨⟨h.bA.eU,h.bA.dL,h.bA.fp,h.bA.len,h.bA.gp,h.bA.kK,h.bA.jT⟩,⟨h.sz.al,h.sz.places,a,h.sz.ae,h.sz.bg,h.sz.ev,h.sz.au,h.sz.spec,h.sz.ao⟩,h.lf⟩
def dw.stops{m:Nat}{k:Int}{s:af}(h:dw m s)(l:List UInt64):dw m (l.foldl (λs id=>(s.stop id k).1) s):=⟨DE h.bA,h.sz.stops l,h.lf.stops l⟩
def dw.fv{m:Nat}{s:af}(h:dw m s){x:bM}(b:x.Sz):dw m (s.fv x).1:=by
 refine⟨RD h.bA x,h.sz.fv b,?_⟩;unfold af.fv;cases c:decide (x.check=0)
 ·exact h.lf
 dsimp only;cases there s.aH x.aa
 ·exact h.lf
 dsimp only;cases decide (32<=(s.ae.length:Int))
 case true=>exact h.lf
 dsimp only;cases decide (s.next=18446744073709551615)
 case true=>exact h.lf
 dsimp only;cases decide ((fq s.bg ⟨s.next,x.bC⟩).2=0)
 ·exact h.lf
 intro j a;have d:=vn.1 (yc (j5 c)).2.2.2.1;rcases s8.1 (show j∈s.ae++[(⟨s.next,x,false,0⟩:ax)]from a)with a|a
 ·exact h.lf j a
 grind
def dw.dy{m:Nat}{s:af}(h:dw m s)(n:cZ):dw m {s with dy:=lT s.dy n}:=
 ⟨⟨h.bA.eU,h.bA.dL,h.bA.fp,h.bA.len,h.bA.gp,h.bA.kK,h.bA.jT⟩,⟨h.sz.al,h.sz.places,h.sz.aH,h.sz.ae,h.sz.bg,h.sz.ev,Vr n h.sz.au,h.sz.spec,h.sz.ao⟩,h.lf⟩
def uy{m:Nat}{s:af}(h:dw m s){o:aC}(a:o.x.Sz):dw m (kj s o).1:=by
 unfold kj;cases decide (o.kind=1)
 case true=>exact h.fv a
 dsimp only;cases decide (o.kind=2)
 case true=>exact⟨JY h.bA _ _,h.sz.fh _ _,h.lf.fh _ _⟩
 dsimp only;cases decide (o.kind=3)
 case true=>
  dsimp only;unfold bI;cases seq o.aa aA
  case true=>exact h
  exact h.aH (Vn _ _ h.sz.aH)
 dsimp only;cases decide (o.kind=9)
 case true=>exact h.aH (Vn _ _ h.sz.aH)
 dsimp only;cases decide (o.kind=10)
 case true=>exact h.add _
 dsimp only;cases decide (o.kind=11)
 case true=>
  have key:dw m {s with ar:=(s.ar.fail o.aa).1}:=by
   have:=h.turn o.aa false;grind [bf.fail]
  exact key.stops _
 exact h.turn o.aa true
theorem CC{m:Nat}{s:af}(h:dw m s){o:aC}(d:o.x.Sz):dw (m+1024) (apply s o).1:=by
 have a:=h.le (D3 m 1024);unfold apply;cases o.right
 ·exact a
 dsimp only;cases fJ o.kind 4 8
 case true=>exact a
 dsimp only;cases decide (o.kind=13)
 case true=>exact⟨(ZC h.bA).1,(Nr h.sz h.lf).1,(Nr h.sz h.lf).2⟩
 have b:=(uy h d).le (D3 m 1024);rcases c:kj s o with⟨t,id,e⟩
 rw[c]at b;dsimp only at b⊢;cases decide (e=0)
 ·exact a
 exact b.dy _
end
section
open Go.RowKit Go.Proofs.Tryz
def fg(n:UInt64):PC 138 [pu n] (·=st (av n)):=
 qx func138 rr rr rr rr λw=>JG n.toNat w (tM n)
def nX(t:BA)(h:t.size<=9007199254740992):PC 137 [st t] (·=st (bQ t)):=
 qx func137 rr rr rr rr λw=>aky t w h
def cX{a b:BA}(c:a.size<=4611686018427387903)(hb:b.size<=4611686018427387903):a.size+b.size<=9223372036854775807:=om
def pH{α:Type}{f:BA->α->BA}{l:List α}{s:BA}{q:Nat}{x:α}(h:l[q]? = some x):(l.take (q+1)).foldl f s=f ((l.take q).foldl f s) x:=by simp_all [fW]
def oE{α:Type}{f:BA->α->BA}{B:Nat}{l:List α}{s:BA}(h:∀s,∀x∈l,(f s x).size<=s.size+B)(q:Nat):((l.take q).foldl f s).size<=s.size+B*l.length:=
 r8 (jV λs x a=>h s x (u6 a)) (Nat.add_le_add_left (Nat.mul_le_mul_left _ (by grind)) _)
def qt{α:Type}{f:BA->α->BA}{l:List α}{s:BA}:(l.take l.length).foldl f s=l.foldl f s:=by simp_all
def rV{α:Type}{f:α->PV}{l:List α}{k:Int->Prop}(a:k (((aG (l.length:Int)).toNat:Nat):Int)):cj (IntKind.u64.wrap (((l.map f).length:Nat):Int)) k:=.intro _ (by grind [lN]) a
theorem tU:aA.size=0:=rfl
def th(v:V4):PC 143 [v.pv] (·=st (cH v)):=by
 refine aw func143 ?_;have e:=cv v.a;have hb:=cv v.b;have g:=cv v.c;have h:=cv v.d;refine cV.nI 5<|aj.t (by decide)<|an<|c_<|ak (fg v.a) rfl<|aq.mk (cX (by grind [tU]) om)<|eL 1<|aj.t (by decide)<|an<|c_<|ak (fg v.b) rfl<|aq.mk (cX (by grind [tU]) om)<|eL 2<|aj.t (by decide) ?_;exact an<|c_<|ak (fg v.c) rfl<|aq.mk (cX (by grind [tU]) om)<|eL 3<|aj.t (by decide)<|an<|c_<|ak (fg v.d) rfl<|aq.mk (cX (by grind [tU]) om)<|eL 4<|aj.f (by decide)<|ab<|ah
def ON{p:cC}(hp:p.k.size<=1000000/\p.v.size<=1000000)(s:BA):(nr s p).size<=s.size+2000020:=by grind [nr,gh]
def Hw(l:List cC)(j:l.length<=67108864)(c:∀p∈l,p.k.size<=1000000/\p.v.size<=1000000):PC 145 [sl cC.pv l] (·=st (gq l)):=by
 refine aw func145<|ak (xz l j c) rr ?_;unfold gq;cases m:iy l
 ·exact an<|ah
 refine ab ?_;have h:=xC m;refine rV<|ak (fg (aG (l.length:Nat))) rr ?_;have t:=cv (aG (l.length:Nat));refine iC ⟨⟨rr,rr,rr⟩,⟨rr,rr,rr⟩,rr,rr,rr⟩ l.length om (.of (λq=>(l.take q).foldl nr (av (aG (l.length:Nat)))) (λs=>[(3,st s)]) [13,14] (λ_=>[]) []) (λ_=>True) rr (by show some _=_;simp_all) (λ_=>rfl) ⟨rr,rr,rr,rr,rr⟩ rr trivial ?_ (λk n o=>?_) (λo=>?_)
 ·exact bP
 ·obtain⟨x,d⟩:=cw n;have r:=c x (i7 d);have i:=pH (f:=nr) (s:=av (aG (l.length:Nat))) d;have e:=oE (f:=nr) (s:=av (aG (l.length:Nat))) (λs p hp=>ON (c p hp) s) k;generalize g:(l.take k).foldl nr (av (aG (l.length:Nat)))=s at i e;rw[cE g];have h1:=gh x.k;have h2:=gh x.v;exact bG d<|aJ (nX x.k om) rfl<|aJ (nX x.v om) rfl<|aq.mk (cX om om)<|aq.mk (cX (a:=s) (b:=bQ x.k++bQ x.v) om (by grind))<|az<|ck.of id i trivial rfl<|bP
 ·rw[<-qt];generalize g:(l.take l.length).foldl nr (av (aG (l.length:Nat)))=s;rw[cE g];exact ah
def Xb{v:BA}(h:v.size<=1000000)(s:BA):(jf s v).size<=s.size+1000010:=by grind [jf,gh]
def ak2(t:bX)(h:t.Sz):PC 270 [t.pv] (·=st t.put):=by
 refine aw func270 ?_;obtain⟨w,i,hv⟩:=h;refine cj.intro ((2*t.bJ.length:Nat):Int) (wrap_i64 (by simp_all) om) ?_;have j:=gh t.key;have y:=cv (aG t.n);have fin:∀(s:BA),(t.bJ.take t.bJ.length).foldl jf (bQ t.key++av (aG t.n))=s->t.put=s:=λs e=>by
  rw[<-e,s9];rfl
 rcases t with⟨key,no,bJ⟩
 dsimp only at w i hv j;have round:∀(k:Nat) (x:BA),bJ[k]? = some x->((bJ.take (k+1)).foldl jf (bQ key++av (aG (bX.n ⟨key,no,bJ⟩)))=jf ((bJ.take k).foldl jf (bQ key++av (aG (bX.n ⟨key,no,bJ⟩)))) x)/\((bJ.take k).foldl jf (bQ key++av (aG (bX.n ⟨key,no,bJ⟩)))).size<=1000030+1000010*67108864:=λk x c=>by
  refine⟨pH c,?_⟩;have:=oE (f:=jf) (l:=bJ) (s:=bQ key++av (aG (bX.n ⟨key,no,bJ⟩))) (B:=1000010) (λs v o=>Xb (hv v o) s) k;grind
 cases no
 case true=>
  refine an<|cj.intro ((2*bJ.length+1:Nat):Int) (dq (2*bJ.length))<|ak (nX key om) rfl<|aF (lN (bX.n ⟨key,true,bJ⟩))<|ak (fg (aG (bX.n ⟨key,true,bJ⟩))) rfl<|aq.mk (cX om om)<|iC ⟨⟨rr,rr,rr⟩,⟨rr,rr,rr⟩,rr,rr,rr⟩ bJ.length om (.of (λq=>(bJ.take q).foldl jf (bQ key++av (aG (bX.n ⟨key,true,bJ⟩)))) (λs=>[(4,st s)]) [23,24] (λ_=>[]) []) (λ_=>True) rr (by show some _=_;simp_all) (λ_=>rfl) ⟨rr,rr,rr,rr,rr⟩ rr trivial ?_ (λk j p=>?_) (λp=>?_)
  ·exact bP
  ·obtain⟨x,c⟩:=cw j;obtain⟨m,g⟩:=round k x c;have r:=hv x (i7 c);have u:=gh x;generalize d:(bJ.take k).foldl jf (bQ key++av (aG (bX.n ⟨key,true,bJ⟩)))=s at m g;rw[cE d];exact bG c<|ak (nX x om) rfl<|aq.mk (cX (a:=s) (b:=bQ x) om om)<|ck.of id m trivial rfl<|bP
  ·generalize d:(bJ.take bJ.length).foldl jf (bQ key++av (aG (bX.n ⟨key,true,bJ⟩)))=s;rw[cE d,fin s d];exact ah
 refine ab<|ak (nX key om) rfl<|aF (lN (bX.n ⟨key,false,bJ⟩))<|ak (fg (aG (bX.n ⟨key,false,bJ⟩))) rfl<|aq.mk (cX om om)<|iC ⟨⟨rr,rr,rr⟩,⟨rr,rr,rr⟩,rr,rr,rr⟩ bJ.length om (.of (λq=>(bJ.take q).foldl jf (bQ key++av (aG (bX.n ⟨key,false,bJ⟩)))) (λs=>[(4,st s)]) [23,24] (λ_=>[]) []) (λ_=>True) rr (by show some _=_;simp_all) (λ_=>rfl) ⟨rr,rr,rr,rr,rr⟩ rr trivial ?_ (λk j p=>?_) (λp=>?_)
 ·exact bP
 ·obtain⟨x,c⟩:=cw j;obtain⟨m,g⟩:=round k x c;have r:=hv x (i7 c);have u:=gh x;generalize d:(bJ.take k).foldl jf (bQ key++av (aG (bX.n ⟨key,false,bJ⟩)))=s at m g;rw[cE d];exact bG c<|ak (nX x om) rfl<|aq.mk (cX (a:=s) (b:=bQ x) om om)<|ck.of id m trivial rfl<|bP
 ·generalize d:(bJ.take bJ.length).foldl jf (bQ key++av (aG (bX.n ⟨key,false,bJ⟩)))=s;rw[cE d,fin s d];exact ah
theorem Sa{t:bX}(h:t.Sz)(a:t.bJ.length<=4):t.put.size<=6000000:=by
 unfold bX.put;have:=jV (f:=jf) (l:=t.bJ) (s:=bQ t.key++av (aG t.n)) (B:=1000010) λs v hv=>Xb (h.2.2 v hv) s
 have:=gh t.key;have:=cv (aG t.n);have:=h.2.1;grind
def xK{t:bX}(h:t.right=true):t.bJ.length<=4:=by grind [bX.right]
def Cp{l:List bX}(h:mD l=true):l.length<=4/\∀t∈l,t.right=true:=by grind [mD]
def Qm{t:bX}(h:t.Sz)(a:t.bJ.length<=4)(s:BA):(n_ s t).size<=s.size+6000000:=by grind [n_,Sa]
def ano(l:List bX)(o:l.length<=67108864)(e:∀t∈l,t.Sz):PC 209 [sl bX.pv l] (·=st (oQ l)):=by
 refine aw func209<|ak (Jr l o e) rr ?_;unfold oQ;cases p:mD l
 ·exact an<|ah
 refine ab ?_;obtain⟨j,d⟩:=Cp p;refine rV<|ak (fg (aG (l.length:Nat))) rr ?_;have w:=cv (aG (l.length:Nat));refine iC ⟨⟨rr,rr,rr⟩,⟨rr,rr,rr⟩,rr,rr,rr⟩ l.length om (.of (λq=>(l.take q).foldl n_ (av (aG (l.length:Nat)))) (λs=>[(3,st s)]) [13,14] (λ_=>[]) []) (λ_=>True) rr (by show some _=_;simp_all) (λ_=>rfl) ⟨rr,rr,rr,rr,rr⟩ rr trivial ?_ (λk r u=>?_) (λu=>?_)
 ·exact bP
 ·obtain⟨x,g⟩:=cw r;have c:=i7 g;have m:=pH (f:=n_) (s:=av (aG (l.length:Nat))) g;have h:=oE (f:=n_) (s:=av (aG (l.length:Nat))) (λs t n=>Qm (e t n) (xK (d t n)) s) k;have v:=Sa (e x c) (xK (d x c));generalize i:(l.take k).foldl n_ (av (aG (l.length:Nat)))=s at m h;rw[cE i];exact bG g<|ak (ak2 x (e x c)) rfl<|aq.mk (cX (a:=s) (b:=x.put) om om)<|ck.of id m trivial rfl<|bP
 ·rw[<-qt];generalize i:(l.take l.length).foldl n_ (av (aG (l.length:Nat)))=s;rw[cE i];exact ah
theorem Lo{l:List bX}(d:∀t∈l,t.Sz):(oQ l).size<=30000000:=by
 unfold oQ;cases e:mD l
 ·exact j9 _
 obtain⟨b,a⟩:=Cp e;have:=jV (f:=n_) (l:=l) (s:=av (aG (l.length:Nat))) (B:=6000000) λs t c=>Qm (d t c) (xK (a t c)) s
 grind [cv]
def Ed{l:List cC}(b:∀p∈l,p.k.size<=1000000/\p.v.size<=1000000):(gq l).size<=20000000:=by
 unfold gq;cases c:iy l
 ·exact j9 _
 have a:=xC c;have:=jV (f:=nr) (l:=l) (s:=av (aG (l.length:Nat))) (B:=2000020) λs p hp=>ON (b p hp) s
 grind [cv]
def Xz(x:bM)(h:x.Sz):PC 144 [x.pv] (·=st x.put):=by
 refine aw func144<|ak (Av x h) rr ?_;unfold bM.put;obtain⟨hp,b,a⟩:=h;have h1:=gh x.aa;have h2:=jW x.cT;have d:=cv (aG x.count);have e:=cv (aG x.bC);have f:=cv (aG x.dF);have g:=Lo a;refine aj.aN (λc=>?_) (λc=>?_)
 ·rw[show decide (x.check=0)=true from c];refine ab<|aJ (nX x.aa om) rfl<|aJ (th x.cT) rfl<|aq.mk (cX om om)<|az<|cV.nI 4<|dQ<|an<|fF.intro (i64 x.count) rr (by decide)<|aF (lN x.count)<|ak (fg (aG x.count)) rfl<|aq.mk (cX (by grind) om)<|eL 1<|dQ ?_;refine an<|fF.intro (i64 x.bC) rr (by decide)<|aF (lN x.bC)<|ak (fg (aG x.bC)) rfl<|aq.mk (cX (by grind) om)<|eL 2<|dQ<|an<|fF.intro (i64 x.dF) rr (by decide)<|aF (lN x.dF)<|ak (fg (aG x.dF)) rfl<|aq.mk (cX (by grind) om)<|eL 3<|aE ?_;exact ab<|ak (ano x.dv b a) rfl<|aq.mk (cX (by grind) om)<|ah
 ·rw[show decide (x.check=0)=false from c];exact an<|ah
theorem CD{x:bM}(h:x.Sz):x.put.size<=40000000:=by
 unfold bM.put;cases decide (x.check=0)
 ·exact j9 _
 obtain⟨hp,a,b⟩:=h;grind [gh,jW,cv,Lo]
def aoF(o:Oper):Bool:=match o.op with|.defer _=>true|_=>false
def Rb:List Oper->Bool
 | []=>false
 |o::l=>match aoF o with|true=>true|false=>Rb l
def Iv:Code->Bool
 |.region _ ops _=>Rb ops.toList
 |.seq a b=>match Iv a with|true=>true|false=>Iv b
 |_=>false
def IJ(o:Oper):Option (Operand×List Operand):=match o.op,o.dst,o.guard with
 |.defer ⟨.value f,args,_⟩,none,none=>some (f,args.toList)
 |_,_,_=>none
def yV:List Oper->Option (List Oper×Operand×List Operand)
 | []=>none
 | [o]=>match IJ o with|some c=>some ([],c)|none=>none
 |o::o'::os=>match yV (o'::os)with|some (l,c)=>some (o::l,c)|none=>none
theorem Qc:∀{l pre:List Oper} {f:Operand} {args:List Operand},yV l=some (pre,f,args)->∃o,l=pre++[o]/\IJ o=some (f,args)
 | [o],pre,f,args,h=>by
  unfold yV at h
  split at h
  ·rename_i c a;cases h;exact⟨o,rr,a⟩
  ·cases h
 |o::o'::os,pre,f,args,h=>by
  unfold yV at h
  split at h
  ·rename_i l c a
   cases h
   obtain⟨x,h1,h2⟩:=Qc a
   exact⟨x,by rw[h1];rfl,h2⟩
  ·cases h
def zX(m:Nat):List PV->Bool
 | []=>true
 |.lp j _ _::l=>match Nat.ble (j+1) m with|true=>zX m l|false=>false
 |_::_=>false
theorem Oo{m:Nat}{c d:RC}(h:∀j,j<m->d.hb j=c.hb j):∀{b:List PV} {vs:List Value},zX m b=true->aM b c vs->aM b d vs
 | [],_,_,r=>r
 |p::b,vs,a,r=>by
  obtain⟨v,g,e,r1,r2⟩:=r
  cases p with
  |lp j i off=>
   unfold zX at a
   cases f:Nat.ble (j+1) m
   ·rw[f]at a;cases a
   rw[f]at a
   obtain⟨B,k,h1,h2⟩:=r1
   exact⟨v,g,e,⟨B,k,(h j (o9 f)).trans h1,h2⟩,Oo h a r2⟩
  |_=>cases a
section
variable (P:Program)(G:World→Prop)(T:TT)
def xX(n:Nat):Code->Nat->AS->(Ex->Nat->AS->Prop)->(Nat->FuncId->List PV->Ex->Nat->AS->Prop)->Prop
 |.seq a b,nx,s,d,c=>match Iv a with
  |true=>xX n a nx s (λex m s=>match ex with
   |.normal=>False
   |.ret=>d .ret m s
   |.exit i=>d (.exit i) m s) λM g ps ex m s=>match ex with
   |.normal=>vc P G T M n b m s (c M g ps)
   |.ret=>c M g ps .ret m s
   |.exit i=>c M g ps (.exit i) m s
  |false=>vc P G T 0 n a nx s λex m s=>match ex with
   |.normal=>xX n b m s d c
   |.ret=>d .ret m s
   |.exit i=>d (.exit i) m s
 |.region _ ops draw,nx,s,_,c=>match draw,yV ops.toList with
  |false,some (pre,f,args)=>oW P G T n ops.toList pre nx s λm s=>match s.ev f,gj s.ev args with
   |some (.fn g ir),some ps=>match zX m (ps++ir)with
    |true=>c m g (ps++ir) .normal m s
    |false=>False
   |_,_=>False
  |_,_=>False
 |_,_,_,_,_=>False
structure pJ(fn:Func)(g:FuncId)(a:List PV)(m:Nat)(s:AS)(post:PV->Prop):Prop where
 h:∃bs q,dJ (λx:Nat×aI=>s.hp x.1=some x.2) bs/\py P G g a bs m q/\∀r d,q r d->lG T ⟨s.bD,eY s.hp d⟩ fn.results.toList λvs=>∃n rs l,(eH [] n (eY s.hp d) vs=some (rs,l)\/(rs=vs/\PV.ri vs=true))/\post (jy rs)
def ajk(fn:Func)(post:PV->Prop)(_:Nat)(g:FuncId)(a:List PV)(ex:Ex)(m:Nat)(s:AS):Prop:=match ex with
 |.exit _=>False
 |.normal=>pJ P G T fn g a m s post
 |.ret=>pJ P G T fn g a m s post
def CI(fn:Func)(args:List PV)(post:PV->Prop):Prop:=
 match fn.body with
 |some c=>match Nat.ble args.length fn.ntmps with
  |true=>xX P G T fn.ntmps c 0 ⟨mf args 0,λ_=>none⟩ (zY T fn post) (ajk P G T fn post)
  |false=>False
 |none=>False
end
theorem abt{P:Program}{o:Oper}{a:Act}{nx nx' N:Act->World->Prop}{Q:Exit->Act->World->Prop}(h:∀a w,nx a w->nx' a w):∀(r:Result Next),o.upon P a nx (Exit.then N Q) r->o.upon P a nx' Q r:=by
 intro r b;unfold Oper.upon at b⊢;split at b
 ·exact h _ _ b
 ·exact h _ _ b
 ·exact h _ _ b
 ·refine b.mono ?_;intro e w c;cases e with
  |returned v=>exact h _ _ c
  |panicked ch=>exact c
  |outgrown=>exact c
 ·exact b.mono λv w c=>h _ _ c
 ·exact b
 ·exact b
theorem KJ{P:Program}{ops:Array Oper}{Q:Exit->Act->World->Prop}{d:List Oper}:∀{b:List Oper} {a:Act} {w:World},wpList P ops (Exit.then (wpList P ops Q d) Q) b a w->wpList P ops Q (b++d) a w
 | [],_,_,h=>h
 |o::b,a,w,h=>by
  show wpList P ops Q (o::(b++d)) a w
  unfold wpList at h⊢
  split at h
  ·rename_i c
   rw[z7 c]
   rcases h with h|⟨h1,h2⟩
   ·exact .inl (abt (λa w h=>KJ h) _ h)
   ·exact .inr ⟨h1,h2⟩
  ·rename_i c
   rw[y8 c]
   exact KJ h
def dr.df(S:dr)(M:Nat)(hb:Nat->Option (Nat×Nat))(d:Deferred):dr:=⟨S.w0,S.Z0,M,hb,S.L,S.G,S.hG,[d]⟩
theorem im.df{S:dr}{M:Nat}{hb:Nat->Option (Nat×Nat)}{d:Deferred}{c:RC}{j:Nat}:∀{b:aI},im S c j b->im (S.df M hb d) c j b
 |.rows _ _ _ _ _,h=>h
 |.map _ _ _,h=>h
theorem bU.df{S:dr}{m:Nat}{hp:Nat->Option aI}{c:RC}(h:bU S (ge m) hp c)(d:Deferred):bU (S.df m c.hb d) (ge m) hp c:=
 ⟨h.fL,h.bZ,h.jU,h.fC,h.fresh,λj b a=>(h.dK j b a).df,h.eW,λ_ _=>rfl,λ_ a=>a⟩
section
variable {P:Program}{G:World→Prop}{T:TT}{S:dr}
theorem Gc(e:dV P T)(q:P.follows .mixedOrders=true)(hG:S.G=G)(A:S.M=0)(B:S.D=[]){n:Nat}:∀(c:Code) {nx:Nat} {s:AS} {a:Act} {cx:RC} {v:Ex->Nat->AS->Prop} {z:Nat->FuncId->List PV->Ex->Nat->AS->Prop} {Q:Exit->Act->World->Prop},eM S n (ge nx) s a cx->xX P G T n c nx s v z->
 (∀ex m s' a' c',v ex m s'->eM S n (ge m) s' a' c'->Q ex.to a' c'.w)->
 (∀M hb g ps us cs ex m s' a' c',z M g ps ex m s'->eM (S.df M hb {target:=.fn (.func g) cs,args:=us}) n (ge m) s' a' c'->zX M ps=true->aM ps c' (us.toList++cs.toList)->Q ex.to a' c'.w)->c.wp P Q a cx.w
 |.seq x y,nx,s,a,cx,v,z,Q,r,h,b,d=>by
  unfold xX at h
  split at h
  ·refine wp_seq (Gc e q hG A B x r h (λex m s' a' c' h1 h2=>?_) (λM hb g ps us cs ex m s' a' c' h1 h2 t C=>?_))
   ·cases ex with
    |normal=>exact h1.elim
    |ret=>exact b .ret m s' a' c' h1 h2
    |exit i=>exact b (.exit i) m s' a' c' h1 h2
   ·cases ex with
    |normal=>
     refine mE (S:=S.df M hb {target:=.fn (.func g) cs,args:=us}) (M:=M) e q hG rr y h2 h1 λex m2 s2 a2 c2 k1 k2=>?_
     have N:aM ps c2 (us.toList++cs.toList):=Oo (λj L=>(k2.dT.dL j L).trans (h2.dT.dL j L).symm) t C
     have:=d M hb g ps us cs ex m2 s2 a2 c2 k1 k2 t N
     cases ex with
     |normal=>exact this
     |ret=>exact this
     |exit i=>exact this
    |ret=>exact d M hb g ps us cs .ret m s' a' c' h1 h2 t C
    |exit i=>exact d M hb g ps us cs (.exit i) m s' a' c' h1 h2 t C
  ·refine wp_seq (mE e q hG A x r h λex m s' a' c' h1 h2=>?_)
   cases ex with
   |normal=>exact Gc e q hG A B y h2 h1 b d
   |ret=>exact b .ret m s' a' c' h1 h2
   |exit i=>exact b (.exit i) m s' a' c' h1 h2
 |.region id ops draw,nx,s,a,cx,v,z,Q,r,h,b,d=>by
  unfold xX at h
  split at h
  case h_2=>exact h.elim
  rename_i pre f args E
  obtain⟨o,O,u⟩:=Qc E
  refine wp_region_list ?_
  have key:wpList P ops Q (pre++[o]) a cx.w:=by
   refine KJ ?_
   have:=Cl (Q:=Exit.then (wpList P ops Q [o]) Q) e hG r h λm s' a' c' h1 h2=>?_
   ·exact this
   ·show wpList P ops Q [o] a' c'.w
    have k:=FL h2.bD
    split at h1
    case h_2=>exact h1.elim
    rename_i g ir ps e1 e2
    split at h1
    case h_2=>exact h1.elim
    rename_i F
    unfold IJ at u
    split at u
    case h_2=>cases u
    rename_i f' args' ty H l I
    cases u
    obtain⟨cs,R,J⟩:=k f _ e1
    have dE:=xV k e2
    have p:(execOp a'.eval o).run P c'.w=.ok (.defer {target:=.fn (.func g) cs.toArray,args:=args'.map a'.eval}) c'.w:=by
     unfold execOp
     simp[H,resolve,R,Deferred.ofValue]
    unfold wpList
    rw[z7 (by unfold Region.wanted;rw[I])]
    refine .inl ?_
    unfold Oper.wp
    rw[p,Oper.upon_defer]
    unfold wpList
    have K:a'.defers=[]:=h2.defers.trans B
    have U:eM (S.df m c'.hb {target:=.fn (.func g) cs.toArray,args:=args'.map a'.eval}) n (ge m) s' ({a' with defers:={target:=.fn (.func g) cs.toArray,args:=args'.map a'.eval}::a'.defers}.put o.dst undef) c':=by
     rw[l]
     exact⟨h2.dT.df _,h2.size,h2.bD,by show _::a'.defers=[_];rw[K]⟩
    refine d m c'.hb g (ps++ir) (args'.map a'.eval) cs.toArray .normal m s' _ c' h1 U F ?_
    have:=aM.tF dE J
    simpa using this
  rw[<-O]at key
  exact key
 |.skip,_,_,_,_,_,_,_,_,h,_,_=>h.elim
 |.label _,_,_,_,_,_,_,_,_,h,_,_=>h.elim
 |.ret,_,_,_,_,_,_,_,_,h,_,_=>h.elim
 |.exit _,_,_,_,_,_,_,_,_,h,_,_=>h.elim
 |.cond _ _ _,_,_,_,_,_,_,_,_,h,_,_=>h.elim
 |.block _ _,_,_,_,_,_,_,_,_,h,_,_=>h.elim
 |.loop _,_,_,_,_,_,_,_,_,h,_,_=>h.elim
 |.rangeFunc _ _ _ _,_,_,_,_,_,_,_,_,h,_,_=>h.elim
 |.scope _,_,_,_,_,_,_,_,_,h,_,_=>h.elim
 |.goto _,_,_,_,_,_,_,_,_,h,_,_=>h.elim
 |.refuse _,_,_,_,_,_,_,_,_,h,_,_=>h.elim
end
theorem ajC{P:Program}{G:World->Prop}{T:TT}{f:FuncId}{fn:Func}{args:List PV}{post:PV->Prop}(hT:dV P T)(hX:P.follows .mixedOrders=true)(J:∀{w w':World},G w->Below w.heap.size w w'->G w')(hf:P.funcs[f]? = some fn)(K:∀args w,(callFunc f args).run P w=.ok (.enter f args) w)
 (h:CI P G T fn args post):kS P G f args post:=by
 refine⟨K,λw Z vs H hz hr=>?_⟩
 unfold CI at h
 split at h
 case h_2=>exact h.elim
 rename_i c hc
 split at h
 case h_2=>exact h.elim
 rename_i N
 have hle':=o9 N
 let S:dr:=⟨w,Z,0,λ_=>none,λ_=>False,G,λhb=>J H hb.below,[]⟩
 have hs:bU S (ge 0) (λ_=>none) ⟨w,Z,λ_=>none⟩:=
  ⟨ie.refl _ _,cI.refl _,λ_ _ _ _ h=>h,hz,λ_ _=>rfl,(λ_ _ h=>by cases h),(λ_ _ _ _ h=>by cases h),λ_ h=>(by cases h),λ_ _=>j9 _⟩
 have k:=hr.length
 have hm:eM S fn.ntmps (ge 0) ⟨mf args 0,λ_=>none⟩ {tmps:=vs.toArray++Array.replicate (fn.ntmps-vs.toArray.size) undef,defers:=[]} ⟨w,Z,λ_=>none⟩:=by
  refine⟨hs,by simp;omega,λt p e=>?_,rr⟩
  obtain⟨_,h2⟩:=KN e
  obtain⟨v,hv,O⟩:=hr.get h2
  refine⟨v,?_,O⟩
  rw[L7]at hv
  have Q:t<vs.length:=(c9.1 hv).1
  rw[Array.getElem?_append_left (by simpa using Q)]
  simpa using hv
 have fin:∀{S':dr} (_:S'.w0=w) (_:S'.Z0=Z) (_:∀b,¬S'.L b) {n:Nat} {F:Nat->Prop} {s':AS} {a':Act} {c':RC},eM S' n F s' a' c'->
  (lG T s' fn.results.toList λvs=>∃n rs l,(eH [] n s'.hp vs=some (rs,l)\/(rs=vs/\PV.ri vs=true))/\post (jy rs))->
  ∃v,(results fn a'.tmps).run P c'.w=.ok v c'.w/\∃r v',Ending.returned v=.returned v'/\post r/\bW r ⟨c'.w,od w c'.w Z,λ_=>none⟩ v'/\Below w.heap.size w c'.w:=by
  intro S' A R hL n F s' a' c' h2 U
  obtain⟨ps,us,⟨q,rs,l,e,h3⟩,I,V⟩:=DV (P:=P) hT h2 _ U
  have B:(results fn a'.tmps).run P c'.w=.ok (if h:us.toArray.size=1 then us.toArray[0]else .tuple us.toArray) c'.w:=by
   have e1:results fn a'.tmps=(do let vs <-fn.results.mapM (rv a'.tmps);pure (if h:vs.size=1 then vs[0]else .tuple vs)):=by
    unfold results
    congr 1
   have e2:fn.results.mapM (rv a'.tmps)=(do let l <-fn.results.toList.mapM (rv a'.tmps);pure l.toArray):=by
    rw[show fn.results.mapM (rv a'.tmps)=fn.results.toList.toArray.mapM (rv a'.tmps)by rw[Array.toArray_toList],List.mapM_toArray,map_eq_pure_bind]
   rw[e1,e2]
   simp only[Sem.run_bind,V,Result.andThen_ok,Sem.run_pure]
  have a:=h2.dT
  have y:aM rs (jc s'.hp c' l).pure us:=by
   rcases e with e|⟨rfl,e⟩
   ·have y:=mN a l q e (λ_ h=>h) I
    rw[RC.xT]at y
    exact y
   ·exact aM.ext _ (qV s'.hp c' l).pure (yu _ e I)
  have i:=a.fx l
  have hx:cI (jc s'.hp c' l).pure ⟨c'.w,od w c'.w Z,λ_=>none⟩:=by
   refine⟨λ_ _ h=>h,λb o z=>?_,λ_ _ _=>rfl,λ_ aK _ f h=>⟨aK,f,h,rr⟩,λ_ _ _ _ h=>h⟩
   by_cases hb:b<w.heap.size
   ·exact .inl (R▸i.jU b o (by rw[A];exact hb) (hL b) z)
   ·exact .inr ⟨om,i.fC b o z⟩
  have C:Below w.heap.size w c'.w:=by
   have:=a.fL
   rw[A,show S'.L=λ_=>False from funext λb=>propext ⟨hL b,False.elim⟩]at this
   exact this.below
  refine⟨_,B,jy rs,_,rr,h3,?_,C⟩
  have h7:=FZ y
  have:(if us.length=1 then us[0]! else Value.tuple us.toArray)=(if h:us.toArray.size=1 then us.toArray[0]else .tuple us.toArray):=by
   by_cases h1:us.length=1
   ·obtain⟨u,rfl⟩:=J1.1 h1
    simp
   ·rw[y8 h1,dif_neg (by simpa using h1)]
  rw[<-this]
  exact bW.ext _ hx h7
 refine calls_of_wp_defers hf hc<|Gc (S:=S) hT hX rr rr rr c hm h (λex m s' a' c' h1 h2=>?_) (λM hb g ps us cs ex m s' a' c' h1 h2 h3 I=>?_)
 ·have goal:Leaves P fn a'.tmps (λe w'=>∃r v,e=.returned v/\post r/\bW r ⟨w',od w w' Z,λ_=>none⟩ v/\Below w.heap.size w w') a'.defers .returning c'.w->bodyPostD P fn (λe w'=>∃r v,e=.returned v/\post r/\bW r ⟨w',od w w' Z,λ_=>none⟩ v/\Below w.heap.size w w') ex.to a' c'.w:=by
   intro k
   cases ex with
   |normal=>exact k
   |ret=>exact k
   |exit j=>exact h1.elim
  apply goal
  have W:lG T s' fn.results.toList λvs=>∃n rs l,(eH [] n s'.hp vs=some (rs,l)\/(rs=vs/\PV.ri vs=true))/\post (jy rs):=by
   cases ex with
   |normal=>exact h1
   |ret=>exact h1
   |exit j=>exact h1.elim
  rw[show a'.defers=[]from h2.defers]
  exact fin rr rr (λ_ h=>h) h2 W
 ·have X:pJ P G T fn g ps m s' post:=by
   cases ex with
   |normal=>exact h1
   |ret=>exact h1
   |exit j=>exact h1.elim
  have goal:Leaves P fn a'.tmps (λe w'=>∃r v,e=.returned v/\post r/\bW r ⟨w',od w w' Z,λ_=>none⟩ v/\Below w.heap.size w w') a'.defers .returning c'.w->bodyPostD P fn (λe w'=>∃r v,e=.returned v/\post r/\bW r ⟨w',od w w' Z,λ_=>none⟩ v/\Below w.heap.size w w') ex.to a' c'.w:=by
   intro k
   cases ex with
   |normal=>exact k
   |ret=>exact k
   |exit j=>exact h1.elim
  apply goal
  obtain⟨bs,q,Y,D,hq⟩:=X.h
  rw[show a'.defers=[_]from h2.defers]
  have he:(us++cs)=(us.toList++cs.toList).toArray:=E1 (by simp)
  refine leaves_cons (f:=g) (args:=(us.toList++cs.toList).toArray) (by simp) ?_ ?_
  ·show(invoke _ _).run P c'.w=_
   simp only[invoke]
   rw[D.enter,he]
  refine(D.run (S:=S.df M hb {target:=.fn (.func g) cs,args:=us}) (F:=ge m) rr (j2 m) h2.dT Y I).mono ?_
  rintro e u w' ⟨rfl,r,d,v,c'',rfl,rfl,hp,H⟩
  have E:eM (S.df M hb {target:=.fn (.func g) cs,args:=us}) fn.ntmps (dz (ge m) m) ⟨s'.bD,eY s'.hp d⟩ a' c'':=
   ⟨H.s,h2.size,λt p e=>by
    obtain⟨v,V,y⟩:=h2.bD t p e
    exact⟨v,V,bW.ext p H.x y⟩,h2.defers⟩
  exact fin rr rr (λ_ h=>h) E (hq r d hp)
theorem vG{f:FuncId}{fn:Func}{args:List PV}{post:PV->Prop}(a:prog.funcs[f]? = some fn)(b:(fn.name== "runtime.NumGoroutine")=false)(h:CI prog GT tt fn args post):PC f args post:=
 match hb:fn.body with
 |some _=>ajC cz cM (λh hb=>jz.below h hb) a (enters_of a b hb) h
 |none=>by unfold CI at h;rw[hb]at h;exact h.elim
theorem ak4{f:FuncId}{fn:Func}{args:List PV}{bs:List aI}{js:List Nat}{nx:Nat}{post:PV->cU->Prop}(j:prog.funcs[f]? = some fn)(k:(fn.name== "runtime.NumGoroutine")=false)(c:gr js=true)(d:cW nx js=false)(a:js.length=bs.length)(e:dJ (λb:aI=>b.own=true/\b.dP) bs)(g:PV.lq js.length args=true)
 (h:se prog GT tt fn args bs js nx post):py prog GT f (PV.ja (λi=>(PV.cR js i).getD 0) args) (js.zip bs) nx post:=
 match hb:fn.body with
 |some _=>aoC cz cM j (enters_of j k hb) c d a e g h
 |none=>by unfold se at h;rw[hb]at h;exact h.elim
theorem py.ac5{P:Program}{G:World->Prop}{f:FuncId}{args:List PV}{bs:List (Nat×aI)}{nx:Nat}(a:∀args w,(callFunc f args).run P w=.ok (.enter f args) w)
 (h:∀(vs:Array Value) (w:World),vs.size=args.length->CallsD P f vs .returning w λe u w'=>u=.returning/\e=.returned (.tuple #[])/\w'=w):py P G f args bs nx λr d=>r=.aU []/\d=[]:=
 ⟨a,λhG i b hb c=>(h _ _ (by simpa using c.length)).mono λe u w' ⟨h1,h2,g⟩=>⟨h1,.aU [],[],.tuple #[],_,h2,g.symm,⟨rr,rr⟩,cI.refl _,b.up λ_ h=>h.1,⟨[],rr,rr⟩⟩⟩
abbrev gy:Nat:=9007199254740992
def AP(s:BA)(a:Int)(b:s.size<=gy):PC 262 [st s,i64 a] (·=.aU [.at (.int .u64 ((Wi.get s a).1:Int)),i64 (Wi.get s a).2.1,bo (Wi.get s a).2.2]):=
 qx func262 rr rr rr rr λw=>Oz s a w b
def Ha(s:BA)(a m:Int)(b:s.size<=gy):PC 261 [st s,i64 a,i64 m] (·=.aU [st (Wi.qc s a m).1,i64 (Wi.qc s a m).2.1,bo (Wi.qc s a m).2.2]):=
 qx func261 rr rr rr rr λw=>adF s a m w b
theorem ju{s:BA}{i:Nat}{n:UInt64}(h:At s i (av n))(a:s.size<=gy):PC 262 [st s,i64 (i:Nat)] (·=.aU [pu n,i64 ((i+(av n).size:Nat):Int),bo true]):=by
 have:=AP s i a;rw[h.num]at this;exact this
def qn{s:BA}{i:Nat}{t:BA}{m:Int}(h:At s i (bQ t))(a:s.size<=gy)(b:(t.size:Int)<=m):PC 261 [st s,i64 (i:Nat),i64 m] (·=.aU [st t,i64 ((i+(bQ t).size:Nat):Int),bo true]):=by
 have:=Ha s i m a;have c:=h.le;have d:=gh t;rw[h.text (by grind) b]at this;exact this
def tW{s:BA}{i:Nat}{v:V4}(h:At s i (cH v))(e:s.size<=gy):PC 264 [st s,i64 (i:Nat)] (·=.aU [v.pv,i64 ((i+(cH v).size:Nat):Int),bo true]):=by
 refine aw func264 ?_;have m:=h.r;have f:=h.l;have n:=f.r;have h2:=f.l;have hb:=h2.r;have g:=h2.l.r;rw[tU]at g;have e1:i+0+(av v.a).size=i+(aA++av v.a).size:=by grind [tU]
 have e2:i+(aA++av v.a).size+(av v.b).size=i+(aA++av v.a++av v.b).size:=by grind
 have e3:i+(aA++av v.a++av v.b).size+(av v.c).size=i+(aA++av v.a++av v.b++av v.c).size:=by grind
 have e4:i+(aA++av v.a++av v.b++av v.c).size+(av v.d).size=i+(cH v).size:=by grind [cH]
 have ca:=ju g e;have j:=ju hb e;have cc:=ju n e;have k:=ju m e;rw[e1]at ca;rw[e2]at j;rw[e3]at cc;rw[e4]at k;refine cV.nI 5<|dQ<|an<|ak ca rfl<|ab<|c_<|eL 1<|dQ<|an<|ak j rfl<|ab<|c_<|eL 2<|dQ ?_;exact an<|ak cc rfl<|ab<|c_<|eL 3<|dQ<|an<|ak k rfl<|ab<|c_<|eL 4<|aE<|ab<|ah
def Ir{α:Type}{f:BA->α->BA}{g:α->BA}(a:∀s x,f s x=s++g x):∀(l:List α) (s:BA),∃r,l.foldl f s=s++r
 | [],s=>⟨aA,by grind [QD,EG]⟩
 |x::l,s=>by
  obtain⟨r,h⟩:=Ir a l (f s x)
  refine⟨g x++r,?_⟩
  grind [QD,EG]
def eg{α:Type}(f:BA->α->BA)(i:Nat)(s0:BA)(l:List α)(q:Nat):Nat:=i+((l.take q).foldl f s0).size
def At.head{α:Type}{f:BA->α->BA}{g:α->BA}(a:∀s x,f s x=s++g x){s s0:BA}{i:Nat}{l:List α}(h:At s i (l.foldl f s0)):At s i s0:=by
 obtain⟨r,e⟩:=Ir a l s0;rw[e]at h;exact h.l
def At.sP{α:Type}{f:BA->α->BA}{g:α->BA}(b:∀s x,f s x=s++g x){s s0:BA}{i q:Nat}{l:List α}{x:α}(h:At s i (l.foldl f s0))(c:l[q]? = some x):At s (eg f i s0 l q) (g x)/\eg f i s0 l (q+1)=eg f i s0 l q+(g x).size:=by
 have a:=(c9.1 c);obtain⟨d,rfl⟩:=a;have e1:l=l.take q++l[q]::l.drop (q+1):=by simp_all
 have e2:l.foldl f s0=(l.drop (q+1)).foldl f (f ((l.take q).foldl f s0) l[q]):=by
  grind
 obtain⟨r,e3⟩:=Ir b (l.drop (q+1)) (f ((l.take q).foldl f s0) l[q]);rw[e2,e3,b]at h;refine⟨h.l.r,?_⟩;grind [eg]
def At.whole{α:Type}{f:BA->α->BA}{i:Nat}{s0:BA}{l:List α}:eg f i s0 l l.length=i+(l.foldl f s0).size:=by grind [eg]
theorem TQ{n:Nat}(h:n<18446744073709551616):(aG (n:Int)).toNat=n:=by grind [aG,qC]
def afe{s:BA}{i:Nat}{p:cC}(h:At s i (bQ p.k++bQ p.v))(a:s.size<=gy)(b:p.k.size<=32)(hv:p.v.size<=32):PC 313 [st s,i64 (i:Nat)] (·=.aU [p.pv,i64 ((i+(bQ p.k++bQ p.v).size:Nat):Int),bo true]):=by
 refine aw func313 ?_;have hb:=qn (m:=32) h.r a om;rw[show i+(bQ p.k).size+(bQ p.v).size=i+(bQ p.k++bQ p.v).size by grind]at hb;exact ak (qn (m:=32) h.l a om) rfl<|an<|ak hb rfl<|ah
def Un:∀(s:BA) (x:cC),nr s x=s++(bQ x.k++bQ x.v):=λ_ _=>rfl
abbrev qU(n:Nat):PV:=.at (.int .u64 (n:Int))
theorem lQ(a:Nat)(h:a≤4611686018427387904:=by omega):IntKind.u64.wrap ((a:Int)+1)=((a+1:Nat):Int):=by
 show((a:Int)+1)%18446744073709551616=_
 omega
theorem pE{n:Nat}(h:n<18446744073709551616):pu (aG (n:Int))=qU n:=by grind [TQ]
def afE{s:BA}{i:Nat}{l:List cC}(h:At s i (l.foldl nr (av (aG (l.length:Nat)))))(e:s.size<=gy)(o:l.length<=8)(b:∀p∈l,p.k.size<=32/\p.v.size<=32):PC 312 [st s,i64 (i:Nat),i64 8,.fn 313 []] (·=.aU [sl cC.pv l,i64 ((i+(l.foldl nr (av (aG (l.length:Nat)))).size:Nat):Int),bo true]):=by
 refine aw func312 ?_;have c0:=ju (h.head Un) e;rw[pE om]at c0;refine ak c0 rfl<|eL 8<|aj.f (show¬(8:Int)<(l.length:Nat)by omega)<|ab ?_;rw[<-At.whole];refine cV.k_ [(8,2,160)] _ (ι:={q:Nat//q<=l.length}) ⟨λq=>[(31,qU q.1),(8,.aS 23 0 (l.take q.1).length),(1,i64 ((eg nr i (av (aG (l.length:Nat))) l q.1:Nat):Int))],[0,3,30],λq=>[(23,.rows 2 ((l.take q.1).map cC.pv) true none 160)],[]⟩ (λq=>l.length-q.1) ⟨0,j9 _⟩ rr ⟨rr,trivial⟩ ?_ ?_
 ·exact cS rr (AA.cf _)
 rintro⟨q,hq⟩;dsimp only;refine aj.aN (λh1=>?_) (λh1=>?_)
 ·have h1:q<l.length:=fE h1;refine an ?_;obtain⟨x,c⟩:=cw h1;obtain⟨d,dE⟩:=h.sP Un c;have a:=b x (i7 c);have g:=afe d e a.1 a.2;rw[<-dE]at g;refine ak g rfl<|ab ?_;have m:(l.take q).length=q:=by simp_all
  refine dS.l (aq.mk (eE AA (l.take q) x om) ?_);refine aF (lQ q) ?_;have n:=fW c;refine⟨⟨q+1,h1⟩,sw 23 42,by grind,?_⟩;exact jn ⟨⟨rr,rr⟩,⟨by show some (PV.aS 42 0 ((l.take q).length+1))=some (PV.aS 42 0 (l.take (q+1)).length);simp_all,rr⟩,⟨rr,rr⟩,trivial⟩ ⟨⟨BB.br (by rw[n,l6];rfl) (AA.cf _),rr⟩,trivial⟩
 ·have h1:q=l.length:=by
   grind
  subst h1;refine ab ?_;have j:l.take l.length=l:=s9;exact⟨l.length+100,_,_,.inl (a_ (dC (l:=l) rr (congrArg (List.map cC.pv) j) AA.bL (congrArg List.length j) rr) (a_ rr (a_ rr rr))),rr⟩
def Nu{s:BA}{i:Nat}{l:List cC}(h:At s i (gq l))(a:iy l=true)(c:s.size<=gy)(b:∀p∈l,p.k.size<=32/\p.v.size<=32):PC 266 [st s,i64 (i:Nat)] (·=.aU [sl cC.pv l,i64 ((i+(gq l).size:Nat):Int),bo true]):=by
 refine aw func266 ?_;have d:=xC a;unfold gq at h⊢;rw[a]at h⊢;refine ak (afE h c d b) rfl<|ak (xz l om λp hp=>by grind) rr ?_;rw[a];exact ab<|ah
abbrev ny(s:BA)(i:Nat):aI:=.rows 2 [.agg [st s,i64 (i:Int)]] true none 449
def fH(s:BA)(i:Nat):dP [PV.agg [st s,i64 (i:Int)]]:=λr a=>by rw[o6.1 a];rfl
def Rd{s:BA}{i n:Nat}(h:At s i (av (aG (n:Int))))(a:s.size<=gy)(most:Nat)(c:n<=most)(e:most<=1000)(j nx:Nat)(b:Nat.beq nx j=false):LC 360 [.lp j 0 0,qU most] [(j,ny s i)] nx λr d=>r=i64 (n:Nat)/\d=[(j,some (ny s (i+(av (aG (n:Int))).size))),(j,none)]:=by
 refine fX (js:=[j]) (bs:=[ny s i]) (args:=[.lp 0 0 0,qU most]) func360 rr rr ?_ rr ⟨⟨rr,fH s i⟩,trivial⟩ rr ?_
 ·grind [cW]
 have c0:=ju h a;rw[pE om]at c0;exact aJ c0 rfl<|az<|aj.f (show¬(most:Int)<(n:Int)by omega)<|ab<|cj.intro (n:Int) (wrap_i64 rr om)<|ey<|kY (0,j) rr rr (fH s _)<|az rr
def GI{s:BA}{i:Nat}{t:BA}(h:At s i (bQ t))(a:s.size<=gy)(c:t.size<=32)(j nx:Nat)(b:Nat.beq nx j=false):LC 384 [.lp j 0 0] [(j,ny s i)] nx λr d=>r=st t/\d=[(j,some (ny s (i+(bQ t).size))),(j,none)]:=by
 refine fX (js:=[j]) (bs:=[ny s i]) (args:=[.lp 0 0 0]) func384 rr rr ?_ rr ⟨⟨rr,fH s i⟩,trivial⟩ rr ?_
 ·grind [cW]
 exact aJ (qn (m:=32) h a om) rfl<|az<|ab<|ey<|kY (0,j) rr rr (fH s _)<|az rr
def UI:∀(s:BA) (x:BA),jf s x=s++bQ x:=λ_ _=>rfl
abbrev t0(t:bX):BA:=bQ t.key++av (aG t.n)
def aoa(s:BA)(key:BA)(no:Bool)(P:Nat->Nat):List BA->List (Nat×aI)
 | []=>[(0,ny s (P 0)),(5,.rows 3 [.agg [st key,bo no,.sl true []]] true none 183)]
 |x::M=>[(0,ny s (P (M.length+1))),(5,.rows 3 [.agg [st key,bo no,.aS 2 0 (M.length+1)]] true none 183),(2,.rows 1 ((x::M).map st) true none 9)]
def Vh{s:BA}{i:Nat}{t:bX}(h:At s i t.put)(u:s.size<=gy)(L:t.bJ.length<=4)(F:t.key.size<=32)(hv:∀v∈t.bJ,v.size<=32)(j nx:Nat)(G:Nat.beq nx j=false):LC 361 [.lp j 0 0] [(j,ny s i)] nx λr d=>r=t.pv/\d=[(j,some (ny s (i+t.put.size))),(j,none)]:=by
 refine fX (js:=[j]) (bs:=[ny s i]) (args:=[.lp 0 0 0]) func361 rr rr ?_ rr ⟨⟨rr,fH s i⟩,trivial⟩ rr ?_
 ·grind [cW]
 have D:At s i (t0 t):=At.head (l:=t.bJ) UI h;refine bu.bH [0] (n:=200) (GI D.l u F 0 _ rr) rr ⟨rr,trivial⟩ ?_;obtain⟨m,H,z,I,J⟩:∃m:Nat,t.n=(m:Int)/\m<=9/\m / 2=t.bJ.length/\(m%2=1↔t.no=true):=by
  unfold bX.n;cases t.no
  case true=>exact⟨2*t.bJ.length+1,rr,om,om,by simp⟩
  exact⟨2*t.bJ.length,rr,om,om,by simp⟩
 have E:=D.r;rw[H]at E;refine bu.bH [0] (n:=200) (Rd E u 9 z om 0 _ rr) rr ⟨rr,trivial⟩<|c_<|cj.intro ((m%2:Nat):Int) (by grind)<|aj.is t.no ?_ ?_
 ·grind
 refine c_<|cj.intro (t.bJ.length:Int) (wrap_i64 (by grind) om) ?_;have A:i+(bQ t.key).size+(av (aG (m:Int))).size=eg jf i (t0 t) t.bJ 0:=by
  show _=i+(t0 t).size
  grind
 rw[A];have f:i+t.put.size=eg jf i (t0 t) t.bJ t.bJ.length:=At.whole.symm;rw[f];refine iV t.bJ.length (.of (λq=>t.bJ.take q) (λ_=>[]) [0,2,3,15] (aoa s t.key t.no (eg jf i (t0 t) t.bJ)) [1]) (λ_=>True) trivial ?_ (λk B K=>?_) (λK=>?_)
 ·exact bP
 ·obtain⟨x,C⟩:=cw B;obtain⟨g,dE⟩:=h.sP UI C;have w:=fW C;have o:=hv x (i7 C);have a:(t.bJ.take k).length=k:=by grind
  rcases b:t.bJ.take k with _|⟨y,M⟩
  ·rw[b]at w a;obtain rfl:k=0:=a.symm;rw[cE b];refine fi.bH [0] (n:=200) (GI g u o 0 _ rr) rr ⟨rr,trivial⟩<|aq.mk ⟨(eE gC [] x om).1,λh=>(by cases h)⟩ ?_;refine az ?_;rw[<-dE];exact ck.of (v:=[x]) (sw 2 24) w trivial rfl<|eB ⟨⟨BB.br rr (fH s _),rr⟩,⟨BB.rn rr rr,rr⟩,⟨BB.br rr (gC.cf [x]),rr⟩,trivial⟩
  ·rw[b]at w a;have a:k=M.length+1:=a.symm;subst a;rw[cE b];refine fi.bH [0] (n:=200) (GI g u o 0 _ rr) rr ⟨rr,trivial⟩<|dS.l (aq.mk (eE gC (y::M) x om) ?_);refine az ?_;rw[<-dE];have e:(M++[x]).length+1=M.length+1+1:=by simp_all
   exact ck.of (v:=y::(M++[x])) (sw 2 24) w trivial rfl<|eB ⟨⟨BB.br (by show _=some (ny s (eg jf i (t0 t) t.bJ ((M++[x]).length+1)));rw[e];rfl) (fH s _),rr⟩,⟨BB.rn (by show _=some (aI.rows 3 [PV.agg [st t.key,bo t.no,PV.aS _ 0 ((M++[x]).length+1)]] true none _);rw[e];rfl) rr,rr⟩,⟨BB.br (by show some (aI.rows 1 ((y::M).map st++[st x]) true none _)=some (aI.rows 1 ((y::(M++[x])).map st) true none _);simp_all) (gC.cf _),rr⟩,trivial⟩
 ·have p:t.bJ.take t.bJ.length=t.bJ:=s9;have c:(t.bJ.take t.bJ.length).length=t.bJ.length:=congrArg List.length p;rcases b:t.bJ.take t.bJ.length with _|⟨y,M⟩
  ·rw[b]at p c;rw[cE b];refine ey<|fw.mk ⟨[(0,j)],200,_,_,rr,rr,rr,⟨fk.mk ⟨_,rr,fH s _,.inr rr⟩,trivial⟩,?_,?_⟩
   ·show _=PV.agg [st t.key,bo t.no,sl st t.bJ];rw[<-p];rfl
   ·rw[<-c];rfl
  ·rw[b]at p c;rw[cE b];refine ey<|fw.mk ⟨[(0,j)],(y::M).length+100,_,_,a_ (ke (a_ rr (a_ rr (a_ (dC (l:=y::M) rr rr gC.bL rr rr) rr)))) rr,rr,rr,⟨fk.mk ⟨_,rr,fH s _,.inr rr⟩,trivial⟩,?_,?_⟩
   ·show _=PV.agg [st t.key,bo t.no,sl st t.bJ];rw[<-p];rfl
   ·rw[<-c];rfl
set_option linter.all false in
theorem afr(a b c:Value)(w:World):CallsD prog 359 #[a,b,c] .returning w λe u w'=>u=.returning/\e=.returned (.tuple #[])/\w'=w:=by
 refine callsD_of_wpS func359 rr λf cs d=>?_
 apply wpS_seq;apply wpS_region;simp[wpOpsS,go_sem,recoverD,d,ntmps359,Exit.thenS];apply wpS_seq;apply wpS_region;simp[wpOpsS,go_sem,recoverD,d,ntmps359,Exit.thenS];refine wpS_cond (t:=false) (by simp_all [Act.eval]) ?_;simp only[O4,if_false];refine wpS_of_wp (wp_skip ?_);cases f;simp_all [bodyPostS,results]
def XN(e:List PV)(hp:e.length=3)(nx:Nat):py prog GT 359 e [] nx λr d=>r=.aU []/\d=[]:=
 py.ac5 (enters_of func359 rr rr) λvs w hv=>by
  rw[hp]at hv
  obtain⟨l⟩:=vs
  match l,hv with
  | [a,b,c],_=>grind [afr]
def YB:∀(s:BA) (x:bX),n_ s x=s++x.put:=λ_ _=>rfl
def ac7(s:BA)(P:Nat->Nat):List bX->List (Nat×aI)
 | []=>[(6,ny s (P 0)),(0,.rows 1 [.sl true []] true none 33)]
 |x::M=>[(6,ny s (P (M.length+1))),(0,.rows 1 [.aS 10 0 (M.length+1)] true none 33),(10,.rows 3 ((x::M).map bX.pv) true none 183)]
def bX.oJ(t:bX):Prop:=t.key.size<=32/\∀v∈t.bJ,v.size<=32
def bX.oJ.sz{t:bX}(h:t.oJ)(a:t.bJ.length<=4):t.Sz:=⟨om,by have:=h.1;omega,λv hv=>by have:=h.2 v hv;omega⟩
def aiF{s:BA}{i:Nat}{l:List bX}(h:At s i (oQ l))(w:mD l=true)(z:s.size<=gy)(j:∀t∈l,t.oJ):PC 311 [st s,i64 (i:Nat)] (·=.aU [sl bX.pv l,i64 ((i+(oQ l).size:Nat):Int),bo true]):=by
 refine vG func311 rr ?_;obtain⟨B,m⟩:=Cp w;unfold oQ at h⊢;rw[w]at h⊢;dsimp only at h⊢;refine bu.bH [6] (n:=200) (Rd (h.head YB) z 4 B om 6 _ rr) rr ⟨rr,trivial⟩ ?_;rw[<-At.whole];refine iV l.length (.of (λq=>l.take q) (λ_=>[]) [4,5,6,7,14] (ac7 s (eg n_ i (av (aG (l.length:Nat))) l)) [1,2]) (λ_=>True) trivial ?_ (λk C D=>?_) (λD=>?_)
 ·exact bP
 ·obtain⟨x,A⟩:=cw C;obtain⟨o,dE⟩:=h.sP YB A;have u:=fW A;have p:=i7 A;have r:=xK (m x p);have b:=j x p;have a:(l.take k).length=k:=by grind
  rcases d:l.take k with _|⟨y,M⟩
  ·rw[d]at u a;obtain rfl:k=0:=a.symm;rw[cE d];refine fi.bH [6] (n:=200) (Vh o z r b.1 b.2 6 _ rr) rr ⟨rr,trivial⟩<|aq.mk ⟨(eE uZ [] x om).1,λh=>(by cases h)⟩ ?_;refine az ?_;rw[<-dE];exact ck.of (v:=[x]) (sw 10 17) u trivial rfl<|eB ⟨⟨BB.br rr (fH s _),rr⟩,⟨BB.rn rr rr,rr⟩,⟨BB.br rr (uZ.cf [x]),rr⟩,trivial⟩
  ·rw[d]at u a;have a:k=M.length+1:=a.symm;subst a;rw[cE d];refine fi.bH [6] (n:=200) (Vh o z r b.1 b.2 6 _ rr) rr ⟨rr,trivial⟩<|dS.l (aq.mk (eE uZ (y::M) x om) ?_);refine az ?_;rw[<-dE];have e:(M++[x]).length+1=M.length+1+1:=by simp_all
   exact ck.of (v:=y::(M++[x])) (sw 10 17) u trivial rfl<|eB ⟨⟨BB.br (by show _=some (ny s (eg n_ i (av (aG (l.length:Nat))) l ((M++[x]).length+1)));rw[e];rfl) (fH s _),rr⟩,⟨BB.rn (by show _=some (aI.rows 1 [PV.aS _ 0 ((M++[x]).length+1)] true none _);rw[e];rfl) rr,rr⟩,⟨BB.br (by show some (aI.rows 3 ((y::M).map bX.pv++[bX.pv x]) true none _)=some (aI.rows 3 ((y::(M++[x])).map bX.pv) true none _);simp_all) (uZ.cf _),rr⟩,trivial⟩
 ·have c:l.take l.length=l:=s9;have f:(l.take l.length).length=l.length:=congrArg List.length c;have g:PC 195 [sl bX.pv l] (·=bo true):=w▸Jr l om λt c=>(j t c).sz (xK (m t c))
  rcases d:l.take l.length with _|⟨y,M⟩
  ·rw[d]at c f;rw[cE d];rw[<-c]at g;refine ak g rfl<|ab<|az<|pJ.mk ⟨[],_,trivial,XN _ rr _,?_⟩;rintro _ _ ⟨rfl,rfl⟩;exact⟨200,_,_,.inl rr,by rw[<-f,<-c];rfl⟩
  ·rw[d]at c f;rw[cE d];rw[<-c]at g;refine bu.by (n:=(y::M).length+100) g (a_ (dC (l:=y::M) rr rr uZ.bL rr rr) rr)<|ab<|az<|pJ.mk ⟨[],_,trivial,XN _ rr _,?_⟩;rintro _ _ ⟨rfl,rfl⟩;exact⟨(y::M).length+100,_,_,.inl (a_ (dC (l:=y::M) rr rr uZ.bL rr rr) (a_ rr (a_ rr rr))),by rw[<-f,<-c];rfl⟩
def bM.oJ(x:bM):Prop:=x.aa.size<=98/\∀t∈x.dv,t.oJ
def bM.oJ.sz{x:bM}(h:x.oJ)(c:mD x.dv=true):x.Sz:=by
 obtain⟨d,a⟩:=Cp c;have:=h.1;exact⟨om,om,λt b=>(h.2 t b).sz (xK (a t b))⟩
def O_{s:BA}{i:Nat}{x:bM}(h:At s i x.put)(w:x.check=0)(g:s.size<=gy)(a:x.oJ):PC 265 [st s,i64 (i:Nat)] (·=.aU [x.pv,i64 ((i+x.put.size:Nat):Int),bo true]):=by
 refine aw func265 ?_;obtain⟨G,q,tm,u,j,H⟩:=yc w;have o:=vn.1 q;have v:=vn.1 tm;have n:=vn.1 u;obtain⟨c,b⟩:∃c:Nat,x.count=(c:Int):=⟨x.count.toNat,om⟩;obtain⟨p,d⟩:∃p:Nat,x.bC=(p:Int):=⟨x.bC.toNat,om⟩;obtain⟨t,e⟩:∃t:Nat,x.dF=(t:Int):=⟨x.dF.toNat,om⟩;have k:x.put=bQ x.aa++cH x.cT++av (aG x.count)++av (aG x.bC)++av (aG x.dF)++oQ x.dv:=by
  grind [bM.put]
 rw[k]at h⊢;have I:=h.r;have y:=h.l;have J:=y.r;have z:=y.l;have K:=z.r;have A:=z.l;have L:=A.r;have h2:=A.l;have M:=h2.r;have N:=h2.l;have O:=qn (m:=98) N g (by have:=a.1;omega);have D:=tW M g;rw[show i+(bQ x.aa).size+(cH x.cT).size=i+(bQ x.aa++cH x.cT).size by grind]at D;have E:=ju L g;rw[show i+(bQ x.aa++cH x.cT).size+(av (aG x.count)).size=i+(bQ x.aa++cH x.cT++av (aG x.count)).size by grind,b,pE om,<-b]at E;have F:=ju K g;rw[show i+(bQ x.aa++cH x.cT++av (aG x.count)).size+(av (aG x.bC)).size=i+(bQ x.aa++cH x.cT++av (aG x.count)++av (aG x.bC)).size by grind,d,pE om,<-d]at F;have C:=ju J g;rw[show i+(bQ x.aa++cH x.cT++av (aG x.count)++av (aG x.bC)).size+(av (aG x.dF)).size=i+(bQ x.aa++cH x.cT++av (aG x.count)++av (aG x.bC)++av (aG x.dF)).size by grind,e,pE om,<-e]at C;have B:=aiF I j g a.2;rw[show i+(bQ x.aa++cH x.cT++av (aG x.count)++av (aG x.bC)++av (aG x.dF)).size+(oQ x.dv).size=i+(bQ x.aa++cH x.cT++av (aG x.count)++av (aG x.bC)++av (aG x.dF)++oQ x.dv).size by grind]at B;have P:PC 128 [x.pv] (·=i64 0):=w▸Av x (a.sz j);refine ak O rfl<|ab<|ak D rfl<|ab<|cV.nI 4<|dQ<|an<|ak E rfl<|c_<|c_<|aj.f (show¬(100:Int)<(c:Int)by omega)<|ab<|eL 1<|dQ ?_;refine an<|ak F rfl<|c_<|c_<|aj.f (show¬(100:Int)<(p:Int)by omega)<|ab<|eL 2<|dQ<|an<|ak C rfl<|c_<|c_<|aj.f (show¬(100:Int)<(t:Int)by omega)<|ab ?_;refine eL 3<|aE<|ab<|c_<|cj.intro x.count (wrap_i64 b.symm om)<|c_<|cj.intro x.bC (wrap_i64 d.symm om)<|c_<|cj.intro x.dF (wrap_i64 e.symm om)<|az<|ak B rfl<|ak P rfl<|aj.t rfl<|ab ?_;exact ah
def aii{a:List Value}{m:Int}(h:∀k∈a,∃n,k=Value.int .i64 n):wP a (.int .i64 m):=λk b=>by
 obtain⟨n,rfl⟩:=h k b
 show(match decide (IntKind.i64=IntKind.i64)with|true=>some (decide (m=n))|false=>none)≠none
 simp_all
def DX:List Value->Bool
 | []=>true
 |.int .i64 _::l=>DX l
 |_::_=>false
def Rq:∀{l:List Value},DX l=true->∀k∈l,∃n,k=Value.int .i64 n
 |.int .i64 n::l,h,k,a=>by
  rcases p9.1 a with rfl|a
  ·simp_all
  ·exact Rq (l:=l) h k a
def abR{a:List Value}{m:Int}(h:DX a=true):wP a (.int .i64 m):=aii (Rq h)
def aP{a:List Value}{m:Int}{k:Prop}(q:k)(h:DX a=true:=by exact rr):aq (wP a (.int .i64 m)) k:=⟨abR h,q⟩
def Kz{α:Type}(g:α->PV)(k:Int):∀L:List (Int×α),pc (L.map λe:Int×α=>Value.int .i64 e.1) (L.map λe:Int×α=>g e.2) (.int .i64 k)=(L.find? λe:Int×α=>decide (k=e.1)).map λe:Int×α=>g e.2
 | []=>rfl
 |e::L=>by
  rw[w9,w9,List.find?_cons]
  unfold pc
  show(match(match decide (IntKind.i64=IntKind.i64)with|true=>some (decide (k=e.1))|false=>none)with|some true=>some (g e.2)|_=>pc (L.map λe:Int×α=>Value.int .i64 e.1) (L.map λe:Int×α=>g e.2) (.int .i64 k))=_
  rw[l9 (p:=IntKind.i64=IntKind.i64) rfl]
  dsimp only
  cases decide (k=e.1)
  case true=>rfl
  exact Kz g k L
abbrev age:PV:=.mp (uT.map λe=>Value.int .i64 e.1) (uT.map λe=>e.2.pv)
def rT:PC 141 [] (·=age):=by
 refine aw func141<|aP<|aP<|aP<|aP<|aP<|aP<|aP<|aP<|aP<|aP<|aP<|aP<|aP ?_;exact ah
def sx(k:Int):pc (uT.map λe=>Value.int .i64 e.1) (uT.map λe=>e.2.pv) (.int .i64 k)=(gD k).map iJ.pv:=by
 rw[Kz iJ.pv];unfold gD;rw[Option.map_map];rfl
def ami(a b:bX)(c:a.bJ.length<=67108864):PC 363 [a.pv,b.pv] (·=bo (bX.same a b)):=by
 refine aw func363 ?_;unfold bX.same;refine aj.aN (λh1=>?_) (λh1=>?_)
 ·rw[show seq a.key b.key=true from h1];dsimp only;refine aj.aN (λh2=>?_) (λh2=>?_)
  ·rw[show(a.no==b.no)=true from h2];exact ak (agi a.bJ b.bJ c) rfl<|ah
  ·rw[show(a.no==b.no)=false from h2];exact ah
 ·rw[show seq a.key b.key=false from h1];exact ah
def al6(l m:List bX)(g:l.length<=67108864)(hv:∀t∈l,t.bJ.length<=67108864):PC 362 [sl bX.pv l,sl bX.pv m,.fn 363 []] (·=bo (ia bX.same l m)):=by
 refine aw func362<|aj.aN (λa=>?_) (λa=>?_)
 ·have a:l.length=m.length:=by
   grind
  refine ab<|iC ⟨⟨rr,rr,rr⟩,⟨rr,rr,rr⟩,rr,rr,rr⟩ l.length om ⟨λ_=>[],[1,2,15,16],λ_=>[],[]⟩ (λq=>ia bX.same l m=ia bX.same (l.drop q) (m.drop q)) rr (by show some _=_;simp_all) (λ_=>rfl) ⟨rr,rr,rr,rr,rr⟩ rr rr ?_ (λq hq c=>?_) (λc=>?_)
  ·exact bP
  ·obtain⟨x,e⟩:=cw hq;obtain⟨y,f⟩:=cw (l:=m) (k:=q) om;have d:=EE bX.same e f;refine bG e<|bG f<|ak (ami x y (hv x (i7 e))) rr ?_;cases b:bX.same x y
   ·rw[b]at d;refine an ?_;rw[c,d];exact ah
   rw[b]at d;exact ab<|ck.is id (c.trans d) rfl<|bP
  ·rw[c,r9 (j2 _),r9 (F2 a.symm)];exact ah
 ·have a:l.length≠m.length:=by
   grind
  refine an ?_;rw[Au a];exact ah
def anF(l m:List bX)(a:l.length<=67108864)(hv:∀t∈l,t.bJ.length<=67108864):PC 314 [sl bX.pv l,sl bX.pv m] (·=bo (ia bX.same l m)):=aw func314<|ak (al6 l m a hv) rfl<|ah
def xR(x y:V4):(decide ((x.a.toNat:Int)=(y.a.toNat:Int))&&(decide ((x.b.toNat:Int)=(y.b.toNat:Int))&&(decide ((x.c.toNat:Int)=(y.c.toNat:Int))&&(decide ((x.d.toNat:Int)=(y.d.toNat:Int))&&true))))=V4.same x y:=by grind [V4.same,qG]
def ah9(a b:bM)(h:a.Sz):PC 268 [a.pv,b.pv] (·=bo (bM.same a b)):=by
 refine aw func268 ?_;unfold bM.same;refine aj.aN (λh1=>?_) (λh1=>?_)
 ·rw[show seq a.aa b.aa=true from h1];dsimp only;refine aj.is (V4.same a.cT b.cT) (xR _ _) ?_;cases V4.same a.cT b.cT
  ·exact ah
  dsimp only;refine aj.aN (λh2=>?_) (λh2=>?_)
  ·rw[show decide (a.count=b.count)=true from h2];dsimp only;refine aj.aN (λc=>?_) (λc=>?_)
   ·rw[show decide (a.bC=b.bC)=true from c];dsimp only;refine aj.aN (λd=>?_) (λd=>?_)
    ·rw[show decide (a.dF=b.dF)=true from d];exact ak (anF a.dv b.dv h.2.1 λt e=>(h.2.2 t e).1) rfl<|ah
    ·rw[show decide (a.dF=b.dF)=false from d];exact ah
   ·rw[show decide (a.bC=b.bC)=false from c];exact ah
  ·rw[show decide (a.count=b.count)=false from h2];exact ah
 ·rw[show seq a.aa b.aa=false from h1];exact ah
structure gF(o:aC):Prop where
 aa:o.aa.size<=1000000
 x:o.x.Sz
 len:o.ao.length<=67108864
 gS:∀p∈o.ao,p.k.size<=1000000/\p.v.size<=1000000
def aj2(a b:aC)(h:gF a):PC 207 [a.pv,b.pv] (·=bo (aC.same a b)):=by
 refine aw func207 ?_;unfold aC.same;refine aj.is (decide (a.id=b.id)) (qG _ _) ?_;cases decide (a.id=b.id)
 ·exact ah
 dsimp only;refine aj.is (decide (a.n=b.n)) (qG _ _) ?_;cases decide (a.n=b.n)
 ·exact ah
 dsimp only;refine aj.aN (λh1=>?_) (λh1=>?_)
 ·rw[show seq a.aa b.aa=true from h1];dsimp only;refine aj.is (V4.same a.v b.v) (xR _ _) ?_;cases V4.same a.v b.v
  ·exact ah
  refine ak (ah9 a.x b.x h.x) rr ?_;cases bM.same a.x b.x
  ·exact ah
  exact ak (akF a.ao b.ao h.len) rfl<|ah
 ·rw[show seq a.aa b.aa=false from h1];exact ah
def UF{k:Int}{f:iJ}(h:gD k=some f):f∈[(⟨false,false,false,false,true,false⟩:iJ),⟨true,false,false,false,false,false⟩,⟨false,false,true,true,false,false⟩,⟨false,true,false,false,false,false⟩,⟨false,false,true,false,false,false⟩,⟨false,false,false,true,false,false⟩,⟨false,false,true,true,false,true⟩,⟨false,false,false,false,false,false⟩]:=by
 unfold gD at h;rw[H4]at h;obtain⟨e,b,rfl⟩:=h;have a:=x7 b;unfold uT iJ.z at a;simp only[p9,o7,H3]at a;rcases a with rfl|rfl|rfl|rfl|rfl|rfl|rfl|rfl|rfl|rfl|rfl|rfl|rfl<;>simp
def YY(o:aC){k:Int}(f:iJ)(h:gD k=some f):PC 208 [o.pv,f.pv] (·=(o.bare f).pv):=by
 refine aw func208 ?_;have a:=UF h;simp only[p9,o7,H3]at a;rcases a with rfl|rfl|rfl|rfl|rfl|rfl|rfl|rfl
 ·exact ab<|ab<|ab<|ab<|an<|ab<|ah
 ·exact an<|ab<|ab<|ab<|ab<|ab<|ah
 ·exact ab<|ab<|an<|an<|ab<|ab<|ah
 ·exact ab<|an<|ab<|ab<|ab<|ab<|ah
 ·exact ab<|ab<|an<|ab<|ab<|ab<|ah
 ·exact ab<|ab<|ab<|an<|ab<|ab<|ah
 ·exact ab<|ab<|an<|an<|ab<|an<|ah
 ·exact ab<|ab<|ab<|ab<|ab<|ab<|ah
def l_(o:aC)(h:gF o):PC 140 [o.pv] (·=bo o.right):=by
 refine aw func140<|aJ rT rfl<|aP<|el.is _ (sx o.kind) ?_;unfold aC.right;cases g:gD o.kind with
 |none=>
  dsimp only[Option.map];exact az<|az<|an<|ah
 |some f=>
  dsimp only[Option.map];refine az<|aJ (YY o f g) rfl<|aJ (aj2 o (o.bare f) h) rr ?_;cases o.same (o.bare f)
  ·exact az<|an<|ah
  obtain⟨a,b,c,d,x,e⟩:=f;cases x
  ·refine az<|ab<|aj.aN (λh1=>?_) (λh1=>?_)
   ·rw[show decide ((o.aa.size:Int)<=98)=true from h1];exact ak (xz o.ao h.len h.gS) rfl<|ah
   ·rw[show decide ((o.aa.size:Int)<=98)=false from h1];exact ah
  refine aJ (Av o.x h.x) rfl<|aj.aN (λh0=>?_) (λh0=>?_)
  ·rw[show decide (o.x.check=0)=true from h0];refine az<|ab<|aj.aN (λh1=>?_) (λh1=>?_)
   ·rw[show decide ((o.aa.size:Int)<=98)=true from h1];exact ak (xz o.ao h.len h.gS) rfl<|ah
   ·rw[show decide ((o.aa.size:Int)<=98)=false from h1];exact ah
  ·rw[show decide (o.x.check=0)=false from h0];exact az<|an<|ah
def XJ(o:aC):PC 226 [o.pv] (·=bo o.oM):=by
 refine aw func226 ?_;unfold aC.oM fJ;refine aj.aN (λh1=>?_) (λh1=>?_)
 ·rw[show decide ((1:Int)<=o.kind)=true from h1];refine aj.aN (λh2=>?_) (λh2=>?_)
  ·rw[show decide (o.kind<=(3:Int))=true from h2];exact ah
  ·rw[show decide (o.kind<=(3:Int))=false from h2];refine aj.aN (λa=>?_) (λa=>?_)
   ·rw[show decide ((9:Int)<=o.kind)=true from a];refine aj.aN (λb=>?_) (λb=>?_)
    ·rw[show decide (o.kind<=(13:Int))=true from b];exact ah
    ·rw[show decide (o.kind<=(13:Int))=false from b];exact ah
   ·rw[show decide ((9:Int)<=o.kind)=false from a];exact ah
 ·rw[show decide ((1:Int)<=o.kind)=false from h1];refine aj.aN (λa=>?_) (λa=>?_)
  ·rw[show decide ((9:Int)<=o.kind)=true from a];refine aj.aN (λb=>?_) (λb=>?_)
   ·rw[show decide (o.kind<=(13:Int))=true from b];exact ah
   ·rw[show decide (o.kind<=(13:Int))=false from b];exact ah
  ·rw[show decide ((9:Int)<=o.kind)=false from a];exact ah
abbrev GC(s:BA):aI:=.rows 1 [st s] true none 9
def Km(s:BA):dP [st s]:=λr a=>by rw[o6.1 a];rfl
theorem oP(b:Bool)(s t:BA):(h_ b s t).size<=s.size+t.size:=by
 cases b
 ·exact D3 _ _
 exact F2 (cD s t)
def xI(b:Bool)(s t:BA)(h:s.size+t.size<=9223372036854775807)(j nx:Nat)(a:Nat.beq nx j=false):LC 142 [bo b,st t,.lp j 0 0] [(j,GC s)] nx λr d=>r=.aU []/\d=[(j,some (GC (h_ b s t))),(j,none)]:=by
 refine fX (js:=[j]) (bs:=[GC s]) (args:=[bo b,st t,.lp 0 0 0]) func142 rr rr ?_ rr ⟨⟨rr,Km s⟩,trivial⟩ rr ?_
 ·grind [cW]
 cases b
 ·exact ab<|ey<|kY (0,j) rr rr (Km _)<|az rr
 exact an<|aq.mk h<|ey<|kY (0,j) rr rr (Km _)<|az rr
def QX(o:aC)(h:gF o):PC 65 [o.pv] (·=st o.put):=by
 refine aw func65<|ak (l_ o h) rr ?_;unfold aC.put;cases d:o.right with
 |false=>
  exact an<|ah
 |true=>
 refine ab ?_;dsimp only;refine aJ rT rfl<|aP<|el.is _ (sx o.kind) ?_;cases e:gD o.kind with
 |none=>
  exfalso;grind [aC.right]
 |some f=>
 dsimp only[Option.map];refine az<|aF (lN o.kind)<|ak (fg (aG o.kind)) rr ?_;have b:=(cv (aG o.kind)).2;have g:=(cv o.id).2;have i:=(cv o.n).2;have n3:=(gh o.aa).1;have n4:=jW o.v;have j:=CD h.x;have n6:=Ed h.gS;have hp:=h.aa;have z0:(av (aG o.kind)).size<=10:=b;generalize e0:av (aG o.kind)=s0 at z0⊢;have a:=oP f.id s0 (av o.id);refine aJ (fg o.id) rfl<|fi.bH [15] (n:=200) (xI f.id s0 (av o.id) om 15 _ rr) rr ⟨rr,trivial⟩<|az ?_;generalize e1:h_ f.id s0 (av o.id)=s1 at a⊢;have z2:=oP f.n s1 (av o.n);refine aJ (fg o.n) rfl<|fi.bH [15] (n:=200) (xI f.n s1 (av o.n) om 15 _ rr) rr ⟨rr,trivial⟩<|az ?_;generalize e2:h_ f.n s1 (av o.n)=s2 at z2⊢;have z3:=oP f.aa s2 (bQ o.aa);refine aJ (nX o.aa om) rfl<|fi.bH [15] (n:=200) (xI f.aa s2 (bQ o.aa) om 15 _ rr) rr ⟨rr,trivial⟩<|az ?_;generalize e3:h_ f.aa s2 (bQ o.aa)=s3 at z3⊢;have z4:=oP f.v s3 (cH o.v);refine aJ (th o.v) rfl<|fi.bH [15] (n:=200) (xI f.v s3 (cH o.v) om 15 _ rr) rr ⟨rr,trivial⟩<|az ?_;generalize e4:h_ f.v s3 (cH o.v)=s4 at z4⊢;have z5:=oP f.x s4 (o.x.put);refine aJ (Xz o.x h.x) rfl<|fi.bH [15] (n:=200) (xI f.x s4 (o.x.put) om 15 _ rr) rr ⟨rr,trivial⟩<|az ?_;generalize e5:h_ f.x s4 (o.x.put)=s5 at z5⊢;have c:=oP f.ao s5 (gq o.ao);refine aJ (Hw o.ao h.len h.gS) rfl<|fi.bH [15] (n:=200) (xI f.ao s5 (gq o.ao) om 15 _ rr) rr ⟨rr,trivial⟩<|az ?_;generalize e6:h_ f.ao s5 (gq o.ao)=s6 at c⊢;refine⟨200,_,_,.inl rr,?_⟩;subst e6 e5 e4 e3 e2 e1 e0;rfl
end
end Go.Proofs.YtbnonpbnhenkfaaGreatDoor
