/- The law TopSafe answers true at every input that its row admits: the card of the law, read off the walk of the whole law. Conditions: those of the given statement alone (the row, its reach and its laid variables); nothing is added. -/
import Derived.Test.YtbnonpbnhenkfaaGreatDoorQ12
import Derived.Test.YtbnonpbnhenkfaaGreatDoorQ13
import Derived.Test.YtbnonpbnhenkfaaGreatDoorQ14
import Derived.Test.YtbnonpbnhenkfaaGreatDoorQ15
import Derived.Test.YtbnonpbnhenkfaaGreatDoorTie
import Derived.ChangeOld
import Derived.Deep.CondSized
import Derived.Deep.DeepHandedRow
set_option linter.all false
set_option maxRecDepth 1000000
set_option maxHeartbeats 8000000
namespace Go.Proofs.YtbnonpbnhenkfaaGreatDoor
section
open Go.RowKit Go.Proofs.Tryz
def SV.pure{P:Program}{G:World->Prop}{M n nx m:Nat}{c:Code}{s:AS}{k:Ex->Nat->AS->Prop}(t:Nat){p r:PV}{l:List Nat}(d:s.bD t=some p)(f:bL [] m s.hp p=some (r,l))(h:SV P G M n c nx ⟨da s.bD t (some r),fx s.hp l⟩ k):SV P G M n c nx s k:=⟨λhG g a=>by
 refine h.h hG g (cx:=jc s.hp _ l) ⟨a.dT.fx l,a.size,λt' p' e=>?_,a.defers⟩
 by_cases b:t'=t
 ·subst b
  have e:da s.bD t' (some r) t'=some p':=e
  rw[fc]at e;cases e
  obtain⟨v,h1,h2⟩:=a.bD _ p d
  exact⟨v,h1,bW.ext _ (KF _ []) (Ay a.dT l m f (λ_ h=>h) h2)⟩
 ·have e:da s.bD t (some r) t'=some p':=e
  rw[fU _ _ b]at e
  obtain⟨v,h1,h2⟩:=a.bD _ _ e
  exact⟨v,h1,bW.ext _ (qV _ _ _) h2⟩⟩
def aht(c:List aO)(e:cK):∀n∈c,PC 162 [n.t.pv,.ip [.fn 83 [.ip e.pv.cells 0]] 0] (·=.aU [({n.t with d:=n.t.d.mZ e.n e.bx}:ay).pv,bn.z.pv]):=λn _=>
 UA n.t dx.one (abO n.t.d e)
def anv(c:List aO)(e:cK)(a:c.length<=60000000):PC 81 [sl aO.pv c,e.pv] (·=iX (ij c e.aD λt=>({t with d:=t.d.mZ e.n e.bx},bn.z))):=by
 refine Ga func81 rr rr (o9 rr)<|SV.seq cz cM<|SV.pure 3 (m:=200) rr rr (SV.of cz cM ?_);exact aJ (Mt (g:=83) (cs:=[.ip e.pv.cells 0]) dx.one) rfl<|aJ (CA c e.aD om dx.one (λt=>({t with d:=t.d.mZ e.n e.bx},bn.z)) (aht c e)) rfl<|az<|ah
end
section
open Go.RowKit
theorem Dp(t:cr){o:aC}(h:cN o):pU (fr t o):=by
 refine⟨cN.z,λk o' e=>?_,λe=>absurd (show(4:Int)=7 from e) (by decide)⟩;obtain⟨_,rfl⟩:=Lj e;exact h
def rW(e:cK)(a:cN e.o)(b:e.n<=1000000000):pU (e,none):=⟨a,λ_ _ h=>(by cases h),λ_=>b⟩
def Ev(x:bN):pU (x.fK true):=by
 have a:=qY x;have h0:(0:Int)<=1000000000:=by decide
 unfold bN.fK;generalize x.kind.toNat%24=k;unfold bN.eX;cases decide (k<4)with
 |true=>exact rW _ cN.z h0
 |false=>
 dsimp only;cases decide (k=4)&&true with
 |true=>exact rW _ cN.z (by grind)
 |false=>
 dsimp only;cases decide (k=5)&&true with
 |true=>exact rW _ cN.z h0
 |false=>
 dsimp only;cases decide (k=6)&&true with
 |true=>exact rW _ cN.z h0
 |false=>
 dsimp only;cases decide (k<10)&&true with
 |true=>exact rW _ cN.z h0
 |false=>
 dsimp only;cases decide (k=10)with
 |true=>exact rW _ cN.z (by simp_all)
 |false=>
 dsimp only;cases decide (k=11)with
 |true=>grind [Dp]
 |false=>
 dsimp only;cases decide (k=12)with
 |true=>grind [Dp]
 |false=>
 dsimp only;cases decide (k=13)with
 |true=>exact rW _ a h0
 |false=>
 dsimp only;cases(fA x.op).2 with
 |false=>exact rW _ a h0
 |true=>grind [Dp]
theorem akl(name:BA){o:aC}(h:cN o):pU (mJ name o):=by
 unfold mJ;cases decide (o.kind=3)
 case true=>grind [Dp]
 exact rW _ h (by show(0:Int)<=1000000000;decide)
theorem Uc{size:Int}(b:size<=1000000000)(name:BA):∀x∈rY size name,pU x:=λx a=>by
 rcases p9.1 a with rfl|a
 ·exact rW _ cN.z b
 grind [akl,Ce]
def KQ{size:Int}(b:size<=1000000000):∀x∈lr size,pU x:=λx a=>by
 rcases s8.1 a with a|a
 ·grind [Uc]
 grind [Uc]
def El{R:ay->ay×bn}(a:∀t,gk t->gk (R t).1):∀(l:List aW) {c:List aO},mc c->(∀x∈l,pU x)->mc (cY R c l).1
 | [],_,h,_=>h
 |x::l,c,h,b=>El a l (Jl a h (b x j6)) λy d=>b y (j3 _ d)
def Ab:mc []:=⟨by simp_all,λn a=>(o7 a).elim⟩
def JA{R:ay->ay×bn}(f:∀t,gk t->so R t){c:List aO}(b:mc c){x:aW}(g:pU x)(hp:gN x):me R c x:=by
 have h:c.length<=60000000:=by have:=b.len;omega
 exact⟨h,hp.iw,hp.ul,λn a=>by have:=(b.all n a).us.key;omega,hp.tX,λ_ k o e n a=>Gy (b.all n a) (g.ud k o e),λ_ n a=>Gy (b.all n a) g.op,λ_ n a=>Gy (b.all n a) FV,λn a=>(b.all n a).us.d,λ_=>anv c x.1 h,λ_ n a=>f n.t (b.all n a)⟩
def WS{R:ay->ay×bn}(c:∀t,gk t->gk (R t).1)(a:∀t,gk t->so R t)(l:List aW)(d:l.length<=60000000)(b:∀x∈l,pU x)(hp:∀x∈l,gN x):PC 13 [sl cq l] (·=.aU [sl aO.pv (cY R [] l).1,.sl false ((cY R [] l).2.map λr=>sl dg.pv r)]):=
 EF l d λq x hq=>JA a (El c (l.take q) Ab λy e=>b y (u6 e)) (b x (i7 hq)) (hp x (i7 hq))
def abW{s:af}{n:bR}{a v:V4}{l:List dt}{k:Nat}{x:dt}(f:l[k]? = some x)(h:o_ s n a (l.drop k)=some v):(seq x.node n.name=false/\o_ s n a (l.drop (k+1))=some v)\/(seq x.node n.name=true/\wC s n x=false/\∃b,a.add x.v=(b,true)/\o_ s n b (l.drop (k+1))=some v):=by
 obtain⟨c,rfl⟩:=c9.1 f;rw[o8 c]at h;unfold o_ at h;cases d:seq l[k].node n.name
 ·rw[d]at h;exact .inl ⟨rr,h⟩
 rw[d]at h;dsimp only at h;rcases e:a.add l[k].v with⟨b,_|_⟩
 ·rw[e]at h;cases h
 ·rw[e]at h;dsimp only at h;cases hp:wC s n l[k]
  case true=>rw[hp]at h;cases h
  rw[hp]at h;exact .inr ⟨rr,rr,b,rr,h⟩
def afd{s:af}{n:bR}{x:dt}(h:wC s n x=false):∃j,bK s.ae x.aZ=(j,true)/\j.bB=true/\V4.same x.v j.x.cT=true/\qX j.x.dv n.ao=true/\n.up=true:=by
 unfold wC at h;rcases c:bK s.ae x.aZ with⟨j,_|_⟩
 ·rw[c]at h;cases h
 ·rw[c]at h;dsimp only at h;cases a:j.bB
  ·rw[a]at h;cases h
  rw[a]at h;dsimp only at h;cases hv:V4.same x.v j.x.cT
  ·rw[hv]at h;cases h
  rw[hv]at h;dsimp only at h;cases b:qX j.x.dv n.ao
  ·rw[b]at h;cases h
  rw[b]at h;dsimp only at h;refine⟨j,rr,a,hv,b,?_⟩;cases d:n.up
  case true=>rfl
  rw[d]at h;cases h
def aga{aa:BA}{a v:V4}{l:List ax}{k:Nat}{j:ax}(f:l[k]? = some j)(h:nP aa a (l.drop k)=some v):(pd aa j=true/\nP aa a (l.drop (k+1))=some v)\/(pd aa j=false/\∃b,addN j.x.cT j.x.count.toNat a=some b/\nP aa b (l.drop (k+1))=some v):=by
 obtain⟨c,rfl⟩:=c9.1 f;rw[o8 c]at h;unfold nP at h;cases d:pd aa l[k]
 case true=>rw[d]at h;exact .inl ⟨rr,h⟩
 rw[d]at h;dsimp only at h;cases e:addN l[k].x.cT l[k].x.count.toNat a with
 |none=>rw[e]at h;cases h
 |some b=>rw[e]at h;exact .inr ⟨rr,b,rr,h⟩
def aa0{d a b:V4}{m:Nat}(h:addN d (m+1) a=some b):∃c,a.add d=(c,true)/\addN d m c=some b:=by
 unfold addN at h;rcases e:a.add d with⟨c,_|_⟩
 ·rw[e]at h;cases h
 ·rw[e]at h;exact⟨c,rr,h⟩
def aim{l:List ax}{id:UInt64}{j:ax}(h:bK l id=(j,true)):j∈l:=by
 have:=(oh (l:=l) (id:=id) (by rw[h])).1;rwa [h]at this
def abP{d a b:V4}{m q:Nat}(hq:q<m)(h:addN d (m-q) a=some b):∃c,a.add d=(c,true)/\addN d (m-(q+1)) c=some b:=by
 have e:m-q=(m-(q+1))+1:=om
 rw[e]at h;exact aa0 h
def N'{d a b:V4}{m:Nat}(h:addN d (m-m) a=some b):a=b:=by
 rw[G0]at h;exact z8 h
def UG{d a b:V4}{m q:Nat}(hq:q<m)(h:addN d (m-q) a=some b):(a.add d).2=true/\addN d (m-(q+1)) (a.add d).1=some b:=by
 obtain⟨c,h1,h2⟩:=abP hq h;rw[h1];exact⟨rr,h2⟩
def VA{x y:V4}(h:(x.add y).2=true):PC 36 [x.pv,y.pv] (·=.aU [(x.add y).1.pv,bo true]):=by
 have:=uX x y;rw[show v2 (x.add y)=.aU [(x.add y).1.pv,bo (x.add y).2]from rr,h]at this;exact this
structure Bx(s:af):Prop where
 n:∀n∈s.ar.al,∃v,o_ s n V4.z s.ar.places=some v/\v.db n.cap=true
 t:∀e∈s.aH,∃v,nP e.aa V4.z s.ae=some v/\V4.same v e.b_=true/\v.db e.bI=true
 j:∀j∈s.ae,((s.ar.of j.id).length:Int)=match j.bB with|true=>j.x.count|false=>0
 f:(cO s.aH aA).2=true
def Zr{s:af}(h:yf s=true):Bx s:=by
 unfold yf at h;cases h1:s.ar.al.all (zp s)
 ·rw[h1]at h;cases h
 rw[h1]at h;dsimp only at h;cases h2:s.aH.all (yG s)
 ·rw[h2]at h;cases h
 rw[h2]at h;dsimp only at h;cases a:s.ae.all (Cy s)
 ·rw[a]at h;cases h
 rw[a]at h;refine⟨λn c=>?_,λe d=>?_,λj f=>?_,h⟩
 ·have:=A3.1 h1 n c;unfold zp at this;cases hv:o_ s n V4.z s.ar.places with
  |none=>rw[hv]at this;cases this
  |some v=>rw[hv]at this;exact⟨v,rr,this⟩
 ·have:=A3.1 h2 e d;unfold yG at this;cases hv:nP e.aa V4.z s.ae with
  |none=>rw[hv]at this;cases this
  |some v=>
   rw[hv]at this;dsimp only at this;cases b:V4.same v e.b_
   ·rw[b]at this;cases this
   rw[b]at this;exact⟨v,rr,b,this⟩
 ·have:=A3.1 a j f;exact j5 this
structure CH(s:af):Prop where
 al:s.ar.al.length<=1000000
 places:s.ar.places.length<=1000000
 aH:s.aH.length<=1000000
 ae:s.ae.length<=1000000
 aZ:∀j∈s.ae,j.x.Sz
 ao:∀n∈s.ar.al,n.ao.length<=67108864
 fp:∀j∈s.ae,0<=j.x.count/\j.x.count<=1000000
end
section
open Go.RowKit Go.Proofs.Tryz
def ai8(s:af)(h:Bx s)(f:CH s):{Q:Prop//Hid Q->PC 16 [s.pv] (·=bo true)}:=⟨_,λU=>by
 have V:(s.ar.al.map bR.pv).length=s.ar.al.length:=c8 ..
 have mp:(s.ar.places.map dt.pv).length=s.ar.places.length:=c8 ..
 have mt:(s.aH.map aB.pv).length=s.aH.length:=c8 ..
 have Y:(s.ae.map ax.pv).length=s.ae.length:=c8 ..
 have K:=f.al
 have L:=f.places
 have M:=f.aH
 have N:=f.ae
 refine aw func16<|cV.bA (ι:={i:Nat//i<=s.ar.al.length}) ⟨λp=>[(3,i64 p.1)],[1],λ_=>[],[0]⟩ (λp=>s.ar.al.length-p.1) ⟨0,j9 _⟩ ?_ ?_
 ·exact bP
 rintro⟨i,hi⟩
 refine aj.aN (λh1=>?_) (λh1=>?_)
 ·have l:i<s.ar.al.length:=by
   have h1:(i:Int)<((s.ar.al.map bR.pv).length:Nat):=j5 h1
   omega
  obtain⟨n,g⟩:∃n,s.ar.al[i]? = some n:=cw l
  have m:=i7 g
  obtain⟨v,hv,o⟩:=h.n n m
  refine an<|cV.bA (ι:={p:Nat×V4//p.1<=s.ar.places.length/\o_ s n p.2 (s.ar.places.drop p.1)=some v}) ⟨λp=>[(5,i64 p.1.1)],[1,3,4],λp=>[(10,.rows 4 [p.1.2.pv] true none 32)],[0]⟩ (λp=>s.ar.places.length-p.1.1) ⟨(0,V4.z),j9 _,hv⟩ ?_ ?_
  ·exact bP
  rintro⟨⟨k,a⟩,O,y⟩
  dsimp only at O y
  refine aj.aN (λh2=>?_) (λh2=>?_)
  ·have c:k<s.ar.places.length:=by
    have h2:(k:Int)<((s.ar.places.map dt.pv).length:Nat):=j5 h2
    omega
   obtain⟨x,A⟩:∃x,s.ar.places[k]? = some x:=cw c
   rcases n with⟨name,cap,ao,up⟩
   rcases x with⟨aZ,node,S⟩
   rcases abW A y with⟨B,d⟩|⟨B,C,b,D,d⟩
   ·refine an<|bG A<|bG g<|aj.is false B<|az<|an<|aF (dq k)<|⟨⟨(k+1,a),c,d⟩,id,by show s.ar.places.length-(k+1)<s.ar.places.length-k;omega,?_⟩
    exact bP
   ·obtain⟨j,F,G,q,H,r⟩:=afd C
    have E:=(aim F)
    have I:=uX a S
    rw[D]at I
    have J:=xZ s aZ om
    rw[F]at J
    rcases j with⟨T,R,W,X⟩
    have u:=f.aZ _ E
    have e:=YA R.dv ao u.2.1 (f.ao _ m) λt P=>(u.2.2 t P).1
    dsimp only at G H q r e
    rw[H]at e
    subst G
    subst r
    refine an<|bG A<|bG g<|aj.is true B<|az<|ab<|ak I rfl<|ak J rfl<|aj.is true ((xR _ _).trans q)<|bG g<|aJ e rfl<|bG g<|az<|ab ?_
    refine aF (dq k)<|⟨⟨(k+1,b),c,d⟩,id,by show s.ar.places.length-(k+1)<s.ar.places.length-k;omega,?_⟩
    exact bP
  ·have h2:k=s.ar.places.length:=by
    have h2:¬(k:Int)<((s.ar.places.map dt.pv).length:Nat):=j4 h2
    omega
   subst h2
   rw[r9 (j2 _)]at y
   obtain rfl:a=v:=z8 y
   have w:=uY a n.cap
   rw[o]at w
   rcases n with⟨name,cap,ao,up⟩
   refine ab<|bG g<|aJ w rfl<|az<|ab<|aF (dq i)<|⟨⟨i+1,l⟩,id,by show s.ar.al.length-(i+1)<s.ar.al.length-i;omega,?_⟩
   exact bP
 ·have h1:i=s.ar.al.length:=by
   have h1:¬(i:Int)<((s.ar.al.map bR.pv).length:Nat):=j4 h1
   omega
  subst h1
  obtain rfl:hi=j2 _:=rfl
  exact U.out⟩
end
section
open Go.RowKit
def aaP(s:af)(h:Bx s)(B:CH s):{Q:Prop//Hid Q->PC 16 [s.pv] (·=bo true)}:=⟨_,λq0=>by
 have mn:(s.ar.al.map bR.pv).length=s.ar.al.length:=c8 ..
 have mp:(s.ar.places.map dt.pv).length=s.ar.places.length:=c8 ..
 have mt:(s.aH.map aB.pv).length=s.aH.length:=c8 ..
 have mj:(s.ae.map ax.pv).length=s.ae.length:=c8 ..
 have W:=B.al
 have X:=B.places
 have Y:=B.aH
 have Z:=B.ae
 refine(ai8 s h B).2 (Lib.hid ?_)
 refine ab<|cV.bA (ι:={i:Nat//i<=s.aH.length}) ⟨λp=>[(11,i64 p.1),(1,.lp 0 0 0)],[],λ_=>[(0,.rows 11 [s.pv] true none 74)],[]⟩ (λp=>s.aH.length-p.1) ⟨0,j9 _⟩ ?_ ?_
 ·exact bP
 rintro⟨i,hi⟩
 refine aj.aN (λh1=>?_) (λh1=>?_)
 ·have J:i<s.aH.length:=by
   have h1:(i:Int)<((s.aH.map aB.pv).length:Nat):=j5 h1
   omega
  obtain⟨e,y⟩:∃e,s.aH[i]? = some e:=cw J
  have T:=i7 y
  obtain⟨v,hv,G,K⟩:=h.t e T
  refine an<|cV.bA (ι:={p:Nat×V4//p.1<=s.ae.length/\nP e.aa p.2 (s.ae.drop p.1)=some v}) ⟨λp=>[(13,i64 p.1.1),(1,.lp 0 0 0),(11,i64 i),(12,.lp 16 0 0)],[],λp=>[(0,.rows 11 [s.pv] true none 74),(16,.rows 4 [p.1.2.pv] true none 32)],[]⟩ (λp=>s.ae.length-p.1.1) ⟨(0,V4.z),j9 _,hv⟩ ?_ ?_
  ·exact bP
  rintro⟨⟨k,a⟩,hk,L⟩
  dsimp only at hk L
  refine aj.aN (λh2=>?_) (λh2=>?_)
  ·have l:k<s.ae.length:=by
    have h2:(k:Int)<((s.ae.map ax.pv).length:Nat):=j5 h2
    omega
   obtain⟨j,H⟩:∃j,s.ae[k]? = some j:=cw l
   have M:=i7 H
   have U:=B.fp j M
   have N:=(B.aZ j M).1
   have r:=aga H L
   rcases e with⟨aa,iv,us⟩
   rcases j with⟨w,⟨jp,g,fp,bC,dF,dv⟩,V,S⟩
   dsimp only at U N r L
   obtain⟨m,rfl⟩:∃m:Nat,fp=(m:Int):=⟨fp.toNat,om⟩
   rw[x8]at r
   have O:pd aa ⟨w,⟨jp,g,(m:Int),bC,dF,dv⟩,V,S⟩=true->nP aa a (s.ae.drop (k+1))=some v:=λq=>by
    rcases r with⟨_,x⟩|⟨x,_⟩
    ·exact x
    ·rw[q]at x;cases x
   have A:pd aa ⟨w,⟨jp,g,(m:Int),bC,dF,dv⟩,V,S⟩=false->∃b,addN g m a=some b/\nP aa b (s.ae.drop (k+1))=some v:=λq=>by
    rcases r with⟨x,_⟩|⟨_,x⟩
    ·rw[q]at x;cases x
    ·exact x
   have u:=AK aa jp N
   cases V
   ·have d:=O (by unfold pd;dsimp only)
    refine an<|bG H<|az<|an<|aF (dq k)<|⟨⟨(k+1,a),l,d⟩,id,by show s.ae.length-(k+1)<s.ae.length-k;omega,?_⟩
    exact bP
   cases I:seq aa aA
   case true=>
    obtain⟨b,n,d⟩:=A (by unfold pd;dsimp only;rw[I])
    refine an<|bG H<|bG y<|aj.is true I<|az<|ab<|cV.bA (ι:={p:Nat×V4//p.1<=m/\addN g (m-p.1) p.2=some b}) ⟨λp=>[(15,i64 p.1.1),(1,.lp 0 0 0),(11,i64 i),(12,.lp 16 0 0),(13,i64 k),(14,.lp 29 0 0)],[],λp=>[(0,.rows 11 [s.pv] true none 74),(16,.rows 4 [p.1.2.pv] true none 32),(29,.rows 12 [(⟨w,⟨jp,g,(m:Int),bC,dF,dv⟩,true,S⟩:ax).pv] true none 90)],[]⟩ (λp=>m-p.1.1) ⟨(0,a),j9 _,n⟩ ?_ ?_
    ·exact bP
    rintro⟨⟨q,c⟩,hq,C⟩
    dsimp only at hq C
    refine aj.aN (λD=>?_) (λD=>?_)
    ·have f:q<m:=fE D
     have o:=UG f C
     have E:=VA o.1
     refine an<|ak E rfl<|ab<|aF (dq q)<|⟨⟨(q+1,(c.add g).1),f,o.2⟩,id,by show m-(q+1)<m-q;omega,?_⟩
     exact bP
    ·have f:q=m:=by
      have:¬q<m:=jN D
      omega
     have F:c=b:=N' (m:=m) (f▸C)
     rw[<-F]at d
     refine ab<|aF (dq k)<|⟨⟨(k+1,c),l,d⟩,id,by show s.ae.length-(k+1)<s.ae.length-k;omega,?_⟩
     exact bP
   cases R:pg aa jp
   ·rw[R]at u
    have d:=O (by unfold pd;dsimp only;rw[I,R];rfl)
    refine an<|bG H<|bG y<|aj.is false I<|bG y<|aJ u rfl<|az<|an<|aF (dq k)<|⟨⟨(k+1,a),l,d⟩,id,by show s.ae.length-(k+1)<s.ae.length-k;omega,?_⟩
    exact bP
   rw[R]at u
   obtain⟨b,n,d⟩:=A (by unfold pd;dsimp only;rw[I,R];rfl)
   refine an<|bG H<|bG y<|aj.is false I<|bG y<|aJ u rfl<|az<|ab<|cV.bA (ι:={p:Nat×V4//p.1<=m/\addN g (m-p.1) p.2=some b}) ⟨λp=>[(15,i64 p.1.1),(1,.lp 0 0 0),(11,i64 i),(12,.lp 16 0 0),(13,i64 k),(14,.lp 29 0 0)],[],λp=>[(0,.rows 11 [s.pv] true none 74),(16,.rows 4 [p.1.2.pv] true none 32),(29,.rows 12 [(⟨w,⟨jp,g,(m:Int),bC,dF,dv⟩,true,S⟩:ax).pv] true none 90)],[]⟩ (λp=>m-p.1.1) ⟨(0,a),j9 _,n⟩ ?_ ?_
   ·exact bP
   rintro⟨⟨q,c⟩,hq,C⟩
   dsimp only at hq C
   refine aj.aN (λD=>?_) (λD=>?_)
   ·have f:q<m:=fE D
    have o:=UG f C
    have E:=VA o.1
    refine an<|ak E rfl<|ab<|aF (dq q)<|⟨⟨(q+1,(c.add g).1),f,o.2⟩,id,by show m-(q+1)<m-q;omega,?_⟩
    exact bP
   ·have f:q=m:=by
     have:¬q<m:=jN D
     omega
    have F:c=b:=N' (m:=m) (f▸C)
    rw[<-F]at d
    refine ab<|aF (dq k)<|⟨⟨(k+1,c),l,d⟩,id,by show s.ae.length-(k+1)<s.ae.length-k;omega,?_⟩
    exact bP
  ·have h2:k=s.ae.length:=by
    have h2:¬(k:Int)<((s.ae.map ax.pv).length:Nat):=j4 h2
    omega
   subst h2
   rw[r9 (j2 _)]at L
   obtain rfl:a=v:=z8 L
   have P:=uY a e.bI
   rw[K]at P
   rcases e with⟨aa,iv,us⟩
   refine ab<|bG y<|aj.is true ((xR _ _).trans G)<|bG y<|aJ P rfl<|az<|ab<|aF (dq i)<|⟨⟨i+1,J⟩,id,by show s.aH.length-(i+1)<s.aH.length-i;omega,?_⟩
   exact bP
 ·have h1:i=s.aH.length:=by
   have h1:¬(i:Int)<((s.aH.map aB.pv).length:Nat):=j4 h1
   omega
  subst h1
  obtain rfl:hi=j2 _:=rfl
  exact q0.out⟩
def GQ(s:af)(h:Bx s)(d:CH s):PC 16 [s.pv] (·=bo true):=by
 have x:(s.ae.map ax.pv).length=s.ae.length:=c8 ..;have n:=d.al;have o:=d.places;have q:=d.aH;have r:=d.ae;have e:=Eg s.aH aA om;rw[h.f]at e;refine(aaP s h d).2 (Lib.hid ?_);refine ab<|cV.bA (ι:={i:Nat//i<=s.ae.length}) ⟨λp=>[(18,i64 p.1),(1,.lp 0 0 0)],[],λ_=>[(0,.rows 11 [s.pv] true none 74)],[]⟩ (λp=>s.ae.length-p.1) ⟨0,j9 _⟩ ?_ ?_
 ·exact bP
 rintro⟨i,hi⟩;refine aj.aN (λh1=>?_) (λh1=>?_)
 ·have a:i<s.ae.length:=by
   have h1:(i:Int)<((s.ae.map ax.pv).length:Nat):=j5 h1;omega
  obtain⟨j,c⟩:∃j,s.ae[i]? = some j:=cw a;have l:=i7 c;have k:=h.j j l;rcases j with⟨b,⟨jp,v,fp,bC,dF,dv⟩,u,w⟩
  dsimp only at k;have g:=NZ s.ar b om;have m:((s.ar.of b).map st).length=(s.ar.of b).length:=c8 ..;rw[<-m]at k;cases u
  case true=>
   refine an<|bG c<|an<|bG c<|bG c<|aJ g rfl<|aj.t k<|az<|ab<|aF (dq i)<|⟨⟨i+1,a⟩,id,by show s.ae.length-(i+1)<s.ae.length-i;omega,?_⟩;exact bP
  refine an<|bG c<|ab<|bG c<|aJ g rfl<|aj.t k<|az<|ab<|aF (dq i)<|⟨⟨i+1,a⟩,id,by show s.ae.length-(i+1)<s.ae.length-i;omega,?_⟩;exact bP
 ·exact ab<|ak e rfl<|ah
end
section
open Go.RowKit Go.Proofs.Tryz
def ft.sf{s:af}(h:ft s):CH s:=by
 have a:=h.i.sz;refine⟨by have:=a.al;omega,by have:=a.places;omega,by have:=a.aH;omega,by have:=a.ae;omega,λj b=>(a.spec j b).1,a.ao,λj b=>?_⟩;have:=vn.1 (yc (h.f.k.eZ.mh j b)).2.1;omega
def mc.GQ{c:List aO}(h:mc c){n:aO}(a:n∈c):PC 16 [n.t.s.pv] (·=bo true):=Go.Proofs.YtbnonpbnhenkfaaGreatDoor.GQ n.t.s (Zr (h.all n a).ti.s.f.F_) (h.all n a).ti.s.sf
def anq(room:Nat)(t:room<65536)(l:List bN)(B:l.length<=9223372036854775807):PC 4 [.at (.int .u16 (room:Int)),sl bN.pv l] (·=bo true):=by
 obtain⟨size,u,g⟩:∃size:Int,size=600+((room%20000:Nat):Int)/\size<=1000000000:=⟨_,rfl,om⟩;have a:=WS xS BW (lr size) (by show 21<=60000000;omega) (KQ g) (JC size);have d:=El xS (lr size) Ab (KQ g);generalize(cY RS [] (lr size)).1=c at a d;generalize((cY RS [] (lr size)).2.map λr=>sl dg.pv r)=rs at a;have v:(l.map bN.pv).length=l.length:=c8 ..;refine aw func4<|ak Wg rfl<|ab<|cj.intro (room:Int) (wrap_i64 rr om)<|c_<|cj.intro ((room%20000:Nat):Int) (by show(room:Int).tmod 20000=_;rw[H7 om];omega)<|cj.intro size (wrap_i64 om om)<|bu.bH [] (n:=200) (Ks size _) rr trivial<|bu.by (n:=21+100) a (a_ (dC (f:=cq) (l:=lr size) rr rr Aa (n:=57) rr rr) rr)<|cV.bA (ι:={p:Nat×List aO//p.1<=40/\mc p.2}) ⟨λp=>[(8,i64 p.1.1),(6,sl aO.pv p.1.2),(1,sl bN.pv l),(5,bo true)],[],λ_=>[],[]⟩ (λp=>40-p.1.1) ⟨(0,c),j9 _,d⟩ ?_ ?_
 ·exact bP
 rintro⟨⟨q,c⟩,hq,j⟩;dsimp only at hq j;refine aj.aN (λh1=>?_) (λh1=>?_);rotate_left
 ·exact ab<|ah
 have h1:q<l.length:=by
  have h1:(q:Int)<((l.map bN.pv).length:Nat):=j5 h1;omega
 refine aj.aN (λh2=>?_) (λh2=>?_);rotate_left
 ·exact ab<|ah
 have h2:q<40:=by
  have h2:(q:Int)<40:=j5 h2;omega
 obtain⟨x,w⟩:∃x,l[q]? = some x:=cw h1;have h:=Vc (JA BW j (Ev x) (ID x true));have b:=Jl xS j (Ev x);have i:=Ko x true;rcases m:dj RS c (x.fK true).1 (x.fK true).2 with⟨c2,D⟩
 rw[m]at h b;dsimp only at b;have y:=b.len;have z:(c2.map aO.pv).length=c2.length:=c8 ..;refine an<|bG w<|ak i rfl<|ak h rfl<|cV.bA (ι:={k:Nat//k<=c2.length}) ⟨λp=>[(9,i64 p.1),(1,sl bN.pv l),(5,bo true),(6,sl aO.pv c2),(8,i64 q)],[],λ_=>[],[]⟩ (λp=>c2.length-p.1) ⟨0,j9 _⟩ ?_ ?_
 ·exact bP
 rintro⟨k,C⟩;refine aj.aN (λo=>?_) (λo=>?_)
 ·have e:k<c2.length:=by
   have o:(k:Int)<((c2.map aO.pv).length:Nat):=j5 o;omega
  have A:c2[k]? = some c2[k]:=j8 e;have s:=b.GQ (List.getElem_mem e);refine an<|bG A<|ak s rfl<|ab<|aF (dq k)<|⟨⟨k+1,e⟩,id,by show c2.length-(k+1)<c2.length-k;omega,?_⟩;exact bP
 ·refine ab<|aF (dq q)<|⟨⟨(q+1,c2),h2,b⟩,id,by show 40-(q+1)<40-q;omega,?_⟩;exact bP
end
end Go.Proofs.YtbnonpbnhenkfaaGreatDoor
section
namespace Go.Proofs.YtbnonpbnhenkfaaGreatDoor.topSafe
open Go.Proofs.Tryz
open Go.ChangeShapes Go.WideShapes Go.ChangeAt Go.RowKit Go.Proofs.Tryz
def zV{n:Int}(h:(Lit.int .u16 n).wf=true):0<=n/\n<=65535:=by
 simp only[Lit.wf,y7,J7]at h;exact⟨h.1,h.2⟩
def own:ownKnob prog.godebug=none:=by kernel_rfl
def vB:laidOutB prog=true:=by kernel_rfl
def Gi(H:Type)(enc:TypeId×Value->H)(W:World)(bZ:Nat)(args:Array Value)(ds gs:List (DataW H))(nh:List MemPlace)
 (a:∀(j:Nat) t v,f4.params[j]? = some t->args[j]? = some v->Value.okWide prog W .any bZ t v)
 (A:DataW.Whole enc prog f4.params.toList Rows.topSafeSpec.vars false W args.toList ds gs nh) (G:laidMetH prog Rows.topSafeRow.laid W) (i:W.ShapedOpen prog):
 Calls prog 4 args W λe W'=>∃v,e=.returned v/\Rows.topSafeSpec.post enc prog f4 false true false false W args v W':=by
 have k:=A
 obtain⟨p,q,f,I,rfl,J,K⟩:=A
 have B:DataW.TrodAll enc prog W 0 (λ_=>true) true f4.params.toList args.toList ds p:=f
 rw[params4]at B a
 obtain⟨v0,T,d0,U,P,V,w,rfl,rfl,h0,r0⟩:=trodAll_cons B
 obtain⟨v1,R,d1,S,Q,X,rfl,rfl,rfl,h1,r1⟩:=trodAll_cons r0
 obtain⟨rfl,rfl,rfl⟩:=trodAll_nil r1
 obtain rfl:args=#[v0,v1]:=by cases args;simp_all
 obtain⟨rfl,rfl⟩:=trodVars_none I
 have F:=h0
 have u:∀x∈P,x.block<W.heap.size:=by obtain⟨m,o⟩:=F;exact DataW.trod_lt m _ _ _ o
 have E:=h1
 have z:∀x∈Q,x.block<W.heap.size:=by obtain⟨m,o⟩:=E;exact DataW.trod_lt m _ _ _ o
 obtain⟨a0,rfl,rfl,rfl,w0⟩:=open_int underlying22 (a 0 22 v0 rfl rfl) h0
 obtain⟨y,rfl⟩:∃n:Nat,a0=(n:Int):=⟨a0.toNat,by have:=zV w0;omega⟩
 have s:y<65536:=by have:=zV w0;omega
 clear f
 have c:v1.cells=#[v1]:=by
  have h1:=a 1 _ v1 rr rr
  simp only[Value.okWide,underlying23,Cell.okWide,Cell.ok]at h1
  cases v1<;>first|rfl|simp_all
 obtain⟨D,C⟩:=h1
 rw[c]at C
 obtain⟨l,L,g⟩:=IC C
 have M:jz W:=Nt G i
 refine((anq y s l L).2 W (λb _=>b<W.heap.size) [.int .u16 (y:Int),v1] M (λ_ _ h=>h) ⟨_,[v1],rr,⟨rr,rr⟩,⟨v1,[],rr,g,rr⟩⟩).mono λe W' ⟨r,v,N,O,hv,d⟩=>?_
 subst N
 subst O
 obtain⟨rfl,_⟩:=hv
 exact⟨_,rr,_,_,_,[],_,[],k,trodAll_mk1 (shut_bool underlying4 _),(trodAll_cons_mk (Below.trod vB (by kernel_rfl) (j5 (by kernel_rfl)) F d u) (trodAll_cons_mk (Below.trod vB (by kernel_rfl) (j5 (by kernel_rfl)) E d z) trodAll_mk0)),rr,d.frame _,λh=>by cases h⟩
def Ft(l:List Value)(o:Obj):Obj:=match o with
 |.cells _ t frozen=>.cells l.toArray t frozen
 |o=>o
def zC:List (Nat×List Value)->Array Obj->Array Obj
 | [],h=>h
 |x::l,h=>zC l (h.modify x.1 (Ft x.2))
def Lg:List Int:=[128,191,160,191,128,159,144,191,128,143]++List.replicate 22 0
def FQ:List (Nat×List Value):=[(8,Lg.map (Value.int .u8)),(7,Pinned.utf8FirstZ.map fun n=>Value.int .u8 ((n:Nat):Int))]++jY
noncomputable def wt(os:Os):World:=
 {World.holding prog os ⟨#[],#[],[]⟩with heap:=zC FQ (World.holding prog os ⟨#[],#[],[]⟩).heap}
theorem KV(os:Os):laidMet Tryz.prog Rows.topSafeRow.laid ((wt os).forCall (fun _ _=>0) ⟨#[],#[.int .u16 0,.slice none 0 0],[]⟩).memory:=
 laidMet_of_run' 8 (by kernel_rfl) (by kernel_rfl)
end Go.Proofs.YtbnonpbnhenkfaaGreatDoor.topSafe
end
section
namespace Go.Proofs.YtbnonpbnhenkfaaGreatDoor.topSafe
open Go.Proofs.Tryz
open Go.ChangeShapes Go.WideShapes Go.ChangeAt Go.RowKit Go.Proofs.Tryz
def reads(os:Os){H:Type}(enc:TypeId×Value->H):∃places,DataW.whole enc prog ((wt os).forCall (λ_ _=>0) ⟨#[],#[.int .u16 0,.slice none 0 0],[]⟩).memory f4.params.toList Rows.topSafeSpec.vars false (#[.int .u16 0,.slice none 0 0]:Array Value).toList 8=some ([.lit (.int .u16 0),.nil],[],places):=
 ⟨[],by kernel_rfl⟩
def lifted(os:Os)(started:os.Started)(H:Type)(enc:TypeId×Value->H)(F:Stop.Interp):
 ReturnsInHanded {} checked os 4 .any ((OpenSpec.ofChange Rows.topSafeSpec).preRow enc prog f4 Rows.topSafeRow.domain false Rows.topSafeRow.laid) (((OpenSpec.ofChange Rows.topSafeSpec).at F).post enc prog f4 false true false false):=by
 obtain⟨places,c⟩:=reads os enc
 refine returnsInHanded_of_row (C:=checked) (s:=OpenSpec.ofChange Rows.topSafeSpec) own started (by kernel_rfl) func4
  (witness_row_at (enc:=enc) (C:=checked) false (wt os) #[.int .u16 0,.slice none 0 0] rr (by kernel_rfl) (by kernel_rfl) (by kernel_rfl)
    (OpenSpec.preRow_of_cond 8 c (by kernel_rfl) (λk d=>by cases d) (by kernel_rfl) (KV os))) ?_
 intro W bZ args ds gs nh a e _ hcond f g b _
 exact Gi H enc W bZ args ds gs nh a e g b
def aT{a b:Bool}(h1:a=true)(h2:b=true):(a&&b)=true:=by rw[h1,h2];rfl
def aL{a b:Bool}(h:(a&&b)=true):a=true:=(y7 a b▸h).1
def aR{a b:Bool}(h:(a&&b)=true):b=true:=(y7 a b▸h).2
def closed:joinedFacts prog 4 f4 Rows.topSafeSpec Rows.topSafeRow=true:=by
 unfold joinedFacts;exact aT (aT (aT (aT (aT (aT (aT (aT (aT (aT (aT (aT (aT (aT (aT (aT (aT (aT (aT (aT (aT (aT (aT (aT (aT (aT (aT c1 rr) c2) rr) c3) c4) c5) c6) c7) d1) d2) d3) d4) e1) (aL (aL (aL e2)))) (aR (aL (aL e2)))) (aR (aL e2))) (aR e2)) d5) d6) e3) e4) e5) e6) rr) e7) e8) e9
def Fu:Rows.TopSafeSaid:=
 OpenClaim.holds_of_cond 4 f4 rr rr rr rr rr rr rr ⟨rr,rr,rr,rr,rr⟩ rr rr rr rr rr d8 func4 closed d9 KY
  (λos started H enc _ F=>by rw[OpenClaim.pre_eq_preRow];exact lifted os started H enc F)
end Go.Proofs.YtbnonpbnhenkfaaGreatDoor.topSafe
end
section
namespace Go.Proofs.YtbnonpbnhenkfaaGreatDoor.topSafe
open Go.Proofs.Tryz
open Go.RowKit Go.Proofs.Tryz
theorem E_{P:Program}(h:P.funcs.any Func.goes=false)(f:FuncId):P.goes f=false:=by
 have h2:∀g:FuncId,((P.funcs[g]?:Option Func)).any Func.goes=false:=by
  intro g;cases e:P.funcs[g]? with
  |none=>rfl
  |some fn=>
   have hm:=M4 e;have:=(Array.any_eq_false.1 h);obtain⟨i,hi,rfl⟩:=Array.mem_iff_getElem.1 hm;simpa using this i hi
 unfold Program.goes;simp[h,h2]
theorem FF{P:Program}{c:OpenClaim}(hs:c.start=.entering)(h:P.funcs.any Func.goes=false):false=c.goesBy P:=by
 unfold OpenClaim.goesBy Program.goesAt Program.goesFrom;rw[hs];cases P.funcNamed c.func with
 |none=>rfl
 |some f=>simp[E_ h f]
theorem JZ:prog.funcs.any Func.goes=false:=by kernel_rfl
theorem GB:Tryz.pinned.checked.prog.mainIs=some (true,"2b4d5e5277b437985333039ecfee4bec1464b9fcc9c7fa6cfdd9f3068463ccf8".toList):=by kernel_rfl
theorem Ku:Rows.topSafeRow.wfByText (OpenSpec.ofChange Rows.topSafeSpec)=true:=by kernel_rfl
theorem Hm:true=Tryz.pinned.checked.prog.looks []:=by kernel_rfl
theorem plain(f:FuncId)(fn:Func)(hf:Tryz.pinned.checked.prog.funcNamed "demesne/demesnetop.TopSafe"=some f)(hfn:Tryz.pinned.checked.prog.funcs[f]? = some fn):
 true=Tryz.pinned.checked.prog.looks []∧∀(j:Nat) t,fn.params[j]? = some t→Tryz.pinned.checked.prog.wantsStandIn t=false:=by
 obtain rfl:f=4:=z8 ((show Tryz.prog.funcNamed "demesne/demesnetop.TopSafe"=some 4 by kernel_rfl).symm.trans hf) |>.symm
 obtain rfl:fn=Tryz.f4:=(z8 (Tryz.func4.symm.trans hfn)).symm
 refine⟨Hm,fun j t ht=>?_⟩
 rw[Tryz.params4]at ht
 have hm:=M4 ht
 simp at hm
 rcases hm with rfl|rfl
 ·exact(show Tryz.prog.wantsStandIn 22=false by kernel_rfl)
 ·exact(show Tryz.prog.wantsStandIn 23=false by kernel_rfl)
theorem card:Rows.TopSafeCardSaid:=
 Claim7.holds_tied_plain_at .later [] _ _ _ _ Fu (λ_ h=>by cases h) Ku (λ_ h=>by cases h) topSafe_row_tie rr ⟨rr,rr⟩ GB rr plain (FF rr JZ)
end Go.Proofs.YtbnonpbnhenkfaaGreatDoor.topSafe
end
