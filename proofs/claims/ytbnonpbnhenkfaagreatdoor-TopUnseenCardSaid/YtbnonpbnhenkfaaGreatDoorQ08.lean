/- Part 8 of the proof; the last part says what is proved. -/
import Derived.Test.YtbnonpbnhenkfaaGreatDoorQ07
import Derived.Shelf.Spec.SlicesGrow
import Derived.Laws.AppendOwnNone
import Derived.BigQuiet
set_option linter.all false
set_option maxRecDepth 1000000
set_option maxHeartbeats 8000000
namespace Go.Proofs.YtbnonpbnhenkfaaGreatDoor
section
open Go.RowKit Go.Proofs.Tryz
theorem V4.vq{x y:V4}(h:V4.same x y=true):x=y:=by
 unfold V4.same at h;simp only[y7,J7]at h;obtain⟨a,b,c,d⟩:=x;simp_all
theorem Be{α:Type}{p:α->α->Bool}(hp:∀a b,p a b=true->a=b):∀{l m:List α},ia p l m=true->l=m
 | [],[],_=>rfl
 | [],_::_,h=>by cases h
 |_::_,[],h=>by cases h
 |a::l,b::m,h=>by
  unfold ia at h
  cases c:p a b
  ·simp_all
  rw[c]at h
  rw[hp a b c,Be hp (l:=l) (m:=m) h]
theorem bX.vq{a b:bX}(h:bX.same a b=true):a=b:=by
 obtain⟨k,n,v⟩:=a;obtain⟨k',n',v'⟩:=b;grind [bX.same,AX,Be]
theorem bM.vq{a b:bM}(h:bM.same a b=true):a=b:=by
 obtain⟨p,d,c,f,t,l⟩:=a;obtain⟨p',d',c',e,t',l'⟩:=b;unfold bM.same at h;split at h
 ·cases h
 split at h
 ·cases h
 split at h
 ·cases h
 grind [AX,V4.vq,Be,bX.vq]
theorem cC.vq{a b:cC}(h:cC.same a b=true):a=b:=by
 obtain⟨k,v⟩:=a;obtain⟨k',v'⟩:=b;grind [cC.same,AX]
def ae7{a b:aC}(c:a.kind=b.kind)(h:a.same b=true):a=b:=by
 obtain⟨k,i,n,p,v,x,l⟩:=a;obtain⟨k',i',n',p',v',x',l'⟩:=b;unfold aC.same at h;split at h
 ·cases h
 split at h
 ·cases h
 split at h
 ·cases h
 grind [AX,V4.vq,bM.vq,Be,cC.vq]
def KI{k:Int}{f:iJ}(h:gD k=some f):1<=k/\k<=13:=by
 unfold gD at h;rw[H4]at h;obtain⟨e,b,rfl⟩:=h;have c:k=e.1:=j5 (G9 (p:=λe:Int×iJ=>decide (k=e.1)) b);have a:=x7 b;unfold uT at a;simp only[p9,o7,H3]at a;rcases a with rfl|rfl|rfl|rfl|rfl|rfl|rfl|rfl|rfl|rfl|rfl|rfl|rfl<;>rw[c]<;>exact⟨by decide,by decide⟩
structure Dg(o:aC)(f:iJ):Prop where
 k:gD o.kind=some f
 bare:o.bare f=o
 Wj:f.x=true->o.x.check=0
 aa:o.aa.size<=98
 gS:iy o.ao=true
def DI{o:aC}(h:o.right=true):∃f,Dg o f:=by
 unfold aC.right at h;cases c:gD o.kind with
 |none=>simp_all
 |some f=>
  rw[c]at h;dsimp only at h;cases h1:o.same (o.bare f)
  ·simp_all
  rw[h1]at h;dsimp only at h;cases h2:f.x&&!decide (o.x.check=0)
  case true=>simp_all
  rw[h2]at h;dsimp only at h;cases d:decide ((o.aa.size:Int)<=98)
  ·simp_all
  rw[d]at h;refine⟨f,c,(ae7 (a:=o) (b:=o.bare f) rr h1).symm,λe=>?_,by grind,h⟩;simp_all
structure wT(o:aC):Prop where
 x:o.x.oJ
 gS:∀p∈o.ao,p.k.size<=32/\p.v.size<=32
def wT.sz{o:aC}{f:iJ}(h:wT o)(hi:Dg o f):gF o:=by
 refine⟨by have:=hi.aa;omega,?_,by have:=xC hi.gS;omega,λp hp=>by have:=h.gS p hp;omega⟩;have hb:=hi.bare;cases a:f.x
 case true=>
  have b:=hi.Wj a;exact h.x.sz (yc b).2.2.2.2.1
 have:o.x=bM.z:=by
  rw[<-hb];show o.x.bare f.x=_
  rw[a];rfl
 rw[this];exact⟨by decide,by decide,λt c=>by cases c⟩
def Nj{s:BA}{i:Nat}{o:aC}{f:iJ}(h:At s i (o.bytes f))(hi:Dg o f)(C:o.right=true)(d:s.size<=gy)(q:wT o):PC 202 [st s,i64 (i:Nat)] (·=.aU [o.pv,i64 ((i+(o.bytes f).size:Nat):Int),bo true]):=by
 refine aw func202 ?_;have e:=l_ o (q.sz hi);rw[C]at e;have u:=UF hi.k;obtain⟨c,w⟩:∃c:Nat,o.kind=(c:Int):=⟨o.kind.toNat,by have:=(KI hi.k).1;omega⟩;have y:c<=13:=by have:=(KI hi.k).2;omega
 have g:=hi.k;have j:=hi.bare;have A:=hi.Wj;have B:=hi.gS;have D:=hi.aa;clear hi;obtain⟨k,id,n,aa,v,x,ao⟩:=o;dsimp only at w g j A B D;subst w;have p:At s i (av (aG (c:Int)))->PC 262 [st s,i64 (i:Nat)] (·=.aU [qU c,i64 ((i+(av (aG (c:Int))).size:Nat):Int),bo true]):=λh=>by
  grind [ju,pE]
 have start:∀{k:Int->Prop},k (c:Int)->cj (IntKind.i64.wrap (c:Int)) k:=λh=>cj.intro _ (wrap_i64 rr om) h
 simp only[p9,o7,H3]at u;rcases u with rfl|rfl|rfl|rfl|rfl|rfl|rfl|rfl
 ·have a:(⟨(c:Int),0,0,aA,V4.z,x,[]⟩:aC)=⟨c,id,n,aa,v,x,ao⟩:=j;cases a;have h:At s i (av (aG (c:Int))++x.put):=h;have g0:At s i (av (aG (c:Int))):=h.l;have g1:At s (i+(av (aG (c:Int))).size) (x.put):=by
   have:=h.r;exact this
  have b:i+(aC.bytes ⟨(c:Int),0,0,aA,V4.z,x,[]⟩ ⟨false,false,false,false,true,false⟩).size=i+(av (aG (c:Int))).size+(x.put).size:=by
   show i+(av (aG (c:Int))++x.put).size=_
   grind
  rw[b];refine ak (p g0) rfl<|aj.f (show¬(13:Int)<(c:Int)by omega)<|ab<|start<|aJ rT rfl<|aP<|el.is _ (sx c) ?_;rw[g];exact az<|ab<|ab<|ab<|ab<|an<|ak (O_ g1 (A rr) d q.x) rfl<|ab<|ak e rfl<|ab<|ah
 ·have a:(⟨(c:Int),id,0,aA,V4.z,bM.z,[]⟩:aC)=⟨c,id,n,aa,v,x,ao⟩:=j;cases a;have h:At s i (av (aG (c:Int))++av id):=h;have g0:At s i (av (aG (c:Int))):=h.l;have g1:At s (i+(av (aG (c:Int))).size) (av id):=by
   have:=h.r;exact this
  have b:i+(aC.bytes ⟨(c:Int),id,0,aA,V4.z,bM.z,[]⟩ ⟨true,false,false,false,false,false⟩).size=i+(av (aG (c:Int))).size+(av id).size:=by
   show i+(av (aG (c:Int))++av id).size=_
   grind
  rw[b];refine ak (p g0) rfl<|aj.f (show¬(13:Int)<(c:Int)by omega)<|ab<|start<|aJ rT rfl<|aP<|el.is _ (sx c) ?_;rw[g];exact az<|an<|ak (ju (n:=id) g1 d) rfl<|ab<|ab<|ab<|ab<|ab<|ak e rfl<|ab<|ah
 ·have a:(⟨(c:Int),0,0,aa,v,bM.z,[]⟩:aC)=⟨c,id,n,aa,v,x,ao⟩:=j;cases a;have h:At s i (av (aG (c:Int))++bQ aa++cH v):=h;have g0:At s i (av (aG (c:Int))):=h.l.l;have g1:At s (i+(av (aG (c:Int))).size) (bQ aa):=by
   have:=h.l.r;exact this
  have g2:At s (i+(av (aG (c:Int))).size+(bQ aa).size) (cH v):=by
   have:=h.r;grind
  have b:i+(aC.bytes ⟨(c:Int),0,0,aa,v,bM.z,[]⟩ ⟨false,false,true,true,false,false⟩).size=i+(av (aG (c:Int))).size+(bQ aa).size+(cH v).size:=by
   show i+(av (aG (c:Int))++bQ aa++cH v).size=_
   grind
  rw[b];refine ak (p g0) rfl<|aj.f (show¬(13:Int)<(c:Int)by omega)<|ab<|start<|aJ rT rfl<|aP<|el.is _ (sx c) ?_;rw[g];exact az<|ab<|ab<|an<|ak (qn (t:=aa) (m:=98) g1 d om) rfl<|an<|ak (tW (v:=v) g2 d) rfl<|ab<|ab<|ak e rfl<|ab<|ah
 ·have a:(⟨(c:Int),0,n,aA,V4.z,bM.z,[]⟩:aC)=⟨c,id,n,aa,v,x,ao⟩:=j;cases a;have h:At s i (av (aG (c:Int))++av n):=h;have g0:At s i (av (aG (c:Int))):=h.l;have g1:At s (i+(av (aG (c:Int))).size) (av n):=by
   have:=h.r;exact this
  have b:i+(aC.bytes ⟨(c:Int),0,n,aA,V4.z,bM.z,[]⟩ ⟨false,true,false,false,false,false⟩).size=i+(av (aG (c:Int))).size+(av n).size:=by
   show i+(av (aG (c:Int))++av n).size=_
   grind
  rw[b];refine ak (p g0) rfl<|aj.f (show¬(13:Int)<(c:Int)by omega)<|ab<|start<|aJ rT rfl<|aP<|el.is _ (sx c) ?_;rw[g];exact az<|ab<|an<|ak (ju (n:=n) g1 d) rfl<|ab<|ab<|ab<|ab<|ak e rfl<|ab<|ah
 ·have a:(⟨(c:Int),0,0,aa,V4.z,bM.z,[]⟩:aC)=⟨c,id,n,aa,v,x,ao⟩:=j;cases a;have h:At s i (av (aG (c:Int))++bQ aa):=h;have g0:At s i (av (aG (c:Int))):=h.l;have g1:At s (i+(av (aG (c:Int))).size) (bQ aa):=by
   have:=h.r;exact this
  have b:i+(aC.bytes ⟨(c:Int),0,0,aa,V4.z,bM.z,[]⟩ ⟨false,false,true,false,false,false⟩).size=i+(av (aG (c:Int))).size+(bQ aa).size:=by
   show i+(av (aG (c:Int))++bQ aa).size=_
   grind
  rw[b];refine ak (p g0) rfl<|aj.f (show¬(13:Int)<(c:Int)by omega)<|ab<|start<|aJ rT rfl<|aP<|el.is _ (sx c) ?_;rw[g];exact az<|ab<|ab<|an<|ak (qn (t:=aa) (m:=98) g1 d om) rfl<|ab<|ab<|ab<|ak e rfl<|ab<|ah
 ·have a:(⟨(c:Int),0,0,aA,v,bM.z,[]⟩:aC)=⟨c,id,n,aa,v,x,ao⟩:=j;cases a;have h:At s i (av (aG (c:Int))++cH v):=h;have g0:At s i (av (aG (c:Int))):=h.l;have g1:At s (i+(av (aG (c:Int))).size) (cH v):=by
   have:=h.r;exact this
  have b:i+(aC.bytes ⟨(c:Int),0,0,aA,v,bM.z,[]⟩ ⟨false,false,false,true,false,false⟩).size=i+(av (aG (c:Int))).size+(cH v).size:=by
   show i+(av (aG (c:Int))++cH v).size=_
   grind
  rw[b];refine ak (p g0) rfl<|aj.f (show¬(13:Int)<(c:Int)by omega)<|ab<|start<|aJ rT rfl<|aP<|el.is _ (sx c) ?_;rw[g];exact az<|ab<|ab<|ab<|an<|ak (tW (v:=v) g1 d) rfl<|ab<|ab<|ak e rfl<|ab<|ah
 ·have a:(⟨(c:Int),0,0,aa,v,bM.z,ao⟩:aC)=⟨c,id,n,aa,v,x,ao⟩:=j;cases a;have h:At s i (av (aG (c:Int))++bQ aa++cH v++gq ao):=h;have g0:At s i (av (aG (c:Int))):=h.l.l.l;have g1:At s (i+(av (aG (c:Int))).size) (bQ aa):=by
   have:=h.l.l.r;exact this
  have g2:At s (i+(av (aG (c:Int))).size+(bQ aa).size) (cH v):=by
   have:=h.l.r;grind
  have g3:At s (i+(av (aG (c:Int))).size+(bQ aa).size+(cH v).size) (gq ao):=by
   have:=h.r;grind
  have b:i+(aC.bytes ⟨(c:Int),0,0,aa,v,bM.z,ao⟩ ⟨false,false,true,true,false,true⟩).size=i+(av (aG (c:Int))).size+(bQ aa).size+(cH v).size+(gq ao).size:=by
   show i+(av (aG (c:Int))++bQ aa++cH v++gq ao).size=_
   grind
  rw[b];refine ak (p g0) rfl<|aj.f (show¬(13:Int)<(c:Int)by omega)<|ab<|start<|aJ rT rfl<|aP<|el.is _ (sx c) ?_;rw[g];exact az<|ab<|ab<|an<|ak (qn (t:=aa) (m:=98) g1 d om) rfl<|an<|ak (tW (v:=v) g2 d) rfl<|ab<|an<|ak (Nu g3 B d q.gS) rfl<|ak e rfl<|ab<|ah
 ·have a:(⟨(c:Int),0,0,aA,V4.z,bM.z,[]⟩:aC)=⟨c,id,n,aa,v,x,ao⟩:=j;cases a;have h:At s i (av (aG (c:Int))):=h;have g0:At s i (av (aG (c:Int))):=h;have b:i+(aC.bytes ⟨(c:Int),0,0,aA,V4.z,bM.z,[]⟩ ⟨false,false,false,false,false,false⟩).size=i+(av (aG (c:Int))).size:=by
   show i+(av (aG (c:Int))).size=_
   rfl
  rw[b];refine ak (p g0) rfl<|aj.f (show¬(13:Int)<(c:Int)by omega)<|ab<|start<|aJ rT rfl<|aP<|el.is _ (sx c) ?_;rw[g];exact az<|ab<|ab<|ab<|ab<|ab<|ab<|ak e rfl<|ab<|ah
def pe(x:fY)(frm:UInt64)(q:Nat):List cZ×UInt64:=sR x.first frm (x.l.take q) 0 ([],if frm<x.first then x.first else frm)
def Ud(first frm:UInt64):∀(l:List cZ) (m:List cZ) (k:Nat) (p:List cZ×UInt64),sR first frm (l++m) k p=sR first frm m (k+l.length) (sR first frm l k p)
 | [],_,_,_=>rfl
 |a::l,m,k,p=>by
  show sR first frm (l++m) (k+1) _=_
  rw[Ud first frm l m (k+1)]
  rw[w6,show k+(l.length+1)=k+1+l.length by omega]
  rfl
def Nl{x:fY}{frm:UInt64}{q:Nat}{n:cZ}(h:x.l[q]? = some n):pe x frm (q+1)=tN x.first frm q n (pe x frm q):=by
 unfold pe;rw[fW h,Ud,j7,l8];obtain⟨hq,_⟩:=c9.1 h;rw[E9 om];rfl
def aa6{first frm:UInt64}{k:Nat}{n:cZ}{p:List cZ×UInt64}(h:p.1.length<=8):(tN first frm k n p).1.length<=8:=by
 unfold tN;split
 ·exact h
 ·split
  ·exact h
  ·rename_i h1 h2;have:=j5 h2;rw[i6];show p.1.length+1<=8
   omega
def Fa(x:fY)(frm:UInt64):∀q,(pe x frm q).1.length<=8
 |0=>by show 0<=8;omega
 |q+1=>by
  cases h:x.l[q]? with
  |some n=>rw[Nl h];exact aa6 (Fa x frm q)
  |none=>
   have:x.l.length<=q:=List.getElem?_eq_none_iff.1 h
   have e:pe x frm (q+1)=pe x frm q:=by
    unfold pe
    rw[u5 om,u5 this]
   rw[e];exact Fa x frm q
def aeG(a b:UInt64):(if(a.toNat:Int)>(b.toNat:Int)then(a.toNat:Int)else(b.toNat:Int))=(((if b<a then a else b:UInt64).toNat:Nat):Int):=by
 by_cases h:b<a
 ·have:=UInt64.lt_iff_toNat_lt.1 h;rw[z7 h,z7 om]
 ·have:¬b.toNat<a.toNat:=λh'=>h (UInt64.lt_iff_toNat_lt.2 h')
  rw[y8 h];by_cases e:(b.toNat:Int)<(a.toNat:Int)
  ·exact absurd om this
  ·exact y8 e
def GV{k:Nat}(h:k<18446744073709551616):IntKind.u64.wrap (k:Int)=(k:Int):=by
 have:=lN (k:Int);rw[this,TQ h]
def adJ(a:UInt64)(k:Nat)(b:k<18446744073709551616):IntKind.u64.wrap ((a.toNat:Int)+(k:Int))=(((a+UInt64.ofNat k).toNat:Nat):Int):=by
 rw[UInt64.toNat_add,show(UInt64.ofNat k).toNat=k from UInt64.toNat_ofNat_of_lt' b];show((a.toNat:Int)+(k:Int))%18446744073709551616=_
 omega
def Iw(a:UInt64):IntKind.u64.wrap ((a.toNat:Int)+1)=(((a+1).toNat:Nat):Int):=by
 rw[UInt64.toNat_add];show((a.toNat:Int)+1)%18446744073709551616=(((a.toNat+1)%18446744073709551616:Nat):Int)
 omega
def RY(a b:UInt64):decide ((a.toNat:Int)<=(b.toNat:Int))=decide (a<=b):=by
 apply C3.2;rw[UInt64.le_iff_toNat_le,E8]
def anj(x:fY)(frm:UInt64)(m:x.l.length<=67108864):PC 386 [x.pv,pu frm] (·=.aU [sl cZ.pv (x.from frm).1,pu (x.from frm).2]):=by
 refine aw func386<|cj.intro (((if frm<x.first then x.first else frm:UInt64).toNat:Nat):Int) (aeG x.first frm)<|lY.k_ [(4,3,248)] ⟨rr,trivial⟩<|vu x.l.length (.of (pe x frm) (λp=>[(4,.aS 12 0 p.1.length),(5,pu p.2)]) [1,2,14,15] (λp=>[(12,.rows 3 (p.1.map cZ.pv) true none 248)]) [0]) (λ_=>True) trivial ?_ (λk h i=>?_) (λi=>?_)
 ·exact cS rr (nu.cf _)
 ·obtain⟨n,f⟩:=cw h;have a:=Nl (frm:=frm) f;have c:=Fa x frm k;generalize d:pe x frm k=L at a c;obtain⟨l,u⟩:=L;rw[cE d];refine bG f<|cj.intro (k:Int) (by show IntKind.u64.wrap (k:Int)=_;exact GV om)<|aF (adJ x.first k om) ?_;unfold tN at a;refine aj.is (decide (frm<=x.first+UInt64.ofNat k)) (RY _ _) ?_;cases g:decide (frm<=x.first+UInt64.ofNat k)
  ·rw[g]at a;exact ab<|ck.of id a trivial rfl<|cS rr (nu.cf _)
  rw[g]at a;dsimp only at a;refine aj.aN (λe=>?_) (λe=>?_)
  ·have b:(l.length:Int)<8:=j5 e;rw[l9 b]at a;refine an<|dS.l (aq.mk (eE nu l n om) ?_);exact aF (Iw (x.first+UInt64.ofNat k))<|ck.of (sw 12 37) a trivial rfl<|jn ⟨⟨by rw[i6];rfl,rr⟩,⟨rr,rr⟩,trivial⟩ ⟨⟨BB.br (by rw[l6];rfl) (nu.cf _),rr⟩,trivial⟩
  ·have b:¬(l.length:Int)<8:=j4 e;rw[j1 b]at a;exact ab<|ck.of id a trivial rfl<|cS rr (nu.cf _)
 ·have j:x.from frm=pe x frm x.l.length:=by unfold fY.from pe;rw[s9]
  rw[j];generalize d:pe x frm x.l.length=L;rw[cE d];obtain⟨l,u⟩:=L;exact⟨l.length+100,_,_,.inl (a_ (dC (l:=l) rr rr nu.bL rr rr) rr),rr⟩
def P'(x:fY)(frm:UInt64)(a:x.l.length<=67108864):PC 368 [x.pv,pu frm] (·=(told x frm).pv):=aw func368<|ak (anj x frm a) rfl<|ah
def ak7(s:af)(o:aC)(a:s.dX.l.length<=67108864):PC 329 [s.pv,o.pv] (·=(told s.dX o.n).pv):=aw func329<|ak (P' s.dX o.n a) rfl<|ah
def ZS(s:af)(o:aC)(a:s.dy.l.length<=67108864):PC 330 [s.pv,o.pv] (·=(told s.dy o.n).pv):=aw func330<|ak (P' s.dy o.n a) rfl<|ah
def aat(s:af)(o:aC)(a:s.aH.length<=67108864)(b:gF o):PC 331 [s.pv,o.pv] (·=(Ey s o).pv):=by
 refine aw func331 ?_;unfold Ey;refine aj.aN (λh1=>?_) (λh1=>?_)
 ·rw[show seq o.aa aA=true from h1];refine ab<|ak (Eg s.aH o.aa a) rr ?_;rcases cO s.aH o.aa with⟨e,_|_⟩
  ·exact an<|ah
  ·exact ab<|ah
 ·rw[show seq o.aa aA=false from h1];refine ak (AK o.aa o.aa b.aa) rr ?_;cases pg o.aa o.aa
  ·exact an<|ah
  refine ab<|ak (Eg s.aH o.aa a) rr ?_;rcases cO s.aH o.aa with⟨e,_|_⟩
  ·exact an<|ah
  ·exact ab<|ah
def am8(s:af)(o:aC)(a:s.ar.al.length<=67108864)(hp:s.ar.places.length<=67108864):PC 332 [s.pv,o.pv] (·=(Bu s o).pv):=by
 refine aw func332 ?_;unfold Bu;refine ak (JT s.ar o.aa a) rr ?_;rcases s.ar.find o.aa with⟨⟨b,cap,lb,up⟩,_|_⟩
 ·exact an<|ah
 ·refine ab<|ak (Cx s.ar o.aa a hp) rr ?_;cases up
  ·exact ab<|ah
  exact an<|ah
def Za(s:af)(o:aC){m:Nat}(h:s.Sz m)(a:m<=60000000):PC 328 [s.pv,o.pv] (·=(DY s o).pv):=by
 refine aw func328 ?_;unfold DY;refine aj.is (decide (o.id=0)) (qG o.id 0) ?_;cases decide (o.id=0)
 case true=>
  exact an<|ah
 refine aj.is (decide (s.next<=o.id)) (RY _ _) ?_;cases decide (s.next<=o.id)
 case true=>
  exact an<|ah
 refine ab<|ak (xZ s o.id (by have:=h.ae;omega)) rr ?_;rcases bK s.ae o.id with⟨j,_|_⟩
 ·exact an<|ah
 ·refine ab ?_;obtain⟨id,x,bB,left⟩:=j;cases bB
  case true=>
   exact an<|aF (lN left)<|aJ (NZ s.ar o.id (by have:=h.places;omega)) rfl<|az<|ah
  exact ab<|aJ (Da s.bg o.id (by have:=h.bg;omega)) rfl<|aF (lN _)<|az<|ah
def am3(s:af){m:Nat}(h:s.Sz m)(g:m<=30000000):PC 340 [s.pv] (·=s.kX.pv):=by
 refine aw func340 ?_;refine cV.bA (ι:={p:Nat×fB//p.1<=128/\jH (128-p.1) p.2=jH 128 ⟨s,0⟩/\p.2.s.Sz (m+8*p.1)/\p.2.cm<=1000000}) ⟨λp=>[(9,i64 p.1.1)],[2,3,4],λp=>[(4,.rows 12 [p.1.2.pv] true none 467)],[1]⟩ (λp=>128-p.1.1) ⟨(0,⟨s,0⟩),by show 0<=128;omega,rr,h,by show 0<=1000000;omega⟩ ?_ ?_
 ·exact bP
 rintro⟨⟨k,u⟩,h1,h2,d,e⟩;dsimp only at h1 h2 d e;refine aj.aN (λe1=>?_) (λe1=>?_)
 ·have e1:k<128:=fE e1;refine an<|ak (aau u d om e) rr ?_;have b:=UP d e;rw[show 128-k=(128-(k+1))+1 by omega]at h2;have a:(match u.next with|(w,true)=>jH (128-(k+1)) w|(w,false)=>w)=jH 128 ⟨s,0⟩:=h2;rcases c:u.next with⟨w,_|_⟩
  ·rw[c]at a;have f:w.s.pv=s.kX.pv:=by unfold af.kX;rw[<-a]
   exact an<|⟨200,_,_,.inl rr,f⟩
  ·rw[c]at a b;refine ab<|aF (dq k)<|⟨⟨(k+1,w),e1,a,by show w.s.Sz (m+8*(k+1));rw[Nat.mul_succ,<-B4];exact b.1,b.2⟩,_root_.id,?_,?_⟩
   ·show 128-(k+1)<128-k;omega
   exact bP
 ·have e1:¬k<128:=jN e1;rw[show 128-k=0 by omega]at h2;have a:u=jH 128 ⟨s,0⟩:=h2;have f:u.s.pv=s.kX.pv:=by unfold af.kX;rw[<-a]
  exact ab<|⟨200,_,_,.inl rr,f⟩
def adG(s:af){m:Nat}(h:s.Sz m)(a:m<=30000000)(b:s.Lf):PC 285 [s.pv] (·=s.oI.pv):=by
 refine aw func285<|ak (agT s h om b) rr ?_;have c:s.count.Sz m:=by
  have:=h.mA (jh s).length;unfold mA at this;rw[s9]at this;exact this
 exact ak (am3 s.count c a) rfl<|ah
abbrev wu(r:uu):PV:=.aU [r.1.pv,pu r.2.1,i64 r.2.2]
def aiA(s:af)(o:aC){m:Nat}(h:s.Sz m)(a:gF o):PC 333 [s.pv,o.pv] (·=wu (s.fv o.x)):=aw func333<|ak (afS s o.x h a.x) rfl<|ah
def afw(s:af)(o:aC){m:Nat}(h:s.Sz m)(a:m<=50000000):PC 334 [s.pv,o.pv] (·=wu (zj s o)):=aw func334<|ak (IU s o.id 4 h a) rfl<|az<|ah
def Nh(s:af)(o:aC)(a:s.aH.length<=60000000)(b:gF o):PC 336 [s.pv,o.pv] (·=wu (bz s o)):=aw func336<|ak (ahW s.aH o.aa o.v a b.aa) rfl<|ah
def ala(s:af)(o:aC)(a:s.aH.length<=60000000)(b:gF o):PC 335 [s.pv,o.pv] (·=wu (bI s o)):=by
 refine aw func335 ?_;unfold bI;refine aj.aN (λh1=>?_) (λh1=>?_)
 ·rw[show seq o.aa aA=true from h1];exact an<|ah
 ·rw[show seq o.aa aA=false from h1];exact ab<|ak (Nh s o a b) rfl<|ah
def agn(s:af)(o:aC)(b:s.ar.al.length<=60000000)(a:gF o):PC 337 [s.pv,o.pv] (·=wu (yz s o)):=aw func337<|ak (aaM s.ar ⟨o.aa,o.v,o.ao,false⟩ b ⟨a.aa,a.len,a.gS⟩) rfl<|ah
def aoe(s:af)(o:aC)(a:s.ar.al.length<=67108864):PC 339 [s.pv,o.pv] (·=wu (AF s o)):=aw func339<|ak (ahI s.ar o.aa a) rfl<|ah
def vL(o:aC):PC 286 [o.pv] (·=i64 o.kind):=aw func286<|ah
def oG(o:aC)(k:Nat):PV:=match k with
 |1=>.fm 400 (.agg (o.pv.cells++[.fn 333 []]))
 |2=>.fm 400 (.agg (o.pv.cells++[.fn 334 []]))
 |3=>.fm 400 (.agg (o.pv.cells++[.fn 335 []]))
 |4=>.fm 394 (.agg (o.pv.cells++[.fn 328 []]))
 |5=>.fm 394 (.agg (o.pv.cells++[.fn 329 []]))
 |6=>.fm 394 (.agg (o.pv.cells++[.fn 330 []]))
 |7=>.fm 394 (.agg (o.pv.cells++[.fn 331 []]))
 |8=>.fm 394 (.agg (o.pv.cells++[.fn 332 []]))
 |9=>.fm 400 (.agg (o.pv.cells++[.fn 336 []]))
 |10=>.fm 400 (.agg (o.pv.cells++[.fn 337 []]))
 |11=>.fm 400 (.agg (o.pv.cells++[.fn 338 []]))
 |12=>.fm 400 (.agg (o.pv.cells++[.fn 339 []]))
 |_=>.fm 396 (.agg o.pv.cells)
def Yv(id n:UInt64)(aa:BA)(v:V4)(x:bM)(ao:List cC):PC 284 [(⟨1,id,n,aa,v,x,ao⟩:aC).pv] (·=oG ⟨1,id,n,aa,v,x,ao⟩ 1):=by
 refine aw func284<|aP<|aP<|aP<|aP<|aP<|aP<|aP<|aP<|aP<|aP<|aP<|aP<|aP ?_;exact el.is none rfl<|aj.is _ rfl<|ab<|aP<|el.is (some (.fn 333 [])) rfl<|aj.is _ rfl<|an<|ah
def Wo(id n:UInt64)(aa:BA)(v:V4)(x:bM)(ao:List cC):PC 284 [(⟨2,id,n,aa,v,x,ao⟩:aC).pv] (·=oG ⟨2,id,n,aa,v,x,ao⟩ 2):=by
 refine aw func284<|aP<|aP<|aP<|aP<|aP<|aP<|aP<|aP<|aP<|aP<|aP<|aP<|aP ?_;exact el.is none rfl<|aj.is _ rfl<|ab<|aP<|el.is (some (.fn 334 [])) rfl<|aj.is _ rfl<|an<|ah
def MQ(id n:UInt64)(aa:BA)(v:V4)(x:bM)(ao:List cC):PC 284 [(⟨3,id,n,aa,v,x,ao⟩:aC).pv] (·=oG ⟨3,id,n,aa,v,x,ao⟩ 3):=by
 refine aw func284<|aP<|aP<|aP<|aP<|aP<|aP<|aP<|aP<|aP<|aP<|aP<|aP<|aP ?_;exact el.is none rfl<|aj.is _ rfl<|ab<|aP<|el.is (some (.fn 335 [])) rfl<|aj.is _ rfl<|an<|ah
def aag(id n:UInt64)(aa:BA)(v:V4)(x:bM)(ao:List cC):PC 284 [(⟨4,id,n,aa,v,x,ao⟩:aC).pv] (·=oG ⟨4,id,n,aa,v,x,ao⟩ 4):=by
 refine aw func284<|aP<|aP<|aP<|aP<|aP<|aP<|aP<|aP<|aP<|aP<|aP<|aP<|aP ?_;exact el.is (some (.fn 328 [])) rfl<|aj.is _ rfl<|an<|ah
def ale(id n:UInt64)(aa:BA)(v:V4)(x:bM)(ao:List cC):PC 284 [(⟨5,id,n,aa,v,x,ao⟩:aC).pv] (·=oG ⟨5,id,n,aa,v,x,ao⟩ 5):=by
 refine aw func284<|aP<|aP<|aP<|aP<|aP<|aP<|aP<|aP<|aP<|aP<|aP<|aP<|aP ?_;exact el.is (some (.fn 329 [])) rfl<|aj.is _ rfl<|an<|ah
def akw(id n:UInt64)(aa:BA)(v:V4)(x:bM)(ao:List cC):PC 284 [(⟨6,id,n,aa,v,x,ao⟩:aC).pv] (·=oG ⟨6,id,n,aa,v,x,ao⟩ 6):=by
 refine aw func284<|aP<|aP<|aP<|aP<|aP<|aP<|aP<|aP<|aP<|aP<|aP<|aP<|aP ?_;exact el.is (some (.fn 330 [])) rfl<|aj.is _ rfl<|an<|ah
def akf(id n:UInt64)(aa:BA)(v:V4)(x:bM)(ao:List cC):PC 284 [(⟨7,id,n,aa,v,x,ao⟩:aC).pv] (·=oG ⟨7,id,n,aa,v,x,ao⟩ 7):=by
 refine aw func284<|aP<|aP<|aP<|aP<|aP<|aP<|aP<|aP<|aP<|aP<|aP<|aP<|aP ?_;exact el.is (some (.fn 331 [])) rfl<|aj.is _ rfl<|an<|ah
def ajl(id n:UInt64)(aa:BA)(v:V4)(x:bM)(ao:List cC):PC 284 [(⟨8,id,n,aa,v,x,ao⟩:aC).pv] (·=oG ⟨8,id,n,aa,v,x,ao⟩ 8):=by
 refine aw func284<|aP<|aP<|aP<|aP<|aP<|aP<|aP<|aP<|aP<|aP<|aP<|aP<|aP ?_;exact el.is (some (.fn 332 [])) rfl<|aj.is _ rfl<|an<|ah
def Ye(id n:UInt64)(aa:BA)(v:V4)(x:bM)(ao:List cC):PC 284 [(⟨9,id,n,aa,v,x,ao⟩:aC).pv] (·=oG ⟨9,id,n,aa,v,x,ao⟩ 9):=by
 refine aw func284<|aP<|aP<|aP<|aP<|aP<|aP<|aP<|aP<|aP<|aP<|aP<|aP<|aP ?_;exact el.is none rfl<|aj.is _ rfl<|ab<|aP<|el.is (some (.fn 336 [])) rfl<|aj.is _ rfl<|an<|ah
def Rf(id n:UInt64)(aa:BA)(v:V4)(x:bM)(ao:List cC):PC 284 [(⟨10,id,n,aa,v,x,ao⟩:aC).pv] (·=oG ⟨10,id,n,aa,v,x,ao⟩ 10):=by
 refine aw func284<|aP<|aP<|aP<|aP<|aP<|aP<|aP<|aP<|aP<|aP<|aP<|aP<|aP ?_;exact el.is none rfl<|aj.is _ rfl<|ab<|aP<|el.is (some (.fn 337 [])) rfl<|aj.is _ rfl<|an<|ah
def Wz(id n:UInt64)(aa:BA)(v:V4)(x:bM)(ao:List cC):PC 284 [(⟨11,id,n,aa,v,x,ao⟩:aC).pv] (·=oG ⟨11,id,n,aa,v,x,ao⟩ 11):=by
 refine aw func284<|aP<|aP<|aP<|aP<|aP<|aP<|aP<|aP<|aP<|aP<|aP<|aP<|aP ?_;exact el.is none rfl<|aj.is _ rfl<|ab<|aP<|el.is (some (.fn 338 [])) rfl<|aj.is _ rfl<|an<|ah
def QC(id n:UInt64)(aa:BA)(v:V4)(x:bM)(ao:List cC):PC 284 [(⟨12,id,n,aa,v,x,ao⟩:aC).pv] (·=oG ⟨12,id,n,aa,v,x,ao⟩ 12):=by
 refine aw func284<|aP<|aP<|aP<|aP<|aP<|aP<|aP<|aP<|aP<|aP<|aP<|aP<|aP ?_;exact el.is none rfl<|aj.is _ rfl<|ab<|aP<|el.is (some (.fn 339 [])) rfl<|aj.is _ rfl<|an<|ah
def acI(id n:UInt64)(aa:BA)(v:V4)(x:bM)(ao:List cC):PC 284 [(⟨13,id,n,aa,v,x,ao⟩:aC).pv] (·=oG ⟨13,id,n,aa,v,x,ao⟩ 13):=by
 refine aw func284<|aP<|aP<|aP<|aP<|aP<|aP<|aP<|aP<|aP<|aP<|aP<|aP<|aP ?_;exact el.is none rfl<|aj.is _ rfl<|ab<|aP<|el.is none rfl<|aj.is _ rfl<|ab<|ah
abbrev vH(p:bf)(name:BA):Prop:=PC 373 [p.pv,st name] (·=.aU [(p.fail name).1.pv,sl g_ (p.fail name).2.1,i64 (p.fail name).2.2])
def Fs:∀(l a:List UInt64),(l.foldl (λa x=>if x∈a then a else a++[x]) a).length<=a.length+l.length
 | [],_=>j2 _
 |x::l,a=>by
  refine r8 (Fs l _) ?_
  rw[w6]
  dsimp only
  split
  ·omega
  ·rw[i6];show a.length+1+l.length<=_;omega
def abb(p:bf)(name:BA):(p.fail name).2.1.length<=p.places.length:=by
 unfold bf.fail;split
 ·exact j9 _
 ·show(nt (uE (met p name))).length<=_
  unfold nt;rw[List.length_mergeSort];refine r8 (Fs _ _) ?_;unfold met;rw[c8];exact r8 (F2 (j7 _)) (C6 ..)
def uP(s:af)(l:List UInt64)(q:Nat):af:=rm s (l.take q)
def ag9{s:af}{l:List UInt64}{q:Nat}{x:UInt64}(h:l[q]? = some x):uP s l (q+1)=((uP s l q).stop x 6).1:=by
 unfold uP rm;rw[fW h,G6];rfl
def ahu(p:bf)(name:BA):(p.fail name).1=(p.turn name false).1:=by
 unfold bf.fail;cases decide ((p.turn name false).2=0)<;>rfl
def akd(s:af)(o:aC){m:Nat}(h:dw m s)(f:m<=50000000)(g:vH s.ar o.aa):PC 338 [s.pv,o.pv] (·=wu (qb s o)):=by
 refine aw func338 ?_;have c:=abb s.ar o.aa;have i:=h.sz.places;have b:∀l,(rm {s with ar:=(s.ar.fail o.aa).1} l).Sz m:=λl=>by
  rw[ahu];exact((h.turn o.aa false).stops l).sz
 unfold qb;refine ak g rr ?_;rcases hp:s.ar.fail o.aa with⟨p,l,e⟩
 rw[hp]at c b;dsimp only at c b⊢;refine iV l.length ⟨λ_=>[],[2,4,9,23,24],λq=>[(0,.rows 11 [(uP {s with ar:=p} l q).pv] true none 74)],[2]⟩ (λ_=>True) trivial ?_ (λq hq _=>?_) (λ_=>?_)
 ·exact bP
 ·obtain⟨x,d⟩:=cw hq;refine bG d<|ak (EW (uP {s with ar:=p} l q) x 6 (b _) f) rr ?_;have a:=ag9 (s:={s with ar:=p}) d;generalize(uP {s with ar:=p} l q).stop x 6=y at a⊢;refine ck.is id trivial rr ?_;rw[<-a];exact bP
 ·have j:uP {s with ar:=p} l l.length=rm {s with ar:=p} l:=by unfold uP;rw[s9]
  rw[<-j];exact ah
def anP(s:af){id n:UInt64}{aa:BA}{v:V4}{x:bM}{ao:List cC}{m:Nat}(h:dw m s)(g:m<=20000000)(b:gF ⟨1,id,n,aa,v,x,ao⟩)(c:(⟨1,id,n,aa,v,x,ao⟩:aC).right=true):PC 225 [s.pv,(⟨1,id,n,aa,v,x,ao⟩:aC).pv] (·=.aU [(apply s ⟨1,id,n,aa,v,x,ao⟩).1.pv,(apply s ⟨1,id,n,aa,v,x,ao⟩).2.pv]):=by
 have d:=l_ ⟨1,id,n,aa,v,x,ao⟩ b;rw[c]at d;refine aw func225<|ak d rfl<|ab<|ak (Yv id n aa v x ao) rfl<|ab<|ab<|ak (Yv id n aa v x ao) rfl<|ak (aiA s ⟨1,id,n,aa,v,x,ao⟩ h.sz b) rr ?_;have e:apply s ⟨1,id,n,aa,v,x,ao⟩=match s.fv x with|(t,id,e)=>match decide (e=0)with|false=>(s,.ef e)|true=>({t with dy:=lT t.dy ⟨t.round,id,1⟩},{bn.z with id:=id}):=by unfold apply;rw[c];rfl
 rw[e];have a:dw m (s.fv x).1:=uy (o:=⟨1,id,n,aa,v,x,ao⟩) h b.x;rcases f:s.fv x with⟨t,i,e⟩
 rw[f]at a;dsimp only at a⊢;refine aj.aN (λh0=>?_) (λh0=>?_)
 ·rw[show decide (e=0)=true from h0];exact ab<|aJ (vL ⟨1,id,n,aa,v,x,ao⟩) rfl<|aJ (uo t.dy ⟨t.round,i,1⟩ (by have:=a.sz.au;omega)) rfl<|az<|ah
 ·rw[show decide (e=0)=false from h0];exact an<|ah
def acK(s:af){id n:UInt64}{aa:BA}{v:V4}{x:bM}{ao:List cC}{m:Nat}(h:dw m s)(g:m<=20000000)(b:gF ⟨2,id,n,aa,v,x,ao⟩)(c:(⟨2,id,n,aa,v,x,ao⟩:aC).right=true):PC 225 [s.pv,(⟨2,id,n,aa,v,x,ao⟩:aC).pv] (·=.aU [(apply s ⟨2,id,n,aa,v,x,ao⟩).1.pv,(apply s ⟨2,id,n,aa,v,x,ao⟩).2.pv]):=by
 have d:=l_ ⟨2,id,n,aa,v,x,ao⟩ b;rw[c]at d;refine aw func225<|ak d rfl<|ab<|ak (Wo id n aa v x ao) rfl<|ab<|ab<|ak (Wo id n aa v x ao) rfl<|ak (afw s ⟨2,id,n,aa,v,x,ao⟩ h.sz om) rr ?_;have e:apply s ⟨2,id,n,aa,v,x,ao⟩=match zj s (⟨2,id,n,aa,v,x,ao⟩:aC)with|(t,id,e)=>match decide (e=0)with|false=>(s,.ef e)|true=>({t with dy:=lT t.dy ⟨t.round,id,2⟩},{bn.z with id:=id}):=by unfold apply;rw[c];rfl
 rw[e];have a:dw m (zj s (⟨2,id,n,aa,v,x,ao⟩:aC)).1:=uy (o:=⟨2,id,n,aa,v,x,ao⟩) h b.x;rcases f:zj s (⟨2,id,n,aa,v,x,ao⟩:aC)with⟨t,i,e⟩
 rw[f]at a;dsimp only at a⊢;refine aj.aN (λh0=>?_) (λh0=>?_)
 ·rw[show decide (e=0)=true from h0];exact ab<|aJ (vL ⟨2,id,n,aa,v,x,ao⟩) rfl<|aJ (uo t.dy ⟨t.round,i,2⟩ (by have:=a.sz.au;omega)) rfl<|az<|ah
 ·rw[show decide (e=0)=false from h0];exact an<|ah
def aif(s:af){id n:UInt64}{aa:BA}{v:V4}{x:bM}{ao:List cC}{m:Nat}(h:dw m s)(g:m<=20000000)(b:gF ⟨3,id,n,aa,v,x,ao⟩)(c:(⟨3,id,n,aa,v,x,ao⟩:aC).right=true):PC 225 [s.pv,(⟨3,id,n,aa,v,x,ao⟩:aC).pv] (·=.aU [(apply s ⟨3,id,n,aa,v,x,ao⟩).1.pv,(apply s ⟨3,id,n,aa,v,x,ao⟩).2.pv]):=by
 have d:=l_ ⟨3,id,n,aa,v,x,ao⟩ b;rw[c]at d;refine aw func225<|ak d rfl<|ab<|ak (MQ id n aa v x ao) rfl<|ab<|ab<|ak (MQ id n aa v x ao) rfl<|ak (ala s ⟨3,id,n,aa,v,x,ao⟩ (by have:=h.sz.aH;omega) b) rr ?_;have e:apply s ⟨3,id,n,aa,v,x,ao⟩=match bI s (⟨3,id,n,aa,v,x,ao⟩:aC)with|(t,id,e)=>match decide (e=0)with|false=>(s,.ef e)|true=>({t with dy:=lT t.dy ⟨t.round,id,3⟩},{bn.z with id:=id}):=by unfold apply;rw[c];rfl
 rw[e];have a:dw m (bI s (⟨3,id,n,aa,v,x,ao⟩:aC)).1:=uy (o:=⟨3,id,n,aa,v,x,ao⟩) h b.x;rcases f:bI s (⟨3,id,n,aa,v,x,ao⟩:aC)with⟨t,i,e⟩
 rw[f]at a;dsimp only at a⊢;refine aj.aN (λh0=>?_) (λh0=>?_)
 ·rw[show decide (e=0)=true from h0];exact ab<|aJ (vL ⟨3,id,n,aa,v,x,ao⟩) rfl<|aJ (uo t.dy ⟨t.round,i,3⟩ (by have:=a.sz.au;omega)) rfl<|az<|ah
 ·rw[show decide (e=0)=false from h0];exact an<|ah
def abB(s:af){id n:UInt64}{aa:BA}{v:V4}{x:bM}{ao:List cC}{m:Nat}(h:dw m s)(d:m<=20000000)(c:gF ⟨4,id,n,aa,v,x,ao⟩)(a:(⟨4,id,n,aa,v,x,ao⟩:aC).right=true):PC 225 [s.pv,(⟨4,id,n,aa,v,x,ao⟩:aC).pv] (·=.aU [(apply s ⟨4,id,n,aa,v,x,ao⟩).1.pv,(apply s ⟨4,id,n,aa,v,x,ao⟩).2.pv]):=by
 have b:=l_ ⟨4,id,n,aa,v,x,ao⟩ c;rw[a]at b;refine aw func225<|ak b rfl<|ab<|ak (aag id n aa v x ao) rfl<|an<|aJ (Za s ⟨4,id,n,aa,v,x,ao⟩ h.sz om) rfl<|az ?_;have e:apply s ⟨4,id,n,aa,v,x,ao⟩=(s,uL s ⟨4,id,n,aa,v,x,ao⟩):=by unfold apply;rw[a];rfl
 rw[e];exact ah
def aiP(s:af){id n:UInt64}{aa:BA}{v:V4}{x:bM}{ao:List cC}{m:Nat}(h:dw m s)(d:m<=20000000)(c:gF ⟨5,id,n,aa,v,x,ao⟩)(a:(⟨5,id,n,aa,v,x,ao⟩:aC).right=true):PC 225 [s.pv,(⟨5,id,n,aa,v,x,ao⟩:aC).pv] (·=.aU [(apply s ⟨5,id,n,aa,v,x,ao⟩).1.pv,(apply s ⟨5,id,n,aa,v,x,ao⟩).2.pv]):=by
 have b:=l_ ⟨5,id,n,aa,v,x,ao⟩ c;rw[a]at b;refine aw func225<|ak b rfl<|ab<|ak (ale id n aa v x ao) rfl<|an<|aJ (ak7 s ⟨5,id,n,aa,v,x,ao⟩ (by have:=h.sz.ev;omega)) rfl<|az ?_;have e:apply s ⟨5,id,n,aa,v,x,ao⟩=(s,uL s ⟨5,id,n,aa,v,x,ao⟩):=by unfold apply;rw[a];rfl
 rw[e];exact ah
def anr(s:af){id n:UInt64}{aa:BA}{v:V4}{x:bM}{ao:List cC}{m:Nat}(h:dw m s)(d:m<=20000000)(c:gF ⟨6,id,n,aa,v,x,ao⟩)(a:(⟨6,id,n,aa,v,x,ao⟩:aC).right=true):PC 225 [s.pv,(⟨6,id,n,aa,v,x,ao⟩:aC).pv] (·=.aU [(apply s ⟨6,id,n,aa,v,x,ao⟩).1.pv,(apply s ⟨6,id,n,aa,v,x,ao⟩).2.pv]):=by
 have b:=l_ ⟨6,id,n,aa,v,x,ao⟩ c;rw[a]at b;refine aw func225<|ak b rfl<|ab<|ak (akw id n aa v x ao) rfl<|an<|aJ (ZS s ⟨6,id,n,aa,v,x,ao⟩ (by have:=h.sz.au;omega)) rfl<|az ?_;have e:apply s ⟨6,id,n,aa,v,x,ao⟩=(s,uL s ⟨6,id,n,aa,v,x,ao⟩):=by unfold apply;rw[a];rfl
 rw[e];exact ah
def acS(s:af){id n:UInt64}{aa:BA}{v:V4}{x:bM}{ao:List cC}{m:Nat}(h:dw m s)(d:m<=20000000)(a:gF ⟨7,id,n,aa,v,x,ao⟩)(b:(⟨7,id,n,aa,v,x,ao⟩:aC).right=true):PC 225 [s.pv,(⟨7,id,n,aa,v,x,ao⟩:aC).pv] (·=.aU [(apply s ⟨7,id,n,aa,v,x,ao⟩).1.pv,(apply s ⟨7,id,n,aa,v,x,ao⟩).2.pv]):=by
 have c:=l_ ⟨7,id,n,aa,v,x,ao⟩ a;rw[b]at c;refine aw func225<|ak c rfl<|ab<|ak (akf id n aa v x ao) rfl<|an<|aJ (aat s ⟨7,id,n,aa,v,x,ao⟩ (by have:=h.sz.aH;omega) a) rfl<|az ?_;have e:apply s ⟨7,id,n,aa,v,x,ao⟩=(s,uL s ⟨7,id,n,aa,v,x,ao⟩):=by unfold apply;rw[b];rfl
 rw[e];exact ah
def al3(s:af){id n:UInt64}{aa:BA}{v:V4}{x:bM}{ao:List cC}{m:Nat}(h:dw m s)(d:m<=20000000)(c:gF ⟨8,id,n,aa,v,x,ao⟩)(a:(⟨8,id,n,aa,v,x,ao⟩:aC).right=true):PC 225 [s.pv,(⟨8,id,n,aa,v,x,ao⟩:aC).pv] (·=.aU [(apply s ⟨8,id,n,aa,v,x,ao⟩).1.pv,(apply s ⟨8,id,n,aa,v,x,ao⟩).2.pv]):=by
 have b:=l_ ⟨8,id,n,aa,v,x,ao⟩ c;rw[a]at b;refine aw func225<|ak b rfl<|ab<|ak (ajl id n aa v x ao) rfl<|an<|aJ (am8 s ⟨8,id,n,aa,v,x,ao⟩ (by have:=h.sz.al;omega) (by have:=h.sz.places;omega)) rfl<|az ?_;have e:apply s ⟨8,id,n,aa,v,x,ao⟩=(s,uL s ⟨8,id,n,aa,v,x,ao⟩):=by unfold apply;rw[a];rfl
 rw[e];exact ah
def al7(s:af){id n:UInt64}{aa:BA}{v:V4}{x:bM}{ao:List cC}{m:Nat}(h:dw m s)(g:m<=20000000)(b:gF ⟨9,id,n,aa,v,x,ao⟩)(c:(⟨9,id,n,aa,v,x,ao⟩:aC).right=true):PC 225 [s.pv,(⟨9,id,n,aa,v,x,ao⟩:aC).pv] (·=.aU [(apply s ⟨9,id,n,aa,v,x,ao⟩).1.pv,(apply s ⟨9,id,n,aa,v,x,ao⟩).2.pv]):=by
 have d:=l_ ⟨9,id,n,aa,v,x,ao⟩ b;rw[c]at d;refine aw func225<|ak d rfl<|ab<|ak (Ye id n aa v x ao) rfl<|ab<|ab<|ak (Ye id n aa v x ao) rfl<|ak (Nh s ⟨9,id,n,aa,v,x,ao⟩ (by have:=h.sz.aH;omega) b) rr ?_;have e:apply s ⟨9,id,n,aa,v,x,ao⟩=match bz s (⟨9,id,n,aa,v,x,ao⟩:aC)with|(t,id,e)=>match decide (e=0)with|false=>(s,.ef e)|true=>({t with dy:=lT t.dy ⟨t.round,id,9⟩},{bn.z with id:=id}):=by unfold apply;rw[c];rfl
 rw[e];have a:dw m (bz s (⟨9,id,n,aa,v,x,ao⟩:aC)).1:=uy (o:=⟨9,id,n,aa,v,x,ao⟩) h b.x;rcases f:bz s (⟨9,id,n,aa,v,x,ao⟩:aC)with⟨t,i,e⟩
 rw[f]at a;dsimp only at a⊢;refine aj.aN (λh0=>?_) (λh0=>?_)
 ·rw[show decide (e=0)=true from h0];exact ab<|aJ (vL ⟨9,id,n,aa,v,x,ao⟩) rfl<|aJ (uo t.dy ⟨t.round,i,9⟩ (by have:=a.sz.au;omega)) rfl<|az<|ah
 ·rw[show decide (e=0)=false from h0];exact an<|ah
def aeJ(s:af){id n:UInt64}{aa:BA}{v:V4}{x:bM}{ao:List cC}{m:Nat}(h:dw m s)(g:m<=20000000)(b:gF ⟨10,id,n,aa,v,x,ao⟩)(c:(⟨10,id,n,aa,v,x,ao⟩:aC).right=true):PC 225 [s.pv,(⟨10,id,n,aa,v,x,ao⟩:aC).pv] (·=.aU [(apply s ⟨10,id,n,aa,v,x,ao⟩).1.pv,(apply s ⟨10,id,n,aa,v,x,ao⟩).2.pv]):=by
 have d:=l_ ⟨10,id,n,aa,v,x,ao⟩ b;rw[c]at d;refine aw func225<|ak d rfl<|ab<|ak (Rf id n aa v x ao) rfl<|ab<|ab<|ak (Rf id n aa v x ao) rfl<|ak (agn s ⟨10,id,n,aa,v,x,ao⟩ (by have:=h.sz.al;omega) b) rr ?_;have e:apply s ⟨10,id,n,aa,v,x,ao⟩=match yz s (⟨10,id,n,aa,v,x,ao⟩:aC)with|(t,id,e)=>match decide (e=0)with|false=>(s,.ef e)|true=>({t with dy:=lT t.dy ⟨t.round,id,10⟩},{bn.z with id:=id}):=by unfold apply;rw[c];rfl
 rw[e];have a:dw m (yz s (⟨10,id,n,aa,v,x,ao⟩:aC)).1:=uy (o:=⟨10,id,n,aa,v,x,ao⟩) h b.x;rcases f:yz s (⟨10,id,n,aa,v,x,ao⟩:aC)with⟨t,i,e⟩
 rw[f]at a;dsimp only at a⊢;refine aj.aN (λh0=>?_) (λh0=>?_)
 ·rw[show decide (e=0)=true from h0];exact ab<|aJ (vL ⟨10,id,n,aa,v,x,ao⟩) rfl<|aJ (uo t.dy ⟨t.round,i,10⟩ (by have:=a.sz.au;omega)) rfl<|az<|ah
 ·rw[show decide (e=0)=false from h0];exact an<|ah
def am9(s:af){id n:UInt64}{aa:BA}{v:V4}{x:bM}{ao:List cC}{m:Nat}(h:dw m s)(j:m<=20000000)(b:gF ⟨11,id,n,aa,v,x,ao⟩)(c:(⟨11,id,n,aa,v,x,ao⟩:aC).right=true)(f:vH s.ar aa):PC 225 [s.pv,(⟨11,id,n,aa,v,x,ao⟩:aC).pv] (·=.aU [(apply s ⟨11,id,n,aa,v,x,ao⟩).1.pv,(apply s ⟨11,id,n,aa,v,x,ao⟩).2.pv]):=by
 have d:=l_ ⟨11,id,n,aa,v,x,ao⟩ b;rw[c]at d;refine aw func225<|ak d rfl<|ab<|ak (Wz id n aa v x ao) rfl<|ab<|ab<|ak (Wz id n aa v x ao) rfl<|ak (akd s ⟨11,id,n,aa,v,x,ao⟩ h om f) rr ?_;have e:apply s ⟨11,id,n,aa,v,x,ao⟩=match qb s (⟨11,id,n,aa,v,x,ao⟩:aC)with|(t,id,e)=>match decide (e=0)with|false=>(s,.ef e)|true=>({t with dy:=lT t.dy ⟨t.round,id,11⟩},{bn.z with id:=id}):=by unfold apply;rw[c];rfl
 rw[e];have a:dw m (qb s (⟨11,id,n,aa,v,x,ao⟩:aC)).1:=uy (o:=⟨11,id,n,aa,v,x,ao⟩) h b.x;rcases g:qb s (⟨11,id,n,aa,v,x,ao⟩:aC)with⟨t,i,e⟩
 rw[g]at a;dsimp only at a⊢;refine aj.aN (λh0=>?_) (λh0=>?_)
 ·rw[show decide (e=0)=true from h0];exact ab<|aJ (vL ⟨11,id,n,aa,v,x,ao⟩) rfl<|aJ (uo t.dy ⟨t.round,i,11⟩ (by have:=a.sz.au;omega)) rfl<|az<|ah
 ·rw[show decide (e=0)=false from h0];exact an<|ah
def adN(s:af){id n:UInt64}{aa:BA}{v:V4}{x:bM}{ao:List cC}{m:Nat}(h:dw m s)(g:m<=20000000)(b:gF ⟨12,id,n,aa,v,x,ao⟩)(c:(⟨12,id,n,aa,v,x,ao⟩:aC).right=true):PC 225 [s.pv,(⟨12,id,n,aa,v,x,ao⟩:aC).pv] (·=.aU [(apply s ⟨12,id,n,aa,v,x,ao⟩).1.pv,(apply s ⟨12,id,n,aa,v,x,ao⟩).2.pv]):=by
 have d:=l_ ⟨12,id,n,aa,v,x,ao⟩ b;rw[c]at d;refine aw func225<|ak d rfl<|ab<|ak (QC id n aa v x ao) rfl<|ab<|ab<|ak (QC id n aa v x ao) rfl<|ak (aoe s ⟨12,id,n,aa,v,x,ao⟩ (by have:=h.sz.al;omega)) rr ?_;have e:apply s ⟨12,id,n,aa,v,x,ao⟩=match AF s (⟨12,id,n,aa,v,x,ao⟩:aC)with|(t,id,e)=>match decide (e=0)with|false=>(s,.ef e)|true=>({t with dy:=lT t.dy ⟨t.round,id,12⟩},{bn.z with id:=id}):=by unfold apply;rw[c];rfl
 rw[e];have a:dw m (AF s (⟨12,id,n,aa,v,x,ao⟩:aC)).1:=uy (o:=⟨12,id,n,aa,v,x,ao⟩) h b.x;rcases f:AF s (⟨12,id,n,aa,v,x,ao⟩:aC)with⟨t,i,e⟩
 rw[f]at a;dsimp only at a⊢;refine aj.aN (λh0=>?_) (λh0=>?_)
 ·rw[show decide (e=0)=true from h0];exact ab<|aJ (vL ⟨12,id,n,aa,v,x,ao⟩) rfl<|aJ (uo t.dy ⟨t.round,i,12⟩ (by have:=a.sz.au;omega)) rfl<|az<|ah
 ·rw[show decide (e=0)=false from h0];exact an<|ah
def YP(s:af){id n:UInt64}{aa:BA}{v:V4}{x:bM}{ao:List cC}{m:Nat}(h:dw m s)(d:m<=20000000)(c:gF ⟨13,id,n,aa,v,x,ao⟩)(a:(⟨13,id,n,aa,v,x,ao⟩:aC).right=true):PC 225 [s.pv,(⟨13,id,n,aa,v,x,ao⟩:aC).pv] (·=.aU [(apply s ⟨13,id,n,aa,v,x,ao⟩).1.pv,(apply s ⟨13,id,n,aa,v,x,ao⟩).2.pv]):=by
 have b:=l_ ⟨13,id,n,aa,v,x,ao⟩ c;rw[a]at b;refine aw func225<|ak b rfl<|ab<|ak (acI id n aa v x ao) rfl<|ab<|an<|ak (adG s h.sz om h.lf) rfl<|az ?_;have e:apply s ⟨13,id,n,aa,v,x,ao⟩=(s.oI,{bn.z with n:=s.oI.round}):=by unfold apply;rw[a];rfl
 rw[e];exact ah
def anD{k:Int}{f:iJ}(h:gD k=some f):k=1\/k=2\/k=3\/k=4\/k=5\/k=6\/k=7\/k=8\/k=9\/k=10\/k=11\/k=12\/k=13:=by
 have:=KI h;omega
def Ly(s:af)(o:aC){m:Nat}(h:dw m s)(c:m<=20000000)(b:gF o)(d:o.kind=11->vH s.ar o.aa):PC 225 [s.pv,o.pv] (·=.aU [(apply s o).1.pv,(apply s o).2.pv]):=by
 cases a:o.right
 ·refine aw func225 ?_;have g:=l_ o b;rw[a]at g;refine ak g rr ?_;have e:apply s o=(s,.ef 2):=by unfold apply;rw[a]
  rw[e];exact an<|ah
 obtain⟨f,hi⟩:=DI a;have i:=anD hi.k;clear hi;obtain⟨k,id,n,aa,v,x,ao⟩:=o;dsimp only at i d;rcases i with rfl|rfl|rfl|rfl|rfl|rfl|rfl|rfl|rfl|rfl|rfl|rfl|rfl
 ·exact anP s h c b a
 ·exact acK s h c b a
 ·exact aif s h c b a
 ·exact abB s h c b a
 ·exact aiP s h c b a
 ·exact anr s h c b a
 ·exact acS s h c b a
 ·exact al3 s h c b a
 ·exact al7 s h c b a
 ·exact aeJ s h c b a
 ·exact am9 s h c b a (d rr)
 ·exact adN s h c b a
 ·exact YP s h c b a
def IM(l:List QE)(k:Nat)(x:QE):Bool:=match x.wv with
 |true=>true
 |false=>match decide (pA l x.id=(k:Int))with
  |false=>true
  |true=>match k with
   |0=>false
   |k+1=>match l[k]? with
    |none=>false
    |some y=>!y.dm x
def Bb(l:List QE):Nat->List QE->Bool
 |_,[]=>decide (l.length<=32)
 |k,x::m=>match IM l k x with
  |true=>false
  |false=>Bb l (k+1) m
def sG(l:List QE):Bool:=Bb l 0 l
def amN(l:List QE){k:Nat}{x:QE}(h:l[k]? = some x):Bb l k (l.drop k)=match IM l k x with|true=>false|false=>Bb l (k+1) (l.drop (k+1)):=by
 obtain⟨a,rfl⟩:=c9.1 h;rw[o8 a];rfl
def agu(l:List QE)(j:l.length<=1000000):PC 53 [sl QE.pv l] (·=bo (sG l)):=by
 have h:(l.map QE.pv).length=l.length:=c8 ..;refine aw func53<|iC ⟨⟨rr,rr,rr⟩,⟨rr,rr,rr⟩,rr,rr,rr⟩ l.length om ⟨λ_=>[],[0,5,6],λ_=>[],[]⟩ (λq=>sG l=Bb l q (l.drop q)) rr (by show some _=_;simp_all) (λ_=>rfl) ⟨rr,rr,rr,rr,rr⟩ rr rr ?_ (λq hq b=>?_) (λb=>?_)
 ·exact bP
 ·obtain⟨x,e⟩:=cw hq;have a:=amN l e;have d:=Sn x;have hp:=Da l x.id om;refine bG e ?_;unfold IM at a;cases hb:x.wv
  case true=>
   rw[hb]at d a;exact aJ d rfl<|az<|an<|⟨200,_,_,.inl rr,(show bo false=bo (sG l)by rw[b,a])⟩
  rw[hb]at d a;refine aJ d rfl<|aJ hp rfl<|aj.is (decide (pA l x.id=(q:Int))) rr ?_;cases f:decide (pA l x.id=(q:Int))
  ·rw[f]at a;exact az<|an<|⟨200,_,_,.inl rr,(show bo false=bo (sG l)by rw[b,a])⟩
  rw[f]at a;cases q with
  |zero=>
   exact aE<|az<|ab<|ck.is id (b.trans a) rfl<|bP
  |succ q=>
   obtain⟨y,g⟩:∃y,l[q]? = some y:=cw om;have i:=WG y x;dsimp only at a;rw[g]at a;dsimp only at a;refine aj.t (show(0:Int)<((q+1:Nat):Int)by omega)<|jg (q)<|bG g<|aJ i rfl<|az ?_;cases c:y.dm x
   case true=>
    rw[c]at a;exact ab<|ck.is id (b.trans a) rfl<|bP
   rw[c]at a;exact an<|⟨200,_,_,.inl rr,(show bo false=bo (sG l)by simp_all)⟩
 ·rw[r9 (j2 _)]at b;have b:sG l=decide (l.length<=32):=b;exact aj.is (decide (l.length<=32)) (C3.2 om)<|⟨200,_,_,.inl rr,(show bo (decide (l.length<=32))=bo (sG l)by rw[b])⟩
def below(e x:aB):Bool:=match seq e.aa aA with
 |true=>false
 |false=>seq (jv e.aa) x.aa
def Jy(x:aB)(acc:V4)(e:aB):V4:=match below e x with
 |false=>acc
 |true=>(acc.add e.b_).1
def qR(x:aB)(acc:V4):List aB->Option V4
 | []=>some acc
 |e::m=>match below e x with
  |false=>qR x acc m
  |true=>match acc.add e.b_ with
   |(_,false)=>none
   |(n,true)=>qR x n m
def qI(t:List aB)(x:aB):Bool:=match qR x V4.z t with
 |none=>false
 |some v=>match x.b_.db x.bI with
  |false=>false
  |true=>v.db x.b_
def uW(t:List aB)(x:aB)(q:Nat):V4:=(t.take q).foldl (Jy x) V4.z
def aeT{t:List aB}(x:aB){q:Nat}{e:aB}(h:t[q]? = some e):uW t x (q+1)=Jy x (uW t x q) e:=by simp_all [uW,fW]
def afz{t:List aB}(x:aB)(v:V4){q:Nat}{e:aB}(h:t[q]? = some e):qR x v (t.drop q)=match below e x with
 |false=>qR x v (t.drop (q+1))
 |true=>match v.add e.b_ with
  |(_,false)=>none
  |(n,true)=>qR x n (t.drop (q+1)):=by
 obtain⟨a,rfl⟩:=c9.1 h
 rw[o8 a]
 rfl
def Zb(t:List aB)(x:aB)(i:t.length<=1000000)(g:∀e∈t,e.aa.size<=1000000):PC 124 [sl aB.pv t,x.pv] (·=bo (qI t x)):=by
 refine aw func124<|iC ⟨⟨rr,rr,rr⟩,⟨rr,rr,rr⟩,rr,rr,rr⟩ t.length om (.of (uW t x) (λ_=>[]) [3,5,10,11] (λv=>[(2,.rows 4 [v.pv] true none 32)]) [0]) (λq=>qR x V4.z t=qR x (uW t x q) (t.drop q)) rr (by show some _=_;simp_all) (λ_=>rfl) ⟨rr,rr,rr,rr,rr⟩ rr rr ?_ (λq hq b=>?_) (λb=>?_)
 ·exact bP
 ·obtain⟨e,d⟩:=cw hq;have a:=aeT x d;have c:=afz x (uW t x q) d;have hp:=Hn e.aa (g e (i7 d));generalize hv:uW t x q=v at a c b;rw[cE hv];refine bG d ?_;unfold Jy at a;refine aj.aN (λh1=>?_) (λh1=>?_)
  ·have hb:below e x=false:=by grind [below]
   rw[hb]at a c;exact az<|an<|ck.of id a (by simp_all) rfl<|bP
  ·refine aJ hp rfl<|aj.aN (λh2=>?_) (λh2=>?_)
   ·have hb:below e x=true:=by grind [below]
    rw[hb]at a c;refine az<|ab<|ak (uX v e.b_) rr ?_;rcases f:v.add e.b_ with⟨w,_|_⟩
    ·rw[f]at c;exact an<|⟨200,_,_,.inl rr,(show bo false=bo (qI t x)by grind [qI])⟩
    ·rw[f]at c a;exact ab<|ck.of id a (by simp_all) rfl<|bP
   ·have hb:below e x=false:=by grind [below]
    rw[hb]at a c;exact az<|an<|ck.of id a (by simp_all) rfl<|bP
 ·rw[r9 (j2 _)]at b;generalize hv:uW t x t.length=v at b;have b:qR x V4.z t=some v:=b;rw[cE hv];have h:qI t x=match x.b_.db x.bI with|false=>false|true=>v.db x.b_:=by grind [qI]
  rw[h];refine ak (uY x.b_ x.bI) rr ?_;cases j:x.b_.db x.bI
  ·exact ah
  exact ak (uY v x.b_) rfl<|ah
def sY(a b:BA):Bool:=dG a b||seq a b
def Co(t:List aB)(y e:aB):Bool:=match sY e.aa y.aa with
 |true=>true
 |false=>match named e.aa with
  |false=>true
  |true=>decide (fu t (jv e.aa)<0)
def zk(t:List aB)(k:Nat)(e:aB):Bool:=match k with
 |0=>false
 |k+1=>match t[k]? with
  |none=>false
  |some y=>Co t y e
def mP(t:List aB):Nat->List aB->Bool
 |_,[]=>!t.any λx=>!qI t x
 |k,x::m=>match zk t k x with
  |true=>false
  |false=>mP t (k+1) m
def uH:List aB->Bool
 | []=>false
 |e::m=>match decide (16<(e::m).length)with
  |true=>false
  |false=>match seq e.aa aA with
   |false=>false
   |true=>mP (e::m) 0 (e::m)
def ZT(t:List aB){k:Nat}{x:aB}(h:t[k]? = some x):mP t k (t.drop k)=match zk t k x with|true=>false|false=>mP t (k+1) (t.drop (k+1)):=by
 obtain⟨a,rfl⟩:=c9.1 h;rw[o8 a];rfl
def ae6(t:List aB)(x:aB)(a:t.length<=1000000)(b:∀e∈t,e.aa.size<=1000000):PC 123 [x.pv,.ip [sl aB.pv t] 0] (·=bo (!qI t x)):=aw func123<|ak (Zb t x a b) rfl<|ah
def Vm(t:List aB)(v:t.length<=1000000)(s:∀e∈t,e.aa.size<=1000000):PC 52 [sl aB.pv t] (·=bo (uH t)):=by
 rcases n:t with _|⟨m,m0⟩
 ·exact aw func52<|dQ<|an<|ah
 have w:(t.map aB.pv).length=t.length:=c8 ..;have h1:1<=t.length:=by simp_all
 have h0:t[0]? = some m:=by rw[n];rfl
 have c:uH t=match decide (16<t.length)with
  |true=>false
  |false=>match seq m.aa aA with
   |false=>false
   |true=>mP t 0 t:=by rw[n];rfl
 rw[<-n];refine aw func52<|aj.f (show¬(((t.map aB.pv).length:Nat):Int)<1 by omega) ?_;refine aj.is (decide (16<t.length)) (C3.2 om) ?_;cases g:decide (16<t.length)
 case true=>
  rw[g]at c;rw[c];exact an<|ah
 rw[g]at c;refine bG (i:=0) h0<|aj.is (seq m.aa aA) rr ?_;cases hq:seq m.aa aA
 ·rw[hq]at c;rw[c];exact an<|ah
 rw[hq]at c;have c:uH t=mP t 0 t:=c;rw[c];refine ab<|iC ⟨⟨rr,rr,rr⟩,⟨rr,rr,rr⟩,rr,rr,rr⟩ t.length om ⟨λ_=>[],[1,20,21],λ_=>[],[0]⟩ (λq=>mP t 0 t=mP t q (t.drop q)) rr (by show some _=_;simp_all) (λ_=>rfl) ⟨rr,rr,rr,rr,rr⟩ rr rr ?_ (λq hq b=>?_) (λb=>?_)
 ·exact bP
 ·obtain⟨x,o⟩:=cw hq;have a:=ZT t o;have h:=s x (i7 o);have d:=JV x.aa h;have p:=Hn x.aa h;have r:=wX t (jv x.aa) om;refine bG o ?_;cases q with
  |zero=>
   exact aE<|az<|ab<|ck.is id (b.trans a) rfl<|bP
  |succ q=>
   obtain⟨y,u⟩:∃y,t[q]? = some y:=cw om;unfold zk at a;dsimp only at a;rw[u]at a;dsimp only at a;unfold Co at a;refine aj.t (show(0:Int)<((q+1:Nat):Int)by omega)<|jg (q)<|bG u<|aj.is (sY x.aa y.aa) rr ?_;cases j:sY x.aa y.aa
   case true=>
    rw[j]at a;exact az<|an<|⟨200,_,_,.inl rr,(show bo false=bo (mP t 0 t)by rw[b,a])⟩
   rw[j]at a;cases k:named x.aa
   ·rw[k]at a d;exact aJ d rfl<|az<|an<|⟨200,_,_,.inl rr,(show bo false=bo (mP t 0 t)by rw[b,a])⟩
   rw[k]at a d;refine aJ d rfl<|aJ p rfl<|aJ r rfl<|aj.is (decide (fu t (jv x.aa)<0)) rfl<|az ?_;cases l:decide (fu t (jv x.aa)<0)
   case true=>
    rw[l]at a;exact an<|⟨200,_,_,.inl rr,(show bo false=bo (mP t 0 t)by rw[b,a])⟩
   rw[l]at a;exact ab<|ck.is id (b.trans a) rfl<|bP
 ·rw[r9 (j2 _)]at b;have b:mP t 0 t=!t.any λx=>!qI t x:=b
  have z:=ND dx.one t (λx=>!qI t x) om λx _=>ae6 t x v s
  rw[b];exact ak z rfl<|ah
def Hv(p:bf)(k:Nat)(n:bR):Bool:=match k with
 |0=>false
 |k+1=>match p.al[k]? with
  |none=>false
  |some y=>sY n.name y.name
def zS(p:bf)(k:Nat)(n:bR):Bool:=match(p.free n.name).2 with
 |false=>true
 |true=>match d_ n.name with
  |false=>true
  |true=>match iy n.ao with
   |false=>true
   |true=>Hv p k n
def ur(p:bf):Nat->List bR->Bool
 |_,[]=>match decide (p.al.length<=16)with
  |false=>false
  |true=>!p.places.any λx=>decide (p.at x.node<0)
 |k,x::m=>match zS p k x with
  |true=>false
  |false=>ur p (k+1) m
def qa(p:bf):Bool:=ur p 0 p.al
def acQ(p:bf){k:Nat}{x:bR}(h:p.al[k]? = some x):ur p k (p.al.drop k)=match zS p k x with|true=>false|false=>ur p (k+1) (p.al.drop (k+1)):=by
 obtain⟨a,rfl⟩:=c9.1 h;rw[o8 a];rfl
def aaV(p:bf)(x:dt)(a:p.al.length<=1000000):PC 118 [x.pv,.ip [sl bR.pv p.al,sl dt.pv p.places] 0] (·=bo (decide (p.at x.node<0))):=aw func118<|ak (Cr p x.node om) rfl<|aj.is (decide (p.at x.node<0)) rfl<|ah
def NT(p:bf)(o:p.al.length<=1000000)(hp:p.places.length<=1000000)(r:∀n∈p.al,n.name.size<=1000000/\n.ao.length<=67108864/\∀q∈n.ao,q.k.size<=1000000/\q.v.size<=1000000):PC 51 [p.pv] (·=bo (qa p)):=by
 have s:(p.al.map bR.pv).length=p.al.length:=c8 ..;refine aw func51<|iC ⟨⟨rr,rr,rr⟩,⟨rr,rr,rr⟩,rr,rr,rr⟩ p.al.length om ⟨λ_=>[],[1,9,10],λ_=>[],[0]⟩ (λq=>qa p=ur p q (p.al.drop q)) rr (by show some _=_;simp_all) (λ_=>rfl) ⟨rr,rr,rr,rr,rr⟩ rr rr ?_ (λq hq b=>?_) (λb=>?_)
 ·exact bP
 ·obtain⟨x,i⟩:=cw hq;have a:=acQ p i;obtain⟨s1,s2,s3⟩:=r x (i7 i);have c:=Cx p x.name om om;have d:=qO x.name om;have e:=xz x.ao s2 s3;unfold zS at a;refine bG i ?_;rcases j:p.free x.name with⟨v,_|_⟩
  ·rw[j]at a c;exact ak c rfl<|az<|an<|⟨200,_,_,.inl rr,(show bo false=bo (qa p)by rw[b,a])⟩
  rw[j]at a c;refine ak c rr ?_;cases l:d_ x.name with
  |false=>
   rw[l]at a d;exact aJ d rfl<|az<|an<|⟨200,_,_,.inl rr,(show bo false=bo (qa p)by rw[b,a])⟩
  |true=>
  rw[l]at a d;refine aJ d rr ?_;cases f:iy x.ao with
  |false=>
   rw[f]at a e;exact aJ e rfl<|az<|an<|⟨200,_,_,.inl rr,(show bo false=bo (qa p)by rw[b,a])⟩
  |true=>
  rw[f]at a e;refine aJ e rr ?_;cases q with
  |zero=>
   exact aE<|az<|ab<|ck.is id (b.trans a) rfl<|bP
  |succ q=>
   obtain⟨y,m⟩:∃y,p.al[q]? = some y:=cw om;unfold Hv at a;dsimp only at a;rw[m]at a;dsimp only at a;refine aj.t (show(0:Int)<((q+1:Nat):Int)by omega)<|jg (q)<|bG m<|aj.is (sY x.name y.name) rfl<|az ?_;cases h:sY x.name y.name
   case true=>
    rw[h]at a;exact an<|⟨200,_,_,.inl rr,(show bo false=bo (qa p)by rw[b,a])⟩
   rw[h]at a;exact ab<|ck.is id (b.trans a) rfl<|bP
 ·rw[r9 (j2 _)]at b;have b:qa p=match decide (p.al.length<=16)with|false=>false|true=>!p.places.any λx=>decide (p.at x.node<0):=b
  have u:=afM (g:=118) dx.one p.places (λx=>decide (p.at x.node<0)) om λx _=>aaV p x o
  rw[b];refine aj.is (decide (p.al.length<=16)) (C3.2 om) ?_;cases decide (p.al.length<=16)
  ·exact ah
  exact ak u rfl<|ah
def rK(s:af)(q:Nat):Nat:=((s.ae.take q).filter λj=>!j.bB).length
def af.waits(s:af):Nat:=(s.ae.filter λj=>!j.bB).length
def ZK{s:af}{q:Nat}{x:ax}(h:s.ae[q]? = some x):rK s (q+1)=match x.bB with|true=>rK s q|false=>rK s q+1:=by
 unfold rK;rw[fW h,D6];grind
def alC(s:af)(h:s.ae.length<=1000000):PC 55 [s.pv] (·=i64 (s.waits:Nat)):=by
 refine aw func55<|iC ⟨⟨rr,rr,rr⟩,⟨rr,rr,rr⟩,rr,rr,rr⟩ s.ae.length om (.of (rK s) (λn=>[(3,i64 (n:Nat))]) [8,9] (λ_=>[]) []) (λ_=>True) rr (by show some _=_;simp_all) (λ_=>rfl) ⟨rr,rr,rr,rr,rr⟩ rr trivial ?_ (λq hq d=>?_) (λd=>?_)
 ·exact bP
 ·obtain⟨x,c⟩:=cw hq;have a:=ZK c;have b:rK s q<=q:=by
   grind [rK]
  generalize hv:rK s q=n at a b;rw[cE hv];refine bG c ?_;obtain⟨g,j,f,i⟩:=x;cases f
  case true=>
   exact ab<|ck.of id a trivial rfl<|bP
  exact an<|aF (dq n)<|ck.of id a trivial rfl<|bP
 ·have e:s.waits=rK s s.ae.length:=by grind [af.waits,rK]
  rw[e];exact ah
def rX(e:aB)(j:ax):Bool:=match j.bB with
 |false=>true
 |true=>match seq e.aa aA with
  |true=>false
  |false=>!pg e.aa j.x.aa
def Gd(e:aB)(acc:V4)(j:ax):V4:=match rX e j with
 |true=>acc
 |false=>(acc.add j.x.total.1).1
def oO(e:aB)(acc:V4):List ax->Option V4
 | []=>some acc
 |j::m=>match rX e j with
  |true=>oO e acc m
  |false=>match j.x.total with
   |(_,false)=>none
   |(v,true)=>match acc.add v with
    |(_,false)=>none
    |(n,true)=>oO e n m
def af.nV(s:af)(e:aB):Bool:=match oO e V4.z s.ae with
 |none=>false
 |some v=>V4.same v e.b_
def t_(s:af)(e:aB)(q:Nat):V4:=(s.ae.take q).foldl (Gd e) V4.z
def aji{s:af}(e:aB){q:Nat}{j:ax}(h:s.ae[q]? = some j):t_ s e (q+1)=Gd e (t_ s e q) j:=by simp_all [t_,fW]
def alg{l:List ax}(e:aB)(v:V4){q:Nat}{j:ax}(h:l[q]? = some j):oO e v (l.drop q)=match rX e j with
 |true=>oO e v (l.drop (q+1))
 |false=>match j.x.total with
  |(_,false)=>none
  |(w,true)=>match v.add w with
   |(_,false)=>none
   |(n,true)=>oO e n (l.drop (q+1)):=by
 obtain⟨a,rfl⟩:=c9.1 h
 rw[o8 a]
 rfl
def acT(s:af)(e:aB)(y:s.ae.length<=1000000)(p:∀j∈s.ae,j.x.aa.size<=1000000):PC 59 [s.pv,e.pv] (·=bo (s.nV e)):=by
 refine aw func59<|iC ⟨⟨rr,rr,rr⟩,⟨rr,rr,rr⟩,rr,rr,rr⟩ s.ae.length om (.of (t_ s e) (λ_=>[]) [2,3,5,14,15] (λv=>[(3,.rows 4 [v.pv] true none 32)]) [0,1]) (λq=>oO e V4.z s.ae=oO e (t_ s e q) (s.ae.drop q)) rr (by show some _=_;simp_all) (λ_=>rfl) ⟨rr,rr,rr,rr,rr⟩ rr rr ?_ (λq hq h=>?_) (λh=>?_)
 ·exact bP
 ·obtain⟨j,l⟩:=cw hq;have c:=aji e l;have b:=alg e (t_ s e q) l;have d:=AK e.aa j.x.aa (p j (i7 l));have a:=zt j.x;generalize hv:t_ s e q=v at c b h;rw[cE hv];refine bG l ?_;unfold Gd at c;obtain⟨f,g,t,m⟩:=j;dsimp only at c b d a;cases t
  ·have hb:rX e ⟨f,g,false,m⟩=true:=rfl;rw[hb]at c b;exact an<|ck.of id c (by simp_all) rfl<|bP
  refine aj.aN (λh1=>?_) (λh1=>?_)
  ·have hb:rX e ⟨f,g,true,m⟩=false:=by grind [rX]
   rw[hb]at c b;refine ab ?_;rcases i:g.total with⟨w,_|_⟩
   ·rw[i]at a c b;have b:oO e v (s.ae.drop q)=none:=b;refine ak a rfl<|ak (uX v w) rr ?_;rcases v.add w with⟨u,o⟩
    exact an<|⟨200,_,_,.inl rr,(show bo false=bo (s.nV e)by grind [af.nV])⟩
   ·rw[i]at a c b;dsimp only at c b;refine ak a rfl<|ak (uX v w) rr ?_;rcases k:v.add w with⟨u,_|_⟩
    ·rw[k]at b;have b:oO e v (s.ae.drop q)=none:=b;exact an<|⟨200,_,_,.inl rr,(show bo false=bo (s.nV e)by grind [af.nV])⟩
    ·rw[k]at b c;exact ab<|ck.of id c (by simp_all) rfl<|bP
  ·cases n:pg e.aa g.aa
   ·have hb:rX e ⟨f,g,true,m⟩=true:=by grind [rX]
    rw[hb]at c b;rw[n]at d;exact ak d rfl<|an<|ck.of id c (by simp_all) rfl<|bP
   have hb:rX e ⟨f,g,true,m⟩=false:=by grind [rX]
   rw[hb]at c b;rw[n]at d;refine ak d rfl<|ab ?_;rcases i:g.total with⟨w,_|_⟩
   ·rw[i]at a c b;have b:oO e v (s.ae.drop q)=none:=b;refine ak a rfl<|ak (uX v w) rr ?_;rcases v.add w with⟨u,o⟩
    exact an<|⟨200,_,_,.inl rr,(show bo false=bo (s.nV e)by grind [af.nV])⟩
   ·rw[i]at a c b;dsimp only at c b;refine ak a rfl<|ak (uX v w) rr ?_;rcases k:v.add w with⟨u,_|_⟩
    ·rw[k]at b;have b:oO e v (s.ae.drop q)=none:=b;exact an<|⟨200,_,_,.inl rr,(show bo false=bo (s.nV e)by grind [af.nV])⟩
    ·rw[k]at b c;exact ab<|ck.of id c (by simp_all) rfl<|bP
 ·rw[r9 (j2 _)]at h;generalize hv:t_ s e s.ae.length=v at h;have h:oO e V4.z s.ae=some v:=h;rw[cE hv];have r:s.nV e=V4.same v e.b_:=by grind [af.nV]
  rw[r];exact aj.is (V4.same v e.b_) (xR _ _)<|ah
def Fk(s:af)(k:Nat)(j:ax):Bool:=match k with
 |0=>false
 |k+1=>match s.ae[k]? with
  |none=>false
  |some y=>decide (j.id.toNat<=y.id.toNat)
def af.zf(s:af)(k:Nat)(j:ax):Bool:=
 match decide (j.id.toNat<1)with
 |true=>false
 |false=>match decide (s.next.toNat<=j.id.toNat)with
  |true=>false
  |false=>match Fk s k j with
   |true=>false
   |false=>match decide (j.x.check=0)with
    |false=>false
    |true=>match there s.aH j.x.aa with
     |false=>false
     |true=>match j.bB with
      |true=>match decide (1<=j.left)with
       |false=>false
       |true=>decide (j.left<=j.x.dF)
      |false=>match decide (j.left=0)with
       |false=>false
       |true=>s.bg.any λy=>(⟨j.id,j.x.bC⟩:QE).same y
def alx(s:af)(a:UInt64)(b:bM)(c:Int)(hq:s.bg.length<=1000000):PC 130 [sl QE.pv s.bg,(⟨a,b.bC⟩:QE).pv] (·=bo (s.bg.any λy=>(⟨a,b.bC⟩:QE).same y)):=abE s.bg ⟨a,b.bC⟩ om
def alj(s:af)(k:Nat)(j:ax)(l:k<=s.ae.length)(m:s.ae.length<=1000000)(hq:s.bg.length<=1000000)(n:s.aH.length<=1000000)(g:j.x.Sz):PC 54 [s.pv,i64 (k:Nat),j.pv] (·=bo (s.zf k j)):=by
 obtain⟨b,d,i,c⟩:=j;dsimp only at g;have e:=Av d g;have a:=Xw s.aH d.aa om g.1;have f:=alx s b d c hq;refine aw func54 ?_;unfold af.zf;dsimp only;refine aj.is (decide (b.toNat<1)) (C3.2 (by grind)) ?_;cases decide (b.toNat<1)with
 |true=>
  exact az<|an<|ah
 |false=>
 dsimp only;refine aj.is (decide (s.next.toNat<=b.toNat)) (C3.2 (by simp_all)) ?_;cases decide (s.next.toNat<=b.toNat)with
 |true=>
  exact az<|an<|ah
 |false=>
 dsimp only;cases k with
 |zero=>
  unfold Fk;dsimp only;refine aE<|aJ e rfl<|aj.is (decide (d.check=0)) rr ?_;cases decide (d.check=0)
  ·exact az<|an<|ah
  dsimp only;cases hb:there s.aH d.aa
  ·rw[hb]at a;exact aJ a rfl<|az<|an<|ah
  rw[hb]at a;dsimp only;refine aJ a rfl<|az<|ab ?_;cases i
  case true=>
   refine an ?_;dsimp only;refine aj.is (decide (1<=c)) rr ?_;cases decide (1<=c)
   ·exact ah
   dsimp only;exact aj.is (decide (c<=d.dF)) rfl<|ah
  refine ab ?_;dsimp only;refine aj.is (decide (c=0)) rr ?_;cases decide (c=0)
  ·exact ah
  dsimp only;exact ak f rfl<|ah
 |succ k=>
  obtain⟨y,h⟩:∃y,s.ae[k]? = some y:=cw om;unfold Fk;dsimp only;rw[h];dsimp only;refine aj.t (show(0:Int)<((k+1:Nat):Int)by omega)<|jg (k)<|bG h<|aj.is (decide (b.toNat<=y.id.toNat)) (C3.2 (by simp_all)) ?_;cases decide (b.toNat<=y.id.toNat)
  case true=>
   exact az<|an<|ah
  dsimp only;refine aJ e rfl<|aj.is (decide (d.check=0)) rr ?_;cases decide (d.check=0)
  ·exact az<|an<|ah
  dsimp only;cases hb:there s.aH d.aa
  ·rw[hb]at a;exact aJ a rfl<|az<|an<|ah
  rw[hb]at a;dsimp only;refine aJ a rfl<|az<|ab ?_;cases i
  case true=>
   refine an ?_;dsimp only;refine aj.is (decide (1<=c)) rr ?_;cases decide (1<=c)
   ·exact ah
   dsimp only;exact aj.is (decide (c<=d.dF)) rfl<|ah
  refine ab ?_;dsimp only;refine aj.is (decide (c=0)) rr ?_;cases decide (c=0)
  ·exact ah
  dsimp only;exact ak f rfl<|ah
abbrev VZ(s:af)(b:Bool):Prop:=PC 56 [s.pv] (·=bo b)
def Jg(s:af)(b:Bool):Bool:=match decide (s.waits=s.bg.length)with
 |false=>false
 |true=>match b with
  |false=>false
  |true=>!s.aH.any λe=>!s.nV e
def ug(s:af)(b:Bool):Nat->List ax->Bool
 |_,[]=>Jg s b
 |k,j::m=>match s.zf k j with
  |false=>false
  |true=>ug s b (k+1) m
def CW(s:af)(b:Bool):Bool:=match qa s.ar with
 |false=>false
 |true=>match uH s.aH with
  |false=>false
  |true=>match sG s.bg with
   |false=>false
   |true=>match decide (32<s.ae.length)with
    |true=>false
    |false=>match decide (s.next.toNat<1)with
     |true=>false
     |false=>match decide (32<max s.dX.l.length s.dy.l.length)with
      |true=>false
      |false=>ug s b 0 s.ae
def ajf(s:af)(b:Bool){k:Nat}{j:ax}(h:s.ae[k]? = some j):ug s b k (s.ae.drop k)=match s.zf k j with|false=>false|true=>ug s b (k+1) (s.ae.drop (k+1)):=by
 obtain⟨a,rfl⟩:=c9.1 h;rw[o8 a];rfl
structure zM(s:af):Prop where
 al:s.ar.al.length<=1000000
 places:s.ar.places.length<=1000000
 node:∀n∈s.ar.al,n.name.size<=1000000/\n.ao.length<=67108864/\∀q∈n.ao,q.k.size<=1000000/\q.v.size<=1000000
 aH:s.aH.length<=1000000
 iv:∀e∈s.aH,e.aa.size<=1000000
 bg:s.bg.length<=1000000
 ae:s.ae.length<=1000000
 aZ:∀j∈s.ae,j.x.Sz
def ame(s:af)(e:aB)(h:zM s):PC 58 [e.pv,.ip s.cells 0] (·=bo (!s.nV e)):=aw func58<|ak (acT s e h.ae λj a=>(h.aZ j a).1) rfl<|ah
def Me(s:af){b:Bool}(h:zM s)(p:VZ s b):PC 22 [s.pv] (·=bo (CW s b)):=by
 have c:=NT s.ar h.al h.places h.node;have d:=Vm s.aH h.aH h.iv;have f:=agu s.bg h.bg;have n:=alC s h.ae;have r:(s.ae.map ax.pv).length=s.ae.length:=c8 ..;have t:(s.dX.l.map cZ.pv).length=s.dX.l.length:=c8 ..;have u:(s.dy.l.map cZ.pv).length=s.dy.l.length:=c8 ..;have v:(s.bg.map QE.pv).length=s.bg.length:=c8 ..;refine aw func22 ?_;unfold CW;cases e1:qa s.ar
 ·rw[e1]at c;exact ak c rfl<|an<|ah
 rw[e1]at c;dsimp only;refine ak c rr ?_;cases e2:uH s.aH
 ·rw[e2]at d;exact ak d rfl<|an<|ah
 rw[e2]at d;dsimp only;refine ak d rr ?_;cases e3:sG s.bg
 ·rw[e3]at f;exact ak f rfl<|an<|ah
 rw[e3]at f;dsimp only;refine ak f rfl<|aj.is (decide (32<s.ae.length)) (C3.2 om) ?_;cases decide (32<s.ae.length)
 case true=>
  exact an<|ah
 dsimp only;refine aj.is (decide (s.next.toNat<1)) (C3.2 om) ?_;cases decide (s.next.toNat<1)
 case true=>
  exact an<|ah
 dsimp only;refine cj.intro ((max s.dX.l.length s.dy.l.length:Nat):Int) ?_ ?_
 ·omega
 refine aj.is (decide (32<max s.dX.l.length s.dy.l.length)) (C3.2 om) ?_;cases decide (32<max s.dX.l.length s.dy.l.length)
 case true=>
  exact an<|ah
 refine ab ?_;dsimp only;refine iC ⟨⟨rr,rr,rr⟩,⟨rr,rr,rr⟩,rr,rr,rr⟩ s.ae.length (by have:=h.ae;omega) ⟨λ_=>[],[1,3,48,49],λ_=>[],[0,4]⟩ (λq=>ug s b 0 s.ae=ug s b q (s.ae.drop q)) rr (by show some _=_;simp_all) (λ_=>rfl) ⟨rr,rr,rr,rr,rr⟩ rr rr ?_ (λq hq k=>?_) (λk=>?_)
 ·exact bP
 ·obtain⟨j,o⟩:=cw hq;have m:=ajf s b o;have i:=alj s q j om h.ae h.bg h.aH (h.aZ j (i7 o));refine bG o ?_;cases hb:s.zf q j
  ·rw[hb]at m i;exact ak i rfl<|an<|⟨200,_,_,.inl rr,(show bo false=bo (ug s b 0 s.ae)by rw[k,m])⟩
  rw[hb]at m i;exact ak i rfl<|ab<|ck.is id (k.trans m) rfl<|bP
 ·rw[r9 (j2 _)]at k;have k:ug s b 0 s.ae=Jg s b:=k;rw[k];unfold Jg;have w:=ND (g:=58) (dx.one (a:=s.cells)) s.aH (λe=>!s.nV e) (by have:=h.aH;omega) λe _=>ame s e h
  refine aJ n rfl<|aj.is (decide (s.waits=s.bg.length)) (C3.2 om) ?_;cases decide (s.waits=s.bg.length)
  ·exact az<|ah
  dsimp only;refine aJ p rr ?_;cases b
  ·exact az<|ah
  exact aJ w rfl<|az<|ah
def JR(n:cZ)(s:BA):(iu s n).size<=s.size+30:=by grind [iu,cv]
def WH{n:BA}(h:n.size<=1000000)(s:BA):(rQ s n).size<=s.size+1000010:=by grind [rQ,gh]
def NM{x:dt}(h:x.node.size<=1000000)(s:BA):(ma s x).size<=s.size+1000060:=by grind [ma,cv,gh,jW]
def Pm{e:aB}(h:e.aa.size<=1000000)(s:BA):(nL s e).size<=s.size+1000090:=by grind [nL,gh,jW]
structure bR.mI(n:bR):Prop where
 name:n.name.size<=1000000
 len:n.ao.length<=67108864
 gS:∀p∈n.ao,p.k.size<=1000000/\p.v.size<=1000000
theorem Lt{n:bR}(h:n.mI):n.put.size<=22000000:=by
 unfold bR.put;have h1:=gh n.name;have h2:=jW n.cap;have a:=Ed h.gS;have:=h.name;grind [cv]
def Jb{n:bR}(h:n.mI)(s:BA):(kg s n).size<=s.size+22000000:=by grind [kg,Lt]
def Ff{j:ax}(h:j.x.Sz)(s:BA):(iz s j).size<=s.size+40000020:=by grind [iz,cv,CD]
def UH(x:fY)(j:x.l.length<=67108864):PC 325 [x.pv] (·=st x.put):=by
 refine aw func325 ?_;unfold fY.put;have m:=cv x.first;have o:=cv (aG (x.l.length:Nat));refine aJ (fg x.first) rfl<|rV<|aJ (fg (aG (x.l.length:Nat))) rfl<|aq.mk (cX om om)<|az ?_;have h0:(av x.first++av (aG (x.l.length:Nat))).size<=20:=by grind
 generalize av x.first++av (aG (x.l.length:Nat))=s0 at h0⊢;refine iC ⟨⟨rr,rr,rr⟩,⟨rr,rr,rr⟩,rr,rr,rr⟩ x.l.length om (.of (λq=>(x.l.take q).foldl iu s0) (λs=>[(3,st s)]) [16,17] (λ_=>[]) []) (λ_=>True) rr (by show some _=_;simp_all) (λ_=>rfl) ⟨rr,rr,rr,rr,rr⟩ rr trivial ?_ (λk h i=>?_) (λi=>?_)
 ·exact bP
 ·obtain⟨n,e⟩:=cw h;have g:=pH (f:=iu) (s:=s0) e;have c:=oE (f:=iu) (l:=x.l) (s:=s0) (λs p hp=>JR p s) k;generalize d:(x.l.take k).foldl iu s0=s at g c;rw[cE d];have h1:=cv n.round;have h2:=cv n.id;have r:=cv (aG n.kind);exact bG e<|aJ (fg n.round) rfl<|aJ (fg n.id) rfl<|aq.mk (cX om om)<|aF (lN n.kind)<|aJ (fg (aG n.kind)) rfl<|aq.mk (cX (a:=av n.round++av n.id) (b:=av (aG n.kind)) (by grind) om)<|aq.mk (cX (a:=s) (b:=av n.round++av n.id++av (aG n.kind)) om (by grind))<|az<|ck.of id g trivial rfl<|bP
 ·rw[<-qt (f:=iu) (s:=s0)];generalize d:(x.l.take x.l.length).foldl iu s0=s;rw[cE d];exact ah
def Eo(x:fY)(a:x.l.length<=67108864):x.put.size<=3000000000:=by
 unfold fY.put;have b:=cv x.first;have c:=cv (aG (x.l.length:Nat));have:=jV (f:=iu) (l:=x.l) (s:=av x.first++av (aG (x.l.length:Nat))) λs p _=>JR p s
 grind
def afA(n:bR)(h:n.mI):PC 367 [n.pv] (·=st n.put):=by
 refine aw func367 ?_;unfold bR.put;have h1:=gh n.name;have h2:=jW n.cap;have c:=Ed h.gS;have d:=h.name;obtain⟨name,cap,lb,up⟩:=n;dsimp only at h1 h2 c d;cases up
 ·have e:=cv 0;exact ab<|aJ (nX name om) rfl<|aJ (th cap) rfl<|aq.mk (cX om om)<|aJ (Hw lb h.len h.gS) rfl<|aq.mk (cX (a:=bQ name++cH cap) (b:=gq lb) (by grind) om)<|aJ (fg 0) rfl<|aq.mk (cX (a:=bQ name++cH cap++gq lb) (b:=av 0) (by grind) om)<|az<|ah
 have e:=cv 1;exact an<|aJ (nX name om) rfl<|aJ (th cap) rfl<|aq.mk (cX om om)<|aJ (Hw lb h.len h.gS) rfl<|aq.mk (cX (a:=bQ name++cH cap) (b:=gq lb) (by grind) om)<|aJ (fg 1) rfl<|aq.mk (cX (a:=bQ name++cH cap++gq lb) (b:=av 1) (by grind) om)<|az<|ah
def abH(t:List aB)(r:t.length<=67108864)(h:∀e∈t,e.aa.size<=1000000):PC 324 [sl aB.pv t] (·=st (lv t)):=by
 refine aw func324 ?_;unfold lv;have j:=cv (aG (t.length:Nat));refine rV<|ak (fg (aG (t.length:Nat))) rr ?_;generalize av (aG (t.length:Nat))=s0 at j⊢;refine iC ⟨⟨rr,rr,rr⟩,⟨rr,rr,rr⟩,rr,rr,rr⟩ t.length om (.of (λq=>(t.take q).foldl nL s0) (λs=>[(3,st s)]) [10,11] (λ_=>[]) []) (λ_=>True) rr (by show some _=_;simp_all) (λ_=>rfl) ⟨rr,rr,rr,rr,rr⟩ rr trivial ?_ (λk m n=>?_) (λn=>?_)
 ·exact bP
 ·obtain⟨e,c⟩:=cw m;have o:=h e (i7 c);have i:=pH (f:=nL) (s:=s0) c;have d:=oE (f:=nL) (l:=t) (s:=s0) (λs p hp=>Pm (h p hp) s) k;generalize g:(t.take k).foldl nL s0=s at i d;rw[cE g];have h1:=gh e.aa;have h2:=jW e.bI;have u:=jW e.b_;exact bG c<|aJ (nX e.aa om) rfl<|aJ (th e.bI) rfl<|aq.mk (cX om om)<|aJ (th e.b_) rfl<|aq.mk (cX (a:=bQ e.aa++cH e.bI) (b:=cH e.b_) (by grind) om)<|aq.mk (cX (a:=s) (b:=bQ e.aa++cH e.bI++cH e.b_) om (by grind))<|az<|ck.of id i trivial rfl<|bP
 ·rw[<-qt (f:=nL) (s:=s0)];generalize g:(t.take t.length).foldl nL s0=s;rw[cE g];exact ah
structure bf.mI(p:bf):Prop where
 al:p.al.length<=16
 places:p.places.length<=50000000
 node:∀n∈p.al,n.mI
 kX:∀x∈p.places,x.node.size<=1000000
def aiU(p:bf)(h:p.mI):PC 323 [p.pv] (·=st p.put):=by
 refine aw func323 ?_;unfold bf.put;obtain⟨al,places⟩:=p;obtain⟨r,hp,e,dE⟩:=h;dsimp only at r hp e dE⊢;have t:=cv (aG (al.length:Nat));have hv:=cv (aG (places.length:Nat));refine rV<|ak (fg (aG (al.length:Nat))) rr ?_;generalize av (aG (al.length:Nat))=s0 at t⊢;refine iC ⟨⟨rr,rr,rr⟩,⟨rr,rr,rr⟩,rr,rr,rr⟩ al.length om (.of (λq=>(al.take q).foldl kg s0) (λs=>[(3,st s)]) [1,14,15] (λ_=>[]) [0]) (λ_=>True) rr (by show some _=_;simp_all) (λ_=>rfl) ⟨rr,rr,rr,rr,rr⟩ rr trivial ?_ (λk m o=>?_) (λo=>?_)
 ·exact bP
 ·obtain⟨n,g⟩:=cw m;have i:=e n (i7 g);have c:=pH (f:=kg) (s:=s0) g;have d:=oE (f:=kg) (l:=al) (s:=s0) (λs p hp=>Jb (e p hp) s) k;generalize j:(al.take k).foldl kg s0=s at c d;rw[cE j];have h1:=Lt i;exact bG g<|ak (afA n i) rfl<|aq.mk (cX (a:=s) (b:=n.put) om om)<|ck.of id c trivial rfl<|bP
 ·rw[<-qt (f:=kg) (s:=s0)];have d:=oE (f:=kg) (l:=al) (s:=s0) (λs p hp=>Jb (e p hp) s) al.length;generalize j:(al.take al.length).foldl kg s0=s1 at d;rw[cE j];refine rV<|ak (fg (aG (places.length:Nat))) rfl<|aq.mk (cX (a:=s1) (b:=av (aG (places.length:Nat))) om om) ?_;have hb:(s1++av (aG (places.length:Nat))).size<=400000000:=by grind
  generalize s1++av (aG (places.length:Nat))=s2 at hb⊢;refine iC ⟨⟨rr,rr,rr⟩,⟨rr,rr,rr⟩,rr,rr,rr⟩ places.length om (.of (λq=>(places.take q).foldl ma s2) (λs=>[(3,st s)]) [33,34] (λ_=>[]) []) (λ_=>True) rr (by show some _=_;simp_all) (λ_=>rfl) ⟨rr,rr,rr,rr,rr⟩ rr trivial ?_ (λk m o=>?_) (λo=>?_)
  ·exact bP
  ·obtain⟨x,g⟩:=cw m;have i:=dE x (i7 g);have c:=pH (f:=ma) (s:=s2) g;have d:=oE (f:=ma) (l:=places) (s:=s2) (λs p hp=>NM (dE p hp) s) k;generalize j:(places.take k).foldl ma s2=s at c d;rw[cE j];have h1:=cv x.aZ;have h2:=gh x.node;have u:=jW x.v;exact bG g<|aJ (fg x.aZ) rfl<|aJ (nX x.node om) rfl<|aq.mk (cX om om)<|aJ (th x.v) rfl<|aq.mk (cX (a:=av x.aZ++bQ x.node) (b:=cH x.v) (by grind) om)<|aq.mk (cX (a:=s) (b:=av x.aZ++bQ x.node++cH x.v) om (by grind))<|az<|ck.of id c trivial rfl<|bP
  ·rw[<-qt (f:=ma) (s:=s2)];generalize j:(places.take places.length).foldl ma s2=s;rw[cE j];exact ah
def QF{p:bf}(h:p.mI):p.put.size<=60000000000000:=by
 unfold bf.put;have c:=cv (aG (p.al.length:Nat));have hv:=cv (aG (p.places.length:Nat));have h1:=jV (f:=kg) (l:=p.al) (s:=av (aG (p.al.length:Nat))) λs n a=>Jb (h.node n a) s
 have h2:=jV (f:=ma) (l:=p.places) (s:=p.al.foldl kg (av (aG (p.al.length:Nat)))++av (aG (p.places.length:Nat))) λs x b=>NM (h.kX x b) s
 have:=h.al;have:=h.places;grind
structure af.mI(s:af):Prop where
 ar:s.ar.mI
 aH:s.aH.length<=16
 iv:∀e∈s.aH,e.aa.size<=1000000
 ae:s.ae.length<=32
 aZ:∀j∈s.ae,j.x.Sz
 ev:s.dX.l.length<=67108864
 au:s.dy.l.length<=67108864
def XH{t:List aB}(c:t.length<=16)(a:∀e∈t,e.aa.size<=1000000):(lv t).size<=20000000:=by
 unfold lv;have d:=cv (aG (t.length:Nat));have h1:=jV (f:=nL) (l:=t) (s:=av (aG (t.length:Nat))) λs e b=>Pm (a e b) s
 omega
def aaD(s:af)(h:s.mI):PC 279 [s.pv] (·=st s.put):=by
 refine aw func279 ?_;unfold af.put;have t:=cv s.round;have w:=cv s.next;have v:=QF h.ar;have r:=XH h.aH h.iv;have z:=cv (aG (s.ae.length:Nat));have y:=Eo s.dX h.ev;have A:=Eo s.dy h.au;refine aJ (fg s.round) rfl<|aJ (fg s.next) rfl<|aq.mk (cX om om)<|aJ (aiU s.ar h.ar) rfl<|aq.mk (cX (a:=av s.round++av s.next) (b:=s.ar.put) (by grind) om)<|aJ (abH s.aH (by have:=h.aH;omega) h.iv) rfl<|aq.mk (cX (a:=av s.round++av s.next++s.ar.put) (b:=lv s.aH) (by grind) om)<|rV<|aJ (fg (aG (s.ae.length:Nat))) rfl<|aq.mk (cX (a:=av s.round++av s.next++s.ar.put++lv s.aH) (b:=av (aG (s.ae.length:Nat))) (by grind) om)<|az ?_;have h0:(av s.round++av s.next++s.ar.put++lv s.aH++av (aG (s.ae.length:Nat))).size<=70000000000000:=by grind
 generalize av s.round++av s.next++s.ar.put++lv s.aH++av (aG (s.ae.length:Nat))=s0 at h0⊢;have n:=h.ae;refine iC ⟨⟨rr,rr,rr⟩,⟨rr,rr,rr⟩,rr,rr,rr⟩ s.ae.length om (.of (λq=>(s.ae.take q).foldl iz s0) (λs=>[(3,st s)]) [1,28,29] (λ_=>[]) [0]) (λ_=>True) rr (by show some _=_;simp_all) (λ_=>rfl) ⟨rr,rr,rr,rr,rr⟩ rr trivial ?_ (λk o d=>?_) (λd=>?_)
 ·exact bP
 ·obtain⟨j,g⟩:=cw o;have e:=h.aZ j (i7 g);have m:=pH (f:=iz) (s:=s0) g;have c:=oE (f:=iz) (l:=s.ae) (s:=s0) (λs j d=>Ff (h.aZ j d) s) k;generalize i:(s.ae.take k).foldl iz s0=u at m c;rw[cE i];have h1:=cv j.id;have h2:=CD e;have p:=cv (aG j.left);exact bG g<|aJ (fg j.id) rfl<|aJ (Xz j.x e) rfl<|aq.mk (cX om om)<|aF (lN j.left)<|aJ (fg (aG j.left)) rfl<|aq.mk (cX (a:=av j.id++j.x.put) (b:=av (aG j.left)) (by grind) om)<|aq.mk (cX (a:=u) (b:=av j.id++j.x.put++av (aG j.left)) om (by grind))<|az<|ck.of id m trivial rfl<|bP
 ·rw[<-qt (f:=iz) (s:=s0)];have c:=oE (f:=iz) (l:=s.ae) (s:=s0) (λs j d=>Ff (h.aZ j d) s) s.ae.length;generalize i:(s.ae.take s.ae.length).foldl iz s0=u at c;rw[cE i];exact aJ (UH s.dX h.ev) rfl<|aq.mk (cX (a:=u) (b:=s.dX.put) om om)<|aJ (UH s.dy h.au) rfl<|aq.mk (cX (a:=u++s.dX.put) (b:=s.dy.put) (by grind) om)<|az<|ah
def abZ(v:V4):PC 275 [v.pv] (·=sl aB.pv [⟨aA,v,V4.z⟩]):=aw func275<|ah
def am2:PC 216 [] (·=af.new.pv):=aw func216<|ak (abZ V4.z) rfl<|ah
def ams(a:bn)(j:a.al.length<=67108864)(m:∀n∈a.al,n.size<=1000000)(z:a.gx.length<=67108864):PC 70 [a.pv] (·=st a.put):=by
 refine aw func70 ?_;unfold bn.put;have C:=cv (aG a.e);have E:=cv a.id;have D:=cv a.n;have B:=cv (aG a.lX);have G:=jW a.v;have F:=jW a.u;have I:=cv (aG (a.al.length:Nat));have H:=cv (aG (a.gx.length:Nat));refine aF (lN a.e)<|aJ (fg (aG a.e)) rfl<|aJ (fg a.id) rfl<|aq.mk (cX om om)<|aJ (fg a.n) rfl<|aq.mk (cX (a:=av (aG a.e)++av a.id) (b:=av a.n) (by grind) om)<|aF (lN a.lX)<|aJ (fg (aG a.lX)) rfl<|aq.mk (cX (a:=av (aG a.e)++av a.id++av a.n) (b:=av (aG a.lX)) (by grind) om)<|aJ (th a.v) rfl<|aq.mk (cX (a:=av (aG a.e)++av a.id++av a.n++av (aG a.lX)) (b:=cH a.v) (by grind) om)<|aJ (th a.u) rfl<|aq.mk (cX (a:=av (aG a.e)++av a.id++av a.n++av (aG a.lX)++cH a.v) (b:=cH a.u) (by grind) om)<|az ?_;have h0:(av (aG a.e)++av a.id++av a.n++av (aG a.lX)++cH a.v++cH a.u).size<=120:=by grind
 generalize av (aG a.e)++av a.id++av a.n++av (aG a.lX)++cH a.v++cH a.u=s0 at h0⊢;refine rV<|ak (fg (aG (a.al.length:Nat))) rfl<|aq.mk (cX (a:=s0) (b:=av (aG (a.al.length:Nat))) om om) ?_;have o:(s0++av (aG (a.al.length:Nat))).size<=130:=by grind
 generalize s0++av (aG (a.al.length:Nat))=s1 at o⊢;refine iC ⟨⟨rr,rr,rr⟩,⟨rr,rr,rr⟩,rr,rr,rr⟩ a.al.length om (.of (λq=>(a.al.take q).foldl rQ s1) (λs=>[(3,st s)]) [1,41,42] (λ_=>[]) [0]) (λ_=>True) rr (by show some _=_;simp_all) (λ_=>rfl) ⟨rr,rr,rr,rr,rr⟩ rr trivial ?_ (λk r t=>?_) (λt=>?_)
 ·exact bP
 ·obtain⟨n,h⟩:=cw r;have y:=m n (i7 h);have c:=pH (f:=rQ) (s:=s1) h;have d:=oE (f:=rQ) (l:=a.al) (s:=s1) (λs n j=>WH (m n j) s) k;generalize g:(a.al.take k).foldl rQ s1=u at c d;rw[cE g];have h2:=gh n;exact bG h<|ak (nX n om) rfl<|aq.mk (cX (a:=u) (b:=bQ n) om om)<|ck.of id c trivial rfl<|bP
 ·rw[<-qt (f:=rQ) (s:=s1)];have d:=oE (f:=rQ) (l:=a.al) (s:=s1) (λs n j=>WH (m n j) s) a.al.length;generalize g:(a.al.take a.al.length).foldl rQ s1=u at d;rw[cE g];refine rV<|ak (fg (aG (a.gx.length:Nat))) rfl<|aq.mk (cX (a:=u) (b:=av (aG (a.gx.length:Nat))) om om) ?_;have x:(u++av (aG (a.gx.length:Nat))).size<=u.size+10:=by simp_all
  generalize u++av (aG (a.gx.length:Nat))=s2 at x⊢;refine iC ⟨⟨rr,rr,rr⟩,⟨rr,rr,rr⟩,rr,rr,rr⟩ a.gx.length om (.of (λq=>(a.gx.take q).foldl iu s2) (λs=>[(3,st s)]) [60,61] (λ_=>[]) []) (λ_=>True) rr (by show some _=_;simp_all) (λ_=>rfl) ⟨rr,rr,rr,rr,rr⟩ rr trivial ?_ (λk r t=>?_) (λt=>?_)
  ·exact bP
  ·obtain⟨n,h⟩:=cw r;have c:=pH (f:=iu) (s:=s2) h;have i:=oE (f:=iu) (l:=a.gx) (s:=s2) (λs p hp=>JR p s) k;generalize g:(a.gx.take k).foldl iu s2=w at c i;rw[cE g];have h1:=cv n.round;have h2:=cv n.id;have A:=cv (aG n.kind);exact bG h<|aJ (fg n.round) rfl<|aJ (fg n.id) rfl<|aq.mk (cX om om)<|aF (lN n.kind)<|aJ (fg (aG n.kind)) rfl<|aq.mk (cX (a:=av n.round++av n.id) (b:=av (aG n.kind)) (by grind) om)<|aq.mk (cX (a:=w) (b:=av n.round++av n.id++av (aG n.kind)) om (by grind))<|az<|ck.of id c trivial rfl<|bP
  ·rw[<-qt (f:=iu) (s:=s2)];generalize g:(a.gx.take a.gx.length).foldl iu s2=w;rw[cE g];exact ah
def nS:iE aO.pv 23:=⟨λ_=>⟨rr,rr⟩,λ_=>rfl,λ_ _ _=>rfl⟩
def anZ{g:Nat}{cs:List PV}(h:dx cs)(l:List cP)(p:cP->Bool)(i:l.length<=67108864)(hp:∀x∈l,PC g (cP.pv x::cs) (·=bo (p x))):PC 267 [.sl false (l.map cP.pv),.fn g cs] (·=i64 (cJ p l 0)):=by
 rcases h with rfl|⟨a,rfl⟩|⟨a,b,rfl⟩<;>
 ·refine aw func267<|iV l.length ⟨λ_=>[],[0,1,7],λ_=>[],[]⟩ (λq=>cJ p l 0=cJ p (l.drop q) q) rr ?_ (λq hq d=>?_) (λd=>?_)
  ·exact bP
  ·obtain⟨x,f⟩:∃x,l[q]? = some x:=⟨_,j8 hq⟩;have e:=vP p f;refine bG f<|ak (hp x (i7 f)) rr ?_;cases c:p x
   case true=>
    rw[c]at e;refine an ?_;rw[d,e];exact ah
   rw[c]at e;exact ab<|ck.is id (d.trans e) rfl<|bP
  ·rw[d,r9 (j2 _)];exact ah
def WX{g:Nat}{cs:List PV}(h:dx cs)(l:List aO)(p:aO->Bool)(i:l.length<=67108864)(hp:∀x∈l,PC g (aO.pv x::cs) (·=bo (p x))):PC 112 [.sl false (l.map aO.pv),.fn g cs] (·=i64 (cJ p l 0)):=by
 rcases h with rfl|⟨a,rfl⟩|⟨a,b,rfl⟩<;>
 ·refine aw func112<|iV l.length ⟨λ_=>[],[0,1,7],λ_=>[],[]⟩ (λq=>cJ p l 0=cJ p (l.drop q) q) rr ?_ (λq hq d=>?_) (λd=>?_)
  ·exact bP
  ·obtain⟨x,f⟩:∃x,l[q]? = some x:=⟨_,j8 hq⟩;have e:=vP p f;refine bG f<|ak (hp x (i7 f)) rr ?_;cases c:p x
   case true=>
    rw[c]at e;refine an ?_;rw[d,e];exact ah
   rw[c]at e;exact ab<|ck.is id (d.trans e) rfl<|bP
  ·rw[d,r9 (j2 _)];exact ah
def Ym{g:Nat}{cs:List PV}(c:dx cs)(l:List cP)(p:cP->Bool)(d:l.length<=67108864)(hp:∀x∈l,PC g (cP.pv x::cs) (·=bo (p x))):PC 204 [.sl false (l.map cP.pv),.fn g cs] (·=bo (l.any p)):=by
 have h:=anZ c l p d hp;rcases c with rfl|⟨a,rfl⟩|⟨a,b,rfl⟩<;>
 ·exact aw func204<|bu.is h<|aj.is (l.any p) (vp p l 0)<|ah
def FT(l:List aO)(c:l.length<=67108864)(nx:Nat):LC 155 [.sl false (l.map aO.pv)] [] nx λr d=>r=.aS nx 0 l.length/\d=[(nx,some (.rows 23 (l.map aO.pv) true none 78))]:=by
 refine fX (js:=[]) (bs:=[]) (args:=[.sl false (l.map aO.pv)]) func155 rr rr rr rr trivial rfl<|wL.all λb hb=>?_
 refine aj.aN (λh=>?_) (λh=>?_)
 ·have a:l=[]:=B0 (by simpa using hb h);subst a;refine an<|sV.mk ⟨[(2,23,78)],⟨rr,trivial⟩,?_⟩;exact Ph (4,nx) rr rr (nS.cf [])<|az rr
 ·refine ab<|aq.mk ⟨⟨by simpa using c,λ_ h=>(by cases h),nS.rows l⟩,λ_=>rfl⟩ ?_;refine ey<|fw.mk ⟨[(5,nx)],200,_,_,rr,rr,rr,⟨fk.mk ⟨_,rr,nS.cf l,.inl rr⟩,trivial⟩,?_,rr⟩;simp[jy,PV.wk,PV.rn,oK,lk]
def NS(l:List aO)(i:Nat)(x:aO)(hi:i<=l.length)(u:l.length<67108864)(j nx:Nat)(m:Nat.beq nx j=false):LC 154 [.aS j 0 l.length,i64 i,.sl false [aO.pv x]] [(j,.rows 23 (l.map aO.pv) true none 78)] nx λr d=>r=.aS nx 0 (l.length+1)/\d=[(nx,some (.rows 23 ((l.take i++x::l.drop i).map aO.pv) true none 78)),(j,none)]:=by
 have o:∀{lo len:Nat} {rs:List PV} {s:Option Nat} {t:TypeId},XC prog 222 [.sl false [aO.pv x],.aS 0 lo len] [(0,.rows 23 rs true s t)] (bo false):=fun{_ _ _ _ _}=>yN (tS:=49) (tR:=4) (e:=78) func222 (by kernel_rfl) (by kernel_rfl) (by kernel_rfl) (by kernel_rfl) rr rr rr rr (λr q=>by rw[o6.1 q];rfl)
 have b:pj [aO.pv x] 23:=nS.rows [x];refine fX (js:=[j]) (bs:=[.rows 23 (l.map aO.pv) true none 78]) (args:=[.aS 0 0 l.length,i64 i,.sl false [aO.pv x]]) func154 rr rr ?_ rr ⟨⟨rr,nS.cf l⟩,trivial⟩ rr ?_
 ·unfold cW;rw[m];rfl
 have e2:(l.map aO.pv).length=l.length:=c8 ..;refine aq.mk ⟨om,om⟩ ?_;refine aj.f (by show¬((1:Int)=0);decide)<|ab<|aj.aN (λa=>?_) (λa=>?_)
 ·have a:i=l.length:=by have:=j5 a;omega
  refine an<|dS.l (aq.mk ⟨⟨by rw[e2];show l.length+1<=_;omega,(nS.rows l).k,b⟩,e2.symm⟩ ?_);refine ey<|fw.mk ⟨[(18,nx)],200,_,_,rr,rr,rr,⟨fk.mk ⟨_,rr,?_,.inl rr⟩,trivial⟩,?_,?_⟩
  ·exact(by rw[a,s9,F7,l6];rfl:l.map aO.pv++[aO.pv x]=(l.take i++x::l.drop i).map aO.pv)▸nS.cf _
  ·rfl
  ·exact congrArg (λx=>[(nx,some (aI.rows 23 x true none _)),(j,none)]) (by rw[a,s9,F7,l6];rfl:l.map aO.pv++[aO.pv x]=(l.take i++x::l.drop i).map aO.pv)
 ·have a:i<l.length:=by have:=j4 a;omega
  refine ab<|cj.intro ((l.length+1:Nat):Int) (wrap_i64 (by show(l.length:Int)+1=_;omega) om)<|uM<|JH.mk λc v=>?_
  refine aj.aN (λg=>?_) (λg=>?_)
  ·have g:c<l.length+1:=by have:=j5 g;omega
   refine an<|uM<|aq.mk ⟨om,om⟩ ?_;refine cj.intro ((l.length+1:Nat):Int) (wrap_i64 (by show(l.length:Int)+1=_;omega) om)<|jg (l.length+1-i)<|aq.mk ⟨om,om,om,om⟩ ?_;refine aq.mk ⟨om,?_⟩ ?_
   ·show(i:Int)<=((i-0+(l.length+1-i):Nat):Int);omega
   refine aq.mk ⟨b,?_⟩ ?_
   ·rw[i6,l8,A1];omega
   refine jX<|cj.intro ((i+1:Nat):Int) (wrap_i64 (by show(i:Int)+1=_;omega) om)<|aq.mk ⟨om,?_⟩ ?_
   ·show((i+1:Nat):Int)<=((i-0+(l.length+1-i):Nat):Int);omega
   refine aq.mk ⟨om,om⟩ ?_;refine aq.mk ?_ ?_
   ·show Nat.min (l.length-i) _<=(l.map aO.pv).length-(0+i)
    exact r8 (N3 _ _) om
   refine aq.mk ⟨xB (nS.rows l) _ _,?_⟩ ?_
   ·rw[Ez]
    ·rw[i6,l8,A1];show 0+(i+1)<=min (i-0) (l.map aO.pv).length+(l.length+1-i);omega
    ·rw[i6,l8,A1,l8,C0];show 0+i+min _ 1<=min (i-0) (l.map aO.pv).length+(l.length+1-i);omega
   refine jX<|az<|ey<|fw.mk ⟨[(30,nx)],200,_,_,rr,rr,rr,⟨fk.mk ⟨_,rr,?_,.inl rr⟩,trivial⟩,?_,?_⟩
   ·exact(Cz aO.pv l i x _ a rr rr (j7 _) (by show 1<=i-0+(l.length+1-i)-i;omega) (j7 _) (j7 _) (E9 (by show l.length-i<=i-0+(l.length+1-i)-(i+1);omega)) (F1 _ _)).symm▸nS.cf _
   ·show PV.aS nx 0 (i-0+(l.length+1-i))=_
    congr 1;omega
   ·exact congrArg (λx=>[(nx,some (aI.rows 23 x true none _)),(j,none)]) (Cz aO.pv l i x _ a rr rr (j7 _) (by show 1<=i-0+(l.length+1-i)-i;omega) (j7 _) (j7 _) (E9 (by show l.length-i<=i-0+(l.length+1-i)-(i+1);omega)) (F1 _ _))
  ·have g:l.length+1<=c:=by have:=j4 g;omega
   refine ab<|cj.intro ((l.length+1:Nat):Int) (wrap_i64 (by show(l.length:Int)+1=_;omega) om)<|uM<|aq.mk ⟨om,om⟩ ?_;refine cj.intro ((i+1:Nat):Int) (wrap_i64 (by show(i:Int)+1=_;omega) om)<|aq.mk ⟨om,?_⟩ ?_
   ·show((i+1:Nat):Int)<=((l.length+1-0:Nat):Int);omega
   refine bu.ext [0] (n:=200) o rr ⟨rr,trivial⟩<|an<|cj.intro ((i+1:Nat):Int) (wrap_i64 (by show(i:Int)+1=_;omega) om)<|aq.mk ⟨om,?_⟩ ?_
   ·show((i+1:Nat):Int)<=((l.length+1-0:Nat):Int);omega
   refine aq.mk ⟨om,?_⟩ ?_
   ·show(i:Int)<=((l.length+1-0:Nat):Int);omega
   have p:Nat.min (l.length+1-0-i) (l.length+1-0-(i+1))=l.length-i:=(Nat.min_eq_right om).trans om;have hb:0+0+i=i:=om
   have h:0+0+(i+1)=i+1:=om
   refine aq.mk ?_ ?_
   ·exact r8 (F2 p) (by rw[e2];show l.length-i<=l.length-(0+0+i);omega)
   refine aq.mk ⟨xB (nS.rows l) _ _,?_⟩ ?_
   ·show 0+0+(i+1)<=_;omega
   refine jX<|az<|aq.mk ⟨om,?_⟩ ?_
   ·show(i:Int)<=((l.length+1-0:Nat):Int);omega
   refine aq.mk ⟨b,?_⟩ ?_
   ·unfold fo;rw[i6,i6,l8];show 0+0+i<=min (0+0+(i+1)) (l.map aO.pv).length+_+_;omega
   refine jX<|ey<|fw.mk ⟨[(0,nx)],200,_,_,rr,rr,rr,⟨fk.mk ⟨_,rr,?_,.inl rr⟩,trivial⟩,?_,?_⟩
   ·exact(CE aO.pv l i x a hb (by show 1<=l.length+1-0-i;omega) h hb p (by show Nat.min _ _<=_;exact F1 _ _)).symm▸nS.cf _
   ·rfl
   ·exact congrArg (λx=>[(nx,some (aI.rows 23 x true none _)),(j,none)]) (CE aO.pv l i x a hb (by show 1<=l.length+1-0-i;omega) h hb p (by show Nat.min _ _<=_;exact F1 _ _))
end
section
open Go.Shelf Go.RowKit Go.Proofs.Tryz
def NG:Go.Shelf.Ren:=⟨fun|4=>212|n=>n,fun|0=>0|3=>3|4=>4|9=>9|20=>20|22=>109|25=>115|n=>n,λn=>n⟩
def Rh:Lays8.n4 prog NG:={
 mixed:=by kernel_rfl
 f4:=Exists.intro "slices.Grow[[]demesne/mac.Caveat,demesne/mac.Caveat]" ⟨by kernel_rfl,func212.trans (congrArg some (by kernel_rfl))⟩
 t0:=underlying0
 a0:=isAgg0
 z0:=sizeOf0
 v0:=zeroValue0
 t3:=underlying3
 a3:=isAgg3
 z3:=sizeOf3
 v3:=zeroValue3
 t4:=underlying4
 a4:=isAgg4
 z4:=sizeOf4
 v4:=zeroValue4
 t9:=underlying9
 a9:=isAgg9
 z9:=sizeOf9
 v9:=zeroValue9
 t20:=underlying20
 a20:=isAgg20
 z20:=sizeOf20
 v20:=zeroValue20
 t22:=underlying109
 a22:=isAgg109
 z22:=sizeOf109
 v22:=zeroValue109
 }
def Tryz.OD:(Tryz.prog.info? 115).map (λi=>(i.zero,i.size,i.bytes))=some (some (.agg #[.int .i64 0,.int .u64 0]),2,16):=by kernel_rfl
def i_(l:List fT):List Value:=l.flatMap fT.cells
def WI(l:List fT):(i_ l).length=l.length*2:=by
 induction l with
 |nil=>rfl
 |cons c l a=>unfold i_ at *;simp only[P1,i6,a,w6];show 2+_=_;omega
def aem(a b:List fT):i_ (a++b)=i_ a++i_ b:=by unfold i_;simp
def LM(l:List fT):∀j (h:j<l.length),(i_ l)[j*2]? = some (.int .i64 l[j].k)/\(i_ l)[j*2+1]? = some (.int .u64 (l[j].n:Int)):=by
 induction l with
 |nil=>intro j h;simp at h
 |cons c l ih=>
  intro j h;have e:i_ (c::l)=.int .i64 c.k::.int .u64 (c.n:Int)::i_ l:=rfl;rw[e];cases j with
  |zero=>exact⟨rr,rr⟩
  |succ j=>
   have h2:=ih j (by simpa using h);rw[show(j+1)*2=j*2+1+1 by omega];exact h2
def aar(l:List fT):∀u∈i_ l,u.oneCell'=true:=by
 intro u b;obtain⟨c,_,a⟩:=List.mem_flatMap.1 b;simp only[fT.cells,p9,o7,H3]at a;rcases a with rfl|rfl<;>rfl
def SD{w:World}{b off:Nat}{l:List fT}(h:∀j (h:j<l.length),yY w b (off+j*2) l[j])(j:Nat)(u:Value)(a:(i_ l)[j]? = some u):w.cell? ((⟨b,off,none⟩:Addr).add j)=some u:=by
 have e:((⟨b,off,none⟩:Addr).add j)=⟨b,off+j,none⟩:=by unfold Addr.add;split<;>simp_all
 rw[e];have f:=(c9.1 a).1;rw[WI]at f;have c:=h (j / 2) om;have d:=LM l (j / 2) om;rcases Nat.mod_two_eq_zero_or_one j with k|k
 ·have g:j / 2*2=j:=om
  rw[g]at c d;rw[d.1]at a;cases a;exact c.1
 ·have g:j / 2*2+1=j:=om
  have i:off+j / 2*2+1=off+j:=om
  rw[g]at d;unfold yY at c;rw[i]at c;rw[d.2]at a;cases a;exact c.2
def pn.own{w:World}{bZ:Nat}{v:Value}{l:List fT}(h:w.ownsRow bZ 115 2 v l.length (i_ l)):pn w v l:=by
 rcases h.2 with⟨rfl,h0⟩|⟨g,cap,d,rfl,hb,b,_⟩
 ·exact .inl ⟨rr,B5.1 h0⟩
 ·refine .inr (.inr ⟨g,0,cap,rr,(u7.1 b).1,λj c=>?_⟩);have a:=LM l j c;exact⟨by rw[j7,h.cellAt (j*2) om];exact a.1,by rw[j7,h.cellAt (j*2+1) om];exact a.2⟩
theorem Zc(n:Nat)(w:World)(hn:n≤1000000):
 Calls Tryz.prog 212 #[.slice none 0 0,.int .i64 (n:Int)] w fun e w'=>∃v,e=.returned v∧w'.ownsRow w.heap.size 115 2 v 0 []∧Below w.heap.size w w':=by
 obtain⟨i0,hi,hz0,hz1,hz2⟩:=info_parts Tryz.OD
 by_cases h0:n=0
 ·subst h0
  refine(Any8.slices_Grow_room Rh none 0 0 0 w (by omega) (by omega) (by omega) (by omega)).mono ?_
  rintro e u ⟨rfl,rfl⟩
  exact⟨_,rfl,World.ownsRow_nil _ _ _ _,Below.refl _ _⟩
 ·refine(Any8.slices_Grow_grow Rh i0 _ hi hz0 (by omega) none 0 0 n [] w (by omega) (by omega) (by rw[hz2];omega) (by omega) (by simp) (fun _=>rfl) (fun a h=>by cases h)).mono ?_
  rintro e u ⟨rfl,rfl⟩
  have hge:=grownCap_ge w (0+n) 0 115
  have hle:=grownCap_le_maxLen w (0+n) 0 115 (by unfold maxLen;omega)
  have hc:(Value.agg #[.int .i64 0,.int .u64 0]).cells.size=2:=rfl
  have hb:Below w.heap.size w w.drew:=(Below.refl _ _).drew
  refine⟨_,rfl,World.ownsRow_made w.drew _ _ (j2 _) hle ?_,hb.alloc (j2 _) _⟩
  have he:NG.t 25=115:=rfl
  rw[he]
  simp only[Array.size_append,size_zeroCells,hc]
  show(0:Nat)+_+_=_
  omega
def vA(b:Nat)(v:Value):Prop:=∀ad n c,v=.slice (some ad) n c->b<=ad.block
def vA.le{a b:Nat}{v:Value}(h:vA b v)(d:a<=b):vA a v:=λf n c e=>r8 d (h f n c e)
def vA.nil(b n c:Nat):vA b (.slice none n c):=λ_ _ _ e=>by cases e
def vA.own{w:World}{bZ:Nat}{v:Value}{l:List fT}(h:w.ownsRow bZ 115 2 v l.length (i_ l)):vA bZ v:=by
 intro d n c e;rcases h.2 with⟨rfl,h0⟩|⟨g,cap,a,rfl,hb,b,_⟩
 ·cases e
 ·cases e;exact hb
end
section
open Go.RowKit Go.Proofs.Tryz
def sZ(w:World)(v:Value)(l:List fT):Prop:=
 (∃c,v=.slice none 0 c/\l=[])\/(∃ad c,v=.slice (some ad) 0 c/\l=[])\/∃b off cap,v=.slice (some ⟨b,off,none⟩) l.length cap/\b<w.heap.size/\∀j (h:j<l.length),yY w b (off+j*2) l[j]
theorem sZ.below{w w':World}{B:Nat}{v:Value}{l:List fT}(h:sZ w v l)(hb:Below B w w')(c:w.heap.size<=B):sZ w' v l:=by
 rcases h with h|h|⟨b,off,cap,e,a,d⟩
 ·exact .inl h
 ·exact .inr (.inl h)
 ·exact .inr (.inr ⟨b,off,cap,e,u9 a hb.size,λj f=>⟨(hb.cell (p:=⟨b,off+j*2,none⟩) (u9 a c)).trans (d j f).1,(hb.cell (p:=⟨b,off+j*2+1,none⟩) (u9 a c)).trans (d j f).2⟩⟩)
def sZ.form{w:World}{v:Value}{l:List fT}(h:sZ w v l):∃a cap,v=.slice a l.length cap:=by
 rcases h with⟨c,rfl,rfl⟩|⟨a,c,rfl,rfl⟩|⟨b,off,cap,rfl,_⟩
 ·exact⟨_,_,rr⟩
 ·exact⟨_,_,rr⟩
 ·exact⟨_,_,rr⟩
def Dr(b:Nat)(v:Value):Prop:=∀ad n c,v=.slice (some ad) n c->b<=ad.block/\n<=c
def Dr.own{w:World}{bZ:Nat}{v:Value}{l:List fT}(h:w.ownsRow bZ 115 2 v l.length (i_ l)):Dr bZ v:=by
 intro f n c e;rcases h.2 with⟨rfl,h0⟩|⟨g,cap,b,rfl,hb,d,a,_⟩
 ·cases e
 ·cases e;exact⟨hb,a⟩
def alY{P:Program}{w:World}(bZ:Nat)(t ty e:TypeId)(i:TypeInfo)(size c:Nat)(d:P.underlying t=some (.slice e))(hi:P.info? e=some i)
 (v:Value) (n:Nat) (xs:List Value) (a:w.ownsRow bZ e size v n xs):
 (Builtin.append_ #[t,t] ty #[v,.slice none 0 c]).run P w=.ok v w:=by
 rcases a.2 with⟨rfl,rfl⟩|⟨g,cap,f,rfl,_,_,b,_⟩
 ·simp[Builtin.append_,run_underlying d,sizeOf,typeInfo,hi,Builtin.lenOf,Builtin.firstCells]
 ·simp[Builtin.append_,run_underlying d,sizeOf,typeInfo,hi,Builtin.lenOf,Builtin.firstCells,b,storeCells]
def ae1{P:Program}{w:World}{ops:Array Oper}{rest:List Oper}{o:Oper}{a:Act}{Q:Exit->Act->World->Prop}(f:o.guard=none)(s x:Operand)(t:TypeId)
 (g:o.op=.call {callee:=.builtin .append,args:=#[s,x],argTypes:=#[t,t]})
 (bZ:Nat) (e:TypeId) (i:TypeInfo) (size:Nat) (j:P.underlying t=some (.slice e)) (hi:P.info? e=some i)
 (v:Value) (n c:Nat) (xs:List Value) (k:a.eval s=v) (b:w.ownsRow bZ e size v n xs) (l:a.eval x=.slice none 0 c)
 (h:wpList P ops Q rest (a.put o.dst v) w):wpList P ops Q (o::rest) a w:=by
 refine wpList_plain f λK m=>?_
 have d:=alY (P:=P) (w:=w) bZ t o.type e i size c j hi v n xs b
 unfold Oper.wp
 simp[execOp,g,resolve,invoke,builtin,k,l,d,Result.andThen]
 exact m _ _ h
theorem O'{w:World}{ops:Array Oper}{rest:List Oper}{o:Oper}{a:Act}{Q:Exit→Act→World→Prop}(hgd:o.guard=none)(s x:Operand)
 (ho:o.op=.call {callee:=.builtin .append,args:=#[s,x],argTypes:=#[109,109]})
 (bZ:Nat) (v:Value) (k:List fT) (hs:a.eval s=v) (hown:w.ownsRow bZ 115 2 v k.length (i_ k))
 (u:Value) (l:List fT) (hx:a.eval x=u) (hu:sZ w u l) (hn:k.length+l.length≤1000000) (hbase:bZ≤w.heap.size)
 (h:∀v' w',w'.ownsRow bZ 115 2 v' (k++l).length (i_ (k++l))→w.grownBy w' v.ownBlock→wpList Tryz.prog ops Q rest (a.put o.dst v') w'):wpList Tryz.prog ops Q (o::rest) a w:=by
 obtain⟨i0,hi,hz0,hz1,hz2⟩:=info_parts Tryz.OD
 have hz:(Value.agg #[.int .i64 0,.int .u64 0]).cells.size=2:=rfl
 rcases hu with⟨c,rfl,rfl⟩|⟨ad,c,rfl,rfl⟩|⟨b,off,cap,rfl,hlt,hc⟩
 ·exact ae1 hgd s x 109 ho bZ 115 i0 2 Tryz.underlying109 hi v k.length c (i_ k) hs hown hx<|h v w (by rw[A2];exact hown) (World.grownBy.refl _ _)
 ·refine wpList_append_own _ hgd s x 109 ho bZ 115 i0 _ 2 16 Tryz.underlying109 hi hz0 hz1 hz2 hz (by decide) v k.length (i_ k) hs hown ad 0 c [] hx rfl (fun j u hj=>by cases hj) (fun u hu=>by cases hu) (by unfold maxLen;omega) (by omega) hbase ?_
  intro v' w' h1 h2 _
  exact h v' w' (by rw[A2];simpa using h1) h2
 ·refine wpList_append_own _ hgd s x 109 ho bZ 115 i0 _ 2 16 Tryz.underlying109 hi hz0 hz1 hz2 hz (by decide) v k.length (i_ k) hs hown ⟨b,off,none⟩ l.length cap (i_ l) hx (WI l) (fun j u hj=>SD hc j u hj) (aar l) (by unfold maxLen;omega) (by omega) hbase ?_
  intro v' w' h1 h2 _
  exact h v' w' (by rw[i6,aem];exact h1) h2
def Zy(v1 v2:Value)(m l2:List fT)(bs o cp:Nat)(w:World)(c1:w.cell? ⟨bs,o,none⟩=some v1)(c2:w.cell? ⟨bs,o+1,none⟩=some v2)(lb:bs<w.heap.size)
 (h1:sZ w v1 m) (h2:sZ w v2 l2) (A:m.length<=1000) (B:l2.length<=1000):
 Calls prog 148 #[.slice (some ⟨bs,o,none⟩) 2 cp] w λe w'=>∃v,e=.returned v/\pn w' v (m++l2)/\Below w.heap.size w w'/\Dr w.heap.size v:=by
 obtain⟨l,i⟩:∃n,m.length=n:=⟨_,rfl⟩
 obtain⟨s,k⟩:∃n,l2.length=n:=⟨_,rfl⟩
 have E:=Lib.hid (λu=>Zc (l+s) u om)
 have H1:=Lib.hid h1
 have F:=Lib.hid h2
 have C:=Lib.hid c1
 have D:=Lib.hid c2
 obtain⟨K,J,e1⟩:=h1.form
 obtain⟨a2,L,e2⟩:=h2.form
 rw[i]at e1
 rw[k]at e2
 subst e1 e2
 have s1:IntKind.i64.wrap (l:Int)=(l:Int):=by rw[IntKind.wrap_i64];omega
 have s2:IntKind.i64.wrap ((l:Int)+(s:Int))=((l+s:Nat):Int):=by rw[IntKind.wrap_i64];omega
 have s3:¬(l:Int)<0:=om
 have s4:¬(((l+s:Nat):Int))<0:=om
 have H:=Lib.hid (⟨i,k⟩:_/\_)
 clear h1 h2 i k
 go_enter func148,ntmps148
 go_wp2_with fail
 refine wp_loop_rounds 3 ?_
 repeat (rw[rounds_succ];go_wp2_with (go_at_call 212;refine(E.out _).mono ?_;rintro e u ⟨v,rfl,h,c⟩))
 refine wp_loop_rounds 3 ?_
 rw[rounds_succ]
 have d1:=(c.cell (p:=⟨bs,o,none⟩) lb).trans C.out
 have y:=Lib.hid (H1.out.below c (j2 _))
 have b:=Lib.hid h
 have f:=Lib.hid c
 clear c1 c2 h c
 have x:=H.out
 go_wp2_with (at_builtin;refine O' rr (Operand.tmp 31) (Operand.tmp 32) rr w.heap.size v [] rr b.out _ m rr y.out (by simp;omega) f.out.size ?_;intro v' w2 hown2 q)
 rw[rounds_succ]
 have d:=f.out.grown q f.out.size (λj e=>(b.out.lt j e).1)
 have d2:=(d.cell (p:=⟨bs,o+1,none⟩) lb).trans D.out
 have z:=Lib.hid (F.out.below d (j2 _))
 have a:=Lib.hid hown2
 have g:=Lib.hid d
 clear hown2 q d d1 y b f
 go_wp2_with (at_builtin;refine O' rr (Operand.tmp 31) (Operand.tmp 32) rr w.heap.size v' ([]++m) rr a.out _ l2 rr z.out (by simp;omega) g.out.size ?_;intro v3 w3 hown3 r)
 rw[rounds_succ]
 have ry:=g.out.grown r g.out.size (λj e=>(a.out.lt j e).1)
 have G:=Lib.hid (pn.own hown3)
 have I:=Lib.hid (Dr.own hown3)
 have t:=Lib.hid ry
 clear hown3 r ry d2 z a g
 go_wp2_with fail
 go_ret
 exact⟨_,rr,G.out,t.out,I.out⟩
end
end Go.Proofs.YtbnonpbnhenkfaaGreatDoor
section
namespace Go.Proofs.YtbnonpbnhenkfaaGreatDoor
open Go.RowKit Go.Proofs.Tryz
namespace Mc
def gD(c:fT):Bool:=c.k==1||c.k==2
def u64(k:Int):Nat:=(k%18446744073709551616).toNat
end Mc
structure Ix(w y:World)(k:Int)(n:Nat):Prop where
 c0:y.cell? ⟨w.heap.size,0,none⟩=some (.int .i64 k)
 c1:y.cell? ⟨w.heap.size,1,none⟩=some (.int .u64 (n:Int))
 lt:w.heap.size<y.heap.size
 b:Below w.heap.size w y
theorem Ix.below{w y z:World}{k:Int}{n:Nat}(h:Ix w y k n)(hb:Below y.heap.size y z):Ix w z k n:=
 ⟨(hb.cell (p:=⟨w.heap.size,0,none⟩) h.lt).trans h.c0,(hb.cell (p:=⟨w.heap.size,1,none⟩) h.lt).trans h.c1,u9 h.lt hb.size,h.b.trans (hb.mono h.b.size)⟩
end Go.Proofs.YtbnonpbnhenkfaaGreatDoor
end
section
namespace Go.Proofs.YtbnonpbnhenkfaaGreatDoor
open Go.RowKit Go.Proofs.Tryz
namespace Mc
def db(l:List fT):Bool:=decide (l.length<=8)&&!(l.any λc=>!gD c)
def stop(r rd:Nat)(c:fT):Bool:=(c.k==1&&!(decide (bits .andNot .u64 (r:Int) (c.n:Int)=0)))||(c.k==2&&decide ((c.n:Int)<(rd:Int)))
def uz(l:List fT)(r rd:Nat):Bool:=!(l.any (stop r rd))
end Mc
end Go.Proofs.YtbnonpbnhenkfaaGreatDoor
end
namespace Go.Proofs.YtbnonpbnhenkfaaGreatDoor
section
open Go.RowKit Go.Proofs.Tryz
theorem jz.sha{w:World}(h:jz w):Laid w:=by
 have hm1:(4,[Sh.H0.a,Sh.H0.b,Sh.H0.c,Sh.H0.d,Sh.H0.e,Sh.H0.f,Sh.H0.g,Sh.H0.h].map fun n=>Value.int .u32 ((n:Nat):Int))∈jY:=by unfold jY;simp
 have hm2:(5,Sh.K.map fun n=>Value.int .u32 ((n:Nat):Int))∈jY:=by unfold jY;simp
 have ht:=h.qh _ hm1;have hk:=h.qh _ hm2;refine⟨fun i hi=>hk i _ ?_,ht 0 _ rfl,ht 1 _ rfl,ht 2 _ rfl,ht 3 _ rfl,ht 4 _ rfl,ht 5 _ rfl,ht 6 _ rfl,ht 7 _ rfl,h.lt _ hm2,h.lt _ hm1⟩;show(Sh.K.map fun n=>Value.int .u32 ((n:Nat):Int))[i]? = _
 have hl:i<Sh.K.length:=hi;rw[A6,j8 hl,y5,j8 hl];rfl
def MH(k s:BA)(a:k.size<=281474976710656)(b:s.size<=281474976710000):PC 66 [st k,st s] (·=st (Mc.nA k s)):=
 Yq func66 rr rr rr rr λw c=>amI k s w c.sha a b
def GJ(c:cP):c.put.size<=20:=by
 have h1:=cv (aG c.kind);have h2:=cv c.n;unfold cP.put;rw[cD];omega
def Rc(c:cP):PC 139 [c.pv] (·=st c.put):=by
 refine aw func139 ?_;have h1:=cv (aG c.kind);have h2:=cv c.n;exact aF (lN _)<|aJ (fg (aG c.kind)) rfl<|aJ (fg c.n) rfl<|aq.mk (cX om om)<|az<|ah
def aju(c:cP):PC 206 [c.pv] (·=bo c.gD):=by
 refine aw func206 ?_;unfold cP.gD;refine aj.aN (λh1=>?_) (λh1=>?_)
 ·rw[show decide (c.kind=1)=true from h1];exact ah
 ·rw[show decide (c.kind=1)=false from h1];exact aj.is (decide (c.kind=2)) rfl<|ah
def abJ(c:cP):PC 205 [c.pv] (·=bo (!c.gD)):=aw func205<|ak (aju c) rfl<|ah
def Ux(t:cr)(a:t.bY.length<=67108864):PC 136 [t.pv] (·=bo t.db):=by
 refine aw func136 ?_;have e:((t.bY.map cP.pv).length:Int)=(t.bY.length:Int):=by rw[c8]
 unfold cr.db;refine aj.aN (λh1=>?_) (λh1=>?_)
 ·rw[e]at h1;rw[h1];exact ak (Ym dx.no t.bY (λc=>!c.gD) a λc _=>abJ c) rfl<|ah
 ·rw[e]at h1;rw[h1];exact ah
def Lw(key aD:BA)(a:key.size<=281474976710656)(b:aD.size<=281474976710000):PC 30 [st key,st aD] (·=(cr.new key aD).pv):=aw func30<|ak (MH key aD a b) rfl<|ah
def cP.qH(c:cP):fT:=⟨c.kind,c.n.toNat⟩
def VU{c:RC}{w:World}{b off:Nat}:∀(l:List cP) (vs:List Value),aM (l.map cP.pv) c vs->(∀i x,(bV vs)[i]? = some x->w.cell? ⟨b,off+i,none⟩=some x)->∀j (h:j<(l.map cP.qH).length),yY w b (off+j*2) (l.map cP.qH)[j]
 | [],_,_,_,j,h=>(Nat.not_lt_zero _ h).elim
 |x::l,vs,f,a,j,h=>by
  obtain⟨v,e,rfl,⟨us,rfl,o,k,rfl,⟨rfl,_⟩,u2,g,rfl,⟨rfl,_⟩,h0⟩,d⟩:=f
  cases h0
  cases j with
  |zero=>
   refine⟨?_,?_⟩
   ·have:=a 0 (.int .i64 x.kind) rr
    show w.cell? ⟨b,off+0*2,none⟩=some (.int .i64 x.kind)
    rw[C9];exact this
   ·have:=a 1 (.int .u64 (x.n.toNat:Int)) rr
    show w.cell? ⟨b,off+0*2+1,none⟩=some (.int .u64 (x.n.toNat:Int))
    rw[C9];exact this
  |succ j=>
   have m:=VU (off:=off+2) l e d (λi y hi=>by
    have:=a (i+2) y hi
    rwa [show off+2+i=off+(i+2)by omega]) j (by simpa using h)
   rw[show off+(j+1)*2=off+2+j*2 by omega]
   exact m
def Ns{c:RC}:∀(l:List cP) (vs:List Value),aM (l.map cP.pv) c vs->vs.length=l.length
 | [],_,h=>by rw[show _=[]from h];rfl
 |_::l,_,⟨_,a,e,_,h⟩=>by rw[e,w6,Ns l a h];rfl
def Yj{c:RC}(g:∀b o,c.Z b o->b<c.w.heap.size){l:List cP}{v:Value}(h:bW (sl cP.pv l) c v):sZ c.w v (l.map cP.qH):=by
 obtain⟨vs,e,a,cap,rfl,_,_,j⟩:=h;have d:=Ns l vs e;cases l with
 |nil=>
  obtain rfl:vs=[]:=B0 d;cases a with
  |none=>exact .inl ⟨cap,rr,rr⟩
  |some p=>exact .inr (.inl ⟨p,cap,rr,rr⟩)
 |cons x l=>
  rcases j with rfl|⟨b,off,k,rfl,r,f⟩
  ·cases d
  ·refine .inr (.inr ⟨b,off,cap,by rw[d,c8],?_,VU (x::l) vs e λi y hi=>(f i y hi).2⟩);have:∃y,(bV vs)[0]? = some y:=by
    obtain⟨v,q,rfl,⟨us,rfl,s,n,rfl,⟨rfl,_⟩,_⟩,_⟩:=e;exact⟨_,rr⟩
   obtain⟨y,m⟩:=this;exact g _ _ (f 0 y m).1
def amS{w:World}{Z:Nat->Nat->Prop}{v:Value}{l:List cP}(h:pn w v (l.map cP.qH))(j:∀b off cap n,v=.slice (some ⟨b,off,none⟩) n cap->b<w.heap.size->∀o,Z b o)(a:∀b off cap n,v=.slice (some ⟨b,off,none⟩) n cap->n<=cap):bW (sl cP.pv l) ⟨w,Z,λ_=>none⟩ v:=by
 have k:∀l:List cP,aM (l.map cP.pv) (RC.pure ⟨w,Z,λ_=>none⟩) (l.map λc:cP=>Value.agg #[.int .i64 c.kind,.int .u64 (c.n.toNat:Int)]):=by
  intro l;induction l with
  |nil=>rfl
  |cons x l r=>exact⟨_,_,rr,⟨[.int .i64 x.kind,.int .u64 (x.n.toNat:Int)],rr,_,_,rr,⟨rr,rr⟩,_,_,rr,⟨rr,rr⟩,rr⟩,r⟩
 refine⟨_,k l,?_⟩;have g:(l.map λc:cP=>Value.agg #[.int .i64 c.kind,.int .u64 (c.n.toNat:Int)]).length=l.length:=c8 ..;rcases h with⟨rfl,e⟩|⟨q,c,rfl,e⟩|⟨b,off,cap,rfl,f,m⟩
 ·obtain rfl:l=[]:=List.map_eq_nil_iff.1 e;exact⟨none,0,rr,j2 _,λh=>(by cases h),.inl rr⟩
 ·obtain rfl:l=[]:=List.map_eq_nil_iff.1 e;exact⟨some q,c,rr,j9 _,λh=>(by cases h),.inl rr⟩
 ·have d:(l.map cP.qH).length=l.length:=c8 ..;refine⟨some ⟨b,off,none⟩,cap,by rw[g,d],?_,λh=>(by cases h),.inr ⟨b,off,2,rr,λx p=>?_,λi x hi=>⟨j b off cap _ rr f _,?_⟩⟩⟩
  ·have:=a b off cap _ rr;rw[d]at this;rw[g];exact this
  ·obtain⟨y,_,rfl⟩:=y9.1 p;rfl
  ·have e:bV (l.map λc:cP=>Value.agg #[.int .i64 c.kind,.int .u64 (c.n.toNat:Int)])=i_ (l.map cP.qH):=by
    unfold bV i_;rw[List.flatMap_map,List.flatMap_map];rfl
   rw[e]at hi;have:=SD m i x hi;have e2:((⟨b,off,none⟩:Addr).add i)=⟨b,off+i,none⟩:=by unfold Addr.add;split<;>simp_all
   rwa [e2]at this
def alO(a b:List cP)(l:a.length<=1000)(hb:b.length<=1000):PC 148 [.sl false [sl cP.pv a,sl cP.pv b]] (·=sl cP.pv (a++b)):=by
 refine⟨enters_of func148 rr rr,λw Z vs t d hv=>?_⟩;obtain⟨v,s,rfl,⟨us,⟨A,r,rfl,r1,u2,q,rfl,r2,h2⟩,x,cap,rfl,m,_,p⟩,h0⟩:=hv;cases h0;cases h2;rcases p with h|⟨bs,off,k,rfl,u,i⟩
 ·cases h
 have g1:=Yj (c:=⟨w,Z,λ_=>none⟩) d r1;have g2:=Yj (c:=⟨w,Z,λ_=>none⟩) d r2;obtain⟨z,y,rfl⟩:=g1.form;obtain⟨a2,B,rfl⟩:=g2.form;have c1:=i 0 _ rr;have c2:=i 1 _ rr;refine(Zy _ _ (a.map cP.qH) (b.map cP.qH) bs off cap w c1.2 c2.2 (d _ _ c1.1) g1 g2 (by rw[c8];exact l) (by rw[c8];exact hb)).mono ?_;rintro e w' ⟨v,rfl,hv,f,j⟩;rw[<-l6]at hv;refine⟨_,v,rr,rr,amS hv (λb off cap n e g o=>.inr ⟨(j _ _ _ e).1,g⟩) (λb off cap n e=>(j _ _ _ e).2),f⟩
def RP(t:cr):dP [t.pv]:=λr a=>by rw[o6.1 a];rfl
abbrev aeF(aD:BA)(cs:List cP)(g:BA):aI:=.rows 3 [cr.pv ⟨aD,cs,g⟩] true none 111
def akc{g:BA}(a:g.size<=1000000)(l:List cP)(q:Nat):((l.take q).foldl uQ g).size<=1000000:=by
 have key:∀(l:List cP) (g:BA),g.size<=1000000->(l.foldl uQ g).size<=1000000:=by
  intro l;induction l with
  |nil=>intro g h;exact h
  |cons c l ih=>intro g _;exact ih _ (by show(Mc.nA g c.put).size<=_;rw[Mc.wQ];omega)
 exact key _ g a
def MV(t:cr)(l:List cP)(h1:t.bY.length<=1000)(h2:l.length<=1000)(e:t.gY.size<=1000000):PC 67 [t.pv,sl cP.pv l] (·=(t.narrowed l).pv):=by
 refine aw func67<|ak (alO t.bY l h1 h2) rfl<|iV l.length (.of (λq=>(l.take q).foldl uQ t.gY) (λ_=>[]) [2,4,13,14] (λg=>[(0,aeF t.aD (t.bY++l) g)]) [1]) (λ_=>True) trivial ?_ (λk h i=>?_) (λi=>?_)
 ·exact cS rr (RP _)
 ·obtain⟨x,c⟩:=cw h;have d:=pH (f:=uQ) (s:=t.gY) c;have a:=akc e l k;generalize b:(l.take k).foldl uQ t.gY=g at d a;rw[cE b];have j:=GJ x;exact bG c<|aJ (Rc x) rfl<|aJ (MH g x.put om om) rfl<|az<|ck.of id d trivial rfl<|cS rr (RP _)
 ·rw[show t.narrowed l=⟨t.aD,t.bY++l,(l.take l.length).foldl uQ t.gY⟩by rw[qt];rfl];generalize b:(l.take l.length).foldl uQ t.gY=g;rw[cE b];exact ah
def aip(t:cr)(c:cP)(h1:t.bY.length<=1000)(a:t.gY.size<=1000000):PC 31 [t.pv,c.pv] (·=(t.zg c).pv):=aw func31<|ak (MV t [c] h1 (by show 1<=1000;omega) a) rfl<|ah
def JJ(key:BA)(t:cr)(b:key.size<=1000000)(c:t.aD.size<=1000000)(a:t.bY.length<=1000):PC 135 [st key,t.pv] (·=bo (t.check key)):=by
 refine aw func135 ?_;unfold cr.check;refine aJ (Ux t om) rr ?_;cases t.db
 ·exact az<|ah
 exact aJ (Lw key t.aD om om) rfl<|aJ (MV (cr.new key t.aD) t.bY (j9 _) a (by show(Mc.nA key t.aD).size<=_;rw[Mc.wQ];omega)) rfl<|aj.is _ rfl<|az<|ah
def ahB(c:fT)(r rd:Nat)(g4 g5 i h:Nat)(w:World)(j:w.cell? ⟨g4,i,none⟩=some (.int .u64 (r:Int)))(l:w.cell? ⟨g5,h,none⟩=some (.int .u64 (rd:Int)))(o:g4<w.heap.size)(m:g5<w.heap.size):
 Calls prog 283 #[c.val,.pointer (some ⟨g4,i,none⟩),.pointer (some ⟨g5,h,none⟩)] w λe w'=>e=.returned (.bool (Mc.stop r rd c))/\Below w.heap.size w w':=by
 obtain⟨k,n⟩:=c
 have a:=Lib.hid (show Mc.stop r rd ⟨k,n⟩=((k==1&&!(decide (bits .andNot .u64 (r:Int) (n:Int)=0)))||(k==2&&decide ((n:Int)<(rd:Int))))from rr)
 generalize q:bits .andNot .u64 (r:Int) (n:Int)=z at a
 generalize Mc.stop r rd ⟨k,n⟩=b at a⊢
 unfold fT.val fT.cells
 go_enter func283,ntmps283
 go_upto_region 1 with fail
 have dU:Below w.heap.size w (w.alloc (.cells #[.int .i64 k,.int .u64 (n:Int)] 115)):=(Below.refl _ _).alloc (j2 _) _
 have c0:(w.alloc (.cells #[.int .i64 k,.int .u64 (n:Int)] 115)).cell? ⟨w.heap.size,0,none⟩=some (.int .i64 k):=by rw[World.cell?_alloc_mark];rfl
 have c1:(w.alloc (.cells #[.int .i64 k,.int .u64 (n:Int)] 115)).cell? ⟨w.heap.size,1,none⟩=some (.int .u64 (n:Int)):=by rw[World.cell?_alloc_mark];rfl
 have f:=(dU.cell (p:=⟨g4,i,none⟩) o).trans j
 have g:=(dU.cell (p:=⟨g5,h,none⟩) m).trans l
 generalize w.alloc (.cells #[.int .i64 k,.int .u64 (n:Int)] 115)=x at dU c0 c1 f g⊢
 clear j l o m
 by_cases h1:k=1
 ·subst h1
  by_cases d:z=0
  ·subst d
   go_wp2_with fail
   go_ret
   exact⟨lK (by rw[a.out];simp),dU⟩
  ·go_wp2_with fail
   go_ret
   exact⟨lK (by rw[a.out];simp[d]),dU⟩
 ·by_cases h2:k=2
  ·subst h2
   by_cases s:(n:Int)<(rd:Int)
   ·go_wp2_with fail
    go_ret
    exact⟨lK (by rw[a.out];simp;omega),dU⟩
   ·go_wp2_with fail
    go_ret
    exact⟨lK (by rw[a.out];simp;omega),dU⟩
  ·go_wp2_with fail
   go_ret
   exact⟨lK (by rw[a.out];simp[h1,h2]),dU⟩
def abo(a b:UInt64):bits .andNot .u64 (a.toNat:Int) (b.toNat:Int)=(((a &&& ~~~b).toNat:Nat):Int):=by
 show IntKind.u64.wrap (((BitVec.ofInt 64 (a.toNat:Int) &&& ~~~BitVec.ofInt 64 (b.toNat:Int)).toNat:Nat):Int)=_
 have c:BitVec.ofInt 64 (a.toNat:Int)=a.toBitVec:=by
  apply BitVec.eq_of_toNat_eq;rw[M9,O5];exact D1 a.toNat_lt
 have hb:BitVec.ofInt 64 (b.toNat:Int)=b.toBitVec:=by
  apply BitVec.eq_of_toNat_eq;rw[M9,O5];exact D1 b.toNat_lt
 rw[c,hb];have:(a.toBitVec &&& ~~~b.toBitVec).toNat=(a &&& ~~~b).toNat:=rfl;rw[this];exact GV (a &&& ~~~b).toNat_lt
def afN(right round:UInt64)(c:cP):Mc.stop right.toNat round.toNat c.qH=c.yO right round:=by
 unfold Mc.stop cP.yO cP.qH;dsimp only;rw[abo];have e1:(c.kind==1)=decide (c.kind=1):=by cases h:decide (c.kind=1)<;>simp_all
 have e2:(c.kind==2)=decide (c.kind=2):=by cases h:decide (c.kind=2)<;>simp_all
 have e3:decide ((((right &&& ~~~ c.n).toNat:Nat):Int)=0)=decide (right &&& ~~~ c.n=0):=by
  apply C3.2;constructor
  ·intro h;have h:(right &&& ~~~ c.n).toNat=0:=om
   exact F6.1 (by rw[h];rfl)
  ·intro h;rw[h];rfl
 have e4:decide ((c.n.toNat:Int)<(round.toNat:Int))=decide (c.n.toNat<round.toNat):=C3.2 B1;rw[e1,e2,e3,e4];cases decide (c.kind=1)&&!decide (right &&& ~~~ c.n=0)<;>simp
def aoj(c:cP)(right round:UInt64):PC 283 [c.pv,.ip [pu right] 0,.ip [pu round] 0] (·=bo (c.yO right round)):=by
 refine⟨enters_of func283 rr rr,λw Z vs n g hv=>?_⟩;obtain⟨v,_,rfl,⟨us,rfl,s,_,rfl,⟨rfl,_⟩,u2,_,rfl,⟨rfl,_⟩,h0⟩,q,_,rfl,⟨h,k,j,rfl,⟨p,_,rfl,⟨rfl,_⟩,a⟩,b⟩,r,_,rfl,⟨l,m,i,rfl,⟨o,_,rfl,⟨rfl,_⟩,d⟩,f⟩,h1⟩:=hv;cases h0;cases a;cases d;cases h1;have c4:=b 0 _ rr;have c5:=f 0 _ rr;refine(ahB c.qH right.toNat round.toNat h l (k+0) (m+0) w c4.2 c5.2 (g _ _ c4.1) (g _ _ c5.1)).mono ?_;rintro e w' ⟨rfl,hb⟩;rw[afN];exact⟨_,_,rr,rr,⟨rr,rr⟩,hb⟩
def alf(t:cr)(right round:UInt64)(a:t.bY.length<=67108864):PC 224 [t.pv,pu right,pu round] (·=bo (t.uz right round)):=aw func224<|ak (Ym dx.aN t.bY (λc=>c.yO right round) a λc _=>aoj c right round) rfl<|ah
def QN(l:List cP)(s:BA):(l.foldl fZ s).size<=s.size+20*l.length:=jV λs c _=>by
 have:=GJ c
 unfold fZ
 rw[cD];omega
def TA{t:cr}(h:t.db=true):t.bY.length<=8:=by
 unfold cr.db at h;cases a:decide ((t.bY.length:Int)<=8)
 ·rw[a]at h;cases h
 have:=j5 a;omega
def H_(t:cr)(u:t.aD.size<=1000000)(j:t.bY.length<=67108864)(v:t.gY.size<=1000000):PC 64 [t.pv] (·=st t.put):=by
 refine aw func64<|ak (qO t.aD om) rr ?_;unfold cr.put cr.nO;cases d_ t.aD
 ·exact an<|ah
 dsimp only;refine ak (Ux t j) rr ?_;cases l:t.db
 ·exact an<|ah
 dsimp only;have g:=TA l;refine aj.aN (λd=>?_) (λd=>?_)
 ·rw[show decide ((t.gY.size:Int)=32)=true from d];refine ab<|aJ (nX t.aD om) rfl<|rV<|aJ (fg (aG (t.bY.length:Nat))) rr ?_;have w:=cv (aG (t.bY.length:Nat));have m:=gh t.aD;refine aq.mk (cX (a:=bQ t.aD) (b:=av (aG (t.bY.length:Nat))) om om)<|az<|iV t.bY.length (.of (λq=>(t.bY.take q).foldl fZ (bQ t.aD++av (aG (t.bY.length:Nat)))) (λs=>[(3,st s)]) [1,31,32] (λ_=>[]) [0]) (λ_=>True) trivial ?_ (λk n o=>?_) (λo=>?_)
  ·exact bP
  ·obtain⟨x,h⟩:=cw n;have i:=pH (f:=fZ) (s:=bQ t.aD++av (aG (t.bY.length:Nat))) h;have c:=QN (t.bY.take k) (bQ t.aD++av (aG (t.bY.length:Nat)));have p:(t.bY.take k).length<=8:=by rw[l8];omega
   rw[cD]at c;generalize e:(t.bY.take k).foldl fZ (bQ t.aD++av (aG (t.bY.length:Nat)))=s at i c;rw[cE e];have r:=GJ x;exact bG h<|ak (Rc x) rfl<|aq.mk (cX (a:=s) (b:=x.put) om om)<|ck.of id i trivial rfl<|bP
  ·have c:=QN t.bY (bQ t.aD++av (aG (t.bY.length:Nat)));rw[cD]at c;unfold cr.bytes;rw[<-qt]at c⊢;generalize e:(t.bY.take t.bY.length).foldl fZ (bQ t.aD++av (aG (t.bY.length:Nat)))=s at c⊢;rw[cE e];exact aq.mk (cX (a:=s) (b:=t.gY) om om)<|ah
 ·rw[show decide ((t.gY.size:Int)=32)=false from d];exact an<|ah
def ama{c:cP}(h:c.gD=true):c.kind=1\/c.kind=2:=by
 unfold cP.gD at h;rw[Bool.or_eq_true,H8,H8]at h;exact h
def abI{s:BA}{i:Nat}{c:cP}(h:At s i c.put)(a:c.gD=true)(d:s.size<=gy):PC 263 [st s,i64 (i:Nat)] (·=.aU [c.pv,i64 ((i+c.put.size:Nat):Int),bo true]):=by
 have hb:=ju (n:=c.n) h.r d;rw[show i+(av (aG c.kind)).size+(av c.n).size=i+c.put.size by unfold cP.put;rw[cD];omega]at hb;have b:=ju (n:=aG c.kind) h.l d;obtain⟨k,n⟩:=c;have a:=ama a;dsimp only at a b hb;rcases a with rfl|rfl
 ·exact aw func263<|ak b rfl<|ak hb rfl<|eL 1<|eL 1<|ah
 ·exact aw func263<|ak b rfl<|ak hb rfl<|eL 2<|eL 2<|ah
def RX:∀(s:BA) (x:cP),fZ s x=s++x.put:=λ_ _=>rfl
abbrev ig(t:cr):BA:=bQ t.aD++av (aG (t.bY.length:Nat))
def akL(aD:BA):List cP->List (Nat×aI)
 | []=>[(0,.rows 3 [.agg [st aD,.sl true [],st aA]] true none 111)]
 |x::M=>[(0,.rows 3 [.agg [st aD,.aS 2 0 (M.length+1),st aA]] true none 111),(2,.rows 2 ((x::M).map cP.pv) true none 115)]
def PB{t:cr}(h:t.nO=true):d_ t.aD=true/\t.db=true/\t.gY.size=32:=by
 unfold cr.nO at h;cases h1:d_ t.aD
 ·rw[h1]at h;cases h
 rw[h1]at h;dsimp only at h;cases h2:t.db
 ·rw[h2]at h;cases h
 rw[h2]at h;have:=j5 h;exact⟨rr,rr,om⟩
def aai{t:cr}(h:t.db=true):∀c∈t.bY,c.gD=true:=λc b=>by
 unfold cr.db at h
 cases a:decide ((t.bY.length:Int)<=8)
 ·rw[a]at h;cases h
 rw[a]at h
 dsimp only at h
 rw[Bool.not_eq_true',L4]at h
 have:=h c b
 simpa using this
def NK{t:cr}(h:t.nO=true):seq t.put aA=false:=by
 obtain⟨_,_,a⟩:=PB h;cases b:seq t.put aA
 ·rfl
 have:=eI.1 b;unfold cr.put at this;rw[h]at this;have:=congrArg ByteArray.size this;unfold cr.bytes at this;rw[cD,a]at this;have h0:aA.size=0:=rfl;omega
def alX{s:BA}{i:Nat}{t:cr}(h:At s i t.bytes)(G:t.nO=true)(K:s.size<=1000000)(I:t.aD.size<=32):PC 201 [st s,i64 (i:Nat)] (·=.aU [t.pv,i64 ((i+t.bytes.size:Nat):Int),bo true]):=by
 have hb:s.size<=gy:=by show _<=9007199254740992;omega
 obtain⟨_,m2,m3⟩:=PB G;have N:=TA m2;have v:=aai m2;have g:At s i (t.bY.foldl fZ (ig t)):=h.l;have H:At s i (ig t):=g.head RX;have J:=h.le;have a:=H_ t om om om;have j:=NK G;refine aw func201<|ak (qn (m:=32) H.l hb om) rr ?_;have c0:=ju H.r hb;rw[pE om]at c0;refine ak c0 rfl<|aj.f (show¬(t.bY.length:Int)>8 by omega)<|ab ?_;have w:i+(bQ t.aD).size+(av (aG (t.bY.length:Nat))).size=eg fZ i (ig t) t.bY 0:=by
  show _=i+(ig t).size
  rw[cD];omega
 rw[w];have k:eg fZ i (ig t) t.bY t.bY.length+32=i+t.bytes.size:=by
  rw[At.whole];unfold cr.bytes;rw[cD,m3];show _=i+((t.bY.foldl fZ (ig t)).size+32)
  omega
 refine cV.bA (ι:={p:Nat×List cP//p.1<=t.bY.length/\p.2=t.bY.take p.1}) ⟨λp=>[(39,qU p.1.1),(1,i64 ((eg fZ i (ig t) t.bY p.1.1:Nat):Int))],[0,4,38],λp=>akL t.aD p.1.2,[]⟩ (λp=>t.bY.length-p.1.1) ⟨(0,[]),j9 _,rr⟩ ?_ ?_
 ·exact bP
 rintro⟨⟨q,L⟩,hq,u⟩;dsimp only at hq u;have o:L.length=q:=by rw[u,l8];omega
 refine aj.aN (λh1=>?_) (λh1=>?_)
 ·have d:q<t.bY.length:=fE h1;obtain⟨x,z⟩:=cw d;obtain⟨A,dE⟩:=g.sP RX z;have B:=abI A (v x (i7 z)) hb;rw[<-dE]at B;have C:=fW z;rw[<-u]at C;cases L with
  |nil=>
   refine an<|ak B rfl<|ab<|aq.mk ⟨(eE xL [] x (by show 0<67108864;omega)).1,λh=>(by cases h)⟩ ?_;refine aF (lQ q)<|⟨⟨(q+1,[x]),d,C.symm⟩,sw 2 54,by show t.bY.length-(q+1)<t.bY.length-q;omega,?_⟩;exact eB ⟨⟨BB.rn rr rr,rr⟩,⟨BB.br rr (xL.cf [x]),rr⟩,trivial⟩
  |cons y M=>
   refine an<|ak B rfl<|ab<|dS.l (aq.mk (eE xL (y::M) x (by rw[o];omega)) ?_);refine aF (lQ q)<|⟨⟨(q+1,y::(M++[x])),d,C.symm⟩,sw 2 54,by show t.bY.length-(q+1)<t.bY.length-q;omega,?_⟩;have e:(M++[x]).length+1=M.length+1+1:=by rw[i6];rfl
   exact eB ⟨⟨BB.rn (by show _=some (aI.rows 3 [PV.agg [st t.aD,PV.aS _ 0 ((M++[x]).length+1),st aA]] true none _);rw[e];rfl) rr,rr⟩,⟨BB.br (by show some (aI.rows 2 ((y::M).map cP.pv++[cP.pv x]) true none _)=some (aI.rows 2 ((y::(M++[x])).map cP.pv) true none _);rw[w9,w9,l6];rfl) (xL.cf _),rr⟩,trivial⟩
 ·have h1:q=t.bY.length:=by
   have:¬q<t.bY.length:=jN h1;omega
  subst h1;have D:L=t.bY:=by rw[u,s9]
  have b:At s (eg fZ i (ig t) t.bY t.bY.length) t.gY:=by rw[At.whole];exact h.r
  have E:=b.le;have c:=b.ext;rw[m3]at E c;have F:t.pv=.agg [st t.aD,sl cP.pv L,st (s.extract (eg fZ i (ig t) t.bY t.bY.length) (eg fZ i (ig t) t.bY t.bY.length+32))]:=by rw[D,c];rfl
  rw[F]at a⊢;rw[<-k];cases L with
  |nil=>
   refine ab<|cj.intro ((eg fZ i (ig t) t.bY t.bY.length+32:Nat):Int) (eJ (eg fZ i (ig t) t.bY t.bY.length) 32)<|cj.intro ((eg fZ i (ig t) t.bY t.bY.length+32:Nat):Int) (y8 (show¬(s.size:Int)<((eg fZ i (ig t) t.bY t.bY.length+32:Nat):Int)by omega)) ?_;refine aq.mk (show(0:Int)<=((eg fZ i (ig t) t.bY t.bY.length:Nat):Int)/\((eg fZ i (ig t) t.bY t.bY.length:Nat):Int)<=((eg fZ i (ig t) t.bY t.bY.length+32:Nat):Int)/\((eg fZ i (ig t) t.bY t.bY.length+32:Nat):Int)<=(s.size:Int)by omega) ?_;exact ak a rfl<|aj.is false j<|ab<|ah
  |cons y M=>
   refine ab<|cj.intro ((eg fZ i (ig t) t.bY t.bY.length+32:Nat):Int) (eJ (eg fZ i (ig t) t.bY t.bY.length) 32)<|cj.intro ((eg fZ i (ig t) t.bY t.bY.length+32:Nat):Int) (y8 (show¬(s.size:Int)<((eg fZ i (ig t) t.bY t.bY.length+32:Nat):Int)by omega)) ?_;refine aq.mk (show(0:Int)<=((eg fZ i (ig t) t.bY t.bY.length:Nat):Int)/\((eg fZ i (ig t) t.bY t.bY.length:Nat):Int)<=((eg fZ i (ig t) t.bY t.bY.length+32:Nat):Int)/\((eg fZ i (ig t) t.bY t.bY.length+32:Nat):Int)<=(s.size:Int)by omega) ?_;exact bu.by (n:=(y::M).length+100) a (a_ (ke (a_ rr (a_ (dC (l:=y::M) rr rr xL.bL rr rr) (a_ rr rr)))) rr)<|aj.is false j<|ab<|⟨(y::M).length+100,_,_,.inl (a_ (ke (a_ rr (a_ (dC (l:=y::M) rr rr xL.bL rr rr) (a_ rr rr)))) (a_ rr (a_ rr rr))),rr⟩
def als(s:BA)(a:Int)(d:s.size<=gy):PC 263 [st s,i64 a] λr=>∃c:cP,r=.aU [c.pv,i64 (Wi.get s (Wi.get s a).2.1).2.1,bo ((Wi.get s a).2.2&&(Wi.get s (Wi.get s a).2.1).2.2)]:=by
 have h1:=AP s a d;have h2:=AP s (Wi.get s a).2.1 d;have g:(Wi.get s a).1<18446744073709551616:=by
  rcases h:Wi.get s a with⟨n,f,_|_⟩
  ·rw[(IB h).1];show(0:Nat)<18446744073709551616;decide
  ·obtain⟨_,_,_,_,h,_⟩:=AO h;exact h
 have b:(Wi.get s (Wi.get s a).2.1).1<18446744073709551616:=by
  rcases h:Wi.get s (Wi.get s a).2.1 with⟨n,f,_|_⟩
  ·rw[(IB h).1];show(0:Nat)<18446744073709551616;decide
  ·obtain⟨_,_,_,_,h,_⟩:=AO h;exact h
 have e:PV.at (.int .u64 ((Wi.get s (Wi.get s a).2.1).1:Int))=pu (UInt64.ofNat (Wi.get s (Wi.get s a).2.1).1):=by
  show _=PV.at (.int .u64 (((UInt64.ofNat (Wi.get s (Wi.get s a).2.1).1).toNat:Nat):Int))
  rw[qC b]
 rw[e]at h2;refine aw func263<|ak h1 rfl<|ak h2 rfl<|jX<|jX ?_;cases(Wi.get s a).2.2 with
 |false=>exact⟨200,_,_,.inl rr,⟨_,_⟩,rr⟩
 |true=>exact⟨200,_,_,.inl rr,⟨_,_⟩,rr⟩
def ahi{s:BA}(h2:s.size=2):PC 201 [st s,i64 0] (·=.aU [cr.z.pv,i64 0,bo false]):=by
 have hb:s.size<=gy:=by rw[h2];decide
 have j:=Ha s 0 32 hb;rcases d:Wi.qc s 0 32 with⟨t,p,ok⟩
 rw[d]at j;have k:=AP s p hb;rcases hG:Wi.get s p with⟨n,a,is⟩
 rw[hG]at k;refine aw func201<|ak j rfl<|ak k rr ?_;cases ok
 ·exact an<|ah
 cases is
 ·exact an<|ah
 obtain⟨p',hp,B,l,C,_⟩:=AO hG;have o:1<=p'/\t.size<=2:=by
  unfold Wi.qc at d;split at d
  ·rename_i h;obtain⟨e1,e2⟩:=I3 d;obtain⟨e2,_⟩:=I3 e2;rcases b:Wi.get s 0 with⟨m,f,A⟩
   rw[b]at h e1 e2;dsimp only at h e1 e2;rw[h.1]at b;obtain⟨q,hq,D,u,_⟩:=AO b;have:=(Wi.w_ m).1;refine⟨om,?_⟩;rw[<-e1,E2];omega
  ·obtain⟨_,e2⟩:=I3 d;obtain⟨_,e2⟩:=I3 e2;cases e2
 have v:=(Wi.w_ n).1;have i:a=2:=om
 subst i;have e:Wi.get s 2=(0,0,false):=Ho (.inr om);refine aj.aN (λw=>?_) (λw=>?_)
 ·exact an<|ah
 refine ab<|cV.nI 1<|aj.aN (λh0=>?_) (λh0=>?_)
 ·refine an ?_;have g:=als s 2 hb;rw[e]at g;refine bu.some g (λr x=>?_);obtain⟨c,rfl⟩:=x;exact an<|ah
 ·refine ab<|eL 34<|cj.intro 2 (by show(if(s.size:Int)<34 then(s.size:Int)else 34)=2;rw[h2];rfl)<|aq.mk (show(0:Int)<=2/\(2:Int)<=2/\(2:Int)<=(s.size:Int)by omega) ?_;have hp:=H_ ⟨t,[],s.extract 2 2⟩ (by show t.size<=_;omega) (j9 _) (by show(s.extract 2 2).size<=_;rw[E2];omega);have y:(⟨t,[],s.extract 2 2⟩:cr).put=aA:=by
   unfold cr.put cr.nO;dsimp only;cases d_ t
   ·rfl
   dsimp only;cases cr.db ⟨t,[],s.extract 2 2⟩
   ·rfl
   dsimp only;rw[j1 (by rw[E2];omega)]
  rw[y]at hp;exact ak hp rfl<|aj.is true rfl<|an<|ah
def ahX(t:cr)(o:aC)(c:t.aD.size<=1000000)(d:t.bY.length<=67108864)(e:t.gY.size<=1000000)(f:gF o)(h1:t.put.size<=1000000000)(h2:o.put.size<=1000000000):PC 29 [t.pv,o.pv] (·=st (ov t o)):=by
 refine aw func29<|aJ (H_ t c d e) rfl<|aJ (QX o f) rfl<|az ?_;unfold ov;refine aj.aN (λh1=>?_) (λh1=>?_)
 ·rw[show seq t.put aA=true from h1];exact an<|ah
 ·rw[show seq t.put aA=false from h1];refine aj.aN (λh2=>?_) (λh2=>?_)
  ·rw[show seq o.put aA=true from h2];exact an<|ah
  ·rw[show seq o.put aA=false from h2];exact ab<|aq.mk (cX (a:=t.put) (b:=o.put) om om)<|ah
def tQ(q:Option (cr×aC)):PV:=match q with
 |none=>.aU [cr.z.pv,aC.z.pv,bo false]
 |some (t,o)=>.aU [t.pv,o.pv,bo true]
def WJ:PC 200 [] (·=tQ none):=aw func200<|ah
def af7{s:BA}(h2:s.size=2):PC 133 [st s] (·=tQ none):=aw func133<|ak (ahi h2) rfl<|an<|ak WJ rfl<|ah
def qJ(k:Int):Nat:=(vm k).toNat
theorem aiL(k:Int)(a1 a2 a3 a4 a5 a6 a7 a8 a9 a10 a11 a12 a13 a14 a15 a16 a17:Value)(w:World)(hL:jz w):
 Calls Tryz.prog 28 #[.agg #[.int .i64 k,a1,a2,a3,a4,a5,a6,a7,a8,a9,a10,a11,a12,a13,a14,a15,a16,a17]] w fun e w'=>e=.returned (.tuple #[.int .u64 ((qJ k:Nat):Int),.bool (!decide (qJ k=0))])∧Below w.heap.size w w':=by
 have hm:(1,Bp.map (Value.int .u64))∈jY:=by unfold jY;simp
 have ht:=hL.qh _ hm
 have hlt:=hL.lt _ hm
 go_enter Tryz.func28,Tryz.ntmps28
 go_upto_region 1 with fail
 have dU:Below w.heap.size w (w.alloc (.cells #[.int .i64 k,a1,a2,a3,a4,a5,a6,a7,a8,a9,a10,a11,a12,a13,a14,a15,a16,a17] 38)):=(Below.refl _ _).alloc (j2 _) _
 have c0:(w.alloc (.cells #[.int .i64 k,a1,a2,a3,a4,a5,a6,a7,a8,a9,a10,a11,a12,a13,a14,a15,a16,a17] 38)).cell? ⟨w.heap.size,0,none⟩=some (.int .i64 k):=by rw[World.cell?_alloc_mark];rfl
 have cg:∀i v,(Bp.map (Value.int .u64))[i]? = some v→(w.alloc (.cells #[.int .i64 k,a1,a2,a3,a4,a5,a6,a7,a8,a9,a10,a11,a12,a13,a14,a15,a16,a17] 38)).cell? ⟨1,i,none⟩=some v:=fun i v hi=>(dU.cell (p:=⟨1,i,none⟩) hlt).trans (ht i v hi)
 generalize w.alloc (.cells #[.int .i64 k,a1,a2,a3,a4,a5,a6,a7,a8,a9,a10,a11,a12,a13,a14,a15,a16,a17] 38)=x at dU c0 cg⊢
 by_cases h0:k<0
 ·have hz:qJ k=0:=by unfold qJ vm;split<;>first|omega|rfl
  go_wp2_with fail
  refine bodyPost_ret (by simp[results,Tryz.results28,go_sem];try rfl) rfl ?_
  exact⟨rfl,dU⟩
 by_cases h9:9≤k
 ·have hz:qJ k=0:=by unfold qJ vm;split<;>first|omega|rfl
  go_wp2_with fail
  refine bodyPost_ret (by simp[results,Tryz.results28,go_sem];try rfl) rfl ?_
  exact⟨rfl,dU⟩
 have hk:k=0∨k=1∨k=2∨k=3∨k=4∨k=5∨k=6∨k=7∨k=8:=by omega
 rcases hk with rfl|rfl|rfl|rfl|rfl|rfl|rfl|rfl|rfl
 ·have cc:=cg 0 _ rfl
  clear cg
  go_wp2_with fail
  refine bodyPost_ret (by simp[results,Tryz.results28,go_sem];try rfl) rfl ?_
  exact⟨rfl,dU⟩
 ·have cc:=cg 1 _ rfl
  clear cg
  go_wp2_with fail
  refine bodyPost_ret (by simp[results,Tryz.results28,go_sem];try rfl) rfl ?_
  exact⟨rfl,dU⟩
 ·have cc:=cg 2 _ rfl
  clear cg
  go_wp2_with fail
  refine bodyPost_ret (by simp[results,Tryz.results28,go_sem];try rfl) rfl ?_
  exact⟨rfl,dU⟩
 ·have cc:=cg 3 _ rfl
  clear cg
  go_wp2_with fail
  refine bodyPost_ret (by simp[results,Tryz.results28,go_sem];try rfl) rfl ?_
  exact⟨rfl,dU⟩
 ·have cc:=cg 4 _ rfl
  clear cg
  go_wp2_with fail
  refine bodyPost_ret (by simp[results,Tryz.results28,go_sem];try rfl) rfl ?_
  exact⟨rfl,dU⟩
 ·have cc:=cg 5 _ rfl
  clear cg
  go_wp2_with fail
  refine bodyPost_ret (by simp[results,Tryz.results28,go_sem];try rfl) rfl ?_
  exact⟨rfl,dU⟩
 ·have cc:=cg 6 _ rfl
  clear cg
  go_wp2_with fail
  refine bodyPost_ret (by simp[results,Tryz.results28,go_sem];try rfl) rfl ?_
  exact⟨rfl,dU⟩
 ·have cc:=cg 7 _ rfl
  clear cg
  go_wp2_with fail
  refine bodyPost_ret (by simp[results,Tryz.results28,go_sem];try rfl) rfl ?_
  exact⟨rfl,dU⟩
 ·have cc:=cg 8 _ rfl
  clear cg
  go_wp2_with fail
  refine bodyPost_ret (by simp[results,Tryz.results28,go_sem];try rfl) rfl ?_
  exact⟨rfl,dU⟩
def kf(o:aC):PC 28 [o.pv] (·=.aU [pu (fA o).1,bo (fA o).2]):=by
 refine⟨enters_of func28 rr rr,λw Z vs k j hv=>?_⟩;obtain⟨v,_,rfl,⟨us,rfl,a⟩,h1⟩:=hv;cases h1;obtain⟨r,_,rfl,⟨rfl,_⟩,a⟩:=a;obtain⟨n,_,rfl,_,a⟩:=a;obtain⟨a2,_,rfl,_,a⟩:=a;obtain⟨a3,_,rfl,_,a⟩:=a;obtain⟨a4,_,rfl,_,a⟩:=a;obtain⟨a5,_,rfl,_,a⟩:=a;obtain⟨m,_,rfl,_,a⟩:=a;obtain⟨q,_,rfl,_,a⟩:=a;obtain⟨l,_,rfl,_,a⟩:=a;obtain⟨a9,_,rfl,_,a⟩:=a;obtain⟨b,_,rfl,_,a⟩:=a;obtain⟨i,_,rfl,_,a⟩:=a;obtain⟨a12,_,rfl,_,a⟩:=a;obtain⟨g,_,rfl,_,a⟩:=a;obtain⟨c,_,rfl,_,a⟩:=a;obtain⟨f,_,rfl,_,a⟩:=a;obtain⟨d,_,rfl,_,a⟩:=a;obtain⟨a17,_,rfl,_,a⟩:=a;cases a;refine(aiL o.kind n a2 a3 a4 a5 m q l a9 b i a12 g c f d a17 w k).mono ?_;rintro e w' ⟨rfl,hb⟩;refine⟨_,_,rr,rr,?_,hb⟩;have e1:qJ o.kind=(fA o).1.toNat/\(!decide (qJ o.kind=0))=(fA o).2:=by
  unfold qJ fA;by_cases h:vm o.kind=0
  ·rw[h,l9 rfl];exact⟨rr,rr⟩
  ·rw[j1 h];refine az ?_;show(!decide ((vm o.kind).toNat=0))=true
   rw[j1 (p:=(vm o.kind).toNat=0) λj=>h (F6.1 j)];rfl
 have hv:Value.tuple #[.int .u64 ((qJ o.kind:Nat):Int),.bool (!decide (qJ o.kind=0))]=.tuple #[.int .u64 (((fA o).1.toNat:Nat):Int),.bool (fA o).2]:=by rw[e1.2,e1.1]
 rw[hv];exact⟨_,rr,_,_,rr,⟨rr,rr⟩,_,_,rr,⟨rr,rr⟩,rr⟩
def aoo(key:BA)(t:cr)(o:aC)(round:UInt64)(a:key.size<=1000000)(b:t.aD.size<=1000000)(c:t.bY.length<=1000):PC 156 [st key,t.pv,o.pv,pu round] (·=i64 (pN key t o round)):=by
 refine aw func156<|ak (JJ key t a b c) rr ?_;unfold pN;cases t.check key
 ·exact an<|ah
 refine ab<|ak (kf o) rr ?_;rcases fA o with⟨r,_|_⟩
 ·exact an<|ah
 ·refine ak (alf t r round om) rr ?_;dsimp only;cases t.uz r round
  ·exact an<|ah
  exact ab<|ah
def aij:PC 201 [st aA,i64 0] (·=.aU [cr.z.pv,i64 0,bo false]):=by
 have hb:aA.size<=gy:=by decide
 have a:Wi.get aA 0=(0,0,false):=Ho (.inr (by decide));have b:=Ha aA 0 32 hb;have d:Wi.qc aA 0 32=(aA,0,false):=by unfold Wi.qc;rw[a,y8 (λh=>by cases h.1)]
 rw[d]at b;have c:=AP aA 0 hb;rw[a]at c;exact aw func201<|ak b rfl<|ak c rfl<|an<|ah
def MC:PC 133 [st aA] (·=tQ none):=aw func133<|ak aij rfl<|an<|ak WJ rfl<|ah
def ajZ{t:cr}(h:t.nO=true):t.put=t.bytes:=by unfold cr.put;rw[h]
def UY{o:aC}(h:o.right=true):seq o.put aA=false:=by
 cases c:seq o.put aA
 ·rfl
 exfalso;have h2:=eI.1 c;obtain⟨f,hi⟩:=DI h;unfold aC.put at h2;rw[h,hi.k]at h2;have d:=congrArg ByteArray.size h2;have a:∀(b:Bool) (s t:BA),s.size<=(h_ b s t).size:=by
  intro b s t;cases b
  case true=>show _<=(s++t).size;rw[cD];omega
  exact j2 _
 have e:(av (aG o.kind)).size<=(o.bytes f).size:=by
  unfold aC.bytes;exact r8 (a _ _ _) (r8 (a _ _ _) (r8 (a _ _ _) (r8 (a _ _ _) (r8 (a _ _ _) (a _ _ _)))))
 have g:=(cv (aG o.kind)).1;have i:(o.bytes f).size=0:=d;omega
def amC(t:cr)(o:aC)(d:t.aD.size<=32)(j:wT o)(g:t.put.size+o.put.size<=1000000):PC 133 [st (ov t o)] (·=tQ (match t.nO&&o.right with|true=>some (t,o)|false=>none)):=by
 cases c:t.nO
 ·have e:ov t o=aA:=by unfold ov;rw[show t.put=aA by unfold cr.put;rw[c]];rfl
  rw[e];exact MC
 cases a:o.right
 ·have e:ov t o=aA:=by
   unfold ov;rw[show o.put=aA by unfold aC.put;rw[a],show seq aA aA=true from rr,Bool.or_true]
  rw[e];exact MC
 obtain⟨f,hi⟩:=DI a;have i:=ajZ c;have h:o.put=o.bytes f:=by unfold aC.put;rw[a,hi.k];rfl
 have e:ov t o=t.bytes++o.bytes f:=by
  unfold ov;rw[NK c,UY a,i,h];rfl
 rw[i,h]at g;rw[e];have b:(t.bytes++o.bytes f).size<=1000000:=by rw[cD];exact g
 have h1:=alX (At.zero t.bytes (o.bytes f)) c b d;rw[j7]at h1;have h2:=Nj (At.behind t.bytes (o.bytes f)) hi a (r8 b (by decide)) j;have l:((t.bytes++o.bytes f).size:Int)=((t.bytes.size+(o.bytes f).size:Nat):Int):=by rw[cD]
 exact aw func133<|ak h1 rfl<|ab<|ak h2 rfl<|aj.is true (l9 l.symm)<|ab<|az<|ah
end
end Go.Proofs.YtbnonpbnhenkfaaGreatDoor
