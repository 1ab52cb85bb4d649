/- The law TopUnseen answers true at every input that its row admits: the card of the law, read off the walk of the whole law. Conditions: those of the given statement alone (the row, its reach and its laid variables); nothing is added. -/
import Derived.Test.YtbnonpbnhenkfaaGreatDoorQ12
import Derived.Test.YtbnonpbnhenkfaaGreatDoorQ13
import Derived.Test.YtbnonpbnhenkfaaGreatDoorQ14
import Derived.Test.YtbnonpbnhenkfaaGreatDoorQ15
import Derived.Test.YtbnonpbnhenkfaaGreatDoorTie
import Derived.ChangeOld
import Derived.Deep.CondSized
import Derived.Deep.DeepHandedRow
set_option linter.all false
set_option maxRecDepth 1000000
set_option maxHeartbeats 8000000
namespace Go.Proofs.YtbnonpbnhenkfaaGreatDoor
section
open Go.RowKit
abbrev VT:=List (BA×Option ay)
def mR(name:BA)(n:aO):BA×Option ay:=(n.name,if seq n.name name then some n.t else none)
def vw(name:BA)(c:List aO):VT:=c.map (mR name)
def oU(name:BA)(rs:List dg):List bn:=(rs.filter λr=>seq r.aD name).map dg.a
def nG(name nm:BA)(e:Int):List bn:=if seq nm name then[.ef e]else[]
def rf(l:VT)(b:BA)(f:ay->ay×bn):VT×List bn:=match l.find? (λx=>seq x.1 b)with
 |some (a,some t)=>(l.set (cJ (λx:BA×Option ay=>seq x.1 b) l 0).toNat (a,some (f t).1),[(f t).2])
 |_=>(l,[])
def yH(l:VT)(f:ay->ay×bn):VT×List bn:=(l.map λx=>(x.1,x.2.map λt=>(f t).1),l.filterMap λx=>x.2.map λt=>(f t).2)
def JN(name:BA)(l:VT)(e:cK):VT×List bn:=match d_ e.aD with
 |false=>(l,nG name e.aD 6)
 |true=>match decide (0<=cJ (λx:BA×Option ay=>seq x.1 e.aD) l 0)with
  |true=>(l,nG name e.aD 8)
  |false=>match decide (8<=(l.length:Int))with
   |true=>(l,nG name e.aD 9)
   |false=>match ay.new e.key e.n with
    |(t,no)=>match decide (no=0)with
     |false=>(l,nG name e.aD no)
     |true=>(l.take (l.findIdx λx=>!dG x.1 e.aD)++mR name ⟨e.aD,t⟩::l.drop (l.findIdx λx=>!dG x.1 e.aD),nG name e.aD 0)
def zK(name:BA)(l:VT)(e:cK):VT×List bn:=match decide (0<=cJ (λx:BA×Option ay=>seq x.1 e.aD) l 0)&&!fJ e.o.kind 9 12 with
 |true=>(l,nG name e.aD 14)
 |false=>rf l e.aD λt=>t.do e.o
def wW(l:VT):sS->VT×List bn
 |none=>(l,[])
 |some (k,o)=>match l.find? (λx=>seq x.1 k.aD)with
  |some (_,some t)=>match k.check t.key with
   |false=>(l,[])
   |true=>match t.d.down with
    |true=>(l,[.ef 12])
    |false=>match pN t.key k o t.s.round with
     |no=>match decide (no=0)with
      |false=>(l,[.ef no])
      |true=>rf l k.aD λt=>t.do o
  |_=>(l,[])
def xk(name:BA)(R:ay->ay×bn)(l:VT)(x:aW):VT×List bn:=match decide (x.1.kind=1)with
 |true=>JN name l x.1
 |false=>match decide (x.1.kind=2)with
  |true=>zK name l x.1
  |false=>match decide (x.1.kind=3)with
   |true=>yH l λt=>t.do nK
   |false=>match decide (x.1.kind=4)with
    |true=>wW l x.2
    |false=>match decide (x.1.kind=5)with
     |true=>((yH l λt=>({t with d:=t.d.fR x.1.bx},bn.z)).1,[])
     |false=>match decide (x.1.kind=6)with
      |true=>rf l x.1.aD λt=>({t with d:=t.d.fR x.1.bx},bn.z)
      |false=>match decide (x.1.kind=7)with
       |true=>rf l x.1.aD λt=>({t with d:=t.d.mZ x.1.n x.1.bx},bn.z)
       |false=>match decide (x.1.kind=8)with
        |true=>yH l R
        |false=>match decide (x.1.kind=9)with
         |true=>rf l x.1.aD R
         |false=>(l,[])
section
variable {name:BA}(h0:seq aA name=false)
abbrev iM(name:BA)(d:qv):VT×List bn:=(vw name d.1,oU name d.2)
theorem sj(a:BA)(e:Int):oU name (say a e)=nG name a e:=by grind [oU,say,nG]
theorem DB(c:List aO)(a:BA):(vw name c).find? (λx=>seq x.1 a)=(c.find? λn=>seq n.name a).map (mR name):=by unfold vw;rw[O6];rfl
theorem Fc(c:List aO)(a:BA):cJ (λx:BA×Option ay=>seq x.1 a) (vw name c) 0=jm c a:=BF ..
include h0
theorem yk(e:Int):oU name (say aA e)=[]:=by grind [sj,nG]
theorem zc(c:List aO)(a:BA)(f:ay->ay×bn):iM name (ij c a f)=rf (vw name c) a f:=by
 have b:=yk h0 16;unfold iM rf ij;rw[DB,Fc];unfold jm;rcases kV (λn:aO=>seq n.name a) c 0 with⟨h1,h2⟩|⟨m,n,h1,h2,d⟩
 ·grind
 ·have h1:cJ (λn:aO=>seq n.name a) c 0=(m:Int):=by simp_all
  grind [mR,vw,oU,List.map_set,List.set_getElem_self]
theorem EP(c:List aO)(f:ay->ay×bn):iM name (ky c f)=yH (vw name c) f:=by
 unfold iM ky yH vw oU;induction c<;>grind [mR]
theorem ajG(c:List aO)(e:cK):iM name (j_ c e)=JN name (vw name c) e:=by
 have a:(vw name c).findIdx (λx=>!dG x.1 e.aD)=my c e.aD:=by unfold vw my;rw[List.findIdx_map];rfl
 have b:(vw name c).length=c.length:=c8 ..;unfold JN j_;rw[Fc,a,b];cases d_ e.aD
 ·grind [sj]
 cases decide (0<=jm c e.aD)
 case true=>grind [sj]
 cases decide (8<=(c.length:Int))
 case true=>grind [sj]
 rcases ay.new e.key e.n with⟨t,no⟩
 cases d:decide (no=0)<;>simp[iM,sj,vw,d]
theorem acN(c:List aO)(e:cK):iM name (rN c e)=zK name (vw name c) e:=by grind [zc,zK,rN,Fc,sj]
theorem acw(c:List aO)(q:sS):iM name (mO c q)=wW (vw name c) q:=by
 rcases q with _|⟨k,o⟩
 ·grind [mO,wW,yk]
 have:=zc h0 c k.aD λt=>t.do o
 unfold mO wW;have a:=DB (name:=name) c k.aD;unfold f_;dsimp only;rw[a];cases b:c.find? (λn=>seq n.name k.aD)with
 |none=>grind [yk]
 |some n=>
  have hk:n.name=k.aD:=eI.1 (by grind);cases d:seq k.aD name
  case true=>
   grind [mR,sj,nG]
  grind [rf,mR,sj,nG]
theorem AG(R:ay->ay×bn)(c:List aO)(x:aW):iM name (dj R c x.1 x.2)=xk name R (vw name c) x:=by
 unfold dj xk;cases decide (x.1.kind=1)
 case true=>exact ajG h0 ..
 cases decide (x.1.kind=2)
 case true=>exact acN h0 ..
 cases decide (x.1.kind=3)
 case true=>grind [EP]
 grind [acw,EP,oU,zc,yk]
end
def kw(c:List aO):List (BA×BA):=c.map λn=>(n.name,n.t.key)
theorem yT(c:List aO)(a:BA){f:ay->ay×bn}(d:∀t,(f t).1.key=t.key):kw (ij c a f).1=kw c:=by
 unfold ij jm;rcases kV (λn:aO=>seq n.name a) c 0 with⟨h1,h2⟩|⟨m,n,h1,h2,b⟩
 ·rw[h2]
 ·rw[b,show(0:Int)=((0:Nat):Int)from rr,h1];obtain⟨e,rfl⟩:=c9.1 h2;apply List.ext_getElem<;>simp[kw,List.getElem_set]
  grind
theorem JX(c:List aO){f:ay->ay×bn}(a:∀t,(f t).1.key=t.key):kw (ky c f).1=kw c:=by simp_all [kw,ky]
theorem ael{R:ay->ay×bn}(b:∀t,(R t).1.key=t.key)(c:List aO){x:aW}(a:x.1.kind≠1):kw (dj R c x.1 x.2).1=kw c:=by
 have d:∀o t,(ay.do t o).1.key=t.key:=λo t=>Xn t o
 unfold dj;rw[j1 a];dsimp only;cases decide (x.1.kind=2)
 case true=>grind [rN,yT]
 cases decide (x.1.kind=3)
 case true=>grind [JX]
 cases decide (x.1.kind=4)
 case true=>
  dsimp only;unfold mO;split
  ·rfl
  split
  ·rfl
  split
  ·rfl
  split
  ·rfl
  grind [yT]
 grind [JX,yT]
theorem agX{c d:List aO}(h:kw c=kw d)(e:cK):kw (j_ c e).1=kw (j_ d e).1:=by
 have h1:∀c,jm c e.aD=cJ (λy:BA×BA=>seq y.1 e.aD) (kw c) 0:=λc=>(BF (λn:aO=>(n.name,n.t.key)) (λy:BA×BA=>seq y.1 e.aD) c 0).symm
 have h2:∀c,c.length=(kw c).length:=λc=>by simp[kw]
 have f:∀c,my c e.aD=(kw c).findIdx λy=>!dG y.1 e.aD:=λc=>by unfold kw my;rw[List.findIdx_map];rfl
 have g:∀c i,kw (List.take i c)=(kw c).take i/\kw (List.drop i c)=(kw c).drop i:=λc i=>by simp[kw]
 have j:∀a b x,kw (a++x::b)=kw a++(x.name,x.t.key)::kw b:=λa b x=>by simp[kw]
 unfold j_;rw[h1,h2,f,h1 d,h2 d,f d,h];split
 ·exact h
 split
 ·exact h
 split
 ·exact h
 split;split
 ·exact h
 simp_all
theorem afR{c d:List aO}(h:kw c=kw d)(a:BA):(f_ c a).2=(f_ d a).2/\((f_ c a).2=true->(f_ c a).1.key=(f_ d a).1.key):=by
 have h1:∀c,(kw c).find? (λy=>seq y.1 a)=(c.find? λn=>seq n.name a).map λn=>(n.name,n.t.key):=λc=>by unfold kw;rw[O6];rfl
 grind [f_]
theorem ajB{c:List aO}{a:BA}(h:(f_ c a).2=true)(e:cK):f_ (j_ c e).1 a=f_ c a:=by
 unfold j_;split
 ·rfl
 split
 ·rfl
 split
 ·rfl
 split;split
 ·rfl
 rename_i _ _ _ h1 _ _ _ t no _ _ _;have h1:=j4 h1;unfold f_ at h⊢;have:seq e.aD a=false:=by
  cases b:seq e.aD a
  ·rfl
  obtain rfl:=eI.1 b;unfold jm at h1;rcases kV (λn:aO=>seq n.name e.aD) c 0 with⟨h1,h2⟩|⟨m,n,d,h2,_⟩
  ·simp_all
  grind
 grind [List.take_append_drop]
section
variable {R:ay→ay×bn}{name:BA}
def kP(R:ay->ay×bn)(name:BA)(a:List aW)(x:aW):Bool:=mM R name a x&&xY name x
theorem Mh(p:List aW->aW->Bool)(q:aW->Bool):∀l a,(gv p a l).filter q=gv (λa x=>p a x&&q x) a l
 | [],_=>rfl
 |x::l,a=>by
  have:=Mh p q l (a++[x])
  grind [gv]
theorem Dl(l:List aW):kI R l name=gv (kP R name) [] l:=Mh ..
theorem Pb(p:List aW->aW->Bool):∀l m a,gv p a (l++m)=gv p a l++gv p (a++l) m
 | [],_,_=>by grind [gv]
 |x::l,m,a=>by
  have:=Pb p l m (a++[x])
  grind [gv]
theorem Sj(a:List aW){x:aW}(h:x.1.kind=1):kP R name a x=true:=by grind [kP,mM,xY,qz]
theorem YM{a b:List aW}(h:a.filter il=b.filter il)(x:aW):kP R name a x=kP R name b x:=by grind [kP,mM,tf,jR]
theorem Fz:∀l a b,a.filter il=b.filter il->gv (kP R name) b (gv (kP R name) a l)=gv (kP R name) a l
 | [],_,_,_=>rfl
 |x::l,a,b,h=>by
  cases hp:kP R name a x
  case true=>
   have:=Fz l (a++[x]) (b++[x]) (by simp[h])
   grind [YM,gv]
  have c:il x=false:=by
   grind [il,Sj]
  have:=Fz l (a++[x]) b (by simp[h,c])
  grind [gv]
theorem aoG(c:List aO)(l:List aW)(x:aW):(cY R c (l++[x])).1=(dj R (cY R c l).1 x.1 x.2).1:=by
 induction l generalizing c with
 |nil=>rfl
 |cons y l ih=>exact ih (dj R c y.1 y.2).1
theorem al4(l:List aW)(a:∀x∈l,il x=true){c:List aO}(h:(f_ c name).2=true):f_ (cY R c l).1 name=f_ c name:=by
 induction l generalizing c with
 |nil=>rfl
 |cons y l ih=>
  have b:=a y j6;have e:dj R c y.1 y.2=j_ c y.1:=by unfold dj;rw[show decide (y.1.kind=1)=true from b]
  have h2:=ajB h y.1;have f:=ih (λx d=>a x (j3 _ d)) (c:=(j_ c y.1).1) (by simp_all);show f_ (cY R (dj R c y.1 y.2).1 l).1 name=_
  simp_all
theorem aiI(c:List aO)(l m:List aW):(cY R c (l++m)).1=(cY R (cY R c l).1 m).1:=by
 induction l generalizing c with
 |nil=>rfl
 |cons y l ih=>exact ih (dj R c y.1 y.2).1
theorem aep{a b:List aW}{x:aW}(h:kP R name (a++b) x=false):kP R name a x=false:=by
 cases hp:kP R name a x
 ·rfl
 have hk:(jR R a name).2=true->jR R (a++b) name=jR R a name:=λhk=>by
  unfold jR at hk⊢;rw[D6,aiI,al4 _ (λx d=>(C5.1 d).2) hk]
 unfold kP at hp h;rw[y7]at hp;rw[hp.2,Bool.and_true]at h;have c:=hp.1;unfold mM at c h;cases f:decide (x.1.kind=4)
 ·simp_all
 rw[f]at h c;unfold tf at h c;rcases x with⟨e,_|⟨k,o⟩⟩
 ·cases c
 grind
abbrev sT(R:ay->ay×bn)(a:List aW)(c:List aO):Prop:=kw c=kw (cY R [] (a.filter il)).1
theorem J'(d:∀t,(R t).1.key=t.key){a:List aW}{c:List aO}(h:sT R a c)(x:aW):sT R (a++[x]) (dj R c x.1 x.2).1:=by
 unfold sT;rw[D6];cases b:il x
 case true=>
  have e:∀c,dj R c x.1 x.2=j_ c x.1:=λc=>by unfold dj;rw[show decide (x.1.kind=1)=true from b]
  rw[P3 b,J6,aoG,e,e];grind [agX]
 rw[P4 (by simp[b]),J6,A2,ael d c (j4 b)];exact h
theorem fj(h0:seq aA name=false){a:List aW}{c:List aO}(h:sT R a c){x:aW}(hp:kP R name a x=false):iM name (dj R c x.1 x.2)=(vw name c,[]):=by
 rw[AG h0];have b:∀f,seq x.1.aD name=false->rf (vw name c) x.1.aD f=(vw name c,[]):=λf d=>by
  unfold rf;rw[DB];cases j:c.find? (λn=>seq n.name x.1.aD)<;>grind [eI,mR]
 unfold kP at hp;cases g:mM R name a x
 case true=>
  rw[g]at hp;unfold xY at hp;have d:seq x.1.aD name=false:=by grind
  have hk:x.1.kind=2\/x.1.kind=6\/x.1.kind=7\/x.1.kind=9:=by grind [qz]
  unfold xk;rcases hk with hk|hk|hk|hk<;>rw[hk]
  ·grind [zK,nG]
  ·simp_all
  ·simp_all
  simp_all
 unfold mM at g;have hk:x.1.kind=4:=by grind
 have i:tf R a x name=false:=by grind
 unfold xk;rw[hk];show wW _ _=_
 unfold tf at i;rcases x with⟨e,_|⟨k,o⟩⟩
 ·rfl
 dsimp only at i;unfold wW;dsimp only;rw[DB];cases j:c.find? (λn=>seq n.name k.aD)with
 |none=>rfl
 |some n=>
  have l:n.name=k.aD:=eI.1 (by grind);cases d:seq k.aD name
  ·grind [mR]
  have m:=afR h name;simp_all [eI,f_,jR,mR]
theorem CJ(rs:List dg)(l:List (List dg)):gu name (rs::l)=oU name rs++gu name l:=rfl
theorem He(h0:seq aA name=false)(e:∀t,(R t).1.key=t.key):∀(l a:List aW) (c d:List aO),vw name c=vw name d->sT R a c->gu name (cY R c l).2=gu name (cY R d (gv (kP R name) a l)).2
 | [],_,_,_,_,_=>rfl
 |x::l,a,c,d,hv,hk=>by
  have b:=J' e hk x
  show gu name ((dj R c x.1 x.2).2::(cY R (dj R c x.1 x.2).1 l).2)=_
  unfold gv
  cases hp:kP R name a x
  case true=>
   have h1:=(AG h0 R c x).trans ((congrArg (xk name R · x) hv).trans (AG h0 R d x).symm)
   have f:=He h0 e l _ _ _ (congrArg Prod.fst h1) b
   show _=gu name ((dj R d x.1 x.2).2::(cY R (dj R d x.1 x.2).1 _).2)
   grind [CJ]
  have h1:=fj h0 hk hp
  have f:=He h0 e l _ _ d ((congrArg Prod.fst h1).trans hv) b
  grind [CJ]
def iY(ok:aW->Bool):Nat->List aW->List aW->List aW
 |_,[],_=>[]
 |i,x::l,es=>match decide (i%2=1),es with
  |true,e::es=>match ok e with
   |true=>x::e::iY ok (i+1) l es
   |false=>x::iY ok (i+1) l es
  |_,es=>x::iY ok (i+1) l es
theorem Pn(h0:seq aA name=false)(k:∀t,(R t).1.key=t.key){own:List aW}{ok:aW->Bool}(f:∀e,ok e=true->kP R name own e=false):∀(l a es:List aW) (i:Nat) (c d:List aO),own=a++l->vw name c=vw name d->sT R a c->gu name (cY R c (iY ok i l es)).2=gu name (cY R d l).2
 | [],_,_,_,_,_,_,_,_=>by unfold iY;rfl
 |x::l,a,es,i,c,d,p,hv,hk=>by
  have g:=J' k hk x
  have h1:=(AG h0 R c x).trans ((congrArg (xk name R · x) hv).trans (AG h0 R d x).symm)
  have h:own=a++[x]++l:=by simp[p]
  have key:∀(es:List aW) (c':List aO),vw name c'=vw name (dj R c x.1 x.2).1->sT R (a++[x]) c'->gu name (cY R c' (iY ok (i+1) l es)).2=gu name (cY R (dj R d x.1 x.2).1 l).2:=λes c' n o=>Pn h0 k f l (a++[x]) es (i+1) c' _ h (n.trans (congrArg Prod.fst h1)) o
  have q:∀m,gu name (cY R c (x::m)).2=oU name (dj R d x.1 x.2).2++gu name (cY R (dj R c x.1 x.2).1 m).2:=λm=>congrArg (·++_) (congrArg Prod.snd h1)
  show _=oU name (dj R d x.1 x.2).2++gu name (cY R (dj R d x.1 x.2).1 l).2
  have j:∀es,gu name (cY R c (x::iY ok (i+1) l es)).2=oU name (dj R d x.1 x.2).2++gu name (cY R (dj R d x.1 x.2).1 l).2:=λes=>by grind
  unfold iY
  cases decide (i%2=1)
  ·simp_all
  rcases es with _|⟨e,es⟩
  ·simp_all
  dsimp only
  cases r:ok e
  ·simp_all
  have hp:=aep (b:=l) (h▸f e r)
  have h2:=fj h0 g hp
  have s:sT R (a++[x]) (dj R (dj R c x.1 x.2).1 e.1 e.2).1:=by
   have:=J' k g e
   grind [il,Sj]
  rw[q]
  congr 1
  show gu name ((dj R (dj R c x.1 x.2).1 e.1 e.2).2::(cY R (dj R (dj R c x.1 x.2).1 e.1 e.2).1 _).2)=_
  grind [CJ]
def EI(R:ay->ay×bn)(name:BA)(own:List aW)(e:aW):Bool:=decide ((kI R (own++[e]) name).length=own.length)
theorem aj4(h0:seq aA name=false)(b:∀t,(R t).1.key=t.key)(s es:List aW)(ok:aW->Bool)(a:∀e,ok e=true->EI R name (kI R s name) e=true):qf R (iY ok 0 (kI R s name) es) name=qf R s name/\qf R (kI R s name) name=qf R s name:=by
 have h1:gu name (cY R [] s).2=gu name (cY R [] (kI R s name)).2:=by rw[Dl];exact He h0 b s [] [] [] rr rr
 have h2:gu name (cY R [] (iY ok 0 (kI R s name) es)).2=gu name (cY R [] (kI R s name)).2:=by
  refine Pn h0 b (λe c=>?_) _ [] es 0 [] [] rr rr rr;have d:=j5 (a e c);grind [Dl,Pb,Fz,gv]
 grind [qf,lW]
end
def mB(a:bn):Prop:=a.al.length<=67108864/\(∀n∈a.al,n.size<=1000000)/\a.gx.length<=67108864
def mB.no{a:bn}(h1:a.al=[])(h2:a.gx=[]):mB a:=by grind [mB]
def mB.ef(e:Int):mB (.ef e):=.no rr rr
def Pw(first frm:UInt64):∀(l:List cZ) (k:Nat) (p:List cZ×UInt64),(sR first frm l k p).1.length<=p.1.length+l.length
 | [],_,_=>j2 _
 |n::l,k,p=>by
  have h1:=Pw first frm l (k+1) (tN first frm k n p)
  grind [tN,sR]
def NE{x:fY}(h:x.l.length<=32)(n:UInt64):mB (told x n):=by
 have h1:=Pw x.first n x.l 0 ([],if n<x.first then x.first else n);rw[B9]at h1;exact⟨j9 _,λ_ h=>(by cases h),by show(x.from n).1.length<=_;grind [fY.from]⟩
theorem abQ{s:af}(h:ft s)(o:aC):mB (uL s o):=by
 have b:=h.i.sz;unfold uL;split
 ·unfold DY;split
  ·exact .ef 7
  split
  ·exact .no rr rr
  split
  ·have h1:=b.places;have h2:((s.ar.places.filter λx=>decide (x.aZ=o.id))).length<=s.ar.places.length:=C6 _ _;refine⟨?_,λn a=>?_,j9 _⟩
   ·grind [bf.of]
   ·have a:n∈s.ar.of o.id:=a;unfold bf.of at a;obtain⟨x,c,rfl⟩:=y9.1 a;have:=h.f.names h.t x (C5.1 c).1;omega
  ·exact .no rr rr
 split
 ·exact NE b.ev _
 split
 ·exact NE b.au _
 split
 ·unfold Ey;split
  ·exact .ef 6
  split
  ·exact .ef 7
  ·exact .no rr rr
 ·unfold Bu;split
  ·exact .ef 7
  ·exact .no rr rr
def ahp{s:af}(h:ft s)(o:aC):mB (apply s o).2:=by
 unfold apply;split
 ·exact .ef 2
 split
 ·grind [abQ]
 split
 ·exact .no rr rr
 split;split
 ·exact .ef _
 ·exact .no rr rr
theorem Ty(t:ay)(s:af){a:bn}(h:mB a)(r:BA):mB (t.mg s a r).2:=by
 unfold ay.mg;split;split
 ·exact .ef _
 ·exact h
theorem GM{t:ay}(h:gk t)(o:aC):mB (t.do o).2:=by
 have a:=ahp h.ti.s o;unfold ay.do;split
 ·exact .ef 12
 split
 ·exact a
 split
 ·grind [Ty]
 split
 ·exact .ef 12
 grind [Ty]
def Dm(d:qv):Prop:=d.2.length<=8/\∀r∈d.2,mB r.a
theorem oo(c:List aO)(b:BA)(e:Int):Dm (c,say b e):=⟨by show 1<=8;omega,λr a=>by rw[o6.1 a];exact .ef e⟩
theorem zw{c:List aO}(h:mc c)(e:BA){f:ay->ay×bn}(a:∀t,gk t->mB (f t).2):Dm (ij c e f):=by
 unfold ij;split
 ·grind [oo]
 ·rename_i n b;exact⟨by simp_all,λr d=>by rw[o6.1 d];exact a _ (h.all n (x7 b))⟩
theorem Wn{c:List aO}(h:mc c){f:ay->ay×bn}(a:∀t,gk t->mB (f t).2):Dm (ky c f):=by
 refine⟨by show(c.map _).length<=8;rw[c8];exact h.len,λr b=>?_⟩;obtain⟨n,d,rfl⟩:=y9.1 (show r∈c.map _ from b);exact a _ (h.all n d)
theorem WN(t:ay):mB (RS t).2:=by
 obtain⟨e,h⟩:=anC t;rw[h];exact .ef e
def afn{c:List aO}(h:mc c)(x:aW):Dm (dj RS c x.1 x.2):=by
 unfold dj;split
 ·grind [j_,oo]
 split
 ·grind [rN,oo,zw,GM]
 split
 ·grind [Wn,GM]
 split
 ·unfold mO;split
  ·grind [oo]
  split
  ·grind [oo]
  split
  ·grind [oo]
  grind [oo,zw,GM]
 split
 ·exact⟨j9 _,λr a=>(by cases a)⟩
 split
 ·exact zw h _ λ_ _=>.no rr rr
 split
 ·exact zw h _ λ_ _=>.no rr rr
 grind [Wn,WN,zw,oo]
def JF:∀(l:List aW) {c:List aO},mc c->(∀x∈l,pU x)->(cY RS c l).2.length=l.length/\∀rs∈(cY RS c l).2,rs.length<=8/\∀r∈rs,mB r.a
 | [],_,_,_=>⟨rr,λ_ h=>(by cases h)⟩
 |x::l,c,h,d=>by
  have h1:=afn h x
  have h2:=JF l (Jl xS h (d x j6)) λy e=>d y (j3 _ e)
  refine⟨congrArg (·+1) h2.1,λrs b=>?_⟩
  rcases p9.1 (show rs∈(dj RS c x.1 x.2).2::_ from b)with rfl|b
  ·exact h1
  ·exact h2.2 rs b
abbrev LW(L:List aW):Prop:=∀x∈L,pU x/\gN x
def Jm{L:List aW}(c:L.length<=1000)(b:LW L)(name:BA)(d:name.size<=100):PC 12 [sl cq L,st name] (·=sl st (qf RS L name)):=by
 obtain⟨h1,h2⟩:=JF L Ab λx h=>(b x h).1
 have e:=Bh name (cY RS [] L).2 8 λrs a=>(h2 rs a).1
 exact SX L name (WS xS BW L om (λx h=>(b x h).1) λx h=>(b x h).2) om om (λrs a=>by grind) om λrs a=>(h2 rs a).2
def aeH{L:List aW}(c:L.length<=1000)(b:LW L)(name:BA):(qf RS L name).length<=1000000:=by
 obtain⟨h1,h2⟩:=JF L Ab λx h=>(b x h).1
 have d:=Bh name (cY RS [] L).2 8 λrs a=>(h2 rs a).1
 grind [qf,lW]
def XA{L:List aW}(i:L.length<=1000)(b:LW L)(name:BA):PC 9 [sl cq L,st name] (·=sl cq (kI RS L name)):=by
 have c:∀F:List aW,LW F->mc (cY RS [] F).1:=λF a=>El xS F Ab λx h=>(a x h).1
 have a:∀q,LW ((L.take q).filter il):=λq x h=>b x (u6 (C5.1 h).1)
 refine SF L name om ⟨λx h=>(b x h).2.ul,λx h=>(b x h).2.tX,λq k x hk=>?_,λq=>?_⟩
 ·have d:=a q x (i7 hk);exact JA BW (c _ λy e=>a q y (u6 e)) d.1 d.2
 ·have f:=c _ (a q);unfold jR f_;split;rename_i h;split at h
  ·rename_i n g;cases h;have:=(f.all n (x7 g)).us.key;dsimp only;omega
  ·cases h;exact j9 _
end
section
open Go.RowKit Go.Proofs.Tryz
def CM(x:aW):Bool:=decide (x.1.kind=2)||(decide (x.1.kind=4)||(decide (x.1.kind=6)||(decide (x.1.kind=7)||decide (x.1.kind=9))))
noncomputable def rA(name:BA)(own:List aW)(e:aW):Bool:=CM e&&EI RS name own e
theorem Sk{ok:aW->Bool}{x:aW}:∀{l es:List aW} {i:Nat},x∈iY ok i l es->x∈l\/x∈es
 | [],es,i,h=>by unfold iY at h;cases h
 |y::l,es,i,h=>by
  have:=λes=>Sk (x:=x) (ok:=ok) (l:=l) (es:=es) (i:=i+1)
  unfold iY at h
  split at h
  ·split at h<;>grind
  ·grind
theorem UJ{ok:aW->Bool}:∀(l es:List aW) (i:Nat),(iY ok i l es).length<=2*l.length
 | [],es,i=>by unfold iY;exact j9 _
 |y::l,es,i=>by
  have:=λes=>UJ (ok:=ok) l es (i+1)
  unfold iY
  split
  ·split<;>grind
  ·grind
theorem aiz{i:Nat}(h:decide (((i%2:Nat):Int)=1)=false):¬i%2=1:=by have:=j4 h;omega
theorem akI{es:List aW}{m:List bN}{k:Nat}(a:es.length=min 40 m.length)(h:decide ((k:Int)<40)=false):es.length<=k:=by have:=j4 h;omega
theorem agE{es:List aW}{m:List bN}{k:Nat}(a:es.length=min 40 m.length)(h:decide ((k:Int)<((m.map bN.pv).length:Nat))=false):es.length<=k:=by
 have:=j4 h;rw[c8]at this;omega
structure tP(ok:aW->Bool)(own es:List aW)(i k:Nat)(pre:List aW):Prop where
 hi:i<=own.length
 hk:k<=es.length
 len:pre.length<=2*i
 eq:pre++iY ok i (own.drop i) (es.drop k)=iY ok 0 own es
section
variable {ok:aW→Bool}{own es pre:List aW}{i k:Nat}{x e:aW}
theorem tP.no(h:tP ok own es i k pre)(b:own[i]? = some x)(a:¬i%2=1\/es.length<=k):tP ok own es (i+1) k (pre++[x]):=by
 obtain⟨hi,rfl⟩:=c9.1 b;refine⟨hi,h.hk,by have:=h.len;rw[i6];show _+1<=_;omega,?_⟩;rw[<-h.eq,A7,o8 hi,List.singleton_append];congr 1;conv=>rhs;unfold iY
 rcases a with a|a
 ·rw[j1 a]
 ·rw[r9 a];cases decide (i%2=1)<;>rfl
theorem tP.Gk(h:tP ok own es i k pre)(a:own[i]? = some x)(b:es[k]? = some e)(c:i%2=1):tP ok own es (i+1) (k+1) (pre++x::match ok e with|true=>[e]|false=>[]):=by
 obtain⟨hi,rfl⟩:=c9.1 a;obtain⟨hk,rfl⟩:=c9.1 b;have d:=h.len;refine⟨hi,hk,?_,?_⟩
 ·cases ok es[k]<;>simp only[i6,w6,B9]<;>omega
 rw[<-h.eq,A7,o8 hi,o8 hk];congr 1;conv=>rhs;unfold iY
 rw[l9 c];cases hq:ok es[k]<;>simp[hq]
theorem tP.end(h:tP ok own es own.length k pre):pre=iY ok 0 own es:=by
 rw[<-h.eq,r9 (j2 _)];unfold iY;rw[A2]
end
theorem Zf{size:Int}(b:size<=1000000000):LW (lr size):=λx a=>⟨KQ b x a,JC size x a⟩
theorem ab7(l:List bN){size:Int}(b:size<=1000000000):LW (we l true size):=λx a=>by
 rcases s8.1 a with a|a
 ·exact Zf b x a
 ·obtain⟨y,_,rfl⟩:=y9.1 a
  exact⟨Ev y,ID y true⟩
theorem ai0(room:Nat)(W:room<65536)(l m:List bN)(hl:l.length<=9223372036854775807)(hm:m.length<=9223372036854775807)(c:Nat)(hwho:c<256):PC 3 [.at (.int .u16 (room:Int)),sl bN.pv l,sl bN.pv m,.at (.int .u8 (c:Int))] (·=bo true):=by
 obtain⟨size,hsz,L⟩:∃size:Int,size=600+((room%6000:Nat):Int)/\size<=1000000000:=⟨_,rfl,om⟩;obtain⟨name,h⟩:∃name,di[c%3]? = some name:=⟨_,j8 (show c%3<3 by omega)⟩;have hn:name.size<=2/\seq aA name=false:=by
  have:=i7 h;simp only[p9,o7,H3]at this;rcases this with rfl|rfl|rfl<;>exact⟨by decide,by decide⟩
 obtain⟨S,M⟩:∃S,S=we l true size:=⟨_,rfl⟩;have C:=λnx=>acq l hl true size nx
 have D:=ab7 l L;have N:S.length<=61:=by rw[M];unfold we;rw[i6,EO,c8,l8];omega
 rw[<-M]at C D;clear M;obtain⟨own,I⟩:∃own,own=kI RS S name:=⟨_,rfl⟩;obtain⟨es,O⟩:∃es,es=(m.take 40).map (bN.fK true):=⟨_,rfl⟩;have E:es.length=min 40 m.length:=by rw[O,c8,l8]
 have F:∀k x,m[k]? = some x->k<40->es[k]? = some (x.fK true):=λk x hk P=>by
  rw[O,A6,G4 P,hk];rfl
 have r:=XA om D name;have d:=Jm om D name om;have s:=aeH om D name;have v:LW own:=λx j=>D x (VP (I▸j))
 have hOl:own.length<=61:=by rw[I];exact r8 (r8 (C6 _ _) (Uu _ _ _)) N
 have G:LW es:=λx j=>by
  rw[O]at j;obtain⟨y,_,rfl⟩:=y9.1 j;exact⟨Ev y,ID y true⟩
 have Q:LW (iY (rA name own) 0 own es):=λx j=>(Sk j).elim (v x) (G x)
 have hMl:=UJ (ok:=rA name own) own es 0;have b:=Jm om v name om;have a:=Jm om Q name om;obtain⟨e1,e2⟩:=aj4 hn.2 abA S es (rA name own) λe he=>by
  rw[I]at he;exact((y7 _ _).mp he).2
 rw[<-I]at e1 e2 r;rw[e1]at a;rw[e2]at b;have o:=W_ (qf RS S name) (qf RS S name) s;rw[Fw]at o;generalize qf RS S name=seen at d b a o;clear e1 e2 s;refine aw func3<|ak Wg rfl<|ab<|ak Ec rfl<|c_<|cj.intro ((c%3:Nat):Int) (by show(c:Int).tmod 3=_;rw[H7 om];omega)<|bG h<|cj.intro (room:Int) (wrap_i64 rr om)<|c_<|cj.intro ((room%6000:Nat):Int) (by show(room:Int).tmod 6000=_;rw[H7 om];omega)<|cj.intro size (wrap_i64 om om)<|bu.bH [] (n:=200) (C _) rr trivial<|bu.by (n:=S.length+100) r (a_ (dC (f:=cq) (l:=S) rr rr Aa (n:=57) rr rr) rr)<|lY.k_ [(12,24,40)] ⟨rr,trivial⟩ ?_;refine⟨{p:Nat×Nat×List aW//tP (rA name own) own es p.1 p.2.1 p.2.2},⟨λp=>[(15,i64 p.1.1),(14,i64 p.1.2.1),(12,.aS 25 0 p.1.2.2.length)],[2,9,10,11,13],λp=>[(25,.rows 24 (p.1.2.2.map cq) true none 40)],[16]⟩,λp=>own.length-p.1.1,⟨(0,0,[]),j9 _,j9 _,j9 _,rr⟩,?_,?_⟩
 ·exact Cu ⟨⟨BB.br rr (e_.cf _),rr⟩,trivial⟩ ⟨⟨_,rr,BB.br rr (e_.cf _),rr⟩,trivial⟩
 rintro⟨⟨i,k,pre⟩,w⟩;dsimp only at w;have hMi:=w.hi;have hMp:=w.len;have hMk:=w.hk;refine aj.aN (λh1=>?_) (λh1=>?_)
 ·have h1:i<own.length:=by
   have h1:(i:Int)<((own.map cq).length:Nat):=j5 h1;rw[c8]at h1;omega
  obtain⟨x,j⟩:∃x,own[i]? = some x:=cw h1;have V:((pre++[x]).map cq).length=pre.length+1:=by rw[c8,i6];rfl
  refine an<|bG j<|dS.l (aq.mk (eE e_ pre x om) ?_);refine aj.aN (λJ=>aj.aN (λH=>aq.mk (by decide) (cj.intro ((i%2:Nat):Int) (by show(i:Int).tmod 2=_;rw[H7 om];omega) (aj.aN (λK=>?_) λK=>?_))) λH=>?_) λJ=>?_
  rotate_left;iterate 3
   have t:=w.no j (by first|exact .inl (aiz (by assumption))|exact .inr (akI E (by assumption))|exact .inr (agE E (by assumption)));refine ab<|aF (dq i)<|⟨⟨(i+1,k,pre++[x]),t⟩,sw 25 36,by show own.length-(i+1)<own.length-i;omega,?_⟩;exact⟨⟨⟨rr,rr⟩,⟨rr,rr⟩,⟨(by show some _=some (PV.aS _ 0 (pre++[x]).length);rw[i6];rfl),rr⟩,trivial⟩,⟨⟨_,rr,rr,rr⟩,⟨_,rr,rr,rr⟩,⟨_,rr,rr,rr⟩,⟨_,rr,rr,rr⟩,⟨_,rr,rr,rr⟩,trivial⟩,⟨⟨BB.br (congrArg (λrs=>some (aI.rows 24 rs true none 40)) (by rw[l6];rfl)) (e_.cf _),rr⟩,trivial⟩,⟨⟨_,rr,BB.br rr (e_.cf _),rr⟩,trivial⟩,rr,rr,rr⟩
  have K:i%2=1:=by have:=j5 K;omega
  have H:k<40:=by
   have H:(k:Int)<40:=j5 H;omega
  obtain⟨y,hy⟩:∃y,m[k]? = some y:=cw (by
   have J:(k:Int)<((m.map bN.pv).length:Nat):=j5 J;rw[c8]at J;omega)
  have A:=F k y hy H;have u:=Ko y true;generalize y.fK true=e at A u;have t:=w.Gk j A K;have R:LW (own++[e]):=λz T=>(s8.1 T).elim (v z) λT=>by rw[o6.1 T];exact G e (i7 A)
  have hle:(own++[e]).length=own.length+1:=by rw[i6];rfl
  have B:=XA om R name;have U:ph (pre.map cq++[cq x]) [cq e] 24/\pre.length+1=(pre.map cq++[cq x]).length:=⟨by have:=(eE e_ (pre++[x]) e (by rw[i6];show _+1<_;omega)).1;rwa [l6]at this,by simp⟩;refine an<|bG hy<|ak u rfl<|aF (dq k)<|aj.aN (λX=>?_) λX=>aj.aN (λY=>?_) λY=>aj.aN (λZ=>?_) λZ=>aj.aN (λq7=>?_) λq7=>aj.aN (λq9=>?_) λq9=>?_
  rotate_left 5
  ·have g:rA name own e=false:=by
    unfold rA CM;rw[show decide (e.1.kind=2)=false from X,show decide (e.1.kind=4)=false from Y,show decide (e.1.kind=6)=false from Z,show decide (e.1.kind=7)=false from q7,show decide (e.1.kind=9)=false from q9];rfl
   rw[g]at t;refine az<|ab<|aF (dq i)<|⟨⟨(i+1,k+1,pre++[x]),t⟩,sw 25 36,by show own.length-(i+1)<own.length-i;omega,?_⟩;exact⟨⟨⟨rr,rr⟩,⟨rr,rr⟩,⟨(by show some _=some (PV.aS _ 0 (pre++[x]).length);rw[i6];rfl),rr⟩,trivial⟩,⟨⟨_,rr,rr,rr⟩,⟨_,rr,rr,rr⟩,⟨_,rr,rr,rr⟩,⟨_,rr,rr,rr⟩,⟨_,rr,rr,rr⟩,trivial⟩,⟨⟨BB.br (congrArg (λrs=>some (aI.rows 24 rs true none 40)) (by rw[l6];rfl)) (e_.cf _),rr⟩,trivial⟩,⟨⟨_,rr,BB.br rr (e_.cf _),rr⟩,trivial⟩,rr,rr,rr⟩
  all_goals
   have hs:CM e=true:=by
    unfold CM;first
     |(rw[show decide (e.1.kind=2)=true from X];rfl)
     |(rw[show decide (e.1.kind=4)=true from Y];simp)
     |(rw[show decide (e.1.kind=6)=true from Z];simp)
     |(rw[show decide (e.1.kind=7)=true from q7];simp)
     |(rw[show decide (e.1.kind=9)=true from q9];simp)
   refine aq.mk ⟨(Iy e_ [] own (by show 0+_<=_;omega)).1,λ_=>rfl⟩ ?_;refine dS.l (aq.mk ⟨(eE e_ own e om).1,by show 0+(own.map cq).length=([]++own.map cq).length;simp⟩ ?_);refine fi.by (n:=(own++[e]).length+100) B (a_ (dC (l:=own++[e]) (f:=cq) rr (by rw[l6];rfl) e_.bL (by show 0+(own.map cq).length+1=_;rw[c8];omega) rr) rr) ?_;have hdl:((own.map cq).length:Int)=(own.length:Nat):=by rw[c8]
   refine aj.aN (λq=>?_) (λq=>?_)
   ·have g:rA name own e=true:=by
     unfold rA EI;rw[hs];have q:((((kI RS (own++[e]) name).map cq).length:Nat):Int)=((own.map cq).length:Nat):=j5 q;rw[c8,c8]at q;exact l9 om
    rw[g]at t;refine az<|an<|dS.l (aq.mk U ?_);refine aF (dq i)<|⟨⟨(i+1,k+1,pre++[x,e]),t⟩,sw 25 102,by show own.length-(i+1)<own.length-i;omega,?_⟩;exact⟨⟨⟨rr,rr⟩,⟨rr,rr⟩,⟨(by show some _=some (PV.aS _ 0 (pre++[x,e]).length);rw[i6];rfl),rr⟩,trivial⟩,⟨⟨_,rr,rr,rr⟩,⟨_,rr,rr,rr⟩,⟨_,rr,rr,rr⟩,⟨_,rr,rr,rr⟩,⟨_,rr,rr,rr⟩,trivial⟩,⟨⟨BB.br (congrArg (λrs=>some (aI.rows 24 rs true none 40)) (by rw[l6];exact A7 ..)) (e_.cf _),rr⟩,trivial⟩,⟨⟨_,rr,BB.br rr (e_.cf _),rr⟩,trivial⟩,rr,rr,rr⟩
   ·have g:rA name own e=false:=by
     unfold rA EI;rw[hs];have q:¬((((kI RS (own++[e]) name).map cq).length:Nat):Int)=((own.map cq).length:Nat):=j4 q;rw[c8,c8]at q;exact j1 om
    rw[g]at t;refine az<|ab<|aF (dq i)<|⟨⟨(i+1,k+1,pre++[x]),t⟩,sw 25 36,by show own.length-(i+1)<own.length-i;omega,?_⟩;exact⟨⟨⟨rr,rr⟩,⟨rr,rr⟩,⟨(by show some _=some (PV.aS _ 0 (pre++[x]).length);rw[i6];rfl),rr⟩,trivial⟩,⟨⟨_,rr,rr,rr⟩,⟨_,rr,rr,rr⟩,⟨_,rr,rr,rr⟩,⟨_,rr,rr,rr⟩,⟨_,rr,rr,rr⟩,trivial⟩,⟨⟨BB.br (congrArg (λrs=>some (aI.rows 24 rs true none 40)) (by rw[l6];rfl)) (e_.cf _),rr⟩,trivial⟩,⟨⟨_,rr,BB.br rr (e_.cf _),rr⟩,trivial⟩,rr,rr,rr⟩
 ·have h1:i=own.length:=by
   have h1:¬(i:Int)<((own.map cq).length:Nat):=j4 h1;rw[c8]at h1;omega
  subst h1;rw[<-w.end]at a;exact ab<|bu.by (n:=S.length+100) d (a_ (dC (f:=cq) (l:=S) rr rr Aa (n:=57) rr rr) rr)<|bu.by (n:=pre.length+100) a (a_ (dC (f:=cq) (l:=pre) rr rr Aa (n:=57) rr rr) rr)<|ak o rfl<|bu.by (n:=S.length+100) d (a_ (dC (f:=cq) (l:=S) rr rr Aa (n:=57) rr rr) rr)<|ak b rfl<|ak o rfl<|ah
end
end Go.Proofs.YtbnonpbnhenkfaaGreatDoor
section
namespace Go.Proofs.YtbnonpbnhenkfaaGreatDoor.topUnseen
open Go.Proofs.Tryz
open Go.ChangeShapes Go.WideShapes Go.ChangeAt Go.RowKit Go.Proofs.Tryz
def zV{n:Int}(h:(Lit.int .u16 n).wf=true):0<=n/\n<=65535:=by
 simp only[Lit.wf,y7,J7]at h;exact⟨h.1,h.2⟩
def Px{n:Int}(h:(Lit.int .u8 n).wf=true):0<=n/\n<=255:=by
 simp only[Lit.wf,y7,J7]at h;exact⟨h.1,h.2⟩
def own:ownKnob prog.godebug=none:=by kernel_rfl
def vB:laidOutB prog=true:=by kernel_rfl
def Gi(H:Type)(enc:TypeId×Value->H)(W:World)(bZ:Nat)(args:Array Value)(ds gs:List (DataW H))(nh:List MemPlace)
 (a:∀(j:Nat) t v,f3.params[j]? = some t->args[j]? = some v->Value.okWide prog W .any bZ t v)
 (I:DataW.Whole enc prog f3.params.toList Rows.topUnseenSpec.vars false W args.toList ds gs nh) (S:laidMetH prog Rows.topUnseenRow.laid W) (o:W.ShapedOpen prog):
 Calls prog 3 args W λe W'=>∃v,e=.returned v/\Rows.topUnseenSpec.post enc prog f3 false true false false W args v W':=by
 have s:=I
 obtain⟨p,q,g,T,rfl,U,V⟩:=I
 have J:DataW.TrodAll enc prog W 0 (λ_=>true) true f3.params.toList args.toList ds p:=g
 rw[params3]at J a
 obtain⟨v0,vs0,d0,ds0,p0,q0,B,rfl,rfl,h0,r0⟩:=trodAll_cons J
 obtain⟨v1,vs1,d1,ds1,p1,q1,rfl,rfl,rfl,h1,r1⟩:=trodAll_cons r0
 obtain⟨v2,vs2,d2,ds2,p2,q2,rfl,rfl,rfl,h2,r2⟩:=trodAll_cons r1
 obtain⟨v3,vs3,d3,ds3,p3,q3,rfl,rfl,rfl,K,r3⟩:=trodAll_cons r2
 obtain⟨rfl,rfl,rfl⟩:=trodAll_nil r3
 obtain rfl:args=#[v0,v1,v2,v3]:=by cases args;simp_all
 obtain⟨rfl,rfl⟩:=trodVars_none T
 have N:=h0
 have C:∀x∈p0,x.block<W.heap.size:=by obtain⟨m,d⟩:=N;exact DataW.trod_lt m _ _ _ d
 have O:=h1
 have D:∀x∈p1,x.block<W.heap.size:=by obtain⟨m,d⟩:=O;exact DataW.trod_lt m _ _ _ d
 have P:=h2
 have E:∀x∈p2,x.block<W.heap.size:=by obtain⟨m,d⟩:=P;exact DataW.trod_lt m _ _ _ d
 have Q:=K
 have F:∀x∈p3,x.block<W.heap.size:=by obtain⟨m,d⟩:=Q;exact DataW.trod_lt m _ _ _ d
 obtain⟨a0,rfl,rfl,rfl,w0⟩:=open_int underlying22 (a 0 22 v0 rfl rfl) h0
 obtain⟨G,rfl⟩:∃n:Nat,a0=(n:Int):=⟨a0.toNat,by have:=zV w0;omega⟩
 have u:G<65536:=by have:=zV w0;omega
 obtain⟨a3,rfl,rfl,rfl,R⟩:=open_int underlying5 (a 3 5 v3 rfl rfl) K
 obtain⟨n3,rfl⟩:∃n:Nat,a3=(n:Int):=⟨a3.toNat,by have:=Px R;omega⟩
 have w:n3<256:=by have:=Px R;omega
 clear g
 have y:v1.cells=#[v1]:=by
  have h1:=a 1 _ v1 rr rr
  simp only[Value.okWide,underlying23,Cell.okWide,Cell.ok]at h1
  cases v1<;>first|rfl|simp_all
 have z:v2.cells=#[v2]:=by
  have h1:=a 2 _ v2 rr rr
  simp only[Value.okWide,underlying23,Cell.okWide,Cell.ok]at h1
  cases v2<;>first|rfl|simp_all
 obtain⟨M,L⟩:=h1
 rw[y]at L
 obtain⟨l,X,i⟩:=IC L
 obtain⟨A,k⟩:=h2
 rw[z]at k
 obtain⟨m,d,f⟩:=IC k
 have Y:jz W:=Nt S o
 refine((ai0 G u l m X d n3 w).2 W (λb _=>b<W.heap.size) [.int .u16 (G:Int),v1,v2,.int .u8 (n3:Int)] Y (λ_ _ h=>h) ⟨_,[v1,v2,.int .u8 (n3:Int)],rr,⟨rr,rr⟩,⟨v1,[v2,.int .u8 (n3:Int)],rr,i,⟨v2,[.int .u8 (n3:Int)],rr,f,⟨_,[],rr,⟨rr,rr⟩,rr⟩⟩⟩⟩).mono λe W' ⟨r,v,Z,hr,hv,c⟩=>?_
 subst Z
 subst hr
 obtain⟨rfl,_⟩:=hv
 exact⟨_,rr,_,_,_,[],_,[],s,trodAll_mk1 (shut_bool underlying4 _),(trodAll_cons_mk (Below.trod vB (by kernel_rfl) (j5 (by kernel_rfl)) N c C) (trodAll_cons_mk (Below.trod vB (by kernel_rfl) (j5 (by kernel_rfl)) O c D) (trodAll_cons_mk (Below.trod vB (by kernel_rfl) (j5 (by kernel_rfl)) P c E) (trodAll_cons_mk (Below.trod vB (by kernel_rfl) (j5 (by kernel_rfl)) Q c F) trodAll_mk0)))),rr,c.frame _,λh=>by cases h⟩
def Ft(l:List Value)(o:Obj):Obj:=match o with
 |.cells _ t frozen=>.cells l.toArray t frozen
 |o=>o
def zC:List (Nat×List Value)->Array Obj->Array Obj
 | [],h=>h
 |x::l,h=>zC l (h.modify x.1 (Ft x.2))
def Lg:List Int:=[128,191,160,191,128,159,144,191,128,143]++List.replicate 22 0
def FQ:List (Nat×List Value):=[(8,Lg.map (Value.int .u8)),(7,Pinned.utf8FirstZ.map fun n=>Value.int .u8 ((n:Nat):Int))]++jY
noncomputable def wt(os:Os):World:=
 {World.holding prog os ⟨#[],#[],[]⟩with heap:=zC FQ (World.holding prog os ⟨#[],#[],[]⟩).heap}
theorem KV(os:Os):laidMet Tryz.prog Rows.topUnseenRow.laid ((wt os).forCall (fun _ _=>0) ⟨#[],#[.int .u16 0,.slice none 0 0,.slice none 0 0,.int .u8 0],[]⟩).memory:=
 laidMet_of_run' 8 (by kernel_rfl) (by kernel_rfl)
end Go.Proofs.YtbnonpbnhenkfaaGreatDoor.topUnseen
end
section
namespace Go.Proofs.YtbnonpbnhenkfaaGreatDoor.topUnseen
open Go.Proofs.Tryz
open Go.ChangeShapes Go.WideShapes Go.ChangeAt Go.RowKit Go.Proofs.Tryz
def reads(os:Os){H:Type}(enc:TypeId×Value->H):∃places,DataW.whole enc prog ((wt os).forCall (λ_ _=>0) ⟨#[],#[.int .u16 0,.slice none 0 0,.slice none 0 0,.int .u8 0],[]⟩).memory f3.params.toList Rows.topUnseenSpec.vars false (#[.int .u16 0,.slice none 0 0,.slice none 0 0,.int .u8 0]:Array Value).toList 8=some ([.lit (.int .u16 0),.nil,.nil,.lit (.int .u8 0)],[],places):=
 ⟨[],by kernel_rfl⟩
def lifted(os:Os)(started:os.Started)(H:Type)(enc:TypeId×Value->H)(F:Stop.Interp):
 ReturnsInHanded {} checked os 3 .any ((OpenSpec.ofChange Rows.topUnseenSpec).preRow enc prog f3 Rows.topUnseenRow.domain false Rows.topUnseenRow.laid) (((OpenSpec.ofChange Rows.topUnseenSpec).at F).post enc prog f3 false true false false):=by
 obtain⟨places,c⟩:=reads os enc
 refine returnsInHanded_of_row (C:=checked) (s:=OpenSpec.ofChange Rows.topUnseenSpec) own started (by kernel_rfl) func3
  (witness_row_at (enc:=enc) (C:=checked) false (wt os) #[.int .u16 0,.slice none 0 0,.slice none 0 0,.int .u8 0] rr (by kernel_rfl) (by kernel_rfl) (by kernel_rfl)
    (OpenSpec.preRow_of_cond 8 c (by kernel_rfl) (λk hk=>by cases hk) (by kernel_rfl) (KV os))) ?_
 intro W bZ args ds gs nh a d _ hcond e f b _
 exact Gi H enc W bZ args ds gs nh a d f b
def aT{a b:Bool}(h1:a=true)(h2:b=true):(a&&b)=true:=by rw[h1,h2];rfl
def aL{a b:Bool}(h:(a&&b)=true):a=true:=(y7 a b▸h).1
def aR{a b:Bool}(h:(a&&b)=true):b=true:=(y7 a b▸h).2
def closed:joinedFacts prog 3 f3 Rows.topUnseenSpec Rows.topUnseenRow=true:=by
 unfold joinedFacts;exact aT (aT (aT (aT (aT (aT (aT (aT (aT (aT (aT (aT (aT (aT (aT (aT (aT (aT (aT (aT (aT (aT (aT (aT (aT (aT (aT c1 rr) c2) rr) c3) c4) c5) c6) c7) d1) d2) d3) d4) e1) (aL (aL (aL e2)))) (aR (aL (aL e2)))) (aR (aL e2))) (aR e2)) d5) d6) e3) e4) e5) e6) rr) e7) e8) e9
def Fu:Rows.TopUnseenSaid:=
 OpenClaim.holds_of_cond 3 f3 rr rr rr rr rr rr rr ⟨rr,rr,rr,rr,rr⟩ rr rr rr rr rr d8 func3 closed d9 KY
  (λos started H enc _ F=>by rw[OpenClaim.pre_eq_preRow];exact lifted os started H enc F)
end Go.Proofs.YtbnonpbnhenkfaaGreatDoor.topUnseen
end
section
namespace Go.Proofs.YtbnonpbnhenkfaaGreatDoor.topUnseen
open Go.Proofs.Tryz
open Go.RowKit Go.Proofs.Tryz
theorem E_{P:Program}(h:P.funcs.any Func.goes=false)(f:FuncId):P.goes f=false:=by
 have h2:∀g:FuncId,((P.funcs[g]?:Option Func)).any Func.goes=false:=by
  intro g;cases e:P.funcs[g]? with
  |none=>rfl
  |some fn=>
   have hm:=M4 e;have:=(Array.any_eq_false.1 h);obtain⟨i,hi,rfl⟩:=Array.mem_iff_getElem.1 hm;simpa using this i hi
 unfold Program.goes;simp[h,h2]
theorem FF{P:Program}{c:OpenClaim}(hs:c.start=.entering)(h:P.funcs.any Func.goes=false):false=c.goesBy P:=by
 unfold OpenClaim.goesBy Program.goesAt Program.goesFrom;rw[hs];cases P.funcNamed c.func with
 |none=>rfl
 |some f=>simp[E_ h f]
theorem JZ:prog.funcs.any Func.goes=false:=by kernel_rfl
theorem GB:Tryz.pinned.checked.prog.mainIs=some (true,"2b4d5e5277b437985333039ecfee4bec1464b9fcc9c7fa6cfdd9f3068463ccf8".toList):=by kernel_rfl
theorem Ku:Rows.topUnseenRow.wfByText (OpenSpec.ofChange Rows.topUnseenSpec)=true:=by kernel_rfl
theorem Hm:true=Tryz.pinned.checked.prog.looks []:=by kernel_rfl
theorem plain(f:FuncId)(fn:Func)(hf:Tryz.pinned.checked.prog.funcNamed "demesne/demesnetop.TopUnseen"=some f)(hfn:Tryz.pinned.checked.prog.funcs[f]? = some fn):
 true=Tryz.pinned.checked.prog.looks []∧∀(j:Nat) t,fn.params[j]? = some t→Tryz.pinned.checked.prog.wantsStandIn t=false:=by
 obtain rfl:f=3:=z8 ((show Tryz.prog.funcNamed "demesne/demesnetop.TopUnseen"=some 3 by kernel_rfl).symm.trans hf) |>.symm
 obtain rfl:fn=Tryz.f3:=(z8 (Tryz.func3.symm.trans hfn)).symm
 refine⟨Hm,fun j t ht=>?_⟩
 rw[Tryz.params3]at ht
 have hm:=M4 ht
 simp at hm
 rcases hm with rfl|rfl|rfl
 ·exact(show Tryz.prog.wantsStandIn 22=false by kernel_rfl)
 ·exact(show Tryz.prog.wantsStandIn 23=false by kernel_rfl)
 ·exact(show Tryz.prog.wantsStandIn 5=false by kernel_rfl)
theorem card:Rows.TopUnseenCardSaid:=
 Claim7.holds_tied_plain_at .later [] _ _ _ _ Fu (λ_ h=>by cases h) Ku (λ_ h=>by cases h) topUnseen_row_tie rr ⟨rr,rr⟩ GB rr plain (FF rr JZ)
end Go.Proofs.YtbnonpbnhenkfaaGreatDoor.topUnseen
end
