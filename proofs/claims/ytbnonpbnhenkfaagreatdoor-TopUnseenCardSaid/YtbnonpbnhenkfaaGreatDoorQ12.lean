/- Part 12 -/
import Derived.Test.YtbnonpbnhenkfaaGreatDoorQ11
import Derived.Sort.Walk0
set_option linter.all false
set_option maxRecDepth 1000000
set_option maxHeartbeats 8000000
namespace Go.Proofs.YtbnonpbnhenkfaaGreatDoor
section
open Go.RowKit
theorem acy{t:List aB}(b:(t.map aB.aa).Nodup){m:Nat}{e:aB}(h:t[m]? = some e):fu t e.aa=m/\cO t e.aa=(e,true):=by
 unfold fu cO;rcases kV (λx:aB=>seq x.aa e.aa) t 0 with⟨h1,h2⟩|⟨k,x,h1,h2,c⟩
 ·grind [xu]
 ·have d:x.aa=e.aa:=eI.1 (by grind);have hk:k=m:=sU (l:=t.map aB.aa) b (a:=e.aa) (by simp_all) (by simp_all);simp_all
theorem xQ{t:List aB}{p:BA}(h:(cO t p).2=true):∃m e,t[m]? = some e/\e.aa=p/\cO t p=(e,true)/\fu t p=(m:Nat):=by
 unfold cO fu at*
 rcases kV (λx:aB=>seq x.aa p) t 0 with⟨h1,h2⟩|⟨k,x,h1,h2,a⟩
 ·simp_all
 grind [eI]
theorem DP{t:List aB}{e:aB}(h:e∈t):(cO t e.aa).2=true:=by grind [cO,xu]
def qd(act:aB->aB×Int)(q:BA->Bool)(t:List aB):List aB:=t.map λe=>match q e.aa with|true=>(act e).1|false=>e
def OR{t:List aB}{act:aB->aB×Int}(g:(t.map aB.aa).Nodup):∀(l:List BA) (q:BA->Bool),(∀p∈l,(cO t p).2=true)->(∀e∈t,(l.any λy=>seq e.aa y)=true->(act e).2=0)->mF t act l (qd act q t)=(qd act (λp=>q p||l.any λy=>seq p y) t,0)
 | [],q,_,_=>by
  simp_all [mF]
 |p::l,q,hp,j=>by
  unfold mF
  obtain⟨m,e,h1,h2,k,o⟩:=xQ (hp p j6)
  have c:(act e).2=0:=j e (i7 h1) (by grind [xu])
  rw[k]
  rcases d:act e with⟨e',n⟩
  rw[d]at c
  dsimp only at c⊢
  subst c
  rw[show decide ((0:Int)=0)=true from rfl]
  dsimp only
  have b:(qd act q t).set (fu t p).toNat e'=qd act (λx=>q x||seq x p) t:=by
   rw[o,x8]
   unfold qd
   apply E5
   intro i
   rw[P0,A6,A6]
   split
   ·grind [xu]
   ·rename_i hi
    cases r:t[i]? with
    |none=>rfl
    |some x=>
     rw[E3,E3]
     have:seq x.aa p=false:=by
      cases u:seq x.aa p
      ·rfl
      exact(hi (sU (l:=t.map aB.aa) g (a:=p) (by simp_all) (by grind [eI]))).elim
     simp_all
  rw[b,OR g l _ (λp f=>hp p (j3 _ f)) (λe s h=>j e s (by simp_all))]
  grind
theorem Vx{t:List aB}{act:aB->aB×Int}:∀(l:List BA) (out:List aB),(mF t act l out).2=0->∀p∈l,(act (cO t p).1).2=0
 | [],_,_,p,hp=>by cases hp
 |p::l,out,h,q,hq=>by
  unfold mF at h
  rcases a:act (cO t p).1 with⟨e',n⟩
  rw[a]at h
  dsimp only at h
  by_cases b:n=0
  ·rw[l9 b]at h
   rcases p9.1 hq with rfl|hq
   ·simp_all
   ·exact Vx l _ h q hq
  simp_all
theorem uF{t:List aB}{p:BA}:decide (fu t p<0)=!(cO t p).2:=by
 unfold fu cO;rcases kV (λx:aB=>seq x.aa p) t 0 with⟨h1,h2⟩|⟨k,x,h1,h2,a⟩
 ·grind
 simp_all
abbrev on(aa:BA)(p:BA):Bool:=(gT aa).any λy=>seq p y
theorem Yw{t:List aB}{act:aB->aB×Int}{aa:BA}(a:(t.map aB.aa).Nodup)(b:named aa=true)(hp:∀p∈gT aa,(cO t p).2=true)(c:∀e∈t,on aa e.aa=true->(act e).2=0):jJ t aa act=(qd act (on aa) t,0):=by
 unfold jJ;rw[b];dsimp only;have:((gT aa).any λp=>decide (fu t p<0))=false:=L4.2 λp h=>by grind [uF]
 rw[this];dsimp only;have h:=OR (act:=act) a (gT aa) (λ_=>false) hp c;grind [qd,List.map_id']
def aoE{t:List aB}{act:aB->aB×Int}{aa:BA}(b:(t.map aB.aa).Nodup)(h:(jJ t aa act).2=0):named aa=true/\(∀p∈gT aa,(cO t p).2=true)/\(∀e∈t,on aa e.aa=true->(act e).2=0)/\jJ t aa act=(qd act (on aa) t,0):=by
 have h':=h;unfold jJ at h';cases a:named aa
 ·simp_all
 rw[a]at h';dsimp only at h';cases hb:(gT aa).any λp=>decide (fu t p<0)
 case true=>simp_all
 rw[hb]at h';have hp:∀p∈gT aa,(cO t p).2=true:=λp hp=>by
  grind [List.any_eq_false,uF]
 grind [Vx,eI,List.getElem?_of_mem,acy,Yw]
def SZ{x:bM}(h:x.check=0):x.total.2=true:=by grind [bM.check]
def mq(name:BA)(i:Nat)(x:dt):Nat:=match seq x.node name with|true=>x.v.g i|false=>0
def ld(p:bf)(name:BA)(i:Nat):Nat:=dW (mq name i) p.places
def gZ(aa:BA)(i:Nat)(j:ax):Nat:=match j.bB&&on j.x.aa aa with|true=>j.x.total.1.g i|false=>0
def us(l:List ax)(aa:BA)(i:Nat):Nat:=dW (gZ aa i) l
structure eP(s:af):Prop where
 cap:∀n∈s.ar.al,∀i,ld s.ar n.name i<=n.cap.g i
 nD:∀x∈s.ar.places,∃j∈s.ae,j.id=x.aZ/\j.bB=true/\x.v=j.x.cT/\∃n∈s.ar.al,n.name=x.node/\qX j.x.dv n.ao=true
 fp:∀j∈s.ae,((s.ar.of j.id).length:Int)=if j.bB=true then j.x.count else 0
 qM:∀e∈s.aH,∀i,e.b_.g i=us s.ae e.aa i
 iv:∀e∈s.aH,e.b_.db e.bI=true
 sJ:(cO s.aH aA).2=true
 pk:(s.aH.map aB.aa).Nodup
 run:∀j∈s.ae,j.bB=true->named j.x.aa=true/\∀p∈gT j.x.aa,(cO s.aH p).2=true
 mh:∀j∈s.ae,j.x.check=0
def ix(p:bf):Prop:=∀x∈p.places,∀n∈p.al,n.name=x.node->n.up=true
theorem eP.same{s t:af}(h:eP s)(hp:t.ar=s.ar)(j:t.aH=s.aH)(l:t.ae=s.ae):eP t:=by
 obtain⟨a,b,c,d,e,f,g,i,k⟩:=h;rw[<-hp]at a b c;rw[<-j]at d e f g i;rw[<-l]at b c d i k;exact⟨a,b,c,d,e,f,g,i,k⟩
structure s_(l:List ax)(j:ax)(m:List ax):Prop where
 sub:∀x∈m,(x∈l/\x.id≠j.id)\/(x.id=j.id/\x.bB=false/\x.x=j.x)
 all:∀x∈l,x.id≠j.id->x∈m
 sum:∀f:ax->Nat,(∀x,x.bB=false->f x=0)->dW f m+f j=dW f l
def FH{l:List ax}(h:mb l){k:Nat}{j:ax}(hk:l[k]? = some j){x:ax}:x∈l.eraseIdx k↔x∈l/\x.id≠j.id:=by
 rw[G2];constructor
 ·rintro⟨i,hi,b⟩;refine⟨i7 b,λc=>hi ?_⟩;exact sU (l:=l.map ax.id) h (a:=j.id) (by simp_all) (by simp_all)
 grind [List.getElem?_of_mem]
def s_.set{l:List ax}(h:mb l){k:Nat}{j j':ax}(hk:l[k]? = some j)(hid:j'.id=j.id)(b:j'.bB=false)(c:j'.x=j.x):s_ l j (l.set k j') where
 sub:=λx a=>by
  grind [vC]
 all:=λx h1 h2=>(vC h hk hid).2 (.inr ⟨h1,h2⟩)
 sum:=λf d=>by
  grind [JL]
def s_.erase{l:List ax}(h:mb l){k:Nat}{j:ax}(hk:l[k]? = some j):s_ l j (l.eraseIdx k) where
 sub:=λx a=>.inl ((FH h hk).1 a)
 all:=λx h1 h2=>(FH h hk).2 ⟨h1,h2⟩
 sum:=λf _=>Yp f hk
def WR{s:af}(h:eP s){j:ax}(C:j∈s.ae)(N:j.bB=true){m:List ax}(u:s_ s.ae j m){t:af}(F:t.ar=(s.du j).ar)(tt:t.aH=(s.du j).aH)(E:t.ae=m):eP t:=by
 obtain⟨G,H⟩:=h.run j C N;have q:=SZ (h.mh j C);rcases hv:j.x.total with⟨v,b⟩
 rw[hv]at q;dsimp only at q;subst q;have O:s.du j={s with aH:=(wo s.aH j.x.aa v).1,ar:=s.ar.drop j.id}:=by grind [af.du]
 rw[O]at F tt;have P:∀e∈s.aH,on j.x.aa e.aa=true->∀i,v.g i<=e.b_.g i:=λe f a i=>by
  rw[h.qM e f i];have h1:=Xl (gZ e.aa i) C;have h2:gZ e.aa i j=v.g i:=by grind [gZ]
  rw[h2]at h1;exact h1
 have Q:∀e∈s.aH,on j.x.aa e.aa=true->aB.nn v e=({e with b_:=(e.b_.sub v).1},0):=λe f a=>by
  grind [AH,aB.nn]
 have I:(wo s.aH j.x.aa v).1=qd (aB.nn v) (on j.x.aa) s.aH:=by
  unfold wo;rw[Yw h.pk G H λe f a=>by grind]
 dsimp only at F tt;rw[I]at tt;have k:∀e'∈t.aH,∃e∈s.aH,e'.aa=e.aa/\e'.bI=e.bI/\∀i,e'.b_.g i+(match on j.x.aa e.aa with|true=>v.g i|false=>0)=e.b_.g i:=λe' c=>by
  rw[tt]at c;obtain⟨e,f,rfl⟩:=y9.1 c;grind [Iz,AH]
 have d:t.aH.map aB.aa=s.aH.map aB.aa:=by
  grind [qd,List.map_congr_left]
 have r:∀p,(cO t.aH p).2=(cO s.aH p).2:=λp=>by
  have e1:∀l:List aB,(cO l p).2=(l.map aB.aa).any λy=>seq y p:=λl=>by
   grind [cO]
  grind
 have w:t.ar.al=s.ar.al:=by rw[F];rfl
 have dE:t.ar.places=s.ar.places.filter λx=>!decide (x.aZ=j.id):=by rw[F];rfl
 have z:∀x∈m,x.bB=true->x∈s.ae/\x.id≠j.id:=λx A R=>by
  rcases u.sub x A with h1|⟨_,h1,_⟩
  ·exact h1
  simp_all
 refine⟨?_,?_,?_,?_,?_,?_,?_,?_,?_⟩
 ·intro n J i;rw[w]at J;refine r8 ?_ (h.cap n J i);unfold ld;rw[dE];generalize s.ar.places=l;induction l<;>grind [iQ]
 ·intro x A;rw[dE]at A;obtain⟨h1,h2⟩:=C5.1 A;obtain⟨o,a,D,K,L,M⟩:=h.nD x h1;rw[E,w];refine⟨o,u.all o a λe=>?_,D,K,L,M⟩;simp_all
 ·intro o a;rw[E]at a;unfold bf.of;rw[dE];rcases u.sub o a with⟨h1,h2⟩|⟨h1,h2,_⟩
  ·have:=h.fp o h1;unfold bf.of at this;rw[<-this,List.filter_filter];grind
  simp_all
 ·intro e' c i;obtain⟨e,f,h1,h2,D⟩:=k e' c;have K:=D i;have L:=h.qM e f i;have M:=u.sum (gZ e.aa i) λx A=>by grind [gZ]
  grind [gZ,us]
 ·intro e' c;obtain⟨e,f,h1,h2,D⟩:=k e' c;rw[h2];refine xi.2 λi=>?_
  have:=xi.1 (h.iv e f) i;grind
 ·rw[r];exact h.sJ
 ·rw[d];exact h.pk
 ·intro o a B;rw[E]at a;obtain⟨h1,h2⟩:=h.run o (z o a B).1 B;simp_all
 ·intro o a;rw[E]at a;rcases u.sub o a with⟨h1,_⟩|⟨_,_,h1⟩
  ·exact h.mh o h1
  ·rw[h1];exact h.mh j C
def Ur{s:af}(h:eP s)(hi:mb s.ae)(id:UInt64)(k:Int):eP (s.stop id k).1:=by
 unfold af.stop;rcases ol s.ae id with⟨h1,h2⟩|⟨n,h1,h2,a⟩
 ·simp_all
 rw[j1 om];dsimp only;obtain⟨b,hid⟩:=oh a;generalize c:(bK s.ae id).1=j at*
 cases d:j.bB
 ·exact h
 dsimp only;refine WR h b d (s_.set hi h2 (j':={j with bB:=false,left:=0}) rr rr rr) rr rr ?_;show(s.du j).ae.set (eK s.ae id).toNat _=_
 grind [nQ]
def aiw{s:af}(h:eP s)(hi:mb s.ae){j:ax}(n:j∈s.ae)(p:j.bB=false){m:List ax}(f:s_ s.ae j m)(a:∀x∈m,x∈s.ae){t:af}(d:t.ar=s.ar)(tt:t.aH=s.aH)(c:t.ae=m):eP t:=by
 refine⟨by rw[d];exact h.cap,?_,?_,?_,by rw[tt];exact h.iv,by rw[tt];exact h.sJ,by rw[tt];exact h.pk,?_,?_⟩
 ·rw[d,c];intro x g;obtain⟨o,b,h1,h2,k⟩:=h.nD x g;refine⟨o,f.all o b λe=>?_,h1,h2,k⟩;grind [pq]
 ·rw[d,c];exact λo b=>h.fp o (a o b)
 ·rw[tt,c];intro e l i;have h1:=h.qM e l i;have h2:=f.sum (gZ e.aa i) λx g=>by grind [gZ]
  grind [gZ,us]
 ·rw[tt,c];exact λo b=>h.run o (a o b)
 ·rw[c];exact λo b=>h.mh o (a o b)
theorem Uy{s:af}(h:eP s)(hi:mb s.ae)(id:UInt64)(k:Int):eP (s.fh id k).1:=by
 unfold af.fh;rcases ol s.ae id with⟨h1,h2⟩|⟨n,h1,h2,c⟩
 ·simp_all
 rw[j1 om];dsimp only;obtain⟨a,hid⟩:=oh c;generalize d:(bK s.ae id).1=j at*
 cases b:j.bB
 ·dsimp only;refine aiw h hi a b (s_.erase hi h2) (λx e=>uw e) rr rr ?_;show s.ae.eraseIdx (eK s.ae id).toNat=_
  simp_all
 dsimp only;refine WR h a b (s_.erase hi h2) rr rr ?_;show(s.du j).ae.eraseIdx (eK s.ae id).toNat=_
 grind [nQ]
abbrev ax.key(j:ax):UInt64×bM×Bool:=(j.id,j.x,j.bB)
theorem Cb{l m:List ax}(h:m.map ax.key=l.map ax.key){j:ax}(a:j∈l):∃o∈m,o.key=j.key:=by grind [List.mem_map_of_mem]
def agc{l m:List ax}(h:m.map ax.key=l.map ax.key)(aa:BA)(i:Nat):us m aa i=us l aa i:=by
 have e:∀l:List ax,us l aa i=((l.map ax.key).map λk:UInt64×bM×Bool=>(match k.2.2&&on k.2.1.aa aa with|true=>k.2.1.total.1.g i|false=>0:Nat)).sum:=λl=>by
  unfold us dW;rw[F3];rfl
 rw[e,e,h]
theorem aeW{s t:af}(h:eP s)(d:t.ar=s.ar)(tt:t.aH=s.aH)(c:t.ae.map ax.key=s.ae.map ax.key):eP t:=by
 refine⟨by rw[d];exact h.cap,?_,?_,?_,by rw[tt];exact h.iv,by rw[tt];exact h.sJ,by rw[tt];exact h.pk,?_,?_⟩
 ·rw[d];intro x f;obtain⟨o,b,h1,h2,k,l⟩:=h.nD x f;grind [Cb]
 ·rw[d];intro o b;obtain⟨o',a,e⟩:=Cb c.symm b;simp only[ax.key,N0]at e;obtain⟨e1,e2,e3⟩:=e;have:=h.fp o' a;simp_all
 ·rw[tt];intro e g i;rw[agc c];exact h.qM e g i
 ·rw[tt];intro o b j;obtain⟨o',a,e⟩:=Cb c.symm b;simp only[ax.key,N0]at e;obtain⟨e1,e2,e3⟩:=e;have:=h.run o' a (e3.trans j);simp_all
 ·intro o b;obtain⟨o',a,e⟩:=Cb c.symm b;simp only[ax.key,N0]at e;obtain⟨e1,e2,e3⟩:=e;have:=h.mh o' a;simp_all
def aiC{s:af}(h:eP s)(hi:mb s.ae)(id:UInt64):eP (fS s id):=by
 unfold fS;rcases ol s.ae id with⟨h1,h2⟩|⟨n,h1,h2,a⟩
 ·simp_all
 grind [aeW,wA,Uy]
def OV{s:af}(h:eP s)(hi:eF s):eP s.count:=by
 unfold af.count;have:∀(l:List UInt64) {s:af},eP s->eF s->eP (l.foldl fS s):=by
  intro l;induction l with
  |nil=>simp_all
  |cons a l ih=>exact λh hi=>ih (aiC h hi.eU a) (Ii hi a)
 exact this _ (h.same rr rr rr) (hi.same rr rr rr rr)
def Dy{k:Int}:∀(l:List UInt64) {s:af},eP s->eF s->eP (l.foldl (λs id=>(s.stop id k).1) s)
 | [],_,h,_=>h
 |a::l,_,h,hi=>Dy l (Ur h hi.eU a k) (Ih hi a k)
theorem PQ(name:BA):∀(l:List dt) (c:V4),(l.foldl (kv name) (c,false)).2=false
 | [],_=>rfl
 |_::l,c=>PQ name l c
def Js(name:BA):∀(l:List dt) (c w:V4) (b:Bool),l.foldl (kv name) (c,b)=(w,true)->b=true/\∀i,w.g i+dW (mq name i) l=c.g i
 | [],c,w,b,h=>by cases h;exact⟨rr,λi=>rfl⟩
 |x::l,c,w,b,h=>by
  rw[F5]at h
  cases b
  ·grind [PQ,kv]
  refine⟨rr,λi=>?_⟩
  rw[iQ]
  cases d:seq x.node name
  ·have e:kv name (c,true) x=(c,true):=by grind [kv]
   rw[e]at h
   have:=(Js name l c w true h).2 i
   grind [mq]
  have e:kv name (c,true) x=c.sub x.v:=by grind [kv]
  rw[e]at h
  rcases a:c.sub x.v with⟨z,b⟩
  rw[a]at h
  obtain⟨hb,h2⟩:=Js name l z w b h
  grind [Iz,AH,mq]
def ajH{p:bf}{n:BA}{w:V4}(h:p.free n=(w,true)):(p.find n).2=true/\∀i,w.g i+ld p n i=(p.find n).1.cap.g i:=by
 have h2:=afL.1 h;exact Js n _ _ _ _ h2
def aj5{p:bf}{n:BA}(h:(p.find n).2=true):(p.find n).1∈p.al/\(p.find n).1.name=n:=by grind [bf.find,eI]
def ahN{p:bf}{n:BA}{v:V4}(h:p.room n v=0):(p.find n).2=true/\(p.find n).1.up=true/\∃w,p.free n=(w,true)/\v.db w=true:=by grind [bf.room]
def places(aZ:UInt64)(v:V4)(l:List BA):List dt:=l.map λn=>⟨aZ,n,v⟩
theorem Ib{l:List bR}(h:(l.map bR.name).Nodup){x y:bR}(b:x∈l)(c:y∈l)(e:x.name=y.name):x=y:=by
 obtain⟨i,hi⟩:=A0 b;obtain⟨j,d⟩:=A0 c;have:=sU (l:=l.map bR.name) h (i:=i) (j:=j) (a:=x.name) (by simp_all) (by simp_all);simp_all
def Yx(aZ:UInt64)(v:V4):∀(l:List BA) (q:bf),(q.al.map bR.name).Nodup->(iS aZ v l q).2=0->(∀n∈q.al,∀i,ld q n.name i<=n.cap.g i)->(iS aZ v l q).1=⟨q.al,q.places++places aZ v l⟩/\(∀n∈q.al,∀i,ld ⟨q.al,q.places++places aZ v l⟩ n.name i<=n.cap.g i)/\∀b∈l,∃n∈q.al,n.name=b/\n.up=true
 | [],q,_,_,d=>by
  simp_all [iS,places]
 |b::l,q,a,h,d=>by
  unfold iS at h⊢
  by_cases c:q.room b v=0
  ·rw[l9 c]at h⊢
   dsimp only at h⊢
   obtain⟨h1,h2,w,e,j⟩:=ahN c
   obtain⟨k,m⟩:=aj5 h1
   obtain⟨o,p⟩:=ajH e
   have f:∀n i,ld ⟨q.al,q.places++[⟨aZ,b,v⟩]⟩ n i=ld q n i+(match seq b n with|true=>v.g i|false=>0):=λn i=>by
    unfold ld
    rw[Pa,iQ,MJ]
    rfl
   obtain⟨g1,g2,g3⟩:=Yx aZ v l ⟨q.al,q.places++[⟨aZ,b,v⟩]⟩ a h (λn r i=>by
    grind [eI,Ib,xi])
   grind [places]
  simp_all
def agL{s:af}(h:eP s)(M:ix s.ar)(hi:eF s)(id:UInt64)(al:List BA)(X:∀j∈s.ae,j.id=id->∀b∈al,∃n∈s.ar.al,n.name=b/\qX j.x.dv n.ao=true):eP (s.begin id al).1/\ix (s.begin id al).1.ar:=by
 unfold af.begin;rcases ol s.ae id with⟨h1,h2⟩|⟨k,h1,h2,N⟩
 ·simp_all
 rw[j1 om];dsimp only;obtain⟨H,hid⟩:=oh N;generalize O:(bK s.ae id).1=j at*
 cases P:j.bB
 case true=>simp_all
 dsimp only;by_cases D:(al.length:Int)=j.x.count;rotate_left
 ·simp_all
 rw[l9 D];dsimp only;rcases hv:j.x.total with⟨v,_|_⟩
 ·simp_all
 dsimp only;rcases E:jw s.aH j.x.aa v with⟨t,e⟩
 dsimp only;by_cases d:e=0;rotate_left
 ·simp_all
 rw[l9 d];dsimp only;subst d;rcases Q:s.ar.gB id al j.x.cT with⟨p,e⟩
 dsimp only;by_cases d:e=0;rotate_left
 ·simp_all
 rw[l9 d];dsimp only;subst d;have F:(iS id j.x.cT al s.ar).2=0/\p=(iS id j.x.cT al s.ar).1:=by
  grind [bf.gB]
 obtain⟨g1,g2,g3⟩:=Yx id j.x.cT al s.ar hi.jT F.1 h.cap;rw[<-F.2]at g1;subst g1;have hzero:(jJ s.aH j.x.aa (aB.jP v)).2=0:=by
  have:jJ s.aH j.x.aa (aB.jP v)=(t,0):=E;rw[this]
 obtain⟨R,S,T,U⟩:=aoE h.pk hzero;have C:t=qd (aB.jP v) (on j.x.aa) s.aH:=by
  have:jJ s.aH j.x.aa (aB.jP v)=(t,0):=E;simp_all
 have V:∀e∈s.aH,on j.x.aa e.aa=true->(aB.jP v e).1={e with b_:=(e.b_.add v).1}/\(e.b_.add v).2=true/\(e.b_.add v).1.db e.bI=true:=λe d r=>by
  grind [aB.jP]
 have G:∀e'∈t,∃e∈s.aH,e'.aa=e.aa/\e'.b_.db e'.bI=true/\∀i,e'.b_.g i=e.b_.g i+(match on j.x.aa e.aa with|true=>v.g i|false=>0):=λe' u=>by
  rw[C]at u;obtain⟨e,d,rfl⟩:=y9.1 u;refine⟨e,d,?_⟩;cases r:on j.x.aa e.aa
  ·exact⟨rr,h.iv e d,λi=>rfl⟩
  grind [BE]
 have w:t.map aB.aa=s.aH.map aB.aa:=by
  grind [qd,List.map_congr_left]
 have B:∀p,(cO t p).2=(cO s.aH p).2:=λp=>by
  have e1:∀l:List aB,(cO l p).2=(l.map aB.aa).any λy=>seq y p:=λl=>by
   grind [cO]
  grind
 rw[h1,x8];have c:=λx=>vC (x:=x) (j':={j with bB:=true,left:=j.x.dF}) hi.eU h2 rr
 refine⟨?_,?_⟩
 ·show eP {s with aH:=t,ar:=⟨s.ar.al,s.ar.places++places id j.x.cT al⟩,bg:=_,ae:=s.ae.set k {j with bB:=true,left:=j.x.dF},dX:=_}
  refine⟨g2,?_,?_,?_,?_,?_,?_,?_,?_⟩
  ·intro x f;rcases s8.1 f with f|f
   ·obtain⟨o,r,z,A,L⟩:=h.nD x f;refine⟨o,(c o).2 (.inr ⟨r,λe=>?_⟩),z,A,L⟩;rw[pq hi.eU r H e,P]at A;cases A
   ·obtain⟨b,hb,rfl⟩:=y9.1 f;simp_all
  ·intro o r;have I:∀q:UInt64,(bf.of ⟨s.ar.al,s.ar.places++places id j.x.cT al⟩ q).length=(s.ar.of q).length+(if q=id then al.length else 0):=λq=>by
    unfold bf.of places;dsimp only;rw[D6,l6,i6];grind [List.filter_eq_self,List.filter_eq_nil_iff]
   dsimp only;rw[I];rcases(c o).1 r with rfl|⟨z,A⟩
   ·dsimp only;have:=h.fp j H;simp_all
   ·rw[y8 λe=>A (e.trans hid.symm)];exact h.fp o z
  ·intro e' u i;obtain⟨e,d,z,A,L⟩:=G e' u;have Y:=JL (gZ e.aa i) (y:={j with bB:=true,left:=j.x.dF}) h2;have Z:gZ e.aa i j=0:=by grind [gZ]
   have h6:gZ e.aa i {j with bB:=true,left:=j.x.dF}=match on j.x.aa e.aa with|true=>v.g i|false=>0:=by grind [gZ]
   have h7:=h.qM e d i;grind [us]
  ·grind
  ·dsimp only;rw[B];exact h.sJ
  ·dsimp only;rw[w];exact h.pk
  ·intro o r J;rcases(c o).1 r with rfl|⟨z,A⟩
   ·simp_all
   ·obtain⟨a,b⟩:=h.run o z J;simp_all
  ·intro o r;rcases(c o).1 r with rfl|⟨z,A⟩
   ·exact h.mh j H
   ·exact h.mh o z
 ·intro x f n K e;rcases s8.1 f with f|f
  ·exact M x f n K e
  ·obtain⟨b,hb,rfl⟩:=y9.1 f;obtain⟨m,W,e2,e3⟩:=g3 b hb;rw[Ib hi.jT K W (e.trans e2.symm)];exact e3
def Hd(s:af)(j:ax):(s.du j).ar=s.ar.drop j.id:=by grind [af.du]
def ix.drop{p:bf}(h:ix p)(id:UInt64):ix (p.drop id):=λx a n b e=>h x (C5.1 a).1 n b e
def aha{s:af}(h:ix s.ar)(id:UInt64)(k:Int):ix (s.stop id k).1.ar:=by
 unfold af.stop;cases decide (eK s.ae id<0)
 case true=>exact h
 dsimp only;cases(bK s.ae id).1.bB with
 |false=>exact h
 |true=>
  show ix (s.du _).ar
  rw[Hd];exact h.drop _
theorem LA{s:af}(h:ix s.ar)(id:UInt64)(k:Int):ix (s.fh id k).1.ar:=by
 unfold af.fh;cases decide (eK s.ae id<0)
 case true=>exact h
 dsimp only;cases(bK s.ae id).1.bB with
 |false=>exact h
 |true=>
  show ix (s.du _).ar
  rw[Hd];exact h.drop _
def VX{k:Int}:∀(l:List UInt64) {s:af},ix s.ar->ix (l.foldl (λs id=>(s.stop id k).1) s).ar
 | [],_,h=>h
 |a::l,_,h=>VX l (aha h a k)
theorem afs{s:af}(h:ix s.ar)(id:UInt64):ix (fS s id).ar:=by grind [fS,LA]
def Vs{s:af}(h:ix s.ar):ix s.count.ar:=by
 unfold af.count;have:∀(l:List UInt64) {s:af},ix s.ar->ix (l.foldl fS s).ar:=by
  intro l;induction l<;>grind [afs]
 simp_all
def WT(d:V4):∀(n:Nat) (l:List dc) (out:List BA),∀b∈(mX d n l out).1,b∈out\/b∈l.map dc.node
 |0,_,_,b,hb=>.inl hb
 |n+1,l,out,b,hb=>by
  unfold mX at hb
  cases a:(gl l d).ok
  ·simp_all
  rw[a]at hb
  dsimp only at hb
  obtain⟨s,e,_⟩:=Na a
  rw[e]at hb
  have c:(l.set (gl l d).cm {s with free:=(gl l d).left}).map dc.node=l.map dc.node:=by
   apply E5
   grind
  rcases WT d n _ _ b hb with h1|h1
  ·grind
  simp_all
def acJ{s:af}(hi:mb s.ae){id:UInt64}{al:List BA}(h:db s id=(al,true)):∀j∈s.ae,j.id=id->∀b∈al,∃n∈s.ar.al,n.name=b/\qX j.x.dv n.ao=true:=by
 intro j i hid b hb;unfold db tJ at h;cases e:(waits s id).2
 ·simp_all
 rw[e]at h;dsimp only at h;have a:(waits s id).1=j:=by
  grind [waits,AE]
 rw[a]at h;cases f:j.x.total.2
 ·simp_all
 rw[f]at h;dsimp only at h;cases hp:(li s.ar.mw j.x.dv j.x.cT j.x.count).2
 ·simp_all
 rw[hp]at h;dsimp only at h;cases g:decide ((jw s.aH j.x.aa j.x.total.1).2=0)
 ·simp_all
 rw[g]at h;dsimp only at h;have d:=(congrArg Prod.fst h).symm;dsimp only at d;rw[d]at hb;unfold li at hb;cases hq:decide (8<j.x.count)
 case true=>simp_all
 rw[hq]at hb;rcases WT _ _ _ _ b hb with h1|h1
 ·cases h1
 ·obtain⟨sl,c,rfl⟩:=y9.1 h1;obtain⟨h2,k⟩:=C5.1 c;obtain⟨n,l,m⟩:=J3.1 h2;grind [qL]
structure gi(s:af):Prop where
 bA:eF s
 eZ:eP s
 eG:ix s.ar
def QV{t:fB}(h:gi t.s)(a:eF t.next.1.s):gi t.next.1.s:=by
 refine⟨a,?_,?_⟩<;>unfold fB.next
 all_goals
  cases d:(dD t.s t.cm).ok
  ·first|exact h.eZ|exact h.eG
  dsimp only;cases hv:(eR t.s (dD t.s t.cm).id).ok
  ·first|exact h.eZ|exact h.eG
  dsimp only;obtain⟨_,b⟩:=Bv hv;generalize(eR t.s (dD t.s t.cm).id).l=l at*
  generalize(eR t.s (dD t.s t.cm).id).al=al at*
  have h1:eP (eu t.s l):=Dy l h.eZ h.bA;have h2:eF (eu t.s l):=DE h.bA;have c:ix (eu t.s l).ar:=VX l h.eG;have e:=agL h1 c h2 (dD t.s t.cm).id al (acJ h2.eU b);grind
def Td:∀(n:Nat) {B:List UInt64} {t:fB},zF B t->gi t.s->gi (jH n t).s
 |0,_,_,_,h=>h
 |n+1,B,t,h,hk=>by
  unfold jH
  rcases IH h with⟨e,c⟩|⟨u,b,e,a⟩
  ·simp_all
  ·have:=QV hk (by rw[e];exact a.bA)
   rw[e]at this⊢
   exact Td n a this
theorem ahU{s:af}(h:gi s):gi s.oI:=
 Td 128 (B:=[]) (t:=⟨s.count,0⟩) ⟨zy h.bA,j9 _,λ_ h=>(by cases h),F9,λ_ h=>(by cases h)⟩ ⟨zy h.bA,OV h.eZ h.bA,Vs h.eG⟩
def ad7{s t:af}(h:eP s)(hi:eF s){j:ax}(g:j.bB=false)(l:j.x.check=0)(m:∀o∈s.ae,o.id≠j.id)(f:t.ar=s.ar)(tt:t.aH=s.aH)(b:t.ae=s.ae++[j]):eP t:=by
 refine⟨by rw[f];exact h.cap,?_,?_,?_,by rw[tt];exact h.iv,by rw[tt];exact h.sJ,by rw[tt];exact h.pk,?_,?_⟩
 ·rw[f,b];intro x c;obtain⟨o,a,h1⟩:=h.nD x c;grind
 ·rw[f,b];intro o a;rcases s8.1 a with a|a
  ·exact h.fp o a
  ·rw[o6.1 a,g];unfold bf.of;rw[List.filter_eq_nil_iff.2 λx c=>by
    obtain⟨o,a,h1,_⟩:=h.nD x c;grind]
   rfl
 ·rw[tt,b];intro e k i;have h1:=h.qM e k i;grind [us,Pa,iQ,MJ,gZ]
 ·rw[tt,b];intro o a d;rcases s8.1 a with a|a
  ·exact h.run o a d
  simp_all
 ·rw[b];intro o a;rcases s8.1 a with a|a
  ·exact h.mh o a
  simp_all
theorem ajI{s:af}(h:gi s)(x:bM):gi (s.fv x).1:=by
 refine⟨RD h.bA x,?_,?_⟩<;>unfold af.fv
 all_goals
  cases a:decide (x.check=0)
  ·first|exact h.eZ|exact h.eG
  dsimp only;cases there s.aH x.aa
  ·first|exact h.eZ|exact h.eG
  dsimp only;cases decide (32<=(s.ae.length:Int))
  case true=>first|exact h.eZ|exact h.eG
  dsimp only;cases decide (s.next=18446744073709551615)
  case true=>first|exact h.eZ|exact h.eG
  dsimp only;cases decide ((fq s.bg ⟨s.next,x.bC⟩).2=0)
  ·first|exact h.eZ|exact h.eG
  first
  |exact ad7 h.eZ h.bA (j:=⟨s.next,x,false,0⟩) rr (j5 a) (λo b e=>by have:=h.bA.dL o b;simp_all) rr rr rr
  |exact h.eG
def Nn{s t:af}(h:eP s){T:List aB}(k:t.ar=s.ar)(c:t.ae=s.ae)(tt:t.aH=T)(u:(T.map aB.aa).Nodup)(m:∀p,(cO s.aH p).2=true->(cO T p).2=true)(n:∀e∈T,(∃o∈s.aH,o.aa=e.aa/\o.b_=e.b_/\e.b_.db e.bI=true)\/(e.b_=V4.z/\(cO s.aH e.aa).2=false)):eP t:=by
 have v:∀p,(cO s.aH p).2=false->∀i,us s.ae p i=0:=λp hp i=>by
  unfold us;have:∀j∈s.ae,gZ p i j=0:=λj d=>by
   unfold gZ;cases f:j.bB
   ·rfl
   cases g:on j.x.aa p
   ·rfl
   obtain⟨y,q,w⟩:=List.any_eq_true.1 g;have:=(h.run j d f).2 y q;grind [eI]
  rw[SU this];generalize s.ae=l;induction l with
  |nil=>rfl
  |cons x l ih=>grind [iQ]
 refine⟨by rw[k];exact h.cap,by rw[k,c];exact h.nD,by rw[k,c];exact h.fp,?_,?_,by rw[tt];exact m _ h.sJ,by simp_all,?_,by rw[c];exact h.mh⟩
 ·rw[tt,c];intro e r i;rcases n e r with⟨o,g,h1,h2,_⟩|⟨h1,h2⟩
  ·rw[<-h2,<-h1];exact h.qM o g i
  grind [tI]
 ·grind [xi,tI]
 ·rw[tt,c];intro j d f;obtain⟨a,b⟩:=h.run j d f;simp_all
def ajx{s t:af}(h:eP s)(aa:BA)(v:V4)(q:t.ar=s.ar)(o:t.ae=s.ae)(tt:t.aH=(gg s.aH aa v).1):eP t:=by
 have n:eP t->eP t:=id;have hid:(gg s.aH aa v).1=s.aH->eP t:=λe=>h.same q (tt.trans e) o
 unfold gg at tt hid;cases j:named aa
 ·simp_all
 rw[j]at tt hid;dsimp only at tt hid;cases c:!seq aa aA&&decide (fu s.aH (jv aa)<0)
 case true=>simp_all
 rw[c]at tt hid;dsimp only at tt hid;cases d:decide (fu s.aH aa<0)
 case true=>
  rw[d]at tt hid;dsimp only at tt hid;cases k:decide (16<=(s.aH.length:Int))
  case true=>simp_all
  rw[k]at tt;dsimp only at tt;have u:(cO s.aH aa).2=false:=by grind [uF]
  have b:∀e,e∈s.aH.take (mr s.aH aa)++⟨aa,v,V4.z⟩::s.aH.drop (mr s.aH aa)↔e=⟨aa,v,V4.z⟩\/e∈s.aH:=λe=>by
   grind [List.take_append_drop]
  refine Nn h q o tt ?_ ?_ ?_
  ·rw[l6,w9];refine(List.perm_middle.nodup_iff).2 (K5.2 ⟨λA=>?_,?_⟩)
   ·grind [DP]
   ·rw[<-l6,A5];exact h.pk
  ·grind [xQ,DP]
  ·intro e g;rcases(b e).1 g with rfl|g
   ·simp_all
   ·exact .inl ⟨e,g,rr,rr,h.iv e g⟩
 rw[d]at tt hid;dsimp only at tt hid;cases a:(cO s.aH aa).1.b_.db v
 ·simp_all
 rw[a]at tt;dsimp only at tt;have f:(cO s.aH aa).2=true:=by grind [uF]
 obtain⟨m,e,h1,h2,r,w⟩:=xQ f;rw[r,w,x8]at tt;rw[r]at a;dsimp only at tt a;have hp:(s.aH.set m {e with bI:=v}).map aB.aa=s.aH.map aB.aa:=by
  apply E5;grind
 refine Nn h q o tt (by rw[hp];exact h.pk) ?_ ?_
 ·intro p hq;have e1:∀l:List aB,(cO l p).2=(l.map aB.aa).any λy=>seq y p:=λl=>by
   unfold cO;grind
  grind
 ·intro x i;rcases x6 i with i|rfl
  ·exact .inl ⟨x,i,rr,rr,h.iv x i⟩
  grind
theorem zG{α:Type}{f:α->Nat}:∀{l:List α},(∀x∈l,f x=0)->dW f l=0
 | [],_=>rfl
 |x::l,h=>by rw[iQ,h x j6,zG λy a=>h y (j3 _ a)]
theorem NL{s t:af}(h:eP s)(tt:t.aH=s.aH)(g:t.ae=s.ae)(d:t.ar.places=s.ar.places)(h1:∀n'∈t.ar.al,(∃n∈s.ar.al,n.name=n'.name/\n.cap=n'.cap)\/∀n∈s.ar.al,n.name≠n'.name)(h2:∀n∈s.ar.al,∃n'∈t.ar.al,n'.name=n.name/\n'.ao=n.ao):eP t:=by
 have k:∀name i,ld t.ar name i=ld s.ar name i:=λname i=>by grind [ld]
 refine⟨?_,?_,?_,by rw[tt,g];exact h.qM,by rw[tt];exact h.iv,by rw[tt];exact h.sJ,by rw[tt];exact h.pk,by rw[tt,g];exact h.run,by rw[g];exact h.mh⟩
 ·intro n' l i;rw[k];rcases h1 n' l with⟨n,m,e1,e2⟩|q
  ·rw[<-e1,<-e2];exact h.cap n m i
  ·unfold ld;rw[zG λx o=>?_]
   ·omega
   ·obtain⟨_,_,_,_,_,n,m,e,_⟩:=h.nD x o;grind [mq,eI]
 ·rw[d,g];intro x o;obtain⟨j,p,a,b,c,n,m,e,f⟩:=h.nD x o;grind
 ·rw[g];intro j p;unfold bf.of;rw[d];exact h.fp j p
theorem agO{p:bf}{name:BA}(h:decide (p.at name<0)=false):∃(m:Nat) (n:bR),p.at name=(m:Nat)/\p.al[m]? = some n/\n.name=name/\(p.find name).1=n:=by
 unfold bf.at at h⊢;unfold bf.find;rcases kV (λx:bR=>seq x.name name) p.al 0 with⟨h1,h2⟩|⟨k,x,h1,h2,a⟩
 ·simp_all
 grind [eI]
theorem zq(p:bf)(name:BA)(up:Bool):(p.turn name up).1=p\/∃(m:Nat) (n:bR),p.al[m]? = some n/\n.name=name/\(p.turn name up).1=⟨p.al.set m {n with up:=up},p.places⟩:=by grind [bf.turn,agO]
def Ru{s:af}(h:eP s)(name:BA)(up:Bool){t:af}(a:t.ar=(s.ar.turn name up).1)(tt:t.aH=s.aH)(c:t.ae=s.ae):eP t:=by
 rcases zq s.ar name up with e|⟨m,n,h1,h2,e⟩
 ·exact h.same (a.trans e) tt c
 ·rw[e]at a;refine NL h tt c (by rw[a]) ?_ ?_
  ·grind
  ·intro o d;rw[a];obtain⟨i,hi⟩:=A0 d;by_cases b:m=i
   ·subst b;rw[h1]at hi;cases hi;exact⟨{n with up:=up},G1.2 ⟨m,H5 (c9.1 h1).1⟩,rr,rr⟩
   ·exact⟨o,G1.2 ⟨i,by simp_all⟩,rr,rr⟩
def aey{p:bf}(h:ix p)(name:BA):ix (p.turn name true).1:=by
 rcases zq p name true with e|⟨m,n,h1,h2,e⟩
 ·simp_all
 ·rw[e];intro x b o a c;rcases x6 a with a|rfl
  ·exact h x b o a c
  ·rfl
theorem Mg(p:bf)(n:bR):(p.add n).1=p\/((∀x∈p.al,x.name≠n.name)/\(p.add n).1.places=p.places/\∀x,x∈(p.add n).1.al↔x={n with up:=true}\/x∈p.al):=by
 unfold bf.add;cases d_ n.name
 ·simp_all
 dsimp only;cases iy n.ao
 ·simp_all
 dsimp only;cases hp:decide (0<=p.at n.name)
 case true=>simp_all
 dsimp only;cases decide (16<=(p.al.length:Int))
 case true=>simp_all
 dsimp only;have a:∀x∈p.al,seq x.name n.name=false:=BL _ p.al 0 hp;refine .inr ⟨λx b e=>?_,rr,λx=>?_⟩
 ·grind [eI]
 grind [List.take_append_drop]
def ab9{s:af}(h:eP s)(n:bR){t:af}(b:t.ar=(s.ar.add n).1)(tt:t.aH=s.aH)(a:t.ae=s.ae):eP t:=by grind [Mg,NL]
def ah5{p:bf}(h:ix p)(n:bR):ix (p.add n).1:=by
 rcases Mg p n with e|⟨h1,h2,c⟩
 ·simp_all
 ·intro x b o a d;rw[h2]at b;rcases(c o).1 a with rfl|a
  ·rfl
  ·exact h x b o a d
theorem amK{l:List UInt64}{x:UInt64}(h:x∈l):x∈uE l:=by
 unfold uE;have:∀(l a:List UInt64),(x∈a\/x∈l)->x∈l.foldl (λa x=>if x∈a then a else a++[x]) a:=by
  intro l;induction l<;>grind
 simp_all
def acR{s:af}(h:eP s)(hi:mb s.ae)(id:UInt64)(k:Int):(s.stop id k).1.ar.al=s.ar.al/\∀x∈(s.stop id k).1.ar.places,x∈s.ar.places/\x.aZ≠id:=by
 have d:(∀j∈s.ae,j.id=id->j.bB=false)->∀x∈s.ar.places,x∈s.ar.places/\x.aZ≠id:=λl x c=>⟨c,λe=>by
  obtain⟨j,f,a,b,_⟩:=h.nD x c;simp_all⟩
 unfold af.stop;rcases ol s.ae id with⟨h1,h2⟩|⟨n,h1,h2,g⟩
 ·grind [LB]
 rw[j1 om];dsimp only;obtain⟨f,hid⟩:=oh g;generalize i:(bK s.ae id).1=j at*
 cases m:j.bB
 ·grind [pq]
 have hp:((({s.du j with bg:=(fq (s.du j).bg ⟨id,j.x.bC⟩).1}:af).with (eK s.ae id).toNat {j with bB:=false,left:=0}).jt id k).ar=s.ar.drop j.id:=Hd s j;dsimp only;rw[hp];refine⟨rr,λx c=>?_⟩;obtain⟨a,b⟩:=C5.1 c;simp_all
def XM{k:Int}:∀(l:List UInt64) {s:af},eP s->eF s->(l.foldl (λs id=>(s.stop id k).1) s).ar.al=s.ar.al/\∀x∈(l.foldl (λs id=>(s.stop id k).1) s).ar.places,x∈s.ar.places/\x.aZ∉l
 | [],_,_,_=>⟨rr,λx b=>⟨b,λh=>by cases h⟩⟩
 |a::l,s,h,hi=>by
  obtain⟨h1,h2⟩:=acR h hi.eU a k
  obtain⟨c,d⟩:=XM (k:=k) l (Ur h hi.eU a k) (Ih hi a k)
  simp_all
theorem af4{s:af}(h:gi s)(o:aC):gi (qb s o).1:=by
 unfold qb bf.fail;have a:eF {s with ar:=(s.ar.turn o.aa false).1}:=⟨h.bA.eU,h.bA.dL,h.bA.fp,h.bA.len,h.bA.gp,h.bA.kK,by rw[GN];exact h.bA.jT⟩;have b:eP {s with ar:=(s.ar.turn o.aa false).1}:=Ru h.eZ o.aa false rr rr rr;cases l:decide ((s.ar.turn o.aa false).2=0)
 ·have e:(s.ar.turn o.aa false).1=s.ar:=by
   grind [bf.turn]
  simp_all [rm]
 dsimp only;unfold rm;refine⟨DE a,Dy _ b a,?_⟩;obtain⟨h1,h2⟩:=XM (k:=6) (nt (uE (met s.ar o.aa))) b a;intro x i n d e;obtain⟨p,q⟩:=h2 x i;rw[h1]at d;have j:(s.ar.turn o.aa false).1.places=s.ar.places:=by
  grind [zq]
 have g:x∈s.ar.places:=by
  simp_all
 rcases zq s.ar o.aa false with e2|⟨m,r,e3,e4,e5⟩
 ·have:n∈(s.ar.turn o.aa false).1.al:=d;rw[e2]at this;exact h.eG x g n this e
 ·have c:n∈(s.ar.turn o.aa false).1.al:=d;rw[e5]at c;by_cases f:n.name=o.aa
  ·grind [nt,List.mem_mergeSort,amK,met,eI]
  ·rcases x6 c with c|rfl
   ·exact h.eG x g n c e
   simp_all
def ago{s:af}(h:gi s)(o:aC):gi (kj s o).1:=by
 unfold kj;have a:gi (bz s o).1:=⟨h.bA.same rr rr rr rr,ajx h.eZ o.aa o.v rr rr rr,h.eG⟩;cases decide (o.kind=1)
 case true=>grind [ajI]
 dsimp only;cases decide (o.kind=2)
 case true=>exact⟨JY h.bA _ _,Uy h.eZ h.bA.eU _ _,LA h.eG _ _⟩
 dsimp only;cases decide (o.kind=3)
 case true=>
  grind [bI]
 dsimp only;cases decide (o.kind=9)
 case true=>exact a
 dsimp only;cases decide (o.kind=10)
 case true=>exact⟨⟨h.bA.eU,h.bA.dL,h.bA.fp,h.bA.len,h.bA.gp,h.bA.kK,MK h.bA.jT _⟩,ab9 h.eZ _ rr rr rr,ah5 h.eG _⟩
 dsimp only;cases decide (o.kind=11)
 case true=>grind [af4]
 exact⟨⟨h.bA.eU,h.bA.dL,h.bA.fp,h.bA.len,h.bA.gp,h.bA.kK,by show((s.ar.turn _ _).1.al.map bR.name).Nodup;rw[GN];exact h.bA.jT⟩,Ru h.eZ o.aa true rr rr rr,aey h.eG _⟩
theorem gi.same{s t:af}(h:gi s)(a:t.ar=s.ar)(tt:t.aH=s.aH)(b:t.ae=s.ae)(c:t.next=s.next)(d:t.bg=s.bg):gi t:=
 ⟨h.bA.same b c d (by rw[a]),h.eZ.same a tt b,by rw[a];exact h.eG⟩
def amX{s:af}(h:gi s)(o:aC):gi (apply s o).1:=by
 unfold apply;cases o.right
 ·exact h
 dsimp only;cases fJ o.kind 4 8
 case true=>exact h
 dsimp only;cases decide (o.kind=13)
 case true=>grind [ahU]
 dsimp only;have a:=ago h o;rcases b:kj s o with⟨t,id,e⟩
 rw[b]at a;dsimp only at a⊢;cases decide (e=0)
 ·exact h
 exact a.same rr rr rr rr rr
def anX:gi af.new where
 bA:=⟨F9,λ_ h=>(by cases h),λ_ h=>(by cases h),j9 _,.nil,λ_ h=>(by cases h),F9⟩
 eZ:=⟨λ_ h=>(by cases h),λ_ h=>(by cases h),λ_ h=>(by cases h),λe a i=>(by rw[o6.1 a];exact tI i),λe a=>(by rw[o6.1 a];decide),rr,(by grind [af.new]),λ_ h=>(by cases h),λ_ h=>(by cases h)⟩
 eG:=λ_ h=>(by cases h)
theorem wE{a b:BA}:dG a b=true↔a.data.toList<b.data.toList:=by
 unfold dG;rw[bytesLess_eq];exact H8
def akH(a:BA):dG a a=false:=by
 cases h:dG a a
 ·rfl
 exact(List.lt_irrefl _ (wE.1 h)).elim
theorem XG{a b c:BA}(h1:dG a b=true)(h2:dG b c=true):dG a c=true:=wE.2 (List.lt_trans (wE.1 h1) (wE.1 h2))
theorem S_{a b:BA}(h:dG a b=true):dG b a=false:=by
 cases h2:dG b a
 ·rfl
 have:=XG h h2;rw[akH]at this;cases this
theorem aak{a b:BA}(h1:dG a b=false)(h2:a≠b):dG b a=true:=by
 rw[wE];have c:¬a.data.toList<b.data.toList:=λh=>by rw[wE.2 h]at h1;cases h1
 rcases List.le_iff_lt_or_eq.1 (List.not_lt.1 c)with h|h
 ·exact h
 ·exact(h2 (eI.1 (by unfold seq;rw[h];exact beq_self_eq_true _))).elim
structure pF(p:bf):Prop where
 gp:p.al.Pairwise λa b=>dG a.name b.name=true
 uk:∀n∈p.al,d_ n.name=true/\iy n.ao=true
 len:p.al.length<=16
def Hx(name:BA):∀(l:List dt) (c:V4),(∀i,dW (mq name i) l<=c.g i)->(l.foldl (kv name) (c,true)).2=true
 | [],_,_=>rfl
 |x::l,c,h=>by
  rw[F5]
  cases a:seq x.node name
  ·rw[show kv name (c,true) x=(c,true)by grind [kv]]
   exact Hx name l c λi=>by grind [iQ]
  rw[show kv name (c,true) x=c.sub x.v by grind [kv]]
  have e:∀i,mq name i x=x.v.g i:=λi=>by grind [mq]
  have h1:(c.sub x.v).2=true:=AH.2 λi=>by grind [iQ]
  have h2:=Iz h1
  rcases hq:c.sub x.v with⟨w,b⟩
  rw[hq]at h1 h2
  dsimp only at h1 h2
  subst h1
  exact Hx name l w λi=>by grind [iQ]
def ad4{p:bf}(a:(p.al.map bR.name).Nodup){n:bR}(h:n∈p.al):p.find n.name=(n,true):=by simp_all [bf.find,Ww]
def aic{s:af}(h:gi s)(d:pF s.ar):qa s.ar=true:=by
 have b:∀n∈s.ar.al,(s.ar.free n.name).2=true:=λn a=>by
  have h1:=Hx n.name s.ar.places n.cap λi=>h.eZ.cap n a i
  unfold bf.free;rw[ad4 h.bA.jT a];grind
 have f:∀k n,s.ar.al[k]? = some n->zS s.ar k n=false:=λk n hk=>by
  have a:=i7 hk;unfold zS;rw[b n a,(d.uk n a).1,(d.uk n a).2];unfold Hv;cases k with
  |zero=>rfl
  |succ k=>
   dsimp only;cases j:s.ar.al[k]? with
   |none=>rfl
   |some y=>
    obtain⟨h1,h2⟩:=c9.1 hk;obtain⟨g,p⟩:=c9.1 j;have l:=E0.1 d.gp k (k+1) g h1 (D8 k);grind [sY,S_,eI]
 have c:(s.ar.places.any λx=>decide (s.ar.at x.node<0))=false:=L4.2 λx o=>by
  obtain⟨_,_,_,_,_,n,a,e,_⟩:=h.eZ.nD x o;unfold bf.at;rcases kV (λy:bR=>seq y.name x.node) s.ar.al 0 with⟨h1,h2⟩|⟨k,y,h1,h2,g⟩
  ·grind [eI]
  simp_all
 have key:∀(m k:Nat),m+k=s.ar.al.length->ur s.ar k (s.ar.al.drop k)=true:=by
  intro m;induction m with
  |zero=>
   intro k hk;rw[r9 om];unfold ur;rw[l9 d.len,c];rfl
  |succ m ih=>
   grind [List.drop_eq_getElem_cons,ur]
 exact key s.ar.al.length 0 rr
theorem pF.same{p q:bf}(h:pF p)(e:q.al=p.al):pF q:=⟨by rw[e];exact h.gp,by rw[e];exact h.uk,by rw[e];exact h.len⟩
theorem pF.turn{p:bf}(h:pF p)(name:BA)(up:Bool):pF (p.turn name up).1:=by
 rcases zq p name up with e|⟨m,n,h1,h2,e⟩
 ·simp_all
 ·rw[e];have d:(p.al.set m {n with up:=up}).map bR.name=p.al.map bR.name:=by
   apply E5;grind
  refine⟨?_,?_,by show(p.al.set _ _).length<=16;rw[x9];exact h.len⟩
  ·have f:(p.al.map bR.name).Pairwise λa b=>dG a b=true:=O9.2 h.gp
   grind
  ·intro x c;rcases x6 c with c|rfl
   ·exact h.uk x c
   ·exact h.uk n (i7 h1)
def Lv{α:Type}(f:α->BA){l:List α}(h:l.Pairwise λa b=>dG (f a) (f b)=true){x:α}(c:∀y∈l,f y≠f x):(l.take (l.findIdx λy=>!dG (f y) (f x))++x::l.drop (l.findIdx λy=>!dG (f y) (f x))).Pairwise λa b=>dG (f a) (f b)=true:=by
 induction l with
 |nil=>simp_all
 |cons y l ih=>
  obtain⟨h1,h2⟩:=O2.1 h;rw[List.findIdx_cons];cases d:dG (f y) (f x)
  case true=>
   grind
  rw[show(bif !false then 0 else List.findIdx (λy=>!dG (f y) (f x)) l+1)=0 from rr,List.take_zero,J9,D4];grind [aak,List.pairwise_cons,XG]
theorem pF.add{p:bf}(h:pF p)(n:bR):pF (p.add n).1:=by
 unfold bf.add;cases c:d_ n.name
 ·exact h
 dsimp only;cases d:iy n.ao
 ·exact h
 dsimp only;cases hp:decide (0<=p.at n.name)
 case true=>exact h
 dsimp only;cases b:decide (16<=(p.al.length:Int))
 case true=>exact h
 dsimp only;have f:∀x∈p.al,seq x.name n.name=false:=BL _ p.al 0 hp;have b:=j4 b;refine⟨Lv bR.name h.gp (x:={n with up:=true}) λy g e=>?_,?_,?_⟩
 ·grind [eI]
 ·intro x a;rcases s8.1 a with a|a
  ·exact h.uk x (u6 a)
  ·rcases p9.1 a with rfl|a
   ·simp_all
   ·exact h.uk x (B3 a)
 grind
abbrev bs(s:BA):List UInt8:=s.data.toList
theorem vl{a b:BA}(h:bs a=bs b):a=b:=eI.1 (by grind [seq])
theorem UN:∀(l:List UInt8),(47:UInt8)∉l->Lib.index l [47]=-1
 | [],_=>rfl
 |b::l,h=>by
  have hb:¬b=47:=λe=>h (by simp_all)
  rw[Lib.index,UN l λa=>h (j3 _ a)]
  simp_all
theorem RB:∀(l r:List UInt8),(47:UInt8)∉l->Lib.index (l++47::r) [47]=(l.length:Nat)
 | [],r,_=>by
  grind [Lib.index]
 |b::l,r,h=>by
  have hb:¬b=47:=λe=>h (by simp_all)
  rw[E4,Lib.index,RB l r λa=>h (j3 _ a)]
  simp_all
def U_{s:BA}(h:(47:UInt8)∉bs s):∀k,Lib.splitB iG 0 k s=[s]
 |0=>rfl
 |k+1=>by
  grind [Lib.splitB,UN]
theorem RE{s p r:BA}(e:bs s=bs p++47::bs r)(h:(47:UInt8)∉bs p)(k:Nat):Lib.splitB iG 0 (k+1) s=p::Lib.splitB iG 0 k r:=by
 have hi:Lib.indexB s iG=((bs p).length:Nat):=by
  grind [RB]
 have a:s.size=(bs p).length+1+(bs r).length:=by
  have:s.size=(bs s).length:=by show s.data.size=_;grind
  grind
 rw[Lib.splitB,hi];have h2:((((bs p).length:Nat):Int)==-1)=false:=beq_eq_false_iff_ne.2 om;rw[h2];simp only[O4,if_false,x8,D0];have e1:s.extract 0 (bs p).length=p:=vl (by
  grind [ByteArray.data_extract,Array.toList_extract])
 have e2:s.extract ((bs p).length+iG.size) s.size=r:=vl (by
  show(s.extract _ s.size).data.toList=_
  rw[L3,Array.toList_extract];show List.extract (bs s) ((bs p).length+1) s.size=_
  rw[e,a];unfold List.extract;rw[show bs p++47::bs r=(bs p++[47])++bs r by simp,List.drop_left' (by simp),show(bs p).length+1+(bs r).length-((bs p).length+1)=(bs r).length by omega,s9])
 rw[e1,e2]
def aaq(p:BA):lR [p]=p:=vl (by grind [lR,Lib.join_one])
def agR(p q:BA)(r:List BA):bs (lR (p::q::r))=bs p++47::bs (lR (q::r)):=by simp_all [lR,Lib.join]
theorem VR:∀(a:List BA),a≠[]->(∀p∈a,(47:UInt8)∉bs p)->jE (lR a)=a
 | [],h,_=>(h rr).elim
 | [p],_,h=>by
  rw[aaq]
  exact U_ (h p j6) _
 |p::q::r,_,h=>by
  have hp:=h p j6
  have e:=agR p q r
  have c:=VR (q::r) (by simp_all) λx b=>h x (j3 _ b)
  unfold jE at c⊢
  have d:Lib.countB (lR (p::q::r)) iG=Lib.countB (lR (q::r)) iG+1:=by
   grind [Lib.count_one]
  grind [RE]
theorem Xp:∀(k:Nat) (s:BA),Lib.countB s iG=k->∀x∈Lib.splitB iG 0 k s,(47:UInt8)∉bs x
 |0,s,h,x,c=>by
  rw[o6.1 c]
  grind [Lib.count_one]
 |k+1,s,h,x,c=>by
  have f:Lib.count (bs s) [47]=k+1:=h
  rw[Lib.count_one]at f
  have g:(47:UInt8)∈bs s:=List.count_pos_iff.1 om
  obtain⟨a,b,e,d⟩:=List.eq_append_cons_of_mem g
  have e':bs s=bs ⟨a.toArray⟩++47::bs ⟨b.toArray⟩:=e
  rw[RE e' d]at c
  rcases p9.1 c with rfl|c
  ·exact d
  ·refine Xp k ⟨b.toArray⟩ ?_ x c
   grind [Lib.count_one]
def ajc(s:BA):∀x∈ez s,(47:UInt8)∉bs x/\d_ x=true:=by grind [ez,jE,Xp]
theorem ai4(s:BA):(ez s).length<=3:=by grind [ez]
theorem KA(s:BA){k:Nat}(hk:k<(ez s).length):ez (lR ((ez s).take (k+1)))=(ez s).take (k+1):=by
 have a:∀x∈(ez s).take (k+1),(47:UInt8)∉bs x/\d_ x=true:=λx b=>ajc s x (u6 b)
 have c:(ez s).take (k+1)≠[]:=λe=>by
  simp_all
 have d:((ez s).take (k+1)).length<=3:=by grind [ai4]
 generalize(ez s).take (k+1)=l at*
 grind [VR,ez]
abbrev up(s:BA)(k:Nat):BA:=lR ((ez s).take (k+1))
def ZO(s:BA){k:Nat}(hk:k<(ez s).length):jC (up s k)=(List.range (k+1)).map (up s):=by grind [jC,KA,List.map_congr_left]
theorem YK:ez aA=[]:=by
 unfold ez;rw[show jE aA=[aA]from U_ (by simp_all) _];rfl
theorem aay(s:BA){k:Nat}(hk:k<(ez s).length):up s k≠aA:=λe=>by
 grind [KA,YK,List.length_nil]
theorem agq(s:BA){k l:Nat}(hk:k<(ez s).length)(a:l<(ez s).length)(e:up s k=up s l):k=l:=by grind [KA,List.length_take]
theorem Re(s:BA){k:Nat}(hk:k<(ez s).length):jv (up s k)=match k with|0=>aA|j+1=>up s j:=by
 unfold jv gT;rw[ZO s hk];grind
theorem RL(s p:BA):on s p=true↔p=aA\/∃k,k<(ez s).length/\p=up s k:=by
 unfold on gT;rw[List.any_cons,Bool.or_eq_true,eI];constructor
 ·rintro(h|h)
  ·exact .inl h
  ·obtain⟨y,a,b⟩:=List.any_eq_true.1 h;obtain⟨k,hk,rfl⟩:=y9.1 a;grind [eI]
 ·rintro(h|⟨k,hk,rfl⟩)
  ·exact .inl h
  ·exact .inr (List.any_eq_true.2 ⟨up s k,y9.2 ⟨k,J0.2 hk,rr⟩,xu _⟩)
theorem aaC{s p:BA}(h:on s p=true)(hp:p≠aA):on s (jv p)=true:=by grind [RL,Re]
def aoN{s p q:BA}(h1:on s p=true)(h2:on s q=true)(hp:p≠aA)(hq:q≠aA)(e:jv p=jv q):p=q:=by grind [RL,Re,aay,agq]
structure tH(t:List aB):Prop where
 gp:t.Pairwise λa b=>dG a.aa b.aa=true
 CX:∀e∈t,named e.aa=true
 Dk:∀e∈t,e.aa≠aA->(cO t (jv e.aa)).2=true
 len:t.length<=16
def YE(p:BA)(l:List aB):(cO l p).2=(l.map aB.aa).any λy=>seq y p:=by grind [cO]
def tH.qq{t u:List aB}(h:tH t)(e:u.map aB.aa=t.map aB.aa):tH u:=by
 have f:∀x∈u,∃y∈t,y.aa=x.aa:=λx c=>by
  grind [List.mem_map_of_mem]
 refine⟨?_,?_,?_,?_⟩
 ·have h1:(t.map aB.aa).Pairwise λa b=>dG a b=true:=O9.2 h.gp
  grind
 ·intro x c;obtain⟨y,d,h2⟩:=f x c;rw[<-h2];exact h.CX y d
 ·intro x c g;obtain⟨y,d,h2⟩:=f x c;rw[YE,e,<-YE,<-h2];exact h.Dk y d (by simp_all)
 ·have:=congrArg List.length e;rw[c8,c8]at this;rw[this];exact h.len
def Qw{α β:Type}(f:α->β->Nat):∀(l:List α) (m:List β),dW (λa=>dW (λb=>f a b) m) l=dW (λb=>dW (λa=>f a b) l) m
 | [],m=>by grind [zG]
 |a::l,m=>by
  rw[iQ,Qw f l m]
  have:∀m:List β,dW (λb=>dW (λa=>f a b) (a::l)) m=dW (λb=>f a b) m+dW (λb=>dW (λa=>f a b) l) m:=by
   intro m
   induction m with
   |nil=>rfl
   |cons b m ih=>grind [iQ]
  rw[this]
def MY{α:Type}{f:α->Nat}{c:Nat}:∀{l:List α},l.Nodup->(∀x∈l,f x<=c)->(∀x∈l,∀y∈l,f x≠0->f y≠0->x=y)->dW f l<=c
 | [],_,_,_=>j9 _
 |x::l,a,d,h1=>by
  obtain⟨g,a⟩:=K5.1 a
  rw[iQ]
  by_cases h0:f x=0
  ·have:=MY a (λy b=>d y (j3 _ b)) λy b z e=>h1 y (j3 _ b) z (j3 _ e)
   omega
  grind [zG]
theorem Il{e x:aB}:below e x=true↔e.aa≠aA/\jv e.aa=x.aa:=by grind [below,eI]
def rj(x:aB)(i:Nat)(e:aB):Nat:=match below e x with|true=>e.b_.g i|false=>0
theorem YH{s:af}(h:gi s){x:aB}(u:x∈s.aH)(i:Nat):dW (rj x i) s.aH<=x.b_.g i:=by
 have e1:dW (rj x i) s.aH=dW (λe=>dW (λj=>match below e x with|true=>gZ e.aa i j|false=>0) s.ae) s.aH:=by
  refine SU λe d=>?_
  unfold rj;cases below e x
  case true=>exact h.eZ.qM e d i
  grind [zG]
 rw[e1,Qw,h.eZ.qM x u i];unfold us;refine MM λj v=>?_
 have f:∀e∈s.aH,(match below e x with|true=>gZ e.aa i j|false=>0:Nat)≠0->below e x=true/\j.bB=true/\on j.x.aa e.aa=true:=λe d k=>by
  grind [gZ]
 have p:s.aH.Nodup:=List.Pairwise.of_map aB.aa (λa b k e=>k (congrArg aB.aa e)) h.eZ.pk;refine MY p (λe d=>?_) λe d o t h1 h2=>?_
 ·grind [gZ,Il,aaC]
 ·obtain⟨a,_,c⟩:=f e d h1;obtain⟨a',_,c'⟩:=f o t h2;obtain⟨d1,d2⟩:=Il.1 a;obtain⟨q,r⟩:=Il.1 a';have hp:=aoN c c' d1 q (d2.trans r.symm);obtain⟨m,w⟩:=A0 d;obtain⟨n,y⟩:=A0 t;have:=sU (l:=s.aH.map aB.aa) h.eZ.pk (i:=m) (j:=n) (a:=e.aa) (by simp_all) (by simp_all);simp_all
def Jp(x:aB):∀(l:List aB) (a:V4),(∀i,a.g i+dW (rj x i) l<=x.b_.g i)->∃v,qR x a l=some v/\∀i,v.g i=a.g i+dW (rj x i) l
 | [],a,_=>⟨a,rr,λi=>rfl⟩
 |e::l,a,h=>by
  unfold qR
  cases hb:below e x
  ·have f:∀i,dW (rj x i) (e::l)=dW (rj x i) l:=λi=>by grind [iQ,rj]
   obtain⟨v,h1,h2⟩:=Jp x l a λi=>by simp_all
   simp_all
  have f:∀i,dW (rj x i) (e::l)=e.b_.g i+dW (rj x i) l:=λi=>by grind [iQ,rj]
  have c:(a.add e.b_).2=true:=IW.2 λi=>by
   grind [KB]
  have d:=BE c
  rcases hq:a.add e.b_ with⟨b,q⟩
  rw[hq]at c d
  dsimp only at c d
  subst c
  obtain⟨v,h1,h2⟩:=Jp x l b λi=>by
   grind
  grind
theorem Im(p:BA):dG p aA=false:=by grind [List.not_lt_nil,wE]
def afH{s:af}(h:gi s)(c:tH s.aH):uH s.aH=true:=by
 have f:(s.aH.any λx=>!qI s.aH x)=false:=L4.2 λx q=>by
  obtain⟨v,h1,h2⟩:=Jp x s.aH V4.z λi=>by grind [tI,YH]
  unfold qI;rw[h1];dsimp only;rw[h.eZ.iv x q];grind [xi,tI,YH]
 obtain⟨m,r,h1,h2,_⟩:=xQ h.eZ.sJ;have a:m=0:=by
  cases m with
  |zero=>rfl
  |succ m=>
   obtain⟨b,w⟩:=c9.1 h1;have:=E0.1 c.gp 0 (m+1) om b om;grind [Im]
 subst a;have j:∀k e,s.aH[k]? = some e->zk s.aH k e=false:=λk e hk=>by
  unfold zk;cases k with
  |zero=>rfl
  |succ k=>
   dsimp only;cases u:s.aH[k]? with
   |none=>rfl
   |some y=>
    obtain⟨g1,g2⟩:=c9.1 hk;obtain⟨g3,g4⟩:=c9.1 u;have b:=E0.1 c.gp k (k+1) g3 g1 (D8 k);rw[g2,g4]at b;have o:=i7 hk;have g:e.aa≠aA:=λA=>by grind [Im]
    show Co s.aH y e=false
    unfold Co;have d:sY e.aa y.aa=false:=by
     grind [sY,S_,eI]
    rw[d];dsimp only;rw[c.CX e o];dsimp only;rw[uF,c.Dk e o g];rfl
 have key:∀(n k:Nat),n+k=s.aH.length->mP s.aH k (s.aH.drop k)=true:=by
  intro n;induction n<;>grind [mP,List.drop_eq_getElem_cons]
 have hk:=key s.aH.length 0 rr;have p:=c.len;rw[J9]at hk;generalize s.aH=t at*
 cases t with
 |nil=>cases h1
 |cons e l=>
  cases h1;show(match decide (16<(r::l).length)with|true=>false|false=>match seq r.aa aA with|false=>false|true=>mP (r::l) 0 (r::l))=true
  rw[show decide (16<(r::l).length)=false from j1 om,h2];exact hk
structure jQ(s t:af):Prop where
 al:t.ar.al=s.ar.al
 qq:t.aH.map aB.aa=s.aH.map aB.aa
def jQ.refl(s:af):jQ s s:=⟨rr,rr⟩
def jQ.trans{s t u:af}(h1:jQ s t)(h2:jQ t u):jQ s u:=⟨h2.al.trans h1.al,h2.qq.trans h1.qq⟩
def Lx{t u:List aB}(h:u.map (λe=>(e.aa,e.bI))=t.map (λe=>(e.aa,e.bI))):u.map aB.aa=t.map aB.aa:=by
 have:=congrArg (List.map Prod.fst) h;rw[F3,F3]at this;exact this
def Frame.ml{s t:af}(h:Frame s t):jQ s t:=⟨h.al,Lx h.aH⟩
def anp(s:af)(id:UInt64)(k:Int):jQ s (s.stop id k).1:=by
 unfold af.stop;cases decide (eK s.ae id<0)
 case true=>exact .refl s
 dsimp only;cases(bK s.ae id).1.bB with
 |false=>exact .refl s
 |true=>exact⟨(nQ s _).1.ml.al,(nQ s _).1.ml.qq⟩
def Fp(s:af)(id:UInt64)(k:Int):jQ s (s.fh id k).1:=by
 unfold af.fh;cases decide (eK s.ae id<0)
 case true=>exact .refl s
 dsimp only;cases(bK s.ae id).1.bB with
 |false=>exact⟨rr,rr⟩
 |true=>exact⟨(nQ s _).1.ml.al,(nQ s _).1.ml.qq⟩
def BM{k:Int}:∀(l:List UInt64) (s:af),jQ s (l.foldl (λs id=>(s.stop id k).1) s)
 | [],s=>.refl s
 |a::l,s=>(anp s a k).trans (BM l _)
def af9(s:af)(id:UInt64):jQ s (fS s id):=by
 unfold fS;cases decide (eK s.ae id<0)
 case true=>exact .refl s
 dsimp only;cases decide ((bK s.ae id).1.left-1<=0)
 ·exact⟨rr,rr⟩
 have:=Fp {s with ae:=s.ae.set (eK s.ae id).toNat {(bK s.ae id).1 with left:=(bK s.ae id).1.left-1}} id 3;exact⟨this.al,this.qq⟩
def aj1(s:af):jQ s s.count:=by
 unfold af.count;have:∀(l:List UInt64) (s:af),jQ s (l.foldl fS s):=by
  intro l;induction l with
  |nil=>exact λs=>.refl s
  |cons a l b=>exact λs=>(af9 s a).trans (b _)
 have h:=this (jh s) {s with round:=s.round+1};exact⟨h.al,h.qq⟩
theorem MN(aZ:UInt64)(v:V4):∀(l:List BA) (q:bf),(iS aZ v l q).1.al=q.al
 | [],_=>rfl
 |n::l,q=>by
  unfold iS
  cases decide (q.room n v=0)
  case true=>exact MN aZ v l _
  rfl
def ahA(p:bf)(aZ:UInt64)(al:List BA)(v:V4):(p.gB aZ al v).1.al=p.al:=by grind [bf.gB,MN]
def Zm(s:af)(id:UInt64)(al:List BA):jQ s (s.begin id al).1:=by
 unfold af.begin;cases decide (eK s.ae id<0)with
 |true=>exact .refl s
 |false=>
 dsimp only;cases(bK s.ae id).1.bB with
 |true=>exact .refl s
 |false=>
 dsimp only;cases decide ((al.length:Int)=(bK s.ae id).1.x.count)
 ·exact .refl s
 dsimp only;rcases(bK s.ae id).1.x.total with⟨v,_|_⟩
 ·exact .refl s
 dsimp only;have c:=yE s.aH (bK s.ae id).1.x.aa (aB.jP v) (Gl v);rcases d:jw s.aH (bK s.ae id).1.x.aa v with⟨t,e⟩
 have a:t.map (λe=>(e.aa,e.bI))=s.aH.map (λe=>(e.aa,e.bI)):=by
  grind [jw]
 dsimp only;cases decide (e=0)
 ·exact .refl s
 dsimp only;have b:=ahA s.ar id al (bK s.ae id).1.x.cT;rcases hp:s.ar.gB id al (bK s.ae id).1.x.cT with⟨p,e⟩
 rw[hp]at b;dsimp only at b⊢;cases decide (e=0)
 ·exact .refl s
 exact⟨b,Lx a⟩
def am5(t:fB):jQ t.s t.next.1.s:=by
 unfold fB.next;cases(dD t.s t.cm).ok with
 |false=>exact .refl _
 |true=>
  dsimp only;cases(eR t.s (dD t.s t.cm).id).ok with
  |false=>exact .refl _
  |true=>
   dsimp only;generalize(eR t.s (dD t.s t.cm).id).l=l;generalize(eR t.s (dD t.s t.cm).id).al=al;have h1:jQ t.s (eu t.s l):=BM l t.s;have h2:=Zm (eu t.s l) (dD t.s t.cm).id al;rcases hb:(eu t.s l).begin (dD t.s t.cm).id al with⟨u,e⟩
   rw[hb]at h2;dsimp only;cases decide (e=0)
   case true=>exact h1.trans h2
   exact h1
def MT:∀(n:Nat) (t:fB),jQ t.s (jH n t).s
 |0,t=>.refl _
 |n+1,t=>by
  unfold jH
  have h:=am5 t
  rcases a:t.next with⟨u,b⟩
  rw[a]at h
  cases b
  case true=>exact h.trans (MT n u)
  exact h
def SM(s:af):jQ s s.oI:=(aj1 s).trans (MT 128 ⟨s.count,0⟩)
def Vf(s:af)(x:bM):jQ s (s.fv x).1:=by
 unfold af.fv;cases decide (x.check=0)
 ·exact .refl s
 dsimp only;cases there s.aH x.aa
 ·exact .refl s
 dsimp only;cases decide (32<=(s.ae.length:Int))
 case true=>exact .refl s
 dsimp only;cases decide (s.next=18446744073709551615)
 case true=>exact .refl s
 dsimp only;cases decide ((fq s.bg ⟨s.next,x.bC⟩).2=0)
 ·exact .refl s
 exact⟨rr,rr⟩
structure Ord(s:af):Prop where
 n:pF s.ar
 t:tH s.aH
def Ord.ml{s t:af}(h:Ord s)(k:jQ s t):Ord t:=⟨h.n.same k.al,h.t.qq k.qq⟩
def tH.set{t:List aB}(h:tH t)(aa:BA)(v:V4):tH (gg t aa v).1:=by
 unfold gg;cases g:named aa
 ·exact h
 dsimp only;cases i:!seq aa aA&&decide (fu t (jv aa)<0)
 case true=>exact h
 dsimp only;cases k:decide (fu t aa<0)
 case true=>
  dsimp only;cases c:decide (16<=(t.length:Int))
  case true=>exact h
  dsimp only;have c:=j4 c;have l:(cO t aa).2=false:=by grind [uF]
  have j:∀e,e∈t->e∈t.take (mr t aa)++⟨aa,v,V4.z⟩::t.drop (mr t aa):=λe a=>by
   grind [List.take_append_drop]
  have b:∀p,(cO t p).2=true->(cO (t.take (mr t aa)++⟨aa,v,V4.z⟩::t.drop (mr t aa)) p).2=true:=λp hp=>by
   grind [xQ,DP]
  refine⟨Lv aB.aa h.gp (x:=⟨aa,v,V4.z⟩) λy q e=>?_,?_,?_,?_⟩
  ·grind [DP]
  ·intro e a;rcases s8.1 a with a|a
   ·exact h.CX e (u6 a)
   ·rcases p9.1 a with rfl|a
    ·exact g
    ·exact h.CX e (B3 a)
  ·intro e a d;refine b _ ?_;rcases s8.1 a with a|a
   ·exact h.Dk e (u6 a) d
   ·rcases p9.1 a with rfl|a
    ·grind [eI,uF]
    ·exact h.Dk e (B3 a) d
  grind
 dsimp only;cases(cO t aa).1.b_.db v with
 |false=>exact h
 |true=>
  dsimp only;have f:(cO t aa).2=true:=by grind [uF]
  obtain⟨m,e,h1,h2,n,o⟩:=xQ f;rw[n,o,x8];refine h.qq ?_;apply E5;grind
def ai1{s:af}(h:Ord s)(o:aC):Ord (kj s o).1:=by
 unfold kj;have a:Ord (bz s o).1:=⟨h.n,h.t.set o.aa o.v⟩;cases decide (o.kind=1)
 case true=>exact h.ml (Vf s _)
 dsimp only;cases decide (o.kind=2)
 case true=>exact h.ml (Fp s _ _)
 dsimp only;cases decide (o.kind=3)
 case true=>
  grind [bI]
 dsimp only;cases decide (o.kind=9)
 case true=>exact a
 dsimp only;cases decide (o.kind=10)
 case true=>exact⟨h.n.add _,h.t⟩
 dsimp only;cases decide (o.kind=11)
 case true=>
  dsimp only;unfold qb rm;refine Ord.ml (s:={s with ar:=(s.ar.fail o.aa).1}) ⟨?_,h.t⟩ (BM _ _);show pF (s.ar.fail o.aa).1
  unfold bf.fail;cases decide ((s.ar.turn o.aa false).2=0)<;>exact h.n.turn _ _
 exact⟨h.n.turn _ _,h.t⟩
def alU{s:af}(h:Ord s)(o:aC):Ord (apply s o).1:=by
 unfold apply;cases o.right
 ·exact h
 dsimp only;cases fJ o.kind 4 8
 case true=>exact h
 dsimp only;cases decide (o.kind=13)
 case true=>exact h.ml (SM s)
 dsimp only;have a:=ai1 h o;rcases b:kj s o with⟨t,id,e⟩
 rw[b]at a;dsimp only at a⊢;cases decide (e=0)
 ·exact h
 exact a.ml ⟨rr,rr⟩
def aeu:Ord af.new where
 n:=⟨.nil,λ_ h=>(by cases h),j9 _⟩
 t:=⟨List.pairwise_singleton _ _,λe a=>(by rw[o6.1 a];rfl),λe a b=>(b (by rw[o6.1 a];rfl)).elim,by decide⟩
end
section
open Go.RowKit
section
variable (P:af→Prop)(Q:aC→Prop)
def yJ(b:BA):Prop:=∃g s,P s/\b=gn g s
def zQ(b:BA):Prop:=∃o,Q o/\b=gH o
inductive iH:BA->Prop
 |oL {b:BA} (h:yJ P b):iH b
 |more {b c:BA} (h:iH b) (r:zQ Q c):iH (b++c)
inductive tx:BA->Prop
 |nil:tx aA
 |pQ {b:BA} (h:iH P Q b):tx b
 |eS {b c:BA} (h:iH P Q b) (r:zQ Q c) (n:Nat) (a:n<c.size):tx (b++c.extract 0 n)
 |cut {c:BA} (h:yJ P c) (n:Nat) (a:n<c.size):tx (c.extract 0 n)
inductive Fi:BA->BA->Prop
 |ou {h:BA} (t:tx P Q h):Fi h aA
 |oL {c:BA} (s:yJ P c) (n:Nat):Fi aA (c.extract 0 n)
 |more {h c:BA} (l:iH P Q h) (r:zQ Q c) (n:Nat):Fi h (c.extract 0 n)
end
variable {P:af→Prop}{Q:aC→Prop}
theorem xO(b:BA):b++aA=b:=ByteArray.append_empty
theorem pi(b:BA):aA++b=b:=ByteArray.empty_append
theorem Kc(c:BA){n:Nat}(h:c.size<=n):c.extract 0 n=c:=by
 apply vl;simp_all
theorem TP(c:BA)(n m:Nat):(c.extract 0 n).extract 0 m=c.extract 0 (min m n):=by grind [vl,ByteArray.data_extract]
theorem Fi.whole{h s:BA}(f:Fi P Q h s):tx P Q (h++s):=by
 cases f with
 |ou t=>grind [xO]
 | @oL c s n=>
  rw[pi];by_cases a:n<c.size
  ·exact .cut s n a
  ·rw[Kc c om];exact .pQ (.oL s)
 | @more h c l r n=>
  by_cases a:n<c.size
  ·exact .eS l r n a
  ·rw[Kc c om];exact .pQ (.more l r)
theorem Fi.bx{h s:BA}(f:Fi P Q h s)(k:Nat):tx P Q (h++s.extract 0 k):=by
 cases f with
 |ou t=>
  rw[show(aA:BA).extract 0 k=aA from vl (by simp_all),xO];exact t
 |oL s n=>rw[TP];exact Fi.whole (.oL s _)
 |more l r n=>rw[TP];exact Fi.whole (.more l r _)
structure Di(P:af->Prop)(Q:aC->Prop)(d:aQ):Prop where
 f0:Fi P Q d.h0 d.s0
 f1:Fi P Q d.h1 d.s1
theorem Di.fR{d:aQ}(h:Di P Q d)(k:Int):Di P Q (d.fR k):=⟨.ou (h.f0.bx _),.ou (h.f1.bx _)⟩
def aQ.file(d:aQ)(f:Int):BA×BA:=match decide (f=0)with|true=>(d.h0,d.s0)|false=>(d.h1,d.s1)
theorem Di.gU{d:aQ}(h:Di P Q d)(f:Int){g:BA×BA->BA×BA}(a:Fi P Q (g (d.file f)).1 (g (d.file f)).2):Di P Q (d.gU f g):=by
 unfold aQ.gU;unfold aQ.file at a;cases b:decide (f=0)
 case true=>rw[b]at a;exact⟨a,h.f1⟩
 rw[b]at a;exact⟨h.f0,a⟩
theorem Di.ed{d:aQ}(h:Di P Q d)(f:Int)(eS:Bool){g:BA×BA->BA×BA}(a:Fi P Q (g (d.file f)).1 (g (d.file f)).2):Di P Q (d.ed f eS g).1:=by
 unfold aQ.ed;cases iU f
 ·exact h
 dsimp only;cases d.down
 case true=>exact h
 dsimp only;cases decide (d.cy=0)
 case true=>
  cases eS
  case true=>exact(h.gU f a).fR _
  exact h.fR _
 dsimp only;cases decide (0<d.cy)
 case true=>exact⟨(h.gU f a).f0,(h.gU f a).f1⟩
 exact h.gU f a
end
section
open Go.RowKit
variable {P:af→Prop}{Q:aC→Prop}
structure rJ(d e:aQ)(f:Int)(x:BA×BA):Prop where
 down:e.down=false
 it:e.file f=x
 fj:e.file (1-f)=d.file (1-f)
theorem vU{d:aQ}{f:Int}(c:f=0\/f=1)(a:d.down=false)(eS:Bool)(g:BA×BA->BA×BA):((d.ed f eS g).2=12/\(d.ed f eS g).1.down=true)\/((d.ed f eS g).2=0/\rJ d (d.ed f eS g).1 f (g (d.file f))):=by
 unfold aQ.ed;have e:iU f=true:=by rcases c with rfl|rfl<;>rfl
 rw[e,a];dsimp only;cases decide (d.cy=0)
 case true=>cases eS<;>exact .inl ⟨rr,rr⟩
 have b:rJ d (d.gU f g) f (g (d.file f)):=by
  rcases c with rfl|rfl
  ·exact⟨a,rr,rr⟩
  ·exact⟨a,rr,rr⟩
 dsimp only;cases decide (0<d.cy)
 case true=>exact .inr ⟨rr,⟨b.down,b.it,b.fj⟩⟩
 simp_all
theorem IE{d:aQ}{f:Int}(a:f=0\/f=1)(b:d.down=false)(s:BA):d.dh f s=(d,9)\/((d.dh f s).2=12/\(d.dh f s).1.down=true)\/((d.dh f s).2=0/\rJ d (d.dh f s).1 f (pM s (d.file f))):=by grind [aQ.dh,vU]
structure Ti(P:af->Prop)(Q:aC->Prop)(t:ay):Prop where
 d:Di P Q t.d
 s:P t.s
 up:t.d.down=false->iH P Q (t.d.file t.f).1/\(t.d.file t.f).2=aA
theorem XP(t:ay):t.f=0\/t.f=1:=by grind [ay.f]
theorem Di.file{d:aQ}(h:Di P Q d)(f:Int):Fi P Q (d.file f).1 (d.file f).2:=by
 unfold aQ.file;cases decide (f=0)
 case true=>exact h.f0
 exact h.f1
theorem amu(c:BA):c.extract 0 c.size=c:=Kc c (j2 _)
theorem alM{t:ay}(h:Ti P Q t)(p:t.d.down=false){s:af}(w:P s)(a:bn){r:BA}(m:zQ Q r):Ti P Q (t.mg s a r).1:=by
 obtain⟨k,y⟩:=h.up p;have u:=XP t;unfold ay.mg;have i:Di P Q (t.d.dh t.f r).1:=by
  unfold aQ.dh;cases iU t.f&&!t.d.down&&t.d.full r
  case true=>exact h.d
  refine h.d.ed t.f true ?_;unfold pM;rw[y,pi,show r=r.extract 0 r.size from(amu r).symm];exact .more k m _
 have e1:eQ t.d [λd=>d.dh t.f r,λd=>d.dO t.f]=match t.d.dh t.f r with
  |(e,x)=>match decide (x=0)with
   |true=>eQ e [λd=>d.dO t.f]
   |false=>(e,x):=rfl
 rw[e1];rcases l:t.d.dh t.f r with⟨e,x⟩
 rw[l]at i;rcases IE u p r with h1|⟨h1,h2⟩|⟨h1,h2⟩
 ·rw[l]at h1;simp_all
 ·rw[l]at h1 h2;dsimp only at h1 h2;subst h1;exact⟨i,h.s,λq=>by simp_all⟩
 ·rw[l]at h1 h2;dsimp only at h1 h2 i;subst h1;have g:e.file t.f=((t.d.file t.f).1,r):=by rw[h2.it];grind [pM,pi]
  have j:Di P Q (e.dO t.f).1:=by
   refine i.ed t.f false ?_;rw[g];unfold gw;cases hb:seq (t.d.file t.f).1 aA&&seq r aA
   case true=>
    rw[y7]at hb;have n:=eI.1 hb.2;dsimp only;rw[n];exact .ou (.pQ k)
   exact .ou (.pQ (.more k m))
  have e2:eQ e [λd=>d.dO t.f]=match e.dO t.f with
   |(e,x)=>match decide (x=0)with
    |true=>(e,0)
    |false=>(e,x):=rfl
  dsimp only;rw[show decide ((0:Int)=0)=true from rfl];dsimp only;rw[e2];rcases o:e.dO t.f with⟨e',x⟩
  rw[o]at j;rcases vU u h2.down false gw with⟨b,c⟩|⟨b,c⟩
  ·have b:(e.dO t.f).2=12:=b;have c:(e.dO t.f).1.down=true:=c;rw[o]at b c;dsimp only at b c;subst b;exact⟨j,h.s,λq=>by have q:e'.down=false:=q;rw[c]at q;cases q⟩
  ·have b:(e.dO t.f).2=0:=b;have c:rJ e (e.dO t.f).1 t.f (gw (e.file t.f)):=c;rw[o]at b c;dsimp only at b c;subst b;refine⟨j,w,λ_=>?_⟩;have v:=c.it;rw[g]at v;show iH P Q (e'.file t.f).1/\(e'.file t.f).2=aA
   rw[v];unfold gw;cases hb:seq (t.d.file t.f).1 aA&&seq r aA
   case true=>
    grind [eI]
   exact⟨.more k m,rr⟩
end
section
open Go.RowKit
variable {P:af→Prop}{Q:aC→Prop}
theorem KP(b:BA):b.extract 0 0=aA:=vl (by
 simp_all)
theorem Kr(x:BA×BA):lZ 0 x=(aA,aA):=by grind [lZ,lE,KP]
theorem v_(d:aQ)(g:aQ->aQ×Int)(l:List (aQ->aQ×Int)):eQ d (g::l)=match decide ((g d).2=0)with|true=>eQ (g d).1 l|false=>g d:=by grind [eQ]
theorem aaS{t:ay}(h:Ti P Q t)(B:t.d.down=false):Ti P Q t.lg.1/\(t.lg.2≠12->t.lg.1.d.down=false):=by
 have C:=XP t;have w:1-t.f=0\/1-t.f=1:=om
 have D:1-(1-t.f)=t.f:=om
 have a:∀e:aQ,Di P Q e->e.down=true->Ti P Q {t with d:=e}/\((12:Int)≠12->e.down=false):=λe h1 h2=>
  ⟨⟨h1,h.s,λq=>by simp_all⟩,λq=>(q rr).elim⟩
 unfold ay.lg;rw[v_];have o:Di P Q (t.d.cut (1-t.f) 0).1:=h.d.ed _ false (by rw[Kr];exact .ou .nil);rcases vU w B false (lZ 0)with⟨h1,h2⟩|⟨h1,h2⟩
 ·have h1:(t.d.cut (1-t.f) 0).2=12:=h1;have h2:(t.d.cut (1-t.f) 0).1.down=true:=h2;rcases u:t.d.cut (1-t.f) 0 with⟨e,x⟩
  simp_all
 have h1:(t.d.cut (1-t.f) 0).2=0:=h1;have h2:rJ t.d (t.d.cut (1-t.f) 0).1 (1-t.f) (lZ 0 (t.d.file (1-t.f))):=h2;rw[h1,show decide ((0:Int)=0)=true from rfl];dsimp only;generalize(t.d.cut (1-t.f) 0).1=d1 at*
 have E:d1.file (1-t.f)=(aA,aA):=by rw[h2.it,Kr]
 have y:d1.file t.f=t.d.file t.f:=by have:=h2.fj;simp_all
 rw[v_];have p:yJ P (gn (t.dR+1) t.s):=⟨_,_,h.s,rr⟩;generalize gn (t.dR+1) t.s=c at*
 have v:pM c (d1.file (1-t.f))=(aA,c):=by grind [pM,pi]
 have i:Di P Q (d1.dh (1-t.f) c).1:=by
  unfold aQ.dh;cases iU (1-t.f)&&!d1.down&&d1.full c
  case true=>exact o
  refine o.ed _ true ?_;rw[v];have:=Fi.oL (P:=P) (Q:=Q) p c.size;simp_all
 rcases IE w h2.down c with r|⟨r,j⟩|⟨r,j⟩
 ·rw[r];refine⟨⟨o,h.s,λ_=>?_⟩,λ_=>h2.down⟩;show iH P Q (d1.file t.f).1/\(d1.file t.f).2=aA
  rw[y];exact h.up B
 ·rcases u:d1.dh (1-t.f) c with⟨e,x⟩
  rw[u]at r j i;dsimp only at r j i;subst r;exact a e i j
 rw[r,show decide ((0:Int)=0)=true from rfl];dsimp only;rw[v]at j;generalize(d1.dh (1-t.f) c).1=d2 at*
 have F:d2.file t.f=t.d.file t.f:=by have:=j.fj;simp_all
 rw[v_];have z:iH P Q (gw (aA,c)).1/\(gw (aA,c)).2=aA:=by
  unfold gw;cases hb:seq (aA,c).1 aA&&seq (aA,c).2 aA
  case true=>
   rw[y7]at hb;have:c=aA:=eI.1 hb.2;subst this;exact⟨.oL p,rr⟩
  exact⟨by rw[pi];exact .oL p,rr⟩
 have k:Di P Q (d2.dO (1-t.f)).1:=i.ed _ false (by rw[j.it,z.2];exact .ou (.pQ z.1));rcases vU w j.down false gw with⟨l,b⟩|⟨l,b⟩
 ·have l:(d2.dO (1-t.f)).2=12:=l;have b:(d2.dO (1-t.f)).1.down=true:=b;rcases u:d2.dO (1-t.f)with⟨e,x⟩
  rw[u]at l b k;dsimp only at l b k;subst l;exact a e k b
 have l:(d2.dO (1-t.f)).2=0:=l;have b:rJ d2 (d2.dO (1-t.f)).1 (1-t.f) (gw (d2.file (1-t.f))):=b;rw[l,show decide ((0:Int)=0)=true from rfl];dsimp only;rw[j.it]at b;generalize(d2.dO (1-t.f)).1=d3 at*
 rw[v_];have m:Di P Q (d3.cut t.f 0).1:=k.ed _ false (by rw[Kr];exact .ou .nil);rcases vU C b.down false (lZ 0)with⟨n,g⟩|⟨n,g⟩
 ·have n:(d3.cut t.f 0).2=12:=n;have g:(d3.cut t.f 0).1.down=true:=g;rcases u:d3.cut t.f 0 with⟨e,x⟩
  rw[u]at n g m;dsimp only at n g m;subst n;exact a e m g
 have n:(d3.cut t.f 0).2=0:=n;have g:rJ d3 (d3.cut t.f 0).1 t.f (lZ 0 (d3.file t.f)):=g;rw[n,show decide ((0:Int)=0)=true from rfl];dsimp only;generalize(d3.cut t.f 0).1=d4 at*
 have G:eQ d4 []=(d4,0):=rfl;rw[G,show decide ((0:Int)=0)=true from rfl];have A:ay.f {t with d:=d4,file:=1-t.f,dR:=t.dR+1}=1-t.f:=by
  grind [ay.f]
 refine⟨⟨m,h.s,λ_=>?_⟩,λ_=>g.down⟩;show iH P Q (d4.file (ay.f {t with d:=d4,file:=1-t.f,dR:=t.dR+1})).1/\(d4.file (ay.f {t with d:=d4,file:=1-t.f,dR:=t.dR+1})).2=aA
 rw[A,g.fj,b.it];exact z
theorem ab0{t:ay}(h:Ti P Q t){o:aC}(a:P (apply t.s o).1)(hq:(apply t.s o).2.e=0->o.oM=true->Q o):Ti P Q (t.do o).1:=by
 unfold ay.do;grind [zQ,alM,aaS]
end
section
open Go.RowKit
variable {P:af→Prop}{Q:aC→Prop}
theorem adD{t:ay}(h:Ti P Q t)(k:Int):Ti P Q {t with d:=t.d.fR k}:=⟨h.d.fR k,h.s,λe=>(by cases e)⟩
theorem abL{t:ay}(h:Ti P Q t)(f k:Int):Ti P Q {t with d:=t.d.mZ f k}:=⟨⟨h.d.f0,h.d.f1⟩,h.s,h.up⟩
theorem amQ{key:BA}{size:Int}(k:P af.new)(h0:(ay.new key size).2=0):Ti P Q (ay.new key size).1:=by
 unfold ay.new at h0⊢;cases hb:decide ((key.size:Int)<1)||decide ((64:Int)<key.size)||decide (size<1)||decide (1048576<size)with
 |true=>simp_all
 |false=>
 rw[hb]at h0;dsimp only at h0⊢;have b:yJ P (gn 1 af.new):=⟨_,_,k,rr⟩;generalize gn 1 af.new=c at*
 rw[v_]at h0⊢;have e:Di P Q (aQ.new size):=⟨.ou .nil,.ou .nil⟩;have g:pM c ((aQ.new size).file 0)=(aA,c):=by
  show(aA,aA++c)=(aA,c)
  rw[pi]
 have h:Di P Q ((aQ.new size).dh 0 c).1:=by
  unfold aQ.dh;cases iU 0&&!(aQ.new size).down&&(aQ.new size).full c
  case true=>exact e
  refine e.ed _ true ?_;rw[g];have:=Fi.oL (P:=P) (Q:=Q) b c.size;simp_all
 by_cases l:((aQ.new size).dh 0 c).2=0;rotate_left
 ·simp_all
 rw[l]at h0⊢;rw[show decide ((0:Int)=0)=true from rfl]at h0⊢;dsimp only at h0⊢;have a:rJ (aQ.new size) ((aQ.new size).dh 0 c).1 0 (aA,c):=by
  grind [IE,aQ.new]
 generalize((aQ.new size).dh 0 c).1=d2 at*
 rw[v_]at h0⊢;have i:iH P Q (gw (aA,c)).1/\(gw (aA,c)).2=aA:=by
  unfold gw;cases hb:seq (aA,c).1 aA&&seq (aA,c).2 aA
  case true=>
   rw[y7]at hb;have:c=aA:=eI.1 hb.2;subst this;exact⟨.oL b,rr⟩
  exact⟨by rw[pi];exact .oL b,rr⟩
 have j:Di P Q (d2.dO 0).1:=h.ed _ false (by rw[a.it,i.2];exact .ou (.pQ i.1));rcases vU (.inl rfl) a.down false gw with⟨d,f⟩|⟨d,f⟩
 ·have d:(d2.dO 0).2=12:=d;simp_all
 ·have d:(d2.dO 0).2=0:=d;have f:rJ d2 (d2.dO 0).1 0 (gw (d2.file 0)):=f;rw[d,show decide ((0:Int)=0)=true from rfl];dsimp only;rw[a.it]at f;generalize(d2.dO 0).1=d3 at*
  have m:eQ d3 []=(d3,0):=rfl;rw[m,show decide ((0:Int)=0)=true from rfl];refine⟨j,k,λ_=>?_⟩;show iH P Q (d3.file 0).1/\(d3.file 0).2=aA
  rw[f.it];exact i
def aQ.start(d:aQ):aQ:={d with down:=false}
theorem akN{t:ay}(h:Ti P Q t){f:Int}(k:f=0\/f=1){b r:BA}(hb:iH P Q b)(l:t.d.file f=(b++r,aA)){S:af}(m:P S)(g:UInt64):
 ((t.d.start.cut f b.size).2=0->Ti P Q ⟨t.key,(t.d.start.cut f b.size).1,S,f,g⟩)/\((t.d.start.cut f b.size).2≠0->Ti P Q {t with d:=(t.d.start.cut f b.size).1}):=by
 have c:Di P Q t.d.start:=⟨h.d.f0,h.d.f1⟩
 have a:t.d.start.file f=(b++r,aA):=l
 have i:lZ (b.size:Int) (b++r,aA)=(b,aA):=by
  unfold lZ lE
  dsimp only
  have h1:(b++r).extract 0 (min (b.size:Int).toNat (b++r).size)=b:=by
   apply vl
   show((b++r).extract 0 _).data.toList=_
   rw[L3,Array.toList_extract,x8,E9 (by simp_all)]
   simp_all
  have h2:(aA:BA).extract 0 (min ((b.size:Int).toNat-min (b.size:Int).toNat (b++r).size) (aA:BA).size)=aA:=by
   rw[show(aA:BA).size=0 from rr,Nat.min_zero,KP]
  rw[h1,h2]
 have j:Di P Q (t.d.start.cut f b.size).1:=c.ed f false (by rw[a,i];exact .ou (.pQ hb))
 have e:∀d:aQ,ay.f ⟨t.key,d,S,f,g⟩=f:=λd=>by
  grind [ay.f]
 rcases vU k (d:=t.d.start) rfl false (lZ b.size)with⟨h1,h2⟩|⟨h1,h2⟩
 ·have h1:(t.d.start.cut f b.size).2=12:=h1
  have h2:(t.d.start.cut f b.size).1.down=true:=h2
  refine⟨λq=>om,λ_=>⟨j,h.s,λq=>?_⟩⟩
  simp_all
 ·have h1:(t.d.start.cut f b.size).2=0:=h1
  have h2:rJ t.d.start (t.d.start.cut f b.size).1 f (lZ b.size (t.d.start.file f)):=h2
  rw[a,i]at h2
  refine⟨λ_=>⟨j,m,λ_=>?_⟩,λq=>(q h1).elim⟩
  rw[e]
  show iH P Q ((t.d.start.cut f b.size).1.file f).1/\((t.d.start.cut f b.size).1.file f).2=aA
  rw[h2.it]
  simp_all
theorem agN{t:ay}(h:Ti P Q t){f:Int}(e:f=0\/f=1){b:BA}(hb:iH P Q b)(i:t.d.file f=(b,aA)){S:af}(c:P S)(g:UInt64):Ti P Q ⟨t.key,t.d.start,S,f,g⟩:=by
 refine⟨⟨h.d.f0,h.d.f1⟩,c,λ_=>?_⟩;have a:ay.f ⟨t.key,t.d.start,S,f,g⟩=f:=by
  grind [ay.f]
 rw[a];show iH P Q (t.d.file f).1/\(t.d.file f).2=aA
 simp_all
end
section
open Go.RowKit
def ib(g:UInt64)(s:af)(l:List aC):BA:=l.foldl (λb o=>b++gH o) (gn g s)
def iH.wJ{P:af->Prop}{Q:aC->Prop}{b:BA}(h:iH P Q b):∃g s l,P s/\(∀o∈l,Q o)/\b=ib g s l:=by
 induction h with
 |oL h=>
  obtain⟨g,s,a,rfl⟩:=h;exact⟨g,s,[],a,λ_ h=>(by cases h),rr⟩
 |more h r ih=>
  obtain⟨g,s,l,a,c,rfl⟩:=ih;obtain⟨o,d,rfl⟩:=r;refine⟨g,s,l++[o],a,λx e=>?_,?_⟩
  ·grind
  grind [ib]
def adH{P:af->Prop}{Q:aC->Prop}{g:UInt64}{s:af}(c:P s):∀{l:List aC},(∀o∈l,Q o)->iH P Q (ib g s l):=by
 intro l a;have:∀(l:List aC) (b:BA),(∀o∈l,Q o)->iH P Q b->iH P Q (l.foldl (λb o=>b++gH o) b):=by
  intro l;induction l with
  |nil=>simp_all
  |cons o l ih=>exact λb a h=>ih _ (λx d=>a x (j3 _ d)) (.more h ⟨o,a o j6,rr⟩)
 exact this l _ a (.oL ⟨g,s,c,rr⟩)
def mS:af->List aC->af×Nat
 |s,[]=>(s,0)
 |s,o::l=>match decide ((apply s o).2.e=0)with
  |false=>(s,0)
  |true=>((mS (apply s o).1 l).1,(mS (apply s o).1 l).2+1)
def Ip(f:aC->BA):∀(l:List aC) (b:BA),l.foldl (λb o=>b++f o) b=b++l.foldl (λb o=>b++f o) aA
 | [],b=>(xO b).symm
 |o::l,b=>by
  rw[F5,F5,Ip f l (b++f o),Ip f l (aA++f o),pi,H6]
def GU(g:UInt64)(s:af)(l:List aC)(k:Nat):∃r,ib g s l=ib g s (l.take k)++r:=by
 refine⟨(l.drop k).foldl (λb o=>b++gH o) aA,?_⟩;unfold ib;rw[<-Ip,<-G6,A5]
def gV:List ax->List QE->List QE
 | [],q=>q
 |j::l,q=>match j.bB with
  |true=>gV l q
  |false=>gV l (fq q ⟨j.id,j.x.bC⟩).1
def af.dZ(s:af):af:={s with bg:=gV s.ae []}
def Ee{s:af}:∀(l:List ax) (q:List QE),(∀j∈l,j∈s.ae)->oZ q->(∀e∈q,∃j∈s.ae,j.id=e.id/\j.bB=false/\j.x.bC=e.bC)->oZ (gV l q)/\∀e∈gV l q,∃j∈s.ae,j.id=e.id/\j.bB=false/\j.x.bC=e.bC
 | [],q,_,h1,h2=>⟨h1,h2⟩
 |j::l,q,c,h1,h2=>by
  unfold gV
  have a:=λx b=>c x (j3 _ b)
  cases f:j.bB
  case true=>exact Ee l q a h1 h2
  dsimp only
  rcases z_ q ⟨j.id,j.x.bC⟩with e|⟨e,d⟩
  ·rw[e];exact Ee l q a h1 h2
  ·rw[e]
   refine Ee l _ a (JB h1 d) λx b=>?_
   rcases FG.1 b with rfl|b
   ·grind
   simp_all
def ZQ{s:af}(h:gi s):gi s.dZ:=by
 obtain⟨h1,h2⟩:=Ee (s:=s) s.ae [] (λ_ h=>h) .nil (λ_ h=>by cases h);exact⟨⟨h.bA.eU,h.bA.dL,h.bA.fp,h.bA.len,h1,h2,h.bA.jT⟩,h.eZ.same rr rr rr,h.eG⟩
def aof{s:af}(h:Ord s):Ord s.dZ:=⟨h.n,h.t⟩
def Lk(s:af):Prop:=∀j∈s.ae,j.bB=decide (j.left≠0)
theorem Lk.sub{s t:af}(h:Lk s)(a:∀j∈t.ae,j∈s.ae):Lk t:=λj b=>h j (a j b)
def Lk.set{s t:af}(h:Lk s){k:Nat}{j:ax}(b:j.bB=decide (j.left≠0))(c:t.ae=s.ae.set k j):Lk t:=λx a=>by
 rw[c]at a
 rcases x6 a with a|rfl
 ·exact h x a
 ·exact b
theorem Ar(s:af)(j:ax):(s.du j).ae=s.ae:=(nQ s j).2.1
def anU{s:af}(h:Lk s)(id:UInt64)(k:Int):Lk (s.stop id k).1:=by
 unfold af.stop;cases decide (eK s.ae id<0)
 case true=>exact h
 dsimp only;cases(bK s.ae id).1.bB with
 |false=>exact h
 |true=>
  refine h.set (k:=(eK s.ae id).toNat) (j:={(bK s.ae id).1 with bB:=false,left:=0}) rr ?_;show(s.du _).ae.set _ _=_
  grind [Ar]
def alo{s:af}(h:Lk s)(id:UInt64)(k:Int):Lk (s.fh id k).1:=by
 unfold af.fh;cases decide (eK s.ae id<0)
 case true=>exact h
 dsimp only;cases(bK s.ae id).1.bB with
 |false=>exact h.sub λj a=>uw a
 |true=>
  refine h.sub λj a=>?_
  have:j∈(s.du (bK s.ae id).1).ae.eraseIdx (eK s.ae id).toNat:=a;grind [Ar,uw]
def Is{k:Int}:∀(l:List UInt64) {s:af},Lk s->Lk (l.foldl (λs id=>(s.stop id k).1) s)
 | [],_,h=>h
 |a::l,_,h=>Is l (anU h a k)
def ad0{s:af}(hi:mb s.ae)(h:Lk s)(id:UInt64):Lk (fS s id):=by
 unfold fS;rcases ol s.ae id with⟨h1,h2⟩|⟨n,h1,h2,q⟩
 ·simp_all
 rw[j1 om];dsimp only;obtain⟨r,hid⟩:=oh q;have t:=h _ r;generalize(bK s.ae id).1=j at*
 rw[h1,x8];by_cases p:j.left-1<=0
 ·rw[l9 p];have e:mb (s.ae.set n {j with left:=j.left-1}):=by grind [wA]
  have f:=λx=>vC (x:=x) (j':={j with left:=j.left-1}) hi h2 rr
  have i:(s.ae.set n {j with left:=j.left-1})[n]? = some {j with left:=j.left-1}:=H5 (c9.1 h2).1;show Lk (af.fh {s with ae:=s.ae.set n {j with left:=j.left-1}} id 3).1
  have o:eK (s.ae.set n {j with left:=j.left-1}) id=(n:Int):=by
   rcases ol (s.ae.set n {j with left:=j.left-1}) id with⟨_,g2⟩|⟨m,g1,g2,g3⟩
   ·exact(LB g2 _ (i7 i) hid).elim
   ·rw[g1];have g4:=(oh g3).2;have:m=n:=sU (l:=(s.ae.set n {j with left:=j.left-1}).map ax.id) e (a:=id) (by rw[A6,g2];simp_all) (by rw[A6,i];simp_all);rw[this]
  have d:∀x∈(s.ae.set n {j with left:=j.left-1}).eraseIdx n,x∈s.ae:=λx g=>by
   obtain⟨a,b⟩:=(FH e i).1 g;rcases(f x).1 a with rfl|⟨c,_⟩
   ·simp_all
   ·exact c
  unfold af.fh;dsimp only;rw[o,j1 om];dsimp only;cases(bK (s.ae.set n {j with left:=j.left-1}) id).1.bB with
  |false=>
   refine h.sub λx g=>d x ?_
   have:x∈(s.ae.set n {j with left:=j.left-1}).eraseIdx ((n:Int)).toNat:=g;simp_all
  |true=>
   refine h.sub λx g=>d x ?_
   have:x∈(af.du {s with ae:=s.ae.set n {j with left:=j.left-1}} (bK (s.ae.set n {j with left:=j.left-1}) id).1).ae.eraseIdx ((n:Int)).toNat:=g;simp_all [Ar]
 ·rw[j1 p];refine h.set (k:=n) (j:={j with left:=j.left-1}) ?_ rr;grind
def alS{s:af}(hi:eF s)(h:Lk s):Lk s.count:=by
 unfold af.count;have:∀(l:List UInt64) {s:af},eF s->Lk s->Lk (l.foldl fS s):=by
  intro l;induction l with
  |nil=>simp_all
  |cons a l ih=>exact λhi h=>ih (Ii hi a) (ad0 hi.eU h a)
 exact this _ (hi.same rr rr rr rr) h
def ahD{x:bM}(h:x.check=0):1<=x.dF:=by grind [bM.check,fJ]
def aiR{s:af}(a:∀j∈s.ae,j.x.check=0)(h:Lk s)(id:UInt64)(al:List BA):Lk (s.begin id al).1:=by
 unfold af.begin;rcases ol s.ae id with⟨h1,h2⟩|⟨n,h1,h2,b⟩
 ·simp_all
 rw[j1 om];dsimp only;have c:=a _ (oh b).1;generalize(bK s.ae id).1=j at*
 cases j.bB
 case true=>exact h
 dsimp only;cases decide ((al.length:Int)=j.x.count)
 ·exact h
 dsimp only;rcases j.x.total with⟨v,_|_⟩
 ·exact h
 dsimp only;rcases jw s.aH j.x.aa v with⟨t,e⟩
 dsimp only;cases decide (e=0)
 ·exact h
 dsimp only;rcases s.ar.gB id al j.x.cT with⟨p,e⟩
 dsimp only;cases decide (e=0)
 ·exact h
 refine h.set (k:=(eK s.ae id).toNat) (j:={j with bB:=true,left:=j.x.dF}) ?_ rr;have:=ahD c;grind
def Zv{t:fB}(hk:gi t.s)(h:Lk t.s):Lk t.next.1.s:=by
 unfold fB.next;cases(dD t.s t.cm).ok with
 |false=>exact h
 |true=>
  dsimp only;cases(eR t.s (dD t.s t.cm).id).ok with
  |false=>exact h
  |true=>
   dsimp only;generalize(eR t.s (dD t.s t.cm).id).l=l;generalize(eR t.s (dD t.s t.cm).id).al=al;have h1:Lk (eu t.s l):=Is l h;have a:eP (eu t.s l):=Dy l hk.eZ hk.bA;have h2:=aiR a.mh h1 (dD t.s t.cm).id al;grind
def Mb:∀(n:Nat) {B:List UInt64} {t:fB},zF B t->gi t.s->Lk t.s->Lk (jH n t).s
 |0,_,_,_,_,h=>h
 |n+1,B,t,h,hk,c=>by
  unfold jH
  rcases IH h with⟨e,d⟩|⟨u,b,e,a⟩
  ·simp_all
  ·have h1:=QV hk (by rw[e];exact a.bA)
   have h2:=Zv hk c
   rw[e]at h1 h2⊢
   exact Mb n a h1 h2
theorem ac8{s:af}(h:gi s)(a:Lk s):Lk s.oI:=
 Mb 128 (B:=[]) (t:=⟨s.count,0⟩) ⟨zy h.bA,j9 _,λ_ h=>(by cases h),F9,λ_ h=>(by cases h)⟩ ⟨zy h.bA,OV h.eZ h.bA,Vs h.eG⟩ (alS h.bA a)
theorem ae3{s:af}(h:Lk s)(x:bM):Lk (s.fv x).1:=by
 unfold af.fv;cases decide (x.check=0)
 ·exact h
 dsimp only;cases there s.aH x.aa
 ·exact h
 dsimp only;cases decide (32<=(s.ae.length:Int))
 case true=>exact h
 dsimp only;cases decide (s.next=18446744073709551615)
 case true=>exact h
 dsimp only;cases decide ((fq s.bg ⟨s.next,x.bC⟩).2=0)
 ·exact h
 intro j a;rcases s8.1 a with a|a
 ·exact h j a
 simp_all
def afu{s:af}(h:Lk s)(o:aC):Lk (kj s o).1:=by
 unfold kj;cases decide (o.kind=1)
 case true=>grind [ae3]
 dsimp only;cases decide (o.kind=2)
 case true=>exact alo h _ _
 dsimp only;cases decide (o.kind=3)
 case true=>
  dsimp only;unfold bI;cases seq o.aa aA
  case true=>exact h
  exact h
 dsimp only;cases decide (o.kind=9)
 case true=>exact h
 dsimp only;cases decide (o.kind=10)
 case true=>exact h
 dsimp only;cases decide (o.kind=11)
 case true=>
  dsimp only;unfold qb rm;exact Is _ (s:={s with ar:=(s.ar.fail o.aa).1}) h
 exact h
def alQ{s:af}(hk:gi s)(h:Lk s)(o:aC):Lk (apply s o).1:=by
 unfold apply;cases o.right
 ·exact h
 dsimp only;cases fJ o.kind 4 8
 case true=>exact h
 dsimp only;cases decide (o.kind=13)
 case true=>grind [ac8]
 dsimp only;have a:=afu h o;rcases b:kj s o with⟨t,id,e⟩
 rw[b]at a;dsimp only at a⊢;cases decide (e=0)
 ·exact h
 exact a
def amq:Lk af.new:=λ_ h=>(by cases h)
structure jd(s:af):Prop where
 k:gi s
 o:Ord s
 l:Lk s
def jd.apply{s:af}(h:jd s)(o:aC):jd (apply s o).1:=⟨amX h.k o,alU h.o o,alQ h.k h.l o⟩
theorem jd.new:jd af.new:=⟨anX,aeu,amq⟩
def jd.dZ{s:af}(h:jd s):jd s.dZ:=⟨ZQ h.k,aof h.o,h.l⟩
def jd.ar{s:af}(h:jd s):qa s.ar=true:=aic h.k h.o.n
def jd.aH{s:af}(h:jd s):uH s.aH=true:=afH h.k h.o.t
def af2{s:af}{o:aC}(h:(apply s o).2.e=0):o.right=true:=by
 unfold apply at h;cases a:o.right
 case true=>rfl
 rw[a]at h;cases h
def Sp(P:bM->Prop)(s:af):Prop:=∀j∈s.ae,P j.x
section
variable {P:bM→Prop}
theorem Sp.sub{s t:af}(h:Sp P s)(a:∀j∈t.ae,j∈s.ae):Sp P t:=λj b=>h j (a j b)
theorem Sp.set{s t:af}(h:Sp P s){k:Nat}{j:ax}(b:P j.x)(c:t.ae=s.ae.set k j):Sp P t:=λx a=>by
 rw[c]at a
 rcases x6 a with a|rfl
 ·exact h x a
 ·exact b
theorem Sp.at{s:af}(h:Sp P s){id:UInt64}(a:decide (eK s.ae id<0)=false):P (bK s.ae id).1.x:=by
 rcases ol s.ae id with⟨h1,_⟩|⟨n,_,h2,_⟩
 ·simp_all
 ·exact h _ (i7 h2)
theorem abe{s:af}(h:Sp P s)(id:UInt64)(k:Int):Sp P (s.stop id k).1:=by
 unfold af.stop;cases a:decide (eK s.ae id<0)
 case true=>exact h
 dsimp only;cases(bK s.ae id).1.bB with
 |false=>exact h
 |true=>
  refine h.set (k:=(eK s.ae id).toNat) (j:={(bK s.ae id).1 with bB:=false,left:=0}) (h.at a) ?_;show(s.du _).ae.set _ _=_
  grind [Ar]
theorem RT{s:af}(h:Sp P s)(id:UInt64)(k:Int):Sp P (s.fh id k).1:=by
 unfold af.fh;cases decide (eK s.ae id<0)
 case true=>exact h
 dsimp only;cases(bK s.ae id).1.bB with
 |false=>exact h.sub λj a=>uw a
 |true=>
  refine h.sub λj a=>?_
  have:j∈(s.du (bK s.ae id).1).ae.eraseIdx (eK s.ae id).toNat:=a;grind [Ar,uw]
theorem IP{k:Int}:∀(l:List UInt64) {s:af},Sp P s->Sp P (l.foldl (λs id=>(s.stop id k).1) s)
 | [],_,h=>h
 |a::l,_,h=>IP l (abe h a k)
theorem ZB{s:af}(h:Sp P s)(id:UInt64):Sp P (fS s id):=by
 unfold fS;cases b:decide (eK s.ae id<0)
 case true=>exact h
 dsimp only;have a:Sp P {s with ae:=s.ae.set (eK s.ae id).toNat {(bK s.ae id).1 with left:=(bK s.ae id).1.left-1}}:=h.set (j:={(bK s.ae id).1 with left:=(bK s.ae id).1.left-1}) (h.at b) rr;grind [RT]
theorem akR{s:af}(h:Sp P s):Sp P s.count:=by
 unfold af.count;have:∀(l:List UInt64) {s:af},Sp P s->Sp P (l.foldl fS s):=by
  intro l;induction l<;>grind [ZB]
 exact this _ (s:={s with round:=s.round+1}) h
theorem YU{s:af}(h:Sp P s)(id:UInt64)(al:List BA):Sp P (s.begin id al).1:=by
 unfold af.begin;cases a:decide (eK s.ae id<0)
 case true=>exact h
 dsimp only;have b:=h.at a;generalize(bK s.ae id).1=j at*
 cases j.bB
 case true=>exact h
 dsimp only;cases decide ((al.length:Int)=j.x.count)
 ·exact h
 dsimp only;rcases j.x.total with⟨v,_|_⟩
 ·exact h
 dsimp only;rcases jw s.aH j.x.aa v with⟨t,e⟩
 dsimp only;cases decide (e=0)
 ·exact h
 dsimp only;rcases s.ar.gB id al j.x.cT with⟨p,e⟩
 dsimp only;cases decide (e=0)
 ·exact h
 exact h.set (k:=(eK s.ae id).toNat) (j:={j with bB:=true,left:=j.x.dF}) b rr
theorem adL{t:fB}(h:Sp P t.s):Sp P t.next.1.s:=by
 unfold fB.next;cases(dD t.s t.cm).ok with
 |false=>exact h
 |true=>
  dsimp only;cases(eR t.s (dD t.s t.cm).id).ok with
  |false=>exact h
  |true=>
   dsimp only;generalize(eR t.s (dD t.s t.cm).id).l=l;generalize(eR t.s (dD t.s t.cm).id).al=al;have h1:Sp P (eu t.s l):=IP l h;grind [YU]
theorem XB:∀(n:Nat) {t:fB},Sp P t.s->Sp P (jH n t).s
 |0,_,h=>h
 |n+1,t,h=>by
  unfold jH
  have h1:=adL h
  rcases a:t.next with⟨u,b⟩
  rw[a]at h1
  cases b
  case true=>exact XB n h1
  exact h1
theorem aob{s:af}(h:Sp P s):Sp P s.oI:=XB 128 (t:=⟨s.count,0⟩) (akR h)
theorem aoi{s:af}(h:Sp P s){x:bM}(b:P x):Sp P (s.fv x).1:=by
 unfold af.fv;cases decide (x.check=0)
 ·exact h
 dsimp only;cases there s.aH x.aa
 ·exact h
 dsimp only;cases decide (32<=(s.ae.length:Int))
 case true=>exact h
 dsimp only;cases decide (s.next=18446744073709551615)
 case true=>exact h
 dsimp only;cases decide ((fq s.bg ⟨s.next,x.bC⟩).2=0)
 ·exact h
 intro j a;rcases s8.1 a with a|a
 ·exact h j a
 simp_all
theorem aiY{s:af}(h:Sp P s){o:aC}(a:P o.x):Sp P (kj s o).1:=by
 unfold kj;cases decide (o.kind=1)
 case true=>grind [aoi]
 dsimp only;cases decide (o.kind=2)
 case true=>exact RT h _ _
 dsimp only;cases decide (o.kind=3)
 case true=>
  dsimp only;unfold bI;cases seq o.aa aA
  case true=>exact h
  exact h
 dsimp only;cases decide (o.kind=9)
 case true=>exact h
 dsimp only;cases decide (o.kind=10)
 case true=>exact h
 dsimp only;cases decide (o.kind=11)
 case true=>
  dsimp only;unfold qb rm;exact IP _ (s:={s with ar:=(s.ar.fail o.aa).1}) h
 exact h
theorem aaN{s:af}(h:Sp P s){o:aC}(b:P o.x):Sp P (apply s o).1:=by
 unfold apply;cases o.right
 ·exact h
 dsimp only;cases fJ o.kind 4 8
 case true=>exact h
 dsimp only;cases decide (o.kind=13)
 case true=>grind [aob]
 dsimp only;have a:=aiY h b;rcases c:kj s o with⟨t,id,e⟩
 rw[c]at a;dsimp only at a⊢;cases decide (e=0)
 ·exact h
 exact a
end
def bR.oy(n:bR):Prop:=n.name.size<=6/\n.ao.length<=1/\∀p∈n.ao,p.k.size<=4/\p.v.size<=4
def bM.oy(x:bM):Prop:=x.aa.size<=6/\x.dv.length<=1/\∀t∈x.dv,t.key.size<=4/\t.bJ.length<=1/\∀v∈t.bJ,v.size<=4
structure Np(s:af):Prop where
 node:∀n∈s.ar.al,n.oy
 aH:∀p∈s.aH.map aB.aa,p.size<=6
theorem Np.ml{s t:af}(h:Np s)(k:jQ s t):Np t:=⟨by rw[k.al];exact h.node,by rw[k.qq];exact h.aH⟩
theorem WO{p:bf}(h:∀n∈p.al,n.oy)(name:BA)(up:Bool):∀n∈(p.turn name up).1.al,n.oy:=by
 unfold bf.turn;cases b:decide (p.at name<0)
 case true=>exact h
 dsimp only;cases(p.find name).1.up==up with
 |true=>exact h
 |false=>
  dsimp only;intro n a;rcases x6 a with a|rfl
  ·exact h n a
  ·show bR.oy {(p.find name).1 with up:=up}
   unfold bf.find;cases c:p.al.find? (λn=>seq n.name name)with
   |none=>exact⟨j9 _,j9 _,λ_ d=>(by cases d)⟩
   |some x=>exact h x (x7 c)
theorem aiD{p:bf}(h:∀n∈p.al,n.oy){n:bR}(b:n.oy):∀x∈(p.add n).1.al,x.oy:=by
 unfold bf.add;cases d_ n.name
 ·exact h
 dsimp only;cases iy n.ao
 ·exact h
 dsimp only;cases decide (0<=p.at n.name)
 case true=>exact h
 dsimp only;cases decide (16<=(p.al.length:Int))
 case true=>exact h
 dsimp only;intro x a;rcases s8.1 a with a|a
 ·grind
 ·rcases p9.1 a with rfl|a
  ·exact b
  grind
theorem ag6{t:List aB}(h:∀p∈t.map aB.aa,p.size<=6){aa:BA}(hp:aa.size<=6)(v:V4):∀p∈(gg t aa v).1.map aB.aa,p.size<=6:=by
 unfold gg;cases named aa with
 |false=>exact h
 |true=>
 dsimp only;cases !seq aa aA&&decide (fu t (jv aa)<0)with
 |true=>exact h
 |false=>
 dsimp only;have h2:∀e∈t,e.aa.size<=6:=λe a=>h e.aa (C8 a)
 cases decide (fu t aa<0)
 case true=>
  grind
 dsimp only;cases(cO t aa).1.b_.db v with
 |false=>exact h
 |true=>
  dsimp only;intro p b;obtain⟨e,a,rfl⟩:=y9.1 b;rcases x6 a with a|rfl
  ·simp_all
  ·show(cO t aa).1.aa.size<=6
   unfold cO;cases c:t.find? (λe=>seq e.aa aa)with
   |none=>exact j9 _
   |some x=>grind
theorem amT{s:af}(h:Np s){o:aC}(hp:o.aa.size<=6)(c:o.ao.length<=1)(b:∀p∈o.ao,p.k.size<=4/\p.v.size<=4):Np (kj s o).1:=by
 unfold kj;have a:Np (bz s o).1:=⟨h.node,ag6 h.aH hp o.v⟩;cases decide (o.kind=1)
 case true=>exact h.ml (Vf s _)
 dsimp only;cases decide (o.kind=2)
 case true=>exact h.ml (Fp s _ _)
 dsimp only;cases decide (o.kind=3)
 case true=>
  grind [bI]
 dsimp only;cases decide (o.kind=9)
 case true=>exact a
 dsimp only;cases decide (o.kind=10)
 case true=>exact⟨aiD h.node ⟨hp,c,b⟩,h.aH⟩
 dsimp only;cases decide (o.kind=11)
 case true=>
  dsimp only;unfold qb rm;refine Np.ml (s:={s with ar:=(s.ar.fail o.aa).1}) ⟨?_,h.aH⟩ (BM _ _);show∀n∈(s.ar.fail o.aa).1.al,n.oy
  unfold bf.fail;cases decide ((s.ar.turn o.aa false).2=0)<;>exact WO h.node _ _
 exact⟨WO h.node _ _,h.aH⟩
theorem akn{s:af}(h:Np s){o:aC}(hp:o.aa.size<=6)(c:o.ao.length<=1)(a:∀p∈o.ao,p.k.size<=4/\p.v.size<=4):Np (apply s o).1:=by
 unfold apply;cases o.right
 ·exact h
 dsimp only;cases fJ o.kind 4 8
 case true=>exact h
 dsimp only;cases decide (o.kind=13)
 case true=>exact h.ml (SM s)
 dsimp only;have b:=amT h hp c a;rcases d:kj s o with⟨t,id,e⟩
 rw[d]at b;dsimp only at b⊢;cases decide (e=0)
 ·exact h
 exact b.ml ⟨rr,rr⟩
structure nZ(s:af):Prop where
 j:Sp bM.oy s
 n:Np s
theorem cN.spec{o:aC}(h:cN o):o.x.oy:=⟨h.xp,h.sl,h.dv⟩
theorem nZ.apply{s:af}(h:nZ s){o:aC}(a:cN o):nZ (apply s o).1:=⟨aaN h.j a.spec,akn h.n a.aa a.ll a.gS⟩
theorem nZ.new:nZ af.new:=⟨λ_ h=>(by cases h),λ_ h=>(by cases h),λp hp=>by
 have:p=aA:=o6.1 hp
 rw[this];exact j9 _⟩
theorem nZ.dZ{s:af}(h:nZ s):nZ s.dZ:=⟨h.j,⟨h.n.node,h.n.aH⟩⟩
theorem nZ.iv{s:af}(h:nZ s):∀e∈s.aH,e.aa.size<=6:=λe a=>h.n.aH e.aa (C8 a)
def ahh{x:bM}(h:x.oy):x.put.size<=140:=by
 unfold bM.put;cases decide (x.check=0)
 ·grind [vy]
 have h1:=gh x.aa;have h2:=jW x.cT;have a:=cv (aG x.count);have b:=cv (aG x.bC);have c:=cv (aG x.dF);have d:=RJ h.2.1 h.2.2;have e:=h.1;grind
def aid{n:bR}(h:n.oy):n.put.size<=110:=by
 obtain⟨u,a⟩:∃u,n.put=bQ n.name++cH n.cap++gq n.ao++av u:=⟨_,rfl⟩;have h1:=gh n.name;have h2:=jW n.cap;have b:=PD h.2.1 h.2.2;have c:=h.1;grind [cv]
def PW{x:fY}(h:x.l.length<=32):x.put.size<=1000:=by
 unfold fY.put;have h1:=cv x.first;have h2:=cv (aG (x.l.length:Nat));have:=jV (f:=iu) (B:=30) (l:=x.l) (s:=av x.first++av (aG (x.l.length:Nat))) λs n _=>by
  grind [cv,iu]
 grind
def aiN{s:af}(b:nZ s)(hi:dw 256 s)(hp:∀x∈s.ar.places,x.node.size<=6):s.put.size<=60000:=by
 have a:=hi.sz;have i:=a.al;have a2:=a.places;have a3:=a.aH;have a4:=a.ae;have k:=jV (f:=kg) (B:=110) (l:=s.ar.al) (s:=av (aG (s.ar.al.length:Nat))) λt n c=>by
  have:=aid (b.n.node n c);grind [kg]
 have m:=jV (f:=ma) (B:=66) (l:=s.ar.places) (s:=s.ar.al.foldl kg (av (aG (s.ar.al.length:Nat)))++av (aG (s.ar.places.length:Nat))) λt x h=>by
  grind [cv,gh,jW,ma]
 have o:=jV (f:=nL) (B:=96) (l:=s.aH) (s:=av (aG (s.aH.length:Nat))) λt e d=>by
  have:=b.iv e d;grind [gh,jW,nL]
 have c1:=cv (aG (s.ar.al.length:Nat));have c2:=cv (aG (s.ar.places.length:Nat));have c3:=cv (aG (s.aH.length:Nat));have c4:=cv (aG (s.ae.length:Nat));have c5:=cv s.round;have c6:=cv s.next;have e1:=PW a.ev;have e2:=PW a.au;unfold af.put;have p:=jV (f:=iz) (B:=160) (l:=s.ae) (s:=av s.round++av s.next++s.ar.put++lv s.aH++av (aG (s.ae.length:Nat))) λt j g=>by
  have:=ahh (b.j j g);grind [cv,iz]
 grind [bf.put,lv]
def RW{α:Type}(f:α->UInt64):∀(eU:List UInt64) (L:List α),(∀x∈L,f x∈eU)->(∀a∈eU,(L.filter λx=>decide (f x=a)).length<=8)->L.length<=8*eU.length
 | [],L,h,_=>by
  cases L<;>grind [List.mem_cons_self]
 |a::eU,L,h,hb=>by
  have h1:=hb a j6
  have h2:=RW f eU (L.filter λx=>!decide (f x=a)) (λx d=>by
   grind) λb c=>r8 (List.Sublist.length_le (List.Sublist.filter _ List.filter_sublist)) (hb b (j3 _ c))
  have e:L.length=(L.filter λx=>decide (f x=a)).length+(L.filter λx=>!decide (f x=a)).length:=by
   clear h hb h1 h2
   induction L<;>grind
  grind
theorem jd.places{s:af}(h:jd s):s.ar.places.length<=256:=by
 have h1:=RW dt.aZ (s.ae.map ax.id) s.ar.places (λx c=>by
  obtain⟨j,b,e,_⟩:=h.k.eZ.nD x c;grind) λa d=>by
  obtain⟨j,b,rfl⟩:=y9.1 d;have h2:=h.k.eZ.fp j b;have f:(s.ar.of j.id).length=(s.ar.places.filter λx=>decide (x.aZ=j.id)).length:=by grind [bf.of]
  have g:=vn.1 (yc (h.k.eZ.mh j b)).2.1;omega
 rw[c8]at h1;have:=h.k.bA.len;omega
def jd.names{s:af}(h:jd s)(a:nZ s):∀x∈s.ar.places,x.node.size<=6:=λx b=>by
 obtain⟨j,_,_,_,_,n,c,e,_⟩:=h.k.eZ.nD x b
 rw[<-e];exact(a.n.node n c).1
def jd.amY{s:af}(h:jd s){m:Nat}(hi:dw m s):dw 256 s:=
 ⟨hi.bA,⟨hi.sz.al,h.places,hi.sz.aH,hi.sz.ae,hi.sz.bg,hi.sz.ev,hi.sz.au,hi.sz.spec,hi.sz.ao⟩,hi.lf⟩
structure ft(s:af):Prop where
 f:jd s
 i:dw 256 s
 t:nZ s
structure nT(o:aC):Prop where
 r:o.right=true
 w:o.oM=true
 s:cN o
def ft.apply{s:af}(h:ft s){o:aC}(a:cN o):ft (apply s o).1:=⟨h.f.apply o,(h.f.apply o).amY (CC h.i a.Ag),h.t.apply a⟩
theorem ft.put{s:af}(h:ft s):s.put.size<=60000:=aiN h.t h.i (h.f.names h.t)
def ft.psz{s:af}(h:ft s):s.mI:=by
 have a:=h.i.sz;refine⟨⟨a.al,by have:=a.places;omega,λn b=>?_,λx c=>by have:=h.f.names h.t x c;omega⟩,a.aH,λe d=>by have:=h.t.iv e d;omega,a.ae,λj g=>(a.spec j g).1,by have:=a.ev;omega,by have:=a.au;omega⟩;have:=h.t.n.node n b;exact⟨by have:=this.1;omega,by have:=this.2.1;omega,λp hp=>by have:=this.2.2 p hp;omega⟩
def Dn(d:aQ):Prop:=d.down=true->d.s0=aA/\d.s1=aA
theorem Dn.fR(d:aQ)(k:Int):Dn (d.fR k):=λ_=>⟨rr,rr⟩
theorem ak6(d:aQ)(f:Int)(g:BA×BA->BA×BA):(d.gU f g).down=d.down:=by grind [aQ.gU]
def Dn.ed{d:aQ}(h:Dn d)(f:Int)(eS:Bool)(g:BA×BA->BA×BA):Dn (d.ed f eS g).1:=by
 unfold aQ.ed;grind [Dn,ak6,Dn.fR]
theorem Dn.dh{d:aQ}(h:Dn d)(f:Int)(s:BA):Dn (d.dh f s).1:=by
 unfold aQ.dh;cases iU f&&!d.down&&d.full s
 case true=>exact h
 exact h.ed f true _
def Er{T:aQ->Prop}:∀(l:List (aQ->aQ×Int)) {d:aQ},T d->(∀g∈l,∀d:aQ,T d->T (g d).1)->T (eQ d l).1
 | [],_,h,_=>h
 |g::l,d,h,a=>by
  have h1:=a g j6 d h
  rw[v_]
  cases decide ((g d).2=0)
  case true=>exact Er l h1 λx b=>a x (j3 _ b)
  exact h1
theorem aib{t:ay}(h:Dn t.d):Dn t.lg.1.d:=by
 unfold ay.lg;have c:=Er (T:=Dn) [λd=>d.cut (1-t.f) 0,λd=>d.dh (1-t.f) (gn (t.dR+1) t.s),λd=>d.dO (1-t.f),λd=>d.cut t.f 0] h λg b d a=>by
  simp only[p9,o7,H3]at b;rcases b with rfl|rfl|rfl|rfl
  ·exact a.ed _ _ _
  ·exact a.dh _ _
  ·exact a.ed _ _ _
  ·exact a.ed _ _ _
 grind
theorem adY{t:ay}(h:Dn t.d)(s:af)(a:bn)(r:BA):Dn (t.mg s a r).1.d:=by
 unfold ay.mg;have e:=Er (T:=Dn) [λd=>d.dh t.f r,λd=>d.dO t.f] h λg b d c=>by
  simp only[p9,o7,H3]at b;rcases b with rfl|rfl
  ·exact c.dh _ _
  ·exact c.ed _ _ _
 grind
def aiK{t:ay}(h:Dn t.d)(o:aC):Dn (t.do o).1.d:=by grind [ay.do,adY,aib]
structure gk(t:ay):Prop where
 ti:Ti ft nT t
 us:kT t
 dn:Dn t.d
theorem gk.do{t:ay}(h:gk t){o:aC}(a:cN o):gk (t.do o).1:=⟨ab0 h.ti (h.ti.s.apply a) λh0 b=>⟨af2 h0,b,a⟩,Dh h.us o,aiK h.dn o⟩
theorem gk.fR{t:ay}(h:gk t)(k:Int):gk {t with d:=t.d.fR k}:=⟨adD h.ti k,NU h.us k,Dn.fR _ _⟩
theorem alH:ft af.new:=⟨jd.new,⟨jd.new.k.bA,⟨j9 _,j9 _,by show 1<=16;omega,j9 _,j9 _,j9 _,j9 _,λ_ h=>(by cases h),λ_ h=>(by cases h)⟩,λ_ h=>(by cases h)⟩,nZ.new⟩
theorem ako{key:BA}{n:Int}:Dn (ay.new key n).1.d:=by
 unfold ay.new;cases decide ((key.size:Int)<1)||decide ((64:Int)<key.size)||decide (n<1)||decide (1048576<n)with
 |true=>exact λh=>(by cases h)
 |false=>
  have a:=Er (T:=Dn) [λd=>d.dh 0 (gn 1 af.new),λd=>d.dO 0] (d:=aQ.new n) (λh=>(by cases h)) λg b d c=>by
   simp only[p9,o7,H3]at b;rcases b with rfl|rfl
   ·exact c.dh _ _
   ·exact c.ed _ _ _
  rcases f:eQ (aQ.new n) [λd=>d.dh 0 (gn 1 af.new),λd=>d.dO 0]with⟨d,e⟩
  rw[f]at a;dsimp only;cases decide (e=0)
  case true=>exact a
  exact λh=>(by cases h)
theorem gk.new{key:BA}{n:Int}{t:ay}{no:Int}(h:ay.new key n=(t,no))(h0:no=0):gk t:=by
 have h1:(ay.new key n).1=t:=by rw[h]
 have h2:(ay.new key n).2=0:=by simp_all
 refine⟨?_,RQ h h0,?_⟩
 ·grind [amQ,alH]
 grind [ako]
abbrev mc(c:List aO):Prop:=pT gk c
structure pU(x:aW):Prop where
 op:cN x.1.o
 ud:∀k o,x.2=some (k,o)->cN o
 mZ:x.1.kind=7->x.1.n<=1000000000
def aav{t:ay}(h:gk t){f k:Int}(a:f<=1000000000):gk {t with d:=t.d.mZ f k}:=
 ⟨abL h.ti f k,⟨⟨h.us.d.b_,h.us.d.size,⟨by show -1<=max f (-1);omega,by show max f (-1)<=1000000000;omega⟩⟩,h.us.key⟩,h.dn⟩
def Jl{R:ay->ay×bn}(d:∀t,gk t->gk (R t).1){c:List aO}(h:mc c){x:aW}(b:pU x):mc (dj R c x.1 x.2).1:=
 Yl gk.new (λ_ a k=>a.fR k) d h (λ_ a=>a.do b.op) (λ_ a=>a.do FV) (λk o e _ a=>a.do (b.ud k o e)) λf _ a=>aav a (b.mZ f)
def Gy{t:ay}(h:gk t){o:aC}(a:cN o):qu t o:=
 Ml t o h.us.d h.ti.s.i om a.sz (λ_=>JM _ _ (by have:=h.ti.s.i.sz.al;omega) (by have:=h.ti.s.i.sz.places;omega)) λ_=>h.ti.s.psz
def IF(k:Int):Int:=IntKind.i64.wrap (((aG k).toNat:Nat):Int)
def cZ.dZ(n:cZ):cZ:=⟨n.round,n.id,IF n.kind⟩
def fY.dZ(x:fY):fY:=⟨x.first,x.l.map cZ.dZ⟩
def af.gP(s:af):af:={s with bg:=gV s.ae [],dX:=s.dX.dZ,dy:=s.dy.dZ}
def Cc:∀(l:List ax) (q:List QE),(gV l q).length<=q.length+l.length
 | [],q=>j2 _
 |j::l,q=>by
  unfold gV
  cases j.bB
  case true=>have:=Cc l q;grind
  have:=Cc l (fq q ⟨j.id,j.x.bC⟩).1
  grind [z_,Df]
def ft.gP{s:af}(h:ft s):ft s.gP:=by
 have a:=h.f.dZ;have hk:gi s.gP:=⟨⟨a.k.bA.eU,a.k.bA.dL,a.k.bA.fp,a.k.bA.len,a.k.bA.gp,a.k.bA.kK,a.k.bA.jT⟩,a.k.eZ.same rr rr rr,a.k.eG⟩;have b:=h.i.sz;refine⟨⟨hk,⟨h.f.o.n,h.f.o.t⟩,h.f.l⟩,⟨hk.bA,⟨b.al,b.places,b.aH,b.ae,?_,?_,?_,b.spec,b.ao⟩,h.i.lf⟩,⟨h.t.j,⟨h.t.n.node,h.t.n.aH⟩⟩⟩
 ·show(gV s.ae []).length<=32
  have:=Cc s.ae [];have:=b.ae;grind
 ·show(s.dX.l.map cZ.dZ).length<=32
  rw[c8];exact b.ev
 ·show(s.dy.l.map cZ.dZ).length<=32
  rw[c8];exact b.au
def nT.ne{o:aC}(h:nT o):seq o.put aA=false:=UY h.r
def nT.frame{o:aC}(h:nT o):gH o=eN (jO++o.put):=by unfold gH;rw[h.ne]
def nT.len{o:aC}(h:nT o):(jO++o.put).size<=65536:=by
 have:=yn h.s;rw[cD,show jO.size=1 from rfl];omega
def ft.CN{s:af}(h:ft s)(g:UInt64):(jG++av g++s.put).size<=65536:=by
 have:=h.put;have:=cv g;rw[cD,cD,show jG.size=1 from rfl];omega
inductive rR:BA->Prop
 |eS (c:BA) (n:Nat) (a:n<(eN c).size) (b:c.size<=65536):rR ((eN c).extract 0 n)
 |pQ (g:UInt64) (s:af) (l:List aC) (d:ft s) (e:∀o∈l,nT o) (c:BA) (n:Nat) (a:n<(eN c).size) (b:c.size<=65536):rR (ib g s l++(eN c).extract 0 n)
def aaw(c:BA)(a:c.size<=65536):0<(eN c).size:=by
 have h1:(eN c).size=(Fr.put c.data.toList).length:=by rw[<-qK];rfl
 simp_all [Fr.yj]
def tx.aN{b:BA}(h:tx ft nT b):rR b:=by
 have d:(aA:BA).size<=65536:=by grind [vy]
 have h0:=aaw aA d;cases h with
 |nil=>
  have:=rR.eS aA 0 h0 d;grind [KP]
 |pQ h=>
  obtain⟨g,s,l,a,e,rfl⟩:=h.wJ;have:=rR.pQ g s l a e aA 0 h0 d;simp_all
 |eS h r n c=>
  obtain⟨g,s,l,a,e,rfl⟩:=h.wJ;obtain⟨o,f,rfl⟩:=r;rw[f.frame]at c⊢;exact .pQ g s l a e _ n c f.len
 |cut h n c=>
  obtain⟨g,s,a,rfl⟩:=h;exact .eS _ n c (a.CN g)
def Vj(g:UInt64)(s:af){l:List aC}{q:Nat}{o:aC}(h:l[q]? = some o):ib g s (l.take (q+1))=ib g s (l.take q)++gH o:=by grind [ib,List.take_succ]
def ac3{s:af}{l:List aC}{q:Nat}{o:aC}(h:l[q]? = some o):mS s (l.drop q)=match decide ((apply s o).2.e=0)with
 |false=>(s,0)
 |true=>((mS (apply s o).1 (l.drop (q+1))).1,(mS (apply s o).1 (l.drop (q+1))).2+1):=by
 obtain⟨a,rfl⟩:=c9.1 h
 rw[o8 a]
 rfl
end
section
open Go.RowKit Go.Proofs.Tryz
def cZ.put(n:cZ):BA:=av n.round++av n.id++av (aG n.kind)
def Wx:∀(s:BA) (x:cZ),iu s x=s++x.put:=λ_ _=>rfl
abbrev um(x:fY):BA:=av x.first++av (aG (x.l.length:Nat))
def anc(s:BA)(first:UInt64)(k:Nat):List cZ->List (Nat×aI)
 | []=>[(0,kM s k),(5,.rows 2 [.agg [pu first,.sl true []]] true none 72)]
 |x::M=>[(0,kM s k),(5,.rows 2 [.agg [pu first,.aS 2 0 (M.length+1)]] true none 72),(2,.rows 3 ((x::M).map cZ.pv) true none 248)]
def uO{s:BA}{i:Nat}{x:fY}(h:At s i x.put)(b:s.size<=gy)(E:x.l.length<=32)(j nx:Nat)(o:Nat.beq nx j=false):LC 419 [.lp j 0 0] [(j,kM s i)] nx λr d=>r=x.dZ.pv/\d=[(j,some (kM s (i+x.put.size))),(j,none)]:=by
 refine fX (js:=[j]) (bs:=[kM s i]) (args:=[.lp 0 0 0]) func419 rr rr ?_ rr ⟨⟨rr,fH s i⟩,trivial⟩ rr ?_
 ·unfold cW;rw[o];rfl
 have A:At s i (x.l.foldl iu (um x)):=h;have B:At s i (um x):=A.head Wx;refine bu.bH [0] (n:=200) (oj B.l b 0 _ rr) rr ⟨rr,trivial⟩<|bu.bH [0] (n:=200) (oj B.r b 0 _ rr) rr ⟨rr,trivial⟩ ?_;have g:i+x.put.size=eg iu i (um x) x.l x.l.length:=At.whole.symm;have t:i+(av x.first).size+(av (aG (x.l.length:Nat))).size=eg iu i (um x) x.l 0:=by
  show _=i+(um x).size
  rw[cD];omega
 rw[g,t,pE om];refine cV.bA (ι:={p:Nat×List cZ//p.1<=x.l.length/\p.2=(x.l.take p.1).map cZ.dZ}) ⟨λp=>[(11,qU p.1.1)],[0,2,3,10],λp=>anc s x.first (eg iu i (um x) x.l p.1.1) p.1.2,[1]⟩ (λp=>x.l.length-p.1.1) ⟨(0,[]),j9 _,rr⟩ ?_ ?_
 ·exact bP
 rintro⟨⟨q,L⟩,hq,m⟩;dsimp only at hq m;have k:L.length=q:=by rw[m,c8,l8];omega
 refine aj.aN (λh1=>?_) (λh1=>?_)
 ·have f:q<x.l.length:=fE h1;obtain⟨y,C⟩:=cw f;obtain⟨a,dE⟩:=A.sP Wx C;have u:=a.r;rw[cD,<-B4]at u;have c:eg iu i (um x) x.l q+(av y.round).size+(av y.id).size+(av (aG y.kind)).size=eg iu i (um x) x.l (q+1):=by
   rw[dE,show y.put=av y.round++av y.id++av (aG y.kind)from rr,cD,cD];omega
  have D:(x.l.take (q+1)).map cZ.dZ=L++[y.dZ]:=by rw[fW C,l6,m];rfl
  cases L with
  |nil=>
   refine an<|bu.bH [0] (n:=200) (oj a.l.l b 0 _ rr) rr ⟨rr,trivial⟩<|bu.bH [0] (n:=200) (oj a.l.r b 0 _ rr) rr ⟨rr,trivial⟩<|fi.bH [0] (n:=200) (oj u b 0 _ rr) rr ⟨rr,trivial⟩ ?_;rw[c];refine cj.intro (IF y.kind) rfl<|aq.mk ⟨(eE nu [] y.dZ (by show 0<67108864;omega)).1,λh=>(by cases h)⟩ ?_;refine az<|aF (lQ q)<|⟨⟨(q+1,[y.dZ]),f,D.symm⟩,sw 2 26,by show x.l.length-(q+1)<x.l.length-q;omega,?_⟩;exact eB ⟨⟨BB.br rr (fH s _),rr⟩,⟨BB.rn rr rr,rr⟩,⟨BB.br rr (nu.cf [y.dZ]),rr⟩,trivial⟩
  |cons z M=>
   refine an<|bu.bH [0] (n:=200) (oj a.l.l b 0 _ rr) rr ⟨rr,trivial⟩<|bu.bH [0] (n:=200) (oj a.l.r b 0 _ rr) rr ⟨rr,trivial⟩<|fi.bH [0] (n:=200) (oj u b 0 _ rr) rr ⟨rr,trivial⟩ ?_;rw[c];refine cj.intro (IF y.kind) rfl<|dS.l (aq.mk (eE nu (z::M) y.dZ (by rw[k];omega)) ?_);refine az<|aF (lQ q)<|⟨⟨(q+1,z::(M++[y.dZ])),f,D.symm⟩,sw 2 26,by show x.l.length-(q+1)<x.l.length-q;omega,?_⟩;have e:(M++[y.dZ]).length+1=M.length+1+1:=by rw[i6];rfl
   exact eB ⟨⟨BB.br rr (fH s _),rr⟩,⟨BB.rn (by show _=some (aI.rows 2 [PV.agg [pu x.first,PV.aS _ 0 ((M++[y.dZ]).length+1)]] true none _);rw[e];rfl) rr,rr⟩,⟨BB.br (by show some (aI.rows 3 ((z::M).map cZ.pv++[cZ.pv y.dZ]) true none _)=some (aI.rows 3 ((z::(M++[y.dZ])).map cZ.pv) true none _);rw[w9,w9,l6];rfl) (nu.cf _),rr⟩,trivial⟩
 ·have h1:q=x.l.length:=by
   have:¬q<x.l.length:=jN h1;omega
  subst h1;have v:x.dZ.l=L:=by rw[m,s9];rfl
  have w:x.dZ.pv=.agg [pu x.first,sl cZ.pv L]:=by unfold fY.pv;rw[v];rfl
  rw[w];cases L with
  |nil=>
   exact ab<|ey<|kY (0,j) rr rr (fH s _)<|az rr
  |cons z M=>
   refine ab<|ey<|fw.mk ⟨[(0,j)],(z::M).length+100,_,_,a_ (ke (a_ rr (a_ (dC (l:=z::M) rr rr nu.bL rr rr) rr))) rr,rr,rr,⟨fk.mk ⟨_,rr,fH s _,.inr rr⟩,trivial⟩,rr,rr⟩
def Hi(j:ax):∀(l:List ax) (q:List QE),gV (l++[j]) q=match j.bB with|true=>gV l q|false=>(fq (gV l q) ⟨j.id,j.x.bC⟩).1
 | [],q=>by
  show gV [j] q=_
  unfold gV
  cases j.bB<;>rfl
 |x::l,q=>by
  show gV (x::(l++[j])) q=_
  unfold gV
  cases x.bB
  case true=>exact Hi j l q
  exact Hi j l _
def ax.put(j:ax):BA:=av j.id++j.x.put++av (aG j.left)
def Rp:∀(s:BA) (x:ax),iz s x=s++x.put:=λ_ _=>rfl
abbrev pK(x:af):BA:=av x.round++av x.next++x.ar.put++lv x.aH++av (aG (x.ae.length:Nat))
abbrev Tn(x:af)(J Q:PV):PV:=.agg [pu x.round,pu x.next,sl bR.pv x.ar.al,sl dt.pv x.ar.places,sl aB.pv x.aH,J,Q,.at (.int .u64 0),.sl true [],.at (.int .u64 0),.sl true []]
def stH(s:BA)(x:af)(k:Nat)(Q:PV):List ax->List (Nat×aI)
 | []=>[(0,kM s k),(5,.rows 11 [Tn x (.sl true []) Q] true none 74)]
 |y::M=>[(0,kM s k),(5,.rows 11 [Tn x (.aS 2 0 (M.length+1)) Q] true none 74),(2,.rows 12 ((y::M).map ax.pv) true none 90)]
def amg{t:List aB}(h:tH t){q:Nat}{e:aB}(hq:0<q)(b:t[q]? = some e):e.aa≠aA:=by
 intro h0;obtain⟨a,rfl⟩:=c9.1 b;have:=E0.1 h.gp 0 q om a hq;rw[h0]at this;rw[Im]at this;cases this
def aaG{s:BA}{i:Nat}{x:af}(C:ft x)(h:At s i x.put)(A:s.size<=gy)(j nx:Nat)(U:Nat.beq nx j=false):LC 400 [.lp j 0 0] [(j,kM s i)] nx λr d=>r=x.gP.pv/\d=[(j,some (kM s (i+x.put.size))),(j,none)]:=by
 refine fX (js:=[j]) (bs:=[kM s i]) (args:=[.lp 0 0 0]) func400 rr rr ?_ rr ⟨⟨rr,fH s i⟩,trivial⟩ rr ?_
 ·unfold cW;rw[U];rfl
 have D:=C.i.sz;have hF:At s i (x.ae.foldl iz (pK x)):=h.l.l;have N:At s i (pK x):=hF.head Rp;have F:=h.l.r;have G:=h.r;have a1:=N.l.l.l.r;have a2:=N.l.l.r;have a3:=N.l.r;have a4:=N.r;rw[cD,<-B4]at a2;rw[cD,cD,<-B4,<-B4]at a3;rw[cD,cD,cD,<-B4,<-B4,<-B4]at a4;have V:=aeK a2 A D.al (λn H=>by
  have h1:=C.t.n.node n H;exact⟨by have:=h1.1;omega,(C.f.o.n.uk n H).2,λp hp=>by have:=h1.2.2 p hp;omega⟩) D.places (λy O=>by have:=C.f.names C.t y O;omega) C.f.ar
 have W:=ajp a3 A D.aH (λe X=>by have:=C.t.iv e X;omega) (λq e hq X=>amg C.f.o.t hq X) C.f.aH;refine bu.bH [0] (n:=200) (oj N.l.l.l.l A 0 _ rr) rr ⟨rr,trivial⟩<|bu.bH [0] (n:=200) (oj a1 A 0 _ rr) rr ⟨rr,trivial⟩<|aJ V rfl<|az<|bu.bH [0] (n:=200) (Bn s _ _ 0 _ rr) rr ⟨rr,trivial⟩<|aJ W rfl<|az<|bu.bH [0] (n:=200) (Bn s _ _ 0 _ rr) rr ⟨rr,trivial⟩<|bu.bH [0] (n:=200) (oj a4 A 0 _ rr) rr ⟨rr,trivial⟩ ?_;have Y:i+(av x.round).size+(av x.next).size+x.ar.put.size+(lv x.aH).size+(av (aG (x.ae.length:Nat))).size=eg iz i (pK x) x.ae 0:=by
  show _=i+(pK x).size
  rw[cD,cD,cD,cD];omega
 rw[Y,pE (by have:=D.ae;omega)];refine cV.bA (ι:={p:Nat×List ax×PV//p.1<=x.ae.length/\p.2.1=x.ae.take p.1/\((p.2.2=.sl true []/\gV p.2.1 []=[])\/p.2.2=sl QE.pv (gV p.2.1 []))}) ⟨λp=>[(55,qU p.1.1)],[0,2,3,54],λp=>stH s x (eg iz i (pK x) x.ae p.1.1) p.1.2.2 p.1.2.1,[1]⟩ (λp=>x.ae.length-p.1.1) ⟨(0,[],.sl true []),j9 _,rr,.inl ⟨rr,rr⟩⟩ ?_ ?_
 ·exact bP
 rintro⟨⟨q,L,Q⟩,hq,S,E⟩;dsimp only at hq S E;have hj32:=D.ae;have B:L.length=q:=by rw[S,l8];omega
 have hql:(gV L []).length<=32:=by have:=Cc L [];rw[B9]at this;omega
 refine aj.aN (λh1=>?_) (λh1=>?_)
 ·have m:q<x.ae.length:=fE h1;obtain⟨y,O⟩:=cw m;obtain⟨Z,dE⟩:=hF.sP Rp O;have I:=i7 O;have hck:=C.f.k.eZ.mh y I;have hlf:=(C.i.lf y I).1;have hlk:=C.f.l y I;have ht:=C.t.j y I;have u:=λnx=>ait Z A hlf hlk (λk hk=>O_ hk hck A ⟨by have:=ht.1;omega,λt htm=>by
   have:=ht.2.2 t htm;exact⟨om,λv hv=>by have:=this.2.2 v hv;omega⟩⟩) 0 nx
  have H:x.ae.take (q+1)=L++[y]:=by rw[fW O,S]
  have w:=Hi y L [];have P:eg iz i (pK x) x.ae q+(av y.id++y.x.put++av (aG y.left)).size=eg iz i (pK x) x.ae (q+1):=dE.symm;have g:∀R,R=gV L []->PC 181 [sl QE.pv R,(⟨y.id,y.x.bC⟩:QE).pv] (·=Vp (fq R ⟨y.id,y.x.bC⟩)):=λR e=>ET R ⟨y.id,y.x.bC⟩ (by rw[e];omega)
  rcases y with⟨a,b,T,c⟩
  dsimp only at w g;rw[P]at u;rcases E with⟨rfl,E⟩|rfl
  ·cases L with
   |nil=>
    cases T
    case true=>
     refine an<|bu.bH [0] (n:=200) (u _ rr) rr ⟨rr,trivial⟩<|aq.mk ⟨(eE fz [] (⟨a,b,true,c⟩:ax) (by show 0<67108864;omega)).1,λh=>(by cases h)⟩ ?_;refine ab<|aF (lQ q)<|⟨⟨(q+1,[(⟨a,b,true,c⟩:ax)],.sl true []),m,H.symm,.inl ⟨rr,w.trans E⟩⟩,sw 2 70,by show x.ae.length-(q+1)<x.ae.length-q;omega,?_⟩;exact eB ⟨⟨BB.br rr (fH s _),rr⟩,⟨BB.rn rr rr,rr⟩,⟨BB.br rr (fz.cf [(⟨a,b,true,c⟩:ax)]),rr⟩,trivial⟩
    refine an<|bu.bH [0] (n:=200) (u _ rr) rr ⟨rr,trivial⟩<|aq.mk ⟨(eE fz [] (⟨a,b,false,c⟩:ax) (by show 0<67108864;omega)).1,λh=>(by cases h)⟩ ?_;refine an<|ak (g [] E.symm) rfl<|aF (lQ q)<|⟨⟨(q+1,[(⟨a,b,false,c⟩:ax)],sl QE.pv (fq [] ⟨a,b.bC⟩).1),m,H.symm,.inr (congrArg (λl=>sl QE.pv l) (w.trans (by rw[E])).symm)⟩,sw 2 70,by show x.ae.length-(q+1)<x.ae.length-q;omega,?_⟩;exact eB ⟨⟨BB.br rr (fH s _),rr⟩,⟨BB.rn rr rr,rr⟩,⟨BB.br rr (fz.cf [(⟨a,b,false,c⟩:ax)]),rr⟩,trivial⟩
   |cons z M=>
    cases T
    case true=>
     refine an<|bu.bH [0] (n:=200) (u _ rr) rr ⟨rr,trivial⟩<|dS.l (aq.mk (eE fz (z::M) (⟨a,b,true,c⟩:ax) (by rw[B];omega)) ?_);refine ab<|aF (lQ q)<|⟨⟨(q+1,z::(M++[(⟨a,b,true,c⟩:ax)]),.sl true []),m,H.symm,.inl ⟨rr,w.trans E⟩⟩,sw 2 70,by show x.ae.length-(q+1)<x.ae.length-q;omega,?_⟩;have e:(M++[(⟨a,b,true,c⟩:ax)]).length+1=M.length+1+1:=by rw[i6];rfl
     exact eB ⟨⟨BB.br rr (fH s _),rr⟩,⟨BB.rn (by show _=some (aI.rows 11 [PV.agg [pu x.round,pu x.next,sl bR.pv x.ar.al,sl dt.pv x.ar.places,sl aB.pv x.aH,PV.aS _ 0 ((M++[_]).length+1),.sl true [],.at (.int .u64 0),.sl true [],.at (.int .u64 0),.sl true []]] true none _);rw[e];rfl) rr,rr⟩,⟨BB.br (by show some (aI.rows 12 ((z::M).map ax.pv++[ax.pv (⟨a,b,true,c⟩:ax)]) true none _)=some (aI.rows 12 ((z::(M++[(⟨a,b,true,c⟩:ax)])).map ax.pv) true none _);rw[w9,w9,l6];rfl) (fz.cf _),rr⟩,trivial⟩
    refine an<|bu.bH [0] (n:=200) (u _ rr) rr ⟨rr,trivial⟩<|dS.l (aq.mk (eE fz (z::M) (⟨a,b,false,c⟩:ax) (by rw[B];omega)) ?_);refine an<|ak (g [] E.symm) rfl<|aF (lQ q)<|⟨⟨(q+1,z::(M++[(⟨a,b,false,c⟩:ax)]),sl QE.pv (fq [] ⟨a,b.bC⟩).1),m,H.symm,.inr (congrArg (λl=>sl QE.pv l) (w.trans (by rw[E])).symm)⟩,sw 2 70,by show x.ae.length-(q+1)<x.ae.length-q;omega,?_⟩;have e:(M++[(⟨a,b,false,c⟩:ax)]).length+1=M.length+1+1:=by rw[i6];rfl
    exact eB ⟨⟨BB.br rr (fH s _),rr⟩,⟨BB.rn (by show _=some (aI.rows 11 [PV.agg [pu x.round,pu x.next,sl bR.pv x.ar.al,sl dt.pv x.ar.places,sl aB.pv x.aH,PV.aS _ 0 ((M++[_]).length+1),sl QE.pv (fq [] ⟨a,b.bC⟩).1,.at (.int .u64 0),.sl true [],.at (.int .u64 0),.sl true []]] true none _);rw[e];rfl) rr,rr⟩,⟨BB.br (by show some (aI.rows 12 ((z::M).map ax.pv++[ax.pv (⟨a,b,false,c⟩:ax)]) true none _)=some (aI.rows 12 ((z::(M++[(⟨a,b,false,c⟩:ax)])).map ax.pv) true none _);rw[w9,w9,l6];rfl) (fz.cf _),rr⟩,trivial⟩
  ·cases L with
   |nil=>
    cases T
    case true=>
     refine an<|bu.bH [0] (n:=200) (u _ rr) rr ⟨rr,trivial⟩<|aq.mk ⟨(eE fz [] (⟨a,b,true,c⟩:ax) (by show 0<67108864;omega)).1,λh=>(by cases h)⟩ ?_;refine ab<|aF (lQ q)<|⟨⟨(q+1,[(⟨a,b,true,c⟩:ax)],sl QE.pv (gV [] [])),m,H.symm,.inr (congrArg (λl=>sl QE.pv l) w.symm)⟩,sw 2 70,by show x.ae.length-(q+1)<x.ae.length-q;omega,?_⟩;exact eB ⟨⟨BB.br rr (fH s _),rr⟩,⟨BB.rn rr rr,rr⟩,⟨BB.br rr (fz.cf [(⟨a,b,true,c⟩:ax)]),rr⟩,trivial⟩
    refine an<|bu.bH [0] (n:=200) (u _ rr) rr ⟨rr,trivial⟩<|aq.mk ⟨(eE fz [] (⟨a,b,false,c⟩:ax) (by show 0<67108864;omega)).1,λh=>(by cases h)⟩ ?_;refine an<|ak (g _ rr) rfl<|aF (lQ q)<|⟨⟨(q+1,[(⟨a,b,false,c⟩:ax)],sl QE.pv (fq (gV [] []) ⟨a,b.bC⟩).1),m,H.symm,.inr (congrArg (λl=>sl QE.pv l) w.symm)⟩,sw 2 70,by show x.ae.length-(q+1)<x.ae.length-q;omega,?_⟩;exact eB ⟨⟨BB.br rr (fH s _),rr⟩,⟨BB.rn rr rr,rr⟩,⟨BB.br rr (fz.cf [(⟨a,b,false,c⟩:ax)]),rr⟩,trivial⟩
   |cons z M=>
    cases T
    case true=>
     refine an<|bu.bH [0] (n:=200) (u _ rr) rr ⟨rr,trivial⟩<|dS.l (aq.mk (eE fz (z::M) (⟨a,b,true,c⟩:ax) (by rw[B];omega)) ?_);refine ab<|aF (lQ q)<|⟨⟨(q+1,z::(M++[(⟨a,b,true,c⟩:ax)]),sl QE.pv (gV (z::M) [])),m,H.symm,.inr (congrArg (λl=>sl QE.pv l) w.symm)⟩,sw 2 70,by show x.ae.length-(q+1)<x.ae.length-q;omega,?_⟩;have e:(M++[(⟨a,b,true,c⟩:ax)]).length+1=M.length+1+1:=by rw[i6];rfl
     exact eB ⟨⟨BB.br rr (fH s _),rr⟩,⟨BB.rn (by show _=some (aI.rows 11 [PV.agg [pu x.round,pu x.next,sl bR.pv x.ar.al,sl dt.pv x.ar.places,sl aB.pv x.aH,PV.aS _ 0 ((M++[_]).length+1),sl QE.pv (gV (z::M) []),.at (.int .u64 0),.sl true [],.at (.int .u64 0),.sl true []]] true none _);rw[e];rfl) rr,rr⟩,⟨BB.br (by show some (aI.rows 12 ((z::M).map ax.pv++[ax.pv (⟨a,b,true,c⟩:ax)]) true none _)=some (aI.rows 12 ((z::(M++[(⟨a,b,true,c⟩:ax)])).map ax.pv) true none _);rw[w9,w9,l6];rfl) (fz.cf _),rr⟩,trivial⟩
    refine an<|bu.bH [0] (n:=200) (u _ rr) rr ⟨rr,trivial⟩<|dS.l (aq.mk (eE fz (z::M) (⟨a,b,false,c⟩:ax) (by rw[B];omega)) ?_);refine an<|ak (g _ rr) rfl<|aF (lQ q)<|⟨⟨(q+1,z::(M++[(⟨a,b,false,c⟩:ax)]),sl QE.pv (fq (gV (z::M) []) ⟨a,b.bC⟩).1),m,H.symm,.inr (congrArg (λl=>sl QE.pv l) w.symm)⟩,sw 2 70,by show x.ae.length-(q+1)<x.ae.length-q;omega,?_⟩;have e:(M++[(⟨a,b,false,c⟩:ax)]).length+1=M.length+1+1:=by rw[i6];rfl
    exact eB ⟨⟨BB.br rr (fH s _),rr⟩,⟨BB.rn (by show _=some (aI.rows 11 [PV.agg [pu x.round,pu x.next,sl bR.pv x.ar.al,sl dt.pv x.ar.places,sl aB.pv x.aH,PV.aS _ 0 ((M++[_]).length+1),sl QE.pv (fq (gV (z::M) []) ⟨a,b.bC⟩).1,.at (.int .u64 0),.sl true [],.at (.int .u64 0),.sl true []]] true none _);rw[e];rfl) rr,rr⟩,⟨BB.br (by show some (aI.rows 12 ((z::M).map ax.pv++[ax.pv (⟨a,b,false,c⟩:ax)]) true none _)=some (aI.rows 12 ((z::(M++[(⟨a,b,false,c⟩:ax)])).map ax.pv) true none _);rw[w9,w9,l6];rfl) (fz.cf _),rr⟩,trivial⟩
 ·have h1:q=x.ae.length:=by
   have:¬q<x.ae.length:=jN h1;omega
  subst h1;have hLc:L=x.ae:=by rw[S,s9]
  have h':At s i (x.ae.foldl iz (pK x)++x.dX.put++x.dy.put):=h;have F:At s (eg iz i (pK x) x.ae x.ae.length) x.dX.put:=by rw[At.whole];exact h'.l.r
  have G:At s (eg iz i (pK x) x.ae x.ae.length+x.dX.put.size) x.dy.put:=by
   have:=h'.r;rw[cD,<-B4]at this;rw[At.whole];exact this
  have J:i+x.put.size=eg iz i (pK x) x.ae x.ae.length+x.dX.put.size+x.dy.put.size:=by
   rw[At.whole,show x.put=x.ae.foldl iz (pK x)++x.dX.put++x.dy.put from rr,cD,cD];omega
  have K:x.gP.pv=.agg [pu x.round,pu x.next,sl bR.pv x.ar.al,sl dt.pv x.ar.places,sl aB.pv x.aH,sl ax.pv L,sl QE.pv (gV L []),pu x.dX.first,sl cZ.pv x.dX.dZ.l,pu x.dy.first,sl cZ.pv x.dy.dZ.l]:=by rw[hLc];rfl
  rcases E with⟨rfl,E⟩|rfl
  ·rw[E]at K;rw[J,K];cases L with
   |nil=>
    exact ab<|bu.bH [0] (n:=200) (uO F A D.ev 0 _ rr) rr ⟨rr,trivial⟩<|bu.bH [0] (n:=200) (uO G A D.au 0 _ rr) rr ⟨rr,trivial⟩<|ey<|kY (0,j) rr rr (fH s _)<|az rr
   |cons z M=>
    refine ab<|bu.bH [0] (n:=200) (uO F A D.ev 0 _ rr) rr ⟨rr,trivial⟩<|bu.bH [0] (n:=200) (uO G A D.au 0 _ rr) rr ⟨rr,trivial⟩<|ey<|fw.mk ⟨[(0,j)],(z::M).length+100,_,_,a_ (ke (a_ rr (a_ rr (a_ rr (a_ rr (a_ rr (a_ (dC (l:=z::M) rr rr fz.bL rr rr) (a_ rr (a_ rr (a_ rr (a_ rr (a_ rr rr)))))))))))) rr,rr,rr,⟨fk.mk ⟨_,rr,fH s _,.inr rr⟩,trivial⟩,rr,rr⟩
  ·rw[J,K];cases L with
   |nil=>
    exact ab<|bu.bH [0] (n:=200) (uO F A D.ev 0 _ rr) rr ⟨rr,trivial⟩<|bu.bH [0] (n:=200) (uO G A D.au 0 _ rr) rr ⟨rr,trivial⟩<|ey<|kY (0,j) rr rr (fH s _)<|az rr
   |cons z M=>
    refine ab<|bu.bH [0] (n:=200) (uO F A D.ev 0 _ rr) rr ⟨rr,trivial⟩<|bu.bH [0] (n:=200) (uO G A D.au 0 _ rr) rr ⟨rr,trivial⟩<|ey<|fw.mk ⟨[(0,j)],(z::M).length+100,_,_,a_ (ke (a_ rr (a_ rr (a_ rr (a_ rr (a_ rr (a_ (dC (l:=z::M) rr rr fz.bL rr rr) (a_ rr (a_ rr (a_ rr (a_ rr (a_ rr rr)))))))))))) rr,rr,rr,⟨fk.mk ⟨_,rr,fH s _,.inr rr⟩,trivial⟩,rr,rr⟩
theorem py.below{P:Program}{G:World->Prop}{f:FuncId}{args:List PV}{bs:List (Nat×aI)}{nx:Nat}(a:∀args w,(callFunc f args).run P w=.ok (.enter f args) w)
 (h:∀(vs:Array Value) (w:World),vs.size=args.length->CallsD P f vs .returning w λe u w'=>u=.returning/\e=.returned (.tuple #[])/\Below w.heap.size w w'):py P G f args bs nx λr d=>r=.aU []/\d=[]:=
 ⟨a,fun{S F hp c vs} hG j b hb i=>(h _ _ (by simpa using i.length)).mono λe u w' ⟨h1,h2,g⟩=>⟨h1,.aU [],[],.tuple #[],⟨w',od c.w w' c.Z,c.hb⟩,h2,rr,⟨rr,rr⟩,GH b.fC g,(II b g).up λ_ h=>h.1,⟨[],rr,rr⟩⟩⟩
set_option linter.all false in
def aod(a b:Value)(w:World):CallsD prog 399 #[a,b] .returning w λe u w'=>u=.returning/\e=.returned (.tuple #[])/\Below w.heap.size w w':=by
 refine callsD_of_wpS func399 rr λd cs c=>?_
 apply wpS_seq;apply wpS_region;simp[wpOpsS,go_sem,recoverD,c,ntmps399,Exit.thenS,Instr.typeAssert,underlying492];apply wpS_seq;apply wpS_region;simp[wpOpsS,go_sem,recoverD,c,ntmps399,Exit.thenS];refine wpS_cond (t:=false) (by simp[Act.eval,Array.replicate]) ?_;simp only[O4,if_false];refine wpS_of_wp (wp_skip ?_);have hb:=GZ w (.cells #[] 492);cases d;simp_all [bodyPostS,results,results399]
def XO(c:List PV)(hp:c.length=2)(nx:Nat):py prog GT 399 c [] nx λr d=>r=.aU []/\d=[]:=
 py.below (enters_of func399 rr rr) λvs w hv=>by
  rw[hp]at hv
  obtain⟨l⟩:=vs
  match l,hv with
  | [a,b],_=>exact aod a b w
abbrev af.z:af:=ay.z.s
def rC(s:af):af×Bool:=match s.gP.right with
 |true=>(s.gP,true)
 |false=>(af.z,false)
def ft.XZ{s:af}(h:ft s):zM s:=by
 have a:=h.i.sz;refine⟨by have:=a.al;omega,by have:=a.places;omega,λn b=>?_,by have:=a.aH;omega,λe c=>by have:=h.t.iv e c;omega,by have:=a.bg;omega,by have:=a.ae;omega,λj d=>(a.spec j d).1⟩;have:=h.t.n.node n b;exact⟨by have:=this.1;omega,by have:=this.2.1;omega,λp hp=>by have:=this.2.2 p hp;omega⟩
def ft.fp{s:af}(h:ft s):∀j∈s.ae,j.x.count<=4611686018427387904:=λj a=>by
 have:=vn.1 (yc (h.f.k.eZ.mh j a)).2.1
 omega
def adC{s:af}(h:ft s):PC 378 [st s.put] (·=.aU [(rC s).1.pv,bo (rC s).2]):=by
 have c:=h.put;have a:=λnx=>aaG (s:=s.put) (i:=0) h (At.aci _) (by show _<=9007199254740992;omega) 5 nx
 rw[j7]at a;have b:PC 22 [s.gP.pv] (·=bo s.gP.right):=Me s.gP h.gP.XZ (TO s.gP h.gP.XZ h.gP.fp);unfold rC;refine vG func378 rfl<|bu.bH [5] (n:=200) (a _ rr) rr ⟨rr,trivial⟩<|aj.t rr ?_;cases hb:s.gP.right
 case true=>
  rw[hb]at b;refine ak b rfl<|ab<|pJ.mk ⟨[],_,trivial,XO _ rr _,?_⟩;rintro _ _ ⟨rfl,rfl⟩;exact ah
 rw[hb]at b;refine ak b rfl<|an<|pJ.mk ⟨[],_,trivial,XO _ rr _,?_⟩;rintro _ _ ⟨rfl,rfl⟩;exact ah
def akv{b:BA}(hb:b.size<=maxLen)(h:Lib.hasPrefix b.data.toList jG.data.toList=false):PC 344 [st b] (·=.aU [pu 0,af.z.pv,bo false]):=by
 have a:=Ch b jG hb (by decide);rw[h]at a;exact aw func344<|ak a rfl<|an<|ah
def Nf{s:af}(h:ft s)(g:UInt64){b:BA}(hb:b=jG++av g++s.put):PC 344 [st b] (·=.aU [pu g,(rC s).1.pv,bo (rC s).2]):=by
 have c:=h.CN g;rw[<-hb]at c;have a:=Ch b jG (r8 c (by decide)) (by decide);rw[show Lib.hasPrefix b.data.toList jG.data.toList=true by rw[hb,H6];exact Yz _ _]at a;have e:At b 1 (av g):=by rw[hb];exact(At.zero (jG++av g) s.put).r
 have j:=ju e (by show _<=9007199254740992;omega);have f:=adC h;have i:b.size=1+(av g).size+s.put.size:=by rw[hb,cD,cD];rfl
 have d:b.extract (1+(av g).size) b.size=s.put:=by
  have:=(At.behind (jG++av g) s.put).ext;rw[cD jG,show jG.size=1 from rr,<-hb,<-i]at this;exact this
 clear hb;generalize s.put=sp at*
 subst d;generalize rC s=r at*
 refine aw func344<|ak a rfl<|ab<|ak j rfl<|ab<|aq.mk (show(0:Int)<=((1+(av g).size:Nat):Int)/\((1+(av g).size:Nat):Int)<=(b.size:Int)by omega) ?_;exact ak f rfl<|az<|ah
abbrev sL(t:ay)(n:Nat)(b:Bool):PV:=.aU [t.pv,i64 (n:Nat),bo b]
def aeo{d:aQ}(h:d.Sz){f:Int}{c:BA}{n:Nat}(i:n<(eN c).size)(j:c.size<=65536)(k:d.read f=(eN c).extract 0 n):PC 290 [d.pv,i64 f] (·=sL ay.z 0 false):=by
 have a:=zD d h f;rw[k]at a;have l:(eN c).size<=c.size+8:=FK c;have h1:((eN c).extract 0 n).size<=65544:=by grind [ByteArray.size_extract]
 have e:=YG (p:=aA) i j (by rw[pi];exact r8 h1 (by decide));rw[pi]at e;have g:=akv (b:=aA) (by decide) rr;exact aw func290<|ak a rfl<|ak e rfl<|ak g rfl<|an<|ah
def YJ:∀(l:List aC) {s:af},ft s->(∀o∈l,cN o)->ft (mS s l).1
 | [],_,h,_=>h
 |o::l,s,h,a=>by
  unfold mS
  cases decide ((apply s o).2.e=0)
  ·exact h
  exact YJ l (h.apply (a o j6)) λx b=>a x (j3 _ b)
def Sw(g:UInt64)(s:af)(l:List aC)(c:BA):∃q,ib g s l++c=aA++eN (jG++av g++s.put)++q:=by
 obtain⟨r,e⟩:=GU g s l 0;have e:ib g s l=eN (jG++av g++s.put)++r:=e;grind [pi,ByteArray.append_assoc]
def acE(g:UInt64)(s:af){l:List aC}{q:Nat}{o:aC}(a:l[q]? = some o)(b:gH o=eN (jO++o.put))(c:BA):∃r,ib g s l++c=ib g s (l.take q)++eN (jO++o.put)++r:=by
 obtain⟨r,e⟩:=GU g s l (q+1);rw[Vj g s a,b]at e;exact⟨r++c,by rw[e,H6]⟩
def Mv{d:aQ}(a:d.Sz){f:Int}:(d.read f).size<=4000000000000:=by
 have h1:=a.h0;have h2:=a.s0;have b:=a.h1;have c:=a.s1;unfold aQ.read;cases decide (f=0)
 case true=>grind
 dsimp only;cases decide (f=1)
 case true=>grind
 exact j9 _
def ado{d:aQ}(m:d.Sz){f:Int}{g:UInt64}{s:af}{l:List aC}(r:ft s)(u:s.gP.right=false)(v:∀o∈l,nT o){c:BA}{n:Nat}(w:n<(eN c).size)(x:c.size<=65536)(t:d.read f=ib g s l++(eN c).extract 0 n):PC 290 [d.pv,i64 f] (·=sL ay.z 0 false):=by
 have a:=zD d m f;have h:=Mv m (f:=f);obtain⟨q,e⟩:=Sw g s l ((eN c).extract 0 n);rw[t,e]at a h;have j:=EM (p:=aA) (b:=jG++av g++s.put) (q:=q) (r.CN g) (r8 h (by decide));have i:=Nf r g rr;have k:rC s=(af.z,false):=by grind [rC]
 rw[k]at i;exact aw func290<|ak a rfl<|ak j rfl<|ak i rfl<|an<|ah
def alZ{d:aQ}(Q:d.Sz){f:Int}{g:UInt64}{s:af}{l:List aC}(J:ft s)(X:s.gP.right=true)(K:∀o∈l,nT o){c:BA}{n:Nat}(R:n<(eN c).size)(T:c.size<=65536)(U:d.read f=ib g s l++(eN c).extract 0 n):PC 290 [d.pv,i64 f] (·=sL ⟨aA,d,(mS s.gP l).1,f,g⟩ (ib g s (l.take (mS s.gP l).2)).size true):=by
 have B:=zD d Q f;have L:=Mv Q (f:=f);have V:4000000000000<=maxLen:=by decide
 obtain⟨q,e⟩:=Sw g s l ((eN c).extract 0 n);rw[U]at B L;have j:=EM (p:=aA) (b:=jG++av g++s.put) (q:=q) (J.CN g) (by grind);rw[<-e]at j;have C:=Nf J g rr;have M:rC s=(s.gP,true):=by grind [rC]
 rw[M]at C;have h0:((aA++eN (jG++av g++s.put)).size:Nat)=(ib g s (l.take 0)).size:=by rw[pi];rfl
 rw[h0]at j;have v:=YG (p:=ib g s l) R T om;have A:∀q o,l[q]? = some o->PC 343 [st (ib g s l++(eN c).extract 0 n),i64 ((ib g s (l.take q)).size:Nat)] (·=.aU [st (jO++o.put),i64 ((ib g s (l.take (q+1))).size:Nat),bo true]):=λq o t=>by
  have h:=K o (i7 t);obtain⟨r,e⟩:=acE g s t h.frame ((eN c).extract 0 n);have:=EM (p:=ib g s (l.take q)) (b:=jO++o.put) (q:=r) h.len (by grind);rw[<-e,<-h.frame,<-Vj g s t]at this;exact this
 have D:∀(S:af),ft S->∀o∈l,PC 345 [S.pv,st (jO++o.put)] (·=.aU [(apply S o).1.pv,bo (decide ((apply S o).2.e=0))]):=λS y o t=>by
  have h:=K o t;obtain⟨W,hi⟩:=DI h.r;have E:o.put=o.bytes W:=by unfold aC.put;rw[h.r,hi.k];rfl
  exact adr S y.i om h.s.sz (λ_=>JM _ _ (by have:=y.i.sz.al;omega) (by have:=y.i.sz.places;omega)) hi h.r h.s.Mp h.w E (by have:=h.len;omega)
 have z:=λS=>ai6 S
 generalize Y:ib g s l++(eN c).extract 0 n=text at*
 obtain⟨I,P,F⟩:∃a b,mS s.gP l=(a,b):=⟨_,_,rfl⟩;rw[F];have v:PC 343 [st text,i64 ((ib g s (l.take l.length)).size:Nat)] (·=.aU [st aA,i64 0,bo false]):=by simp_all
 refine aw func290<|ak B rfl<|ak j rfl<|ak C rfl<|ab<|cV.bA (ι:={p:Nat×af//p.1<=l.length/\ft p.2/\(I,P)=((mS p.2 (l.drop p.1)).1,(mS p.2 (l.drop p.1)).2+p.1)}) ⟨λp=>[(5,i64 ((ib g s (l.take p.1.1)).size:Nat))],[1,4,7],λp=>[(1,.rows 22 [(⟨aA,d,p.1.2,f,g⟩:ay).pv] true none 76)],[]⟩ (λp=>l.length-p.1.1) ⟨(0,s.gP),j9 _,J.gP,F.symm⟩ ?_ ?_
 ·exact bP
 rintro⟨⟨q,S⟩,hq,y,x⟩;dsimp only at hq y x;by_cases G:q<l.length
 ·obtain⟨o,t⟩:∃o,l[q]? = some o:=cw G;have H:=i7 t;have j:=A q o t;have u:=D S y o H;have m:=ac3 (s:=S) t;have N:=(K o H).s;cases hb:decide ((apply S o).2.e=0)
  case true=>
   rw[hb]at u m;dsimp only at m;rw[m]at x;refine ak j rfl<|ak u rfl<|ab<|⟨⟨(q+1,(apply S o).1),G,y.apply N,by grind⟩,id,by show l.length-(q+1)<l.length-q;omega,?_⟩;exact bP
  rw[hb]at u m;dsimp only at m;rw[m]at x;obtain rfl:I=S:=congrArg Prod.fst x;obtain rfl:P=q:=(congrArg Prod.snd x).trans (j7 q);exact ak j rfl<|ak u rfl<|an<|ah
 ·have O:q=l.length:=om
  subst O;rw[r9 (j2 _)]at x;obtain rfl:I=S:=congrArg Prod.fst x;obtain rfl:P=l.length:=(congrArg Prod.snd x).trans (j7 _);have z:=z I;exact ak v rfl<|ak z rfl<|an<|ah
def Oc(d:aQ)(f:Int)(S:af)(b:BA):Prop:=(f=0\/f=1)/\ft S/\iH ft nT b/\∃r,d.read f=b++r
abbrev JU(d:aQ)(S:af)(f:Int)(g:UInt64):ay:=⟨aA,d,S,f,g⟩
theorem EN{d:aQ}(m:d.Sz){f:Int}(u:f=0\/f=1)(q:rR (d.read f)):PC 290 [d.pv,i64 f] (·=sL ay.z 0 false)\/∃S g b,Oc d f S b/\PC 290 [d.pv,i64 f] (·=sL (JU d S f g) b.size true):=by
 generalize a:d.read f=text at q;cases q with
 |eS c n h i=>exact .inl (aeo m h i a)
 |pQ g s l j k c n h i=>
  cases t:s.gP.right
  ·exact .inl (ado m j t k h i a)
  refine .inr ⟨(mS s.gP l).1,g,ib g s (l.take (mS s.gP l).2),⟨u,?_,adH j λo p=>k o (u6 p),?_⟩,alZ m j t k h i a⟩
  ·exact YJ l j.gP λo p=>(k o p).s
  ·obtain⟨r,e⟩:=GU g s l (mS s.gP l).2;exact⟨r++(eN c).extract 0 n,by rw[a,<-H6,<-e]⟩
theorem ahg{d:aQ}(h:d.Sz)(h0:rR (d.read 0))(h1:rR (d.read 1)):PC 233 [d.pv] (·=sL ay.z 0 false)\/∃f S g b,Oc d f S b/\PC 233 [d.pv] (·=sL (JU d S f g) b.size true):=by
 have l:∃z,z=ay.z:=⟨_,rr⟩;obtain⟨z,l⟩:=l;rcases EN h (.inl rfl) h0 with c|⟨o,g0,p,q,c⟩
 ·rcases EN h (.inr rfl) h1 with a|⟨i,g1,j,k,a⟩
  ·exact .inl<|aw func233<|ak c rfl<|ak a rfl<|ab<|ah
  ·refine .inr ⟨1,i,g1,j,k,?_⟩;exact aw func233<|ak c rfl<|ak a rfl<|an<|ah
 ·rcases EN h (.inr rfl) h1 with a|⟨i,g1,j,k,a⟩
  ·refine .inr ⟨0,o,g0,p,q,?_⟩;exact aw func233<|ak c rfl<|ak a rfl<|ab<|ah
  ·by_cases m:g0.toNat<g1.toNat
   ·refine .inr ⟨1,i,g1,j,k,?_⟩;exact aw func233<|ak c rfl<|ak a rfl<|aj.t (B1.2 m)<|an<|ah
   ·refine .inr ⟨0,o,g0,p,q,?_⟩;exact aw func233<|ak c rfl<|ak a rfl<|aj.f (λe=>m (B1.1 e))<|ab<|ah
section
variable {key h0 s0 h1 s1:BA}{size cy bx file:Int}{s:af}{dR:UInt64}{d1:aQ}(hst:PC 232 [(⟨size,h0,s0,h1,s1,true,cy,bx⟩:aQ).pv] (·=d1.pv))
include hst
theorem Zh(kl:PC 233 [d1.pv] (·=sL ay.z 0 false)):PC 163 [(⟨key,⟨size,h0,s0,h1,s1,true,cy,bx⟩,s,file,dR⟩:ay).pv] (·=.aU [(⟨key,⟨size,h0,s0,h1,s1,true,cy,bx⟩,s,file,dR⟩:ay).pv,i64 7]):=aw func163<|ab<|ak hst rfl<|ak kl rfl<|an<|ah
variable {S:af}{f:Int}{g:UInt64}{n:Nat}{rd:BA}(kl:PC 233 [d1.pv] (·=sL (JU d1 S f g) n true))(hrd:PC 229 [d1.pv,i64 f] (·=st rd))
include kl hrd
theorem ajd(a:¬n<rd.size):PC 163 [(⟨key,⟨size,h0,s0,h1,s1,true,cy,bx⟩,s,file,dR⟩:ay).pv] (·=.aU [(⟨key,d1,S,f,g⟩:ay).pv,i64 0]):=aw func163<|ab<|ak hst rfl<|ak kl rfl<|ab<|ak hrd rfl<|aj.f (λe=>a (B1.1 e))<|ab<|ah
theorem aas(a:n<rd.size){d2:aQ}(b:PC 234 [d1.pv,i64 f,i64 (n:Nat)] (·=.aU [d2.pv,i64 0])):PC 163 [(⟨key,⟨size,h0,s0,h1,s1,true,cy,bx⟩,s,file,dR⟩:ay).pv] (·=.aU [(⟨key,d2,S,f,g⟩:ay).pv,i64 0]):=aw func163<|ab<|ak hst rfl<|ak kl rfl<|ab<|ak hrd rfl<|aj.t (B1.2 a)<|an<|ak b rfl<|aj.t rfl<|ab<|ah
theorem ac6(a:n<rd.size){d2:aQ}{e2:Int}(b:PC 234 [d1.pv,i64 f,i64 (n:Nat)] (·=.aU [d2.pv,i64 e2]))(c:e2≠0):PC 163 [(⟨key,⟨size,h0,s0,h1,s1,true,cy,bx⟩,s,file,dR⟩:ay).pv] (·=.aU [(⟨key,d2,s,file,dR⟩:ay).pv,i64 e2]):=aw func163<|ab<|ak hst rfl<|ak kl rfl<|ab<|ak hrd rfl<|aj.t (B1.2 a)<|an<|ak b rfl<|aj.f c<|an<|ah
end
theorem abq{t:ay}(h:gk t):∃(u:ay) (e:Int),u.key=t.key/\gk u/\PC 163 [t.pv] (·=.aU [u.pv,i64 e]):=by
 cases A:t.d.down
 ·exact⟨t,15,rr,h,LY A⟩
 obtain⟨s0,s1⟩:=h.dn A;have a:t.d.start.Us:=⟨h.us.d.b_,h.us.d.size,h.us.d.cy⟩;have v:Dn t.d.start:=λq=>(by cases q)
 have r0:rR (t.d.start.read 0):=(Fi.whole h.ti.d.f0).aN;have r1:rR (t.d.start.read 1):=(Fi.whole h.ti.d.f1).aN;have o:∀f,f=0\/f=1->t.d.file f=(t.d.start.read f,aA):=λf c=>by
  rcases c with rfl|rfl
  ·show(t.d.h0,t.d.s0)=(t.d.h0++t.d.s0,aA);rw[s0,xO]
  ·show(t.d.h1,t.d.s1)=(t.d.h1++t.d.s1,aA);rw[s1,xO]
 have hst:=aiE t.d;have hst:PC 232 [t.d.pv] (·=t.d.start.pv):=hst;have B:∀f,(t.d.start.read f).size<=1000000000000:=λf=>by
  have J:=a.b_;unfold aQ.b_ at J;unfold aQ.read;cases decide (f=0)
  case true=>dsimp only;rw[cD];omega
  dsimp only;cases decide (f=1)
  case true=>dsimp only;rw[cD];omega
  exact j9 _
 have C:=ahg a.sz r0 r1;have w:=λf=>zD t.d.start a.sz f
 have x:=λf n K=>Tb t.d.start a f n K
 have D:=fun(f:Int) c (b r:BA) (hb:iH ft nT b) (E:t.d.file f=(b++r,aA)) (S:af) (p:ft S) (g:UInt64)=>akN h.ti c hb E p g
 have F:=fun(f:Int) c (b:BA) (hb:iH ft nT b) (E:t.d.file f=(b,aA)) (S:af) (p:ft S) (g:UInt64)=>agN h.ti c hb E p g
 have hk:=h.us.key;generalize t.d.start=d1 at*
 obtain⟨key,⟨size,h0,L,h1,M,down,cy,bx⟩,s,file,dR⟩:=t;dsimp only at A;subst A;rcases C with kl|⟨f,S,g,b,⟨c,p,hb,r,G⟩,kl⟩
 ·exact⟨_,7,rr,h,Zh hst kl⟩
 ·have i:=o f c;have hrd:=w f;by_cases j:b.size<(d1.read f).size
  ·have k:=x f (b.size:Nat) (by have:=B f;omega);rw[G]at i;obtain⟨y,z⟩:=D f c b r hb i S p g;have l:=a.cut f (b.size:Nat);have m:Dn (d1.cut f (b.size:Nat)).1:=v.ed f false (lZ (b.size:Nat));rcases hq:d1.cut f (b.size:Nat)with⟨d2,e2⟩
   rw[hq]at y z l m k;by_cases H:e2=0
   ·subst H;exact⟨⟨key,d2,S,f,g⟩,0,rr,⟨y rr,⟨l,hk⟩,m⟩,aas hst kl hrd j k⟩
   ·exact⟨⟨key,d2,s,file,dR⟩,e2,rr,⟨z H,⟨l,hk⟩,m⟩,ac6 hst kl hrd j k H⟩
  ·have I:r=aA:=by
    rw[G,cD]at j;have h0:r.size=0:=om
    exact ByteArray.size_eq_zero_iff.1 h0
   rw[G,I,xO]at i;exact⟨⟨key,d1,S,f,g⟩,0,rr,⟨F f c b hb i S p g,⟨a,hk⟩,v⟩,ajd hst kl hrd j⟩
theorem AY(t:ay):∃r:ay×Int,r.1.key=t.key/\(gk t->gk r.1/\PC 86 [t.pv] (·=.aU [r.1.pv,(bn.ef r.2).pv])):=by
 by_cases h:gk t
 ·obtain⟨u,e,hk,a,b⟩:=abq h;refine⟨(u,e),hk,λ_=>⟨a,?_⟩⟩;exact aw func86<|ak b rfl<|ah
 ·exact⟨(t,0),rr,λq=>(h q).elim⟩
noncomputable def RS(t:ay):ay×bn:=((Classical.choose (AY t)).1,.ef (Classical.choose (AY t)).2)
theorem abA(t:ay):(RS t).1.key=t.key:=(Classical.choose_spec (AY t)).1
theorem anC(t:ay):∃e,(RS t).2=.ef e:=⟨_,rr⟩
theorem xS(t:ay)(h:gk t):gk (RS t).1:=((Classical.choose_spec (AY t)).2 h).1
theorem BW(t:ay)(h:gk t):so RS t:=((Classical.choose_spec (AY t)).2 h).2
def SV.pure{P:Program}{G:World->Prop}{M n nx m:Nat}{c:Code}{s:AS}{k:Ex->Nat->AS->Prop}(t:Nat){p r:PV}{l:List Nat}(d:s.bD t=some p)(f:bL [] m s.hp p=some (r,l))(h:SV P G M n c nx ⟨da s.bD t (some r),fx s.hp l⟩ k):SV P G M n c nx s k:=⟨λhG g a=>by
 refine h.h hG g (cx:=jc s.hp _ l) ⟨a.dT.fx l,a.size,λt' p' e=>?_,a.defers⟩
 by_cases b:t'=t
 ·subst b
  have e:da s.bD t' (some r) t'=some p':=e
  rw[fc]at e;cases e
  obtain⟨v,h1,h2⟩:=a.bD _ p d
  exact⟨v,h1,bW.ext _ (KF _ []) (Ay a.dT l m f (λ_ h=>h) h2)⟩
 ·have e:da s.bD t (some r) t'=some p':=e
  rw[fU _ _ b]at e
  obtain⟨v,h1,h2⟩:=a.bD _ _ e
  exact⟨v,h1,bW.ext _ (qV _ _ _) h2⟩⟩
def aht(c:List aO)(e:cK):∀n∈c,PC 162 [n.t.pv,.ip [.fn 83 [.ip e.pv.cells 0]] 0] (·=.aU [({n.t with d:=n.t.d.mZ e.n e.bx}:ay).pv,bn.z.pv]):=λn _=>
 UA n.t dx.one (abO n.t.d e)
def anv(c:List aO)(e:cK)(a:c.length<=60000000):PC 81 [sl aO.pv c,e.pv] (·=iX (ij c e.aD λt=>({t with d:=t.d.mZ e.n e.bx},bn.z))):=by
 refine Ga func81 rr rr (o9 rr)<|SV.seq cz cM<|SV.pure 3 (m:=200) rr rr (SV.of cz cM ?_);exact aJ (Mt (g:=83) (cs:=[.ip e.pv.cells 0]) dx.one) rfl<|aJ (CA c e.aD om dx.one (λt=>({t with d:=t.d.mZ e.n e.bx},bn.z)) (aht c e)) rfl<|az<|ah
end
section
open Go.RowKit
theorem Dp(t:cr){o:aC}(h:cN o):pU (fr t o):=by
 refine⟨cN.z,λk o' e=>?_,λe=>absurd (show(4:Int)=7 from e) (by decide)⟩;obtain⟨_,rfl⟩:=Lj e;exact h
def rW(e:cK)(a:cN e.o)(b:e.n<=1000000000):pU (e,none):=⟨a,λ_ _ h=>(by cases h),λ_=>b⟩
def Ev(x:bN):pU (x.fK true):=by
 have a:=qY x;have h0:(0:Int)<=1000000000:=by decide
 unfold bN.fK;generalize x.kind.toNat%24=k;unfold bN.eX;cases decide (k<4)with
 |true=>exact rW _ cN.z h0
 |false=>
 dsimp only;cases decide (k=4)&&true with
 |true=>exact rW _ cN.z (by grind)
 |false=>
 dsimp only;cases decide (k=5)&&true with
 |true=>exact rW _ cN.z h0
 |false=>
 dsimp only;cases decide (k=6)&&true with
 |true=>exact rW _ cN.z h0
 |false=>
 dsimp only;cases decide (k<10)&&true with
 |true=>exact rW _ cN.z h0
 |false=>
 dsimp only;cases decide (k=10)with
 |true=>exact rW _ cN.z (by simp_all)
 |false=>
 dsimp only;cases decide (k=11)with
 |true=>grind [Dp]
 |false=>
 dsimp only;cases decide (k=12)with
 |true=>grind [Dp]
 |false=>
 dsimp only;cases decide (k=13)with
 |true=>exact rW _ a h0
 |false=>
 dsimp only;cases(fA x.op).2 with
 |false=>exact rW _ a h0
 |true=>grind [Dp]
theorem akl(name:BA){o:aC}(h:cN o):pU (mJ name o):=by
 unfold mJ;cases decide (o.kind=3)
 case true=>grind [Dp]
 exact rW _ h (by show(0:Int)<=1000000000;decide)
theorem Uc{size:Int}(b:size<=1000000000)(name:BA):∀x∈rY size name,pU x:=λx a=>by
 rcases p9.1 a with rfl|a
 ·exact rW _ cN.z b
 grind [akl,Ce]
def KQ{size:Int}(b:size<=1000000000):∀x∈lr size,pU x:=λx a=>by
 rcases s8.1 a with a|a
 ·grind [Uc]
 grind [Uc]
def El{R:ay->ay×bn}(a:∀t,gk t->gk (R t).1):∀(l:List aW) {c:List aO},mc c->(∀x∈l,pU x)->mc (cY R c l).1
 | [],_,h,_=>h
 |x::l,c,h,b=>El a l (Jl a h (b x j6)) λy d=>b y (j3 _ d)
def Ab:mc []:=⟨by simp_all,λn a=>(o7 a).elim⟩
def JA{R:ay->ay×bn}(f:∀t,gk t->so R t){c:List aO}(b:mc c){x:aW}(g:pU x)(hp:gN x):me R c x:=by
 have h:c.length<=60000000:=by have:=b.len;omega
 exact⟨h,hp.iw,hp.ul,λn a=>by have:=(b.all n a).us.key;omega,hp.tX,λ_ k o e n a=>Gy (b.all n a) (g.ud k o e),λ_ n a=>Gy (b.all n a) g.op,λ_ n a=>Gy (b.all n a) FV,λn a=>(b.all n a).us.d,λ_=>anv c x.1 h,λ_ n a=>f n.t (b.all n a)⟩
def WS{R:ay->ay×bn}(c:∀t,gk t->gk (R t).1)(a:∀t,gk t->so R t)(l:List aW)(d:l.length<=60000000)(b:∀x∈l,pU x)(hp:∀x∈l,gN x):PC 13 [sl cq l] (·=.aU [sl aO.pv (cY R [] l).1,.sl false ((cY R [] l).2.map λr=>sl dg.pv r)]):=
 EF l d λq x hq=>JA a (El c (l.take q) Ab λy e=>b y (u6 e)) (b x (i7 hq)) (hp x (i7 hq))
end
end Go.Proofs.YtbnonpbnhenkfaaGreatDoor
