/- Part 3 of the proof; the last part says what is proved. -/
import Derived.Test.YtbnonpbnhenkfaaGreatDoorQ02
import Derived.Orders
import Derived.Scope
import Derived.Shelf.Abstract
import Derived.Defers
import Derived.KernelRfl
import Derived.Lib.RuneCount
set_option linter.all false
set_option maxRecDepth 1000000
set_option maxHeartbeats 8000000
namespace Go.Proofs.YtbnonpbnhenkfaaGreatDoor
section
open Go.RowKit
def lk{α:Type}:List (Nat×α)->Nat->Option α
 | [],_=>none
 |(k,v)::l,t=>match Nat.beq t k with|true=>some v|false=>lk l t
theorem Ej{ev a:Operand->Option PV}:∀{l:List Operand},(∀x∈l,a x=ev x)->gj a l=gj ev l
 | [],_=>rfl
 |o::l,h=>by
  unfold gj
  rw[h o j6,Ej λx b=>h x (j3 _ b)]
inductive Fq(P:Program)(G:World->Prop)(hp:Nat->Option aI)(nx:Nat)(f:FuncId)(args:List PV)(r:PV)(d:cU)(rd:List Nat):Prop where
 |pure (n:Nat) (rs:List PV) (l:List Nat) (h0:eH [] n hp args=some (rs,l)) (h:kS P G f rs (·=r)) (b:d=qS hp l r) (c:rd=l)
 |bH (X:List Nat) (n:Nat) (a:List PV) (l':List Nat) (bs:List (Nat×aI)) (d':cU) (h1:eH X n hp args=some (a,l')) (h2:dJ (λx:Nat×aI=>fx hp l' x.1=some x.2) bs) (e:HC P G f a bs nx λr' d''=>r'=r/\d''=d') (b:d=d'++nk hp l') (c:rd=l'++bs.map (·.1))
structure fi(P:Program)(G:World->Prop)(hp:Nat->Option aI)(nx:Nat)(f:FuncId)(args:List PV)(k:PV->cU->List Nat->Prop):Prop where
 h:∃r d rd,k r d rd/\Fq P G hp nx f args r d rd
section
variable {P:Program}{G:World→Prop}{hp:Nat→Option aI}{nx:Nat}
theorem fi.is{f:FuncId}{args rs:List PV}{l:List Nat}{k:PV->cU->List Nat->Prop}{r:PV}(h:kS P G f rs (·=r))(a:k r (qS hp l r) l)(b:eH [] 200 hp args=some (rs,l):=by exact rr):fi P G hp nx f args k:=⟨_,_,_,a,.pure 200 rs l b h rr rr⟩
theorem fi.by{n:Nat}{f:FuncId}{args rs:List PV}{l:List Nat}{k:PV->cU->List Nat->Prop}{r:PV}(h:kS P G f rs (·=r))(a:eH [] n hp args=some (rs,l))(b:k r (qS hp l r) l):fi P G hp nx f args k:=⟨_,_,_,b,.pure n rs l a h rr rr⟩
theorem fi.bH(X:List Nat){n:Nat}{f:FuncId}{args a:List PV}{l':List Nat}{k:PV->cU->List Nat->Prop}{bs:List (Nat×aI)}{r:PV}{d:cU}(h:HC P G f a bs nx λr' d'=>r'=r/\d'=d)(b:eH X n hp args=some (a,l'))(hb:dJ (λx:Nat×aI=>fx hp l' x.1=some x.2) bs)(c:k r (d++nk hp l') (l'++bs.map (·.1))):fi P G hp nx f args k:=
 ⟨_,_,_,c,.bH X n a l' bs d b hb h rr rr⟩
end
structure fy where
 dst:Option Nat
 p:PV
 d:cU
 rd:List Nat
section
variable (P:Program)(G:World→Prop)(T:TT)
def amA(nx:Nat)(o:Oper)(bD:Nat->Option PV)(hp:Nat->Option aI)(K:PV->cU->List Nat->Prop):Prop:=
 match o.op with
 |.call ⟨.value f,args,_⟩=>match kJ bD f,gj (kJ bD) args.toList with
  |some (.fn g ir),some ps=>fi P G hp nx g (ps++ir) K
  |_,_=>False
 |.call ⟨.invoke x name,args,_⟩=>match kJ bD x,gj (kJ bD) args.toList with
  |some (.fm t v),some ps=>tE P t name λg=>fi P G hp nx g (v::ps) K
  |_,_=>False
 |op=>match gj (kJ bD) op.operands.toList with
  |some vs=>(tr T nx op vs).iB hp K
  |none=>False
def ql(nx:Nat)(o:Oper)(s:AS)(K:PV->cU->List Nat->Prop):Prop:=match s with|⟨bD,hp⟩=>amA P G T nx o bD hp K
theorem Dv(nx:Nat)(o:Oper)(s:AS)(K:PV->cU->List Nat->Prop):ql P G T nx o s K=match o.op with
 |.call ⟨.value f,args,_⟩=>match s.ev f,gj s.ev args.toList with
  |some (.fn g ir),some ps=>fi P G s.hp nx g (ps++ir) K
  |_,_=>False
 |.call ⟨.invoke x name,args,_⟩=>match s.ev x,gj s.ev args.toList with
  |some (.fm t v),some ps=>tE P t name λg=>fi P G s.hp nx g (v::ps) K
  |_,_=>False
 |op=>match gj s.ev op.operands.toList with
  |some vs=>(tr T nx op vs).iB s.hp K
  |none=>False:=by cases s;rfl
def mW(all:List Oper)(nx:Nat)(o:Oper)(s:AS)(K:PV->cU->List Nat->Prop):Prop:=
 match o.guard with
 |none=>ql P G T nx o s K
 |some (j,want)=>match tL all s j want with
  |some true=>ql P G T nx o s K
  |some false=>K (.aU []) [] []
  |none=>False
def tD(n:Nat)(all:List Oper):List Oper->Nat->AS->List fy->(List fy->AS->Prop)->Prop
 | [],_,s,acc,k=>k acc.reverse s
 |o::os,nx,s,acc,k=>match s with|⟨bD,hp⟩=>mW P G T all nx o ⟨bD,hp⟩ λp d rd=>qN n bD (eY hp d) o.dst p λs'=>tD n all os (nx+1) s' (⟨o.dst,p,d,rd⟩::acc) k
theorem Qh(n:Nat)(all:List Oper)(o:Oper)(os:List Oper)(nx:Nat)(s:AS)(acc:List fy)(k:List fy->AS->Prop):tD P G T n all (o::os) nx s acc k=mW P G T all nx o s λp d rd=>nz n ⟨s.bD,eY s.hp d⟩ o.dst p λs'=>tD P G T n all os (nx+1) s' (⟨o.dst,p,d,rd⟩::acc) k:=by cases s;rfl
end
def q_(o:Oper):List Nat:=o.after.toList.filterMap λe=>if Region.binds .any e then some e.on else none
def vY(B:List Nat):List Nat->Nat
 | []=>0
 |q::l=>(2^q ||| (PV.cR B q).getD 0) ||| vY B l
def MP(ops:List Oper):List Nat:=ops.foldl (λacc o=>acc++[vY acc (q_ o)]) []
def Ae(B:List Nat):Nat->List Oper->Bool
 |_,[]=>true
 |i,o::os=>(PV.cR B i==some (vY B (q_ o)))&&(q_ o).all (λq=>Nat.blt q i)&&Ae B (i+1) os
def alz:Operand->Option Nat
 |.tmp t=>some t
 |_=>none
def looks(all:List Oper)(o:Oper):List Nat:=
 o.op.operands.toList.filterMap alz++(match o.guard with|some (g,_)=>(match PV.cR all g with|some x=>x.dst.toList|none=>[])|none=>[])
def apart(l m:List Nat):Bool:=l.all λx=>!m.contains x
def wR(all:List Oper)(a ob:Oper)(ra rb:fy):Bool:=
 apart a.dst.toList (looks all ob)&&apart ob.dst.toList (looks all a)&&apart a.dst.toList ob.dst.toList&&apart (ra.d.map (·.1)) (rb.rd++rb.d.map (·.1))&&apart (rb.d.map (·.1)) ra.rd
def Ql(all:List Oper)(cA:List fy)(B:List Nat):Bool:=
 (List.range all.length).all λb=>(List.range b).all λa=>
   ((PV.cR B b).getD 0).testBit a||match PV.cR all a,PV.cR all b,PV.cR cA a,PV.cR cA b with
     |some oa,some ob,some ra,some rb=>wR all oa ob ra rb
     |_,_,_,_=>false
def yA(all:List Oper)(cA:List fy):Bool:=Ae (MP all) 0 all&&Ql all cA (MP all)
def DZ{B:List Nat}:∀{os:List Oper} {i:Nat},Ae B i os=true->∀j o,os[j]? = some o->PV.cR B (i+j)=some (vY B (q_ o))/\∀q∈q_ o,q<i+j
 | [],_,_,j,o,h=>by simp at h
 |x::os,i,h,j,o,a=>by
  unfold Ae at h
  simp only[y7]at h
  cases j with
  |zero=>
   simp at a;subst a
   refine⟨by simpa using h.1.1,λq hq=>?_⟩
   have:=A3.1 h.1.2 q hq
   have:=o9 this
   omega
  |succ j=>
   have:=DZ h.2 j o (by simpa using a)
   rw[show i+(j+1)=i+1+j by omega]
   exact this
def TB{B:List Nat}:∀{l:List Nat} {a:Nat},(vY B l).testBit a=true->∃q∈l,a=q\/((PV.cR B q).getD 0).testBit a=true
 | [],a,h=>by simp[vY]at h
 |q::l,a,h=>by
  unfold vY at h
  simp only[Nat.testBit_or,Bool.or_eq_true,Nat.testBit_two_pow,J7]at h
  rcases h with(h|h)|h
  ·exact⟨q,j6,.inl h.symm⟩
  ·exact⟨q,j6,.inr h⟩
  ·obtain⟨q',h1,h2⟩:=TB h
   exact⟨q',j3 _ h1,h2⟩
def Pz{all:List Oper}{B:List Nat}(j:Ae B 0 all=true){D:Nat->Bool}(k:∀i o,all[i]? = some o->D i=true->∀q∈q_ o,D q=true):
 ∀(b:Nat) (o:Oper),all[b]? = some o->(∀q∈q_ o,D q=true)->∀a,((PV.cR B b).getD 0).testBit a=true->D a=true:=by
 intro b
 induction b using Nat.strongRecOn with
 |_ b ih=>
  intro o f g a h
  obtain⟨h1,h2⟩:=DZ j b o f
  rw[j7]at h1 h2
  rw[h1]at h
  obtain⟨q,hq,e⟩:=TB h
  rcases e with rfl|e
  ·exact g _ hq
  ·have c:=h2 q hq
   have d:q<all.length:=Nat.lt_trans c (c9.1 f).1
   exact ih q c _ (j8 d) (k q _ (j8 d) (g q hq)) a e
def gG:List fy->Nat->(Nat->Bool)->Nat->Option PV
 | [],_,_,_=>none
 |r::rs,i,D,t=>match gG rs (i+1) D t with
  |some p=>some p
  |none=>if D i=true/\r.dst=some t then some r.p else none
def gL:List fy->Nat->(Nat->Bool)->Nat->Option (Option aI)
 | [],_,_,_=>none
 |r::rs,i,D,j=>match gL rs (i+1) D j with
  |some p=>some p
  |none=>if D i=true then lk r.d j else none
def iD(s:AS)(cA:List fy)(D:Nat->Bool):AS:=
 ⟨λt=>match gG cA 0 D t with|some p=>some p|none=>s.bD t,λj=>match gL cA 0 D j with|some b=>b|none=>s.hp j⟩
def zO{D D':Nat->Bool}{t:Nat}:∀{cA:List fy} {i:Nat},(∀a r,cA[a]? = some r->r.dst=some t->D (i+a)=D' (i+a))->gG cA i D t=gG cA i D' t
 | [],_,_=>rfl
 |r::rs,i,h=>by
  have d:gG rs (i+1) D t=gG rs (i+1) D' t:=zO λa r' c b=>by have:=h (a+1) r' (by simpa using c) b;rwa [show i+(a+1)=i+1+a by omega]at this
  unfold gG
  rw[d]
  by_cases b:r.dst=some t
  ·have:=h 0 r rr b
   rw[D0]at this
   rw[this]
  ·simp[b]
def wU{D D':Nat->Bool}{j:Nat}:∀{cA:List fy} {i:Nat},(∀a r,cA[a]? = some r->j∈r.d.map (·.1)->D (i+a)=D' (i+a))->gL cA i D j=gL cA i D' j
 | [],_,_=>rfl
 |r::rs,i,h=>by
  have g:gL rs (i+1) D j=gL rs (i+1) D' j:=wU λa r' f c=>by have:=h (a+1) r' (by simpa using f) c;rwa [show i+(a+1)=i+1+a by omega]at this
  unfold gL
  rw[g]
  by_cases c:j∈r.d.map (·.1)
  ·have:=h 0 r rr c
   rw[D0]at this
   rw[this]
  ·have:lk r.d j=none:=by
    cases e:lk r.d j with
    |none=>rfl
    |some b=>exact absurd (lkm e) c
   simp[this]
where
 lkm {α:Type}:∀{l:List (Nat×α)} {t:Nat} {v:α},lk l t=some v->t∈l.map (·.1)
  |(k,u)::l,t,v,h=>by
   unfold lk at h
   split at h
   ·rename_i e;rw[n9 e];exact j6
   ·exact j3 _ (lkm h)
def FR{D:Nat->Bool}{t:Nat}{r:fy}:∀{cA:List fy} {i a:Nat},cA[a]? = some r->D (i+a)=true->r.dst=some t->(∀b r',cA[b]? = some r'->a<b->D (i+b)=true->r'.dst≠some t)->gG cA i D t=some r.p
 | [],_,_,h,_,_,_=>by simp at h
 |x::rs,i,a,h,g,j,c=>by
  unfold gG
  cases a with
  |zero=>
   simp at h;subst h
   have:gG rs (i+1) D t=none:=by
    have d:gG rs (i+1) D t=gG rs (i+1) (λ_=>false) t:=zO λb r' hb f=>by
     cases e:D (i+1+b)
     ·rfl
     exact absurd f (c (b+1) r' (by simpa using hb) om (by rwa [show i+(b+1)=i+1+b by omega]))
    rw[d]
    exact noneE rs (i+1)
   rw[this]
   rw[D0]at g
   simp[g,j]
  |succ a=>
   rw[FR (cA:=rs) (i:=i+1) (a:=a) (by simpa using h) (by rwa [show i+1+a=i+(a+1)by omega]) j λb r' hb k l=>c (b+1) r' (by simpa using hb) om (by rwa [show i+(b+1)=i+1+b by omega])]
where
 noneE:∀(rs:List fy) (i:Nat),gG rs i (λ_=>false) t=none
  | [],_=>rfl
  |_::rs,i=>by unfold gG;rw[noneE rs (i+1)];simp
def GK{D:Nat->Bool}{j:Nat}{r:fy}{x:Option aI}:∀{cA:List fy} {i a:Nat},cA[a]? = some r->D (i+a)=true->lk r.d j=some x->(∀b r',cA[b]? = some r'->a<b->D (i+b)=true->j∉r'.d.map (·.1))->gL cA i D j=some x
 | [],_,_,h,_,_,_=>by simp at h
 |y::rs,i,a,h,k,l,c=>by
  unfold gL
  cases a with
  |zero=>
   simp at h;subst h
   have:gL rs (i+1) D j=none:=by
    have f:gL rs (i+1) D j=gL rs (i+1) (λ_=>false) j:=wU λb r' hb g=>by
     cases e:D (i+1+b)
     ·rfl
     exact absurd g (c (b+1) r' (by simpa using hb) om (by rwa [show i+(b+1)=i+1+b by omega]))
    rw[f]
    exact noneH rs (i+1)
   rw[this]
   rw[D0]at k
   simp[k,l]
  |succ a=>
   rw[GK (cA:=rs) (i:=i+1) (a:=a) (by simpa using h) (by rwa [show i+1+a=i+(a+1)by omega]) l λb r' hb m n=>c (b+1) r' (by simpa using hb) om (by rwa [show i+(b+1)=i+1+b by omega])]
where
 noneH:∀(rs:List fy) (i:Nat),gL rs i (λ_=>false) j=none
  | [],_=>rfl
  |_::rs,i=>by unfold gL;rw[noneH rs (i+1)];simp
theorem Aw{l m:List Nat}(h:apart l m=true):∀x∈l,x∉m:=λx a b=>by
 have:=A3.1 h x a
 simp[b]at this
section
variable {P:Program}{G:World→Prop}{T:TT}
def sy(r:fy)(p:PV)(d:cU)(rd:List Nat):Prop:=p=r.p/\d=r.d/\rd=r.rd
theorem Qx{nx:Nat}{o:Oper}{s:AS}{K:PV->cU->List Nat->Prop}(h:ql P G T nx o s K):∃p d rd,K p d rd/\ql P G T nx o s λp' d' rd'=>p'=p/\d'=d/\rd'=rd:=by
 simp only[Dv]at h⊢;split at h
 ·split at h
  ·obtain⟨r,d,rd,h1,h2⟩:=h;exact⟨_,_,_,h1,⟨r,d,rd,⟨rr,rr,rr⟩,h2⟩⟩
  ·exact h.elim
 ·split at h
  ·obtain⟨g,a,r,d,rd,h1,h2⟩:=h;exact⟨_,_,_,h1,⟨g,a,r,d,rd,⟨rr,rr,rr⟩,h2⟩⟩
  ·exact h.elim
 ·split at h
  ·exact Tr.m_ h
  ·exact h.elim
theorem anK{all:List Oper}{nx:Nat}{o:Oper}{s:AS}{K:PV->cU->List Nat->Prop}(h:mW P G T all nx o s K):∃p d rd,K p d rd/\mW P G T all nx o s λp' d' rd'=>p'=p/\d'=d/\rd'=rd:=by
 unfold mW at h⊢;split at h
 ·exact Qx h
 ·split at h
  ·exact Qx h
  ·exact⟨_,_,_,h,rr,rr,rr⟩
  ·exact h.elim
theorem amP{hp a:Nat->Option aI}{l:List Nat}{j:Nat}(h:a j=hp j):fx a l j=fx hp l j:=by
 by_cases b:j∈l
 ·rw[Es _ b,Es _ b,h]
 ·rw[BD _ b,BD _ b,h]
theorem dJ.imp{α:Type}{p q:α->Prop}:∀{l:List α},(∀x∈l,p x->q x)->dJ p l->dJ q l
 | [],_,_=>trivial
 |_::_,h,⟨h1,h2⟩=>⟨h _ j6 h1,dJ.imp (λx a=>h x (j3 _ a)) h2⟩
theorem Uh{hp a:Nat->Option aI}{nx:Nat}{f:FuncId}{args:List PV}{r:PV}{d:cU}{rd:List Nat}(h:Fq P G hp nx f args r d rd)(h2:∀j∈rd,a j=hp j):Fq P G a nx f args r d rd:=by
 cases h with
 |pure n rs l h0 h c g=>
  subst g;refine .pure n rs _ (sC _ h0 h2) h ?_ rr;rw[c];unfold qS;rw[Gx h2]
 |bH X n rs' l' bs d' h1 hb i c g=>
  subst g;have b:∀j∈l',a j=hp j:=λj k=>h2 j (G5 _ k)
  refine .bH X n rs' l' bs d' (sC _ h1 b) (hb.imp λx m e=>?_) i (by rw[c,Gx b]) rr;rw[amP (h2 x.1 (H9 _ (C8 m)))];exact e
theorem Nq{nx:Nat}{o:Oper}{s s':AS}{r:fy}(h:ql P G T nx o s (sy r))(h1:∀x∈o.op.operands.toList,s'.ev x=s.ev x)(h2:∀j∈r.rd,s'.hp j=s.hp j):ql P G T nx o s' (sy r):=by
 rw[Dv]at h⊢;split at h
 ·rename_i f args ty a;rw[a]at h1;have b:s'.ev f=s.ev f:=h1 f (by simp[Op.operands,Call.operands]);have c:gj s'.ev args.toList=gj s.ev args.toList:=Ej λx e=>h1 x (by simp[Op.operands,Call.operands];exact .inr (by simpa using e))
  rw[b,c];split at h
  ·obtain⟨v,d,rd,i,k⟩:=h;obtain⟨rfl,rfl,rfl⟩:=i;exact⟨_,_,_,⟨rr,rr,rr⟩,Uh k h2⟩
  ·exact h.elim
 ·rename_i x name args ty a;rw[a]at h1;have b:s'.ev x=s.ev x:=h1 x (by simp[Op.operands,Call.operands]);have c:gj s'.ev args.toList=gj s.ev args.toList:=Ej λx e=>h1 x (by simp[Op.operands,Call.operands];exact .inr (by simpa using e))
  rw[b,c];split at h
  ·obtain⟨g,m,v,d,rd,i,k⟩:=h;obtain⟨rfl,rfl,rfl⟩:=i;exact⟨g,m,_,_,_,⟨rr,rr,rr⟩,Uh k h2⟩
  ·exact h.elim
 ·rw[Ej h1];split at h
  ·exact Tr.pZ (λp d l n j q=>h2 j (by rw[<-n.2.2];exact q)) h
  ·exact h.elim
theorem aeh{all:List Oper}{s s':AS}{g:Nat}{w:Bool}(h:∀x,PV.cR all g=some x->∀d,x.dst=some d->s'.bD d=s.bD d):tL all s' g w=tL all s g w:=by
 unfold tL;split
 ·rename_i o a;split
  ·rename_i d b;rw[h o a d b]
  ·rfl
 ·rfl
theorem amU(e e':Nat->Option PV)(v:Value):kJ e (.const v)=kJ e' (.const v):=by cases v<;>first|rfl|(rename_i a n c;cases a<;>cases n<;>cases c<;>rfl)
theorem al1{all:List Oper}{nx:Nat}{o:Oper}{s s':AS}{r:fy}(h:mW P G T all nx o s (sy r))(h1:∀t∈looks all o,s'.bD t=s.bD t)(h2:∀j∈r.rd,s'.hp j=s.hp j):mW P G T all nx o s' (sy r):=by
 have a:∀x∈o.op.operands.toList,s'.ev x=s.ev x:=λx b=>by
  cases x with
  |tmp t=>exact h1 t (by unfold looks;exact G5 _ (J3.2 ⟨_,b,rr⟩))
  |const v=>exact amU _ _ v
  |_=>rfl
 unfold mW at h⊢;split at h
 ·exact Nq h a h2
 ·rename_i j want c;have:tL all s' j want=tL all s j want:=aeh λx b d e=>h1 d (by
   unfold looks;rw[c];dsimp only;rw[b];exact H9 _ (by simp[e]))
  rw[this];split at h
  ·exact Nq h a h2
  ·exact h
  ·exact h.elim
def pB(s:AS)(dst:Option Nat)(p:PV)(d:cU):AS:=⟨match dst with|some t=>da s.bD t (some p)|none=>s.bD,eY s.hp d⟩
theorem ZD{n:Nat}{s:AS}{dst:Option Nat}{p:PV}{d:cU}{k:AS->Prop}(h:nz n ⟨s.bD,eY s.hp d⟩ dst p k):k (pB s dst p d)/\∀t,dst=some t->t+1<=n:=by
 cases dst with
 |none=>exact⟨h,λ_ e=>by cases e⟩
 |some t=>
  rw[BU]at h;dsimp only at h;split at h
  ·rename_i a;exact⟨h,λ_ e=>by cases e;exact o9 a⟩
  ·exact h.elim
theorem Yr{n:Nat}{s:AS}{dst:Option Nat}{p:PV}{d:cU}{k:AS->Prop}(h:k (pB s dst p d))(a:∀t,dst=some t->t+1<=n):nz n ⟨s.bD,eY s.hp d⟩ dst p k:=by
 cases dst with
 |none=>exact h
 |some t=>
  rw[BU];dsimp only;rw[Nat.ble_eq_true_of_le (a t rr)];exact h
theorem TD{D:Nat->Bool}{t:Nat}:∀{rs:List fy} {i:Nat},gG rs (i+1) D t=gG rs i (λa=>D (a+1)) t
 | [],_=>rfl
 |r::rs,i=>by
  show(match gG rs (i+1+1) D t with|some p=>some p|none=>if D (i+1)=true/\r.dst=some t then some r.p else none)=match gG rs (i+1) (λa=>D (a+1)) t with|some p=>some p|none=>if D (i+1)=true/\r.dst=some t then some r.p else none
  rw[TD (rs:=rs) (i:=i+1)]
theorem NX{D:Nat->Bool}{t:Nat}:∀{rs:List fy} {i:Nat},gL rs (i+1) D t=gL rs i (λa=>D (a+1)) t
 | [],_=>rfl
 |r::rs,i=>by
  show(match gL rs (i+1+1) D t with|some p=>some p|none=>if D (i+1)=true then lk r.d t else none)=match gL rs (i+1) (λa=>D (a+1)) t with|some p=>some p|none=>if D (i+1)=true then lk r.d t else none
  rw[NX (rs:=rs) (i:=i+1)]
theorem Gb(hp:Nat->Option aI)(j:Nat):∀d:cU,eY hp d j=match lk d j with|some b=>b|none=>hp j
 | []=>rfl
 |(k,b)::d=>by
  show da (eY hp d) k b j=match(match Nat.beq j k with|true=>some b|false=>lk d j)with|some b=>b|none=>hp j
  unfold da
  cases e:Nat.beq j k
  case true=>rfl
  exact Gb hp j d
theorem PU{s:AS}{r:fy}{rs:List fy}{D:Nat->Bool}(h:D 0=true):iD s (r::rs) D=iD (pB s r.dst r.p r.d) rs (λa=>D (a+1)):=by
 unfold iD;congr 1
 ·funext t;show(match(match gG rs (0+1) D t with|some p=>some p|none=>if D 0=true/\r.dst=some t then some r.p else none)with|some p=>some p|none=>s.bD t)=_
  rw[TD];cases gG rs 0 (λa=>D (a+1)) t with
  |some p=>rfl
  |none=>
   dsimp only;unfold pB;cases b:r.dst with
   |none=>simp
   |some d=>
    by_cases e:d=t
    ·subst e;simp[h,fc]
    ·simp[e,fU _ _ (Ne.symm e)]
 ·funext j;show(match(match gL rs (0+1) D j with|some p=>some p|none=>if D 0=true then lk r.d j else none)with|some p=>p|none=>s.hp j)=_
  rw[NX];cases gL rs 0 (λa=>D (a+1)) j with
  |some p=>rfl
  |none=>
   dsimp only;unfold pB;show _=eY s.hp r.d j
   rw[Gb,z7 h]
theorem Up(s:AS)(rs:List fy){D:Nat->Bool}(h:∀a,D a=false):iD s rs D=s:=by
 have e:D=λ_=>false:=funext h
 subst e;unfold iD;cases s with
 |mk bD hp=>
  congr 1
  ·funext t;rw[FR.noneE]
  ·funext j;rw[GK.noneH]
theorem TK{n:Nat}{all:List Oper}:∀{os:List Oper} {nx:Nat} {s:AS} {acc:List fy} {k:List fy->AS->Prop},tD P G T n all os nx s acc k->
 ∃cA,cA.length=os.length/\k (acc.reverse++cA) (iD s cA λ_=>true)/\∀i o r,os[i]? = some o->cA[i]? = some r->mW P G T all (nx+i) o (iD s cA λa=>decide (a<i)) (sy r)/\r.dst=o.dst/\∀t,o.dst=some t->t+1<=n
 | [],nx,s,acc,k,h=>⟨[],rr,by rw[A2];exact h,λi o r hi=>by simp at hi⟩
 |o::os,nx,s,acc,k,h=>by
  rw[Qh]at h
  obtain⟨p,d,rd,h1,h2⟩:=anK h
  obtain⟨c,f⟩:=ZD h1
  obtain⟨cA,j,g,l⟩:=TK c
  refine⟨⟨o.dst,p,d,rd⟩::cA,by simp[j],?_,λi o' r hi b=>?_⟩
  ·rw[PU rfl]
   simpa using g
  ·cases i with
   |zero=>
    simp at hi b
    subst hi;subst b
    refine⟨?_,rr,f⟩
    rw[Up s _ (λa=>by simp),D0]
    exact h2
   |succ i=>
    have:=l i o' r (by simpa using hi) (by simpa using b)
    rw[show nx+1+i=nx+(i+1)by omega]at this
    refine⟨?_,this.2⟩
    rw[PU (by simp)]
    have e:(λa=>decide (a+1<i+1))=λa=>decide (a<i):=by funext a;simp
    rw[e]
    exact this.1
end
section
variable {P:Program}{G:World→Prop}{T:TT}{S:dr}
theorem acW{n nx:Nat}{o:Oper}{s:AS}{r:fy}(h:ql P G T nx o s (sy r))(w:∀t,o.dst=some t->t+1<=n):tZ P G T n nx o s λs'=>s'=pB s o.dst r.p r.d:=by
 have a:nz n ⟨s.bD,eY s.hp r.d⟩ o.dst r.p λs'=>s'=pB s o.dst r.p r.d:=Yr rr w
 rw[Dv]at h;rw[Kk];split at h
 ·rename_i f args ty b;rw[b];dsimp only;split at h
  ·rename_i g ir ps e1 e2;rw[e1,e2];dsimp only;obtain⟨v,d,rd,⟨m,q,y⟩,c⟩:=h;subst m q;cases c with
   |pure n' rs l e3 h i j=>
    refine bu.by (l:=l) h e3 ?_;rw[<-i];exact a
   |bH X n' rs' l' bs d' h1 hb c i j=>
    refine bu.bH X c h1 hb ?_;rw[<-i];exact a
  ·exact h.elim
 ·rename_i x name args ty b;rw[b];dsimp only;split at h
  ·rename_i t v0 ps e1 e2;rw[e1,e2];dsimp only;obtain⟨g,z,v,d,rd,⟨m,q,y⟩,c⟩:=h;subst m q;refine tE.is g z ?_;cases c with
   |pure n' rs l e3 h i j=>
    refine bu.by (l:=l) h e3 ?_;rw[<-i];exact a
   |bH X n' rs' l' bs d' h1 hb c i j=>
    refine bu.bH X c h1 hb ?_;rw[<-i];exact a
  ·exact h.elim
 ·rename_i op u k;split
  ·rename_i f args ty b;exact(u f args ty b).elim
  ·rename_i x name args ty b;exact(k x name args ty b).elim
  ·unfold act;split at h
   ·rename_i vs e;rw[e];refine Tr.pW (λp d l j=>?_) h;obtain⟨h1,h2,_⟩:=j;rw[h1,h2];exact a
   ·exact h.elim
theorem eM.drew{n:Nat}{F:Nat->Prop}{s:AS}{a:Act}{c:RC}(h:eM S n F s a c):eM S n F s a ⟨c.w.drew,c.Z,c.hb⟩:=by
 have b:Below c.w.heap.size c.w c.w.drew:=(Below.refl _ _).drew;have d:cI c ⟨c.w.drew,c.Z,c.hb⟩:=wM h.dT.fC b λ_ _ z=>z
 exact⟨xo h.dT b (λ_ _ z=>z) (λ_ _ z=>.inl z),h.size,λt p e=>by
  obtain⟨v,h1,h2⟩:=h.bD t p e;exact⟨v,h1,bW.ext p d h2⟩,h.defers⟩
def FD(nx N:Nat)(D:Nat->Bool)(j:Nat):Prop:=nx+N<=j\/∃b,b<N/\D b=false/\j=nx+b
def mC(D:Nat->Bool)(i:Nat):Nat->Bool:=λa=>if a=i then true else D a
theorem an0{s:AS}{cA:List fy}{D:Nat->Bool}{i:Nat}{r:fy}(o:cA[i]? = some r)
 (A:∀b r',cA[b]? = some r'->i<b->D b=true->∀t,r.dst=some t->r'.dst≠some t) (B:∀b r',cA[b]? = some r'->i<b->D b=true->∀j∈r.d.map (·.1),j∉r'.d.map (·.1)):
 iD s cA (mC D i)=pB (iD s cA D) r.dst r.p r.d:=by
 have hi:mC D i i=true:=by unfold mC;simp
 unfold iD pB
 congr 1
 ·funext t
  by_cases m:r.dst=some t
  ·rw[FR o (by rw[j7];exact hi) m (λb r' hb f c=>A b r' hb f (by unfold mC at c;rw[j7,y8 om]at c;exact c) t m),m]
   exact(fc _ _ _).symm
  ·have e:gG cA 0 (mC D i) t=gG cA 0 D t:=zO λa r' n g=>by
    rw[j7]
    unfold mC
    rw[y8 (show¬a=i by rintro rfl;rw[o]at n;cases n;exact m g)]
   rw[e]
   cases q:r.dst with
   |none=>rfl
   |some d=>exact(fU (λt=>match gG cA 0 D t with|some p=>some p|none=>s.bD t) (some r.p) (show t≠d from λe=>m (by rw[q,e]))).symm
 ·funext j
  rw[Gb]
  cases w:lk r.d j with
  |some x=>
   rw[GK o (by rw[j7];exact hi) w (λb r' hb f c=>B b r' hb f (by unfold mC at c;rw[j7,y8 om]at c;exact c) j (wU.lkm w))]
  |none=>
   have e:gL cA 0 (mC D i) j=gL cA 0 D j:=by
    by_cases y:j∈r.d.map (·.1)
    ·exfalso
     obtain⟨x,z⟩:=lkin y
     rw[w]at z;cases z
    ·exact wU λa r' n g=>by
      rw[j7]
      unfold mC
      rw[y8 (show¬a=i by rintro rfl;rw[o]at n;cases n;exact y g)]
   rw[e]
where
 lkin {α:Type}:∀{l:List (Nat×α)} {t:Nat},t∈l.map (·.1)->∃v,lk l t=some v
  |(k,u)::l,t,h=>by
   unfold lk
   split
   ·exact⟨_,rr⟩
   ·rename_i e
    rcases p9.1 h with h|h
    ·exfalso;rw[h,I6]at e;cases e
    ·exact lkin h
theorem Oj{all:List Oper}{cA:List fy}{B:List Nat}(h:Ql all cA B=true){a b:Nat}(c:a<b){i ob:Oper}(k:all[a]? = some i)(hb:all[b]? = some ob){ra rb:fy}(d:cA[a]? = some ra)(e:cA[b]? = some rb):
 ((PV.cR B b).getD 0).testBit a=true\/wR all i ob ra rb=true:=by
 have f:b<all.length:=(c9.1 hb).1
 have h1:=A3.1 (A3.1 h b (J0.2 f)) a (J0.2 c)
 have g:∀{α:Type} {l:List α} {j:Nat} {x:α},l[j]? = some x->PV.cR l j=some x:=by
  intro α l
  induction l with
  |nil=>intro j x h;simp at h
  |cons y l ih=>intro j x h;cases j with
   |zero=>simpa[PV.cR]using h
   |succ j=>exact ih (by simpa using h)
 rw[g k,g hb,g d,g e]at h1
 simpa using h1
theorem xd{all:List Oper}{a ob:Oper}{ra rb:fy}(h:wR all a ob ra rb=true):
 (∀t,a.dst=some t->t∉looks all ob)/\(∀t,ob.dst=some t->t∉looks all a)/\(∀t,a.dst=some t->ob.dst≠some t)/\(∀j∈ra.d.map (·.1),j∉rb.rd/\j∉rb.d.map (·.1))/\(∀j∈rb.d.map (·.1),j∉ra.rd):=by
 unfold wR at h
 simp only[y7]at h
 obtain⟨⟨⟨⟨h1,h2⟩,c⟩,f⟩,g⟩:=h
 refine⟨λt e=>Aw h1 t (by simp[e]),λt e=>Aw h2 t (by simp[e]),λt e e2=>Aw c t (by simp[e]) (by simp[e2]),λj b=>?_,λj b=>Aw g j b⟩
 have:=Aw f j b
 rw[s8]at this
 exact⟨λh=>this (.inl h),λh=>this (.inr h)⟩
theorem abN(hT:dV P T)(hG:S.G=G){ops:Array Oper}{n nx:Nat}{s:AS}{cA:List fy}{k:AS->Prop}{Q:Exit->Act->World->Prop}(hlen:cA.length=ops.size)(hc:yA ops.toList cA=true)
 (hr:∀i o r,ops.toList[i]? = some o->cA[i]? = some r->mW P G T ops.toList (nx+i) o (iD s cA λa=>decide (a<i)) (sy r)/\r.dst=o.dst/\∀t,o.dst=some t->t+1<=n)
 (hfin:k (iD s cA λ_=>true)) (hk:∀s' a' c',k s'->eM S n (ge (nx+ops.size)) s' a' c'->Q .normal a' c'.w):
 ∀(y:Nat) (D:Nat->Bool) (f:Array Bool) (a:Act) (c:RC),f.size=ops.size->(∀i,i<ops.size->f[i]? = some (D i))->(∀i o,ops.toList[i]? = some o->D i=true->∀q∈q_ o,D q=true)->
  ((List.range ops.size).filter λi=>!D i).length<=y->eM S n (FD nx ops.size D) (iD s cA D) a c->wpAny P .any ops Q y f a c.w:=by
 unfold yA at hc
 rw[y7]at hc
 obtain⟨hB,hP⟩:=hc
 have F:∀(D:Nat->Bool) (f:Array Bool),f.size=ops.size->(∀i,i<ops.size->f[i]? = some (D i))->∀i,i∈Region.ready .any ops f->i<ops.size/\D i=false/\∀o,ops.toList[i]? = some o->∀q∈q_ o,q<ops.size->D q=true:=by
  intro D f I C i hi
  unfold Region.ready at hi
  rw[C5,J0]at hi
  obtain⟨h1,h2⟩:=hi
  rw[y7]at h2
  refine⟨h1,?_,λo E q hq hqs=>?_⟩
  ·have:=h2.1
   simp[B6,C i h1]at this
   exact this
  ·have h3:=h2.2
   have J:ops[i]? = some o:=by rw[<-w8];exact E
   rw[J]at h3
   simp only[E3,I8]at h3
   obtain⟨e,Y,V⟩:=J3.1 hq
   have h4:=Array.all_eq_true'.1 h3 e (by simpa using Y)
   by_cases hb:Region.binds .any e=true
   ·rw[z7 hb]at V;cases V
    simp[hb,B6,C _ hqs]at h4
    exact h4
   ·rw[y8 hb]at V;cases V
 have hall:∀(D:Nat->Bool) (f:Array Bool),f.size=ops.size->(∀i,i<ops.size->f[i]? = some (D i))->Region.ready .any ops f=[]->∀i,i<ops.size->D i=true:=by
  intro D f I C Y i
  induction i using Nat.strongRecOn with
  |_ i ih=>
   intro hi
   cases hD:D i
   case true=>rfl
   exfalso
   have:i∈Region.ready .any ops f:=by
    unfold Region.ready
    rw[C5,J0]
    refine⟨hi,?_⟩
    rw[y7]
    have z:i<ops.toList.length:=by simpa using hi
    have E:=j8 z
    refine⟨by simp[B6,C i hi,hD],?_⟩
    have J:ops[i]? = some ops.toList[i]:=by rw[<-w8];exact E
    rw[J]
    simp only[E3,I8]
    rw[Array.all_eq_true']
    intro e he'
    by_cases hb:Region.binds .any e=true
    ·have hq:e.on∈q_ ops.toList[i]:=J3.2 ⟨e,by simpa using he',by rw[z7 hb]⟩
     have Z:=(DZ hB i _ E).2 e.on hq
     rw[j7]at Z
     have:=ih e.on Z om
     simp[hb,B6,C e.on om,this]
    ·simp[hb]
   rw[Y]at this;cases this
 have hend:∀(D:Nat->Bool) (f:Array Bool) (a:Act) (c:RC),f.size=ops.size->(∀i,i<ops.size->f[i]? = some (D i))->eM S n (FD nx ops.size D) (iD s cA D) a c->Region.ready .any ops f=[]->Q .normal a c.w:=by
  intro D f a c I C K Y
  have hD:=hall D f I C Y
  have e:iD s cA D=iD s cA λ_=>true:=by
   unfold iD
   congr 1
   ·funext t
    rw[show gG cA 0 D t=gG cA 0 (λ_=>true) t from zO λa r ha _=>by rw[j7];exact hD a (by have:=(c9.1 ha).1;omega)]
   ·funext j
    rw[show gL cA 0 D j=gL cA 0 (λ_=>true) j from wU λa r ha _=>by rw[j7];exact hD a (by have:=(c9.1 ha).1;omega)]
  rw[e]at K
  exact hk _ a c hfin (K.up λj (U:nx+ops.size<=j)=>.inl U)
 intro y
 induction y with
 |zero=>
  intro D f a c I C L hcnt K
  have Y:Region.ready .any ops f=[]:=by
   cases e:Region.ready .any ops f with
   |nil=>rfl
   |cons i l=>
    exfalso
    obtain⟨h1,h2,_⟩:=F D f I C i (by rw[e];exact j6)
    have:i∈(List.range ops.size).filter λi=>!D i:=C5.2 ⟨J0.2 h1,by simp[h2]⟩
    have h0:=B5.1 (Nat.le_zero.1 hcnt)
    rw[h0]at this;cases this
  exact⟨Y,hend D f a c I C K Y⟩
 |succ y ih=>
  intro D f a c I C L hcnt K
  refine⟨hend D f a c I C K,λi hi=>?_⟩
  obtain⟨h1,h2,h3⟩:=F D f I C i hi
  have z:i<ops.toList.length:=by simpa using h1
  obtain⟨o,E⟩:∃o,ops.toList[i]? = some o:=⟨_,j8 z⟩
  obtain⟨r,W⟩:∃r,cA[i]? = some r:=⟨_,j8 om⟩
  have O:∀q∈q_ o,D q=true:=λq hq=>h3 o E q hq (by have:=(DZ hB i o E).2 q hq;omega)
  obtain⟨g1,g2,g3⟩:=hr i o r E W
  have hbefore:∀b u rb,ops.toList[b]? = some u->cA[b]? = some rb->b<i->D b=false->wR ops.toList u o rb r=true:=by
   intro b u rb g H M m
   rcases Oj hP M g E H W with h|h
   ·exfalso
    have:=Pz hB L i o E O b h
    rw[m]at this;cases this
   ·exact h
  have x:∀b u rb,ops.toList[b]? = some u->cA[b]? = some rb->i<b->D b=true->wR ops.toList o u r rb=true:=by
   intro b u rb g H M m
   rcases Oj hP M E g W H with h|h
   ·exfalso
    have:=Pz hB L b u g (L b u g m) i h
    rw[h2]at this;cases this
   ·exact h
  have X:∀(b:Nat) (rb:fy),cA[b]? = some rb->∃u:Oper,ops.toList[b]? = some u/\rb.dst=u.dst:=λb rb H=>by
   have hb:b<ops.toList.length:=by have:=(c9.1 H).1;simp;omega
   exact⟨_,j8 hb,(hr b _ rb (j8 hb) H).2.1⟩
  have B:mW P G T ops.toList (nx+i) o (iD s cA D) (sy r):=by
   refine al1 g1 (λt ht=>?_) (λj U=>?_)
   ·show(match gG cA 0 D t with|some p=>some p|none=>s.bD t)=(match gG cA 0 (λa=>decide (a<i)) t with|some p=>some p|none=>s.bD t)
    rw[show gG cA 0 D t=gG cA 0 (λa=>decide (a<i)) t from zO λb rb hb A=>by
     rw[j7]
     obtain⟨u,g,hd⟩:=X b rb hb
     rcases Nat.lt_trichotomy b i with z|rfl|hgt
     ·rw[l9 z]
      cases e:D b
      case true=>rfl
      exact absurd ht ((xd (hbefore b u rb g hb z e)).1 t (hd▸A))
     ·rw[h2];simp
     ·rw[j1 om]
      cases e:D b
      ·rfl
      exact absurd ht ((xd (x b u rb g hb hgt e)).2.1 t (hd▸A))]
   ·show(match gL cA 0 D j with|some p=>p|none=>s.hp j)=(match gL cA 0 (λa=>decide (a<i)) j with|some p=>p|none=>s.hp j)
    rw[show gL cA 0 D j=gL cA 0 (λa=>decide (a<i)) j from wU λb rb hb A=>by
     rw[j7]
     obtain⟨u,g,hd⟩:=X b rb hb
     rcases Nat.lt_trichotomy b i with z|rfl|hgt
     ·rw[l9 z]
      cases e:D b
      case true=>rfl
      exact absurd U ((xd (hbefore b u rb g hb z e)).2.2.2.1 j A).1
     ·rw[h2];simp
     ·rw[j1 om]
      cases e:D b
      ·rfl
      exact absurd U ((xd (x b u rb g hb hgt e)).2.2.2.2 j A)]
  have hstep:iD s cA (mC D i)=pB (iD s cA D) o.dst r.p r.d:=by
   rw[<-g2]
   refine an0 W (λb rb hb hib m t ht e=>?_) (λb rb hb hib m j U=>?_)
   ·obtain⟨u,g,hd⟩:=X b rb hb
    exact(xd (x b u rb g hb hib m)).2.2.1 t (g2▸ht) (hd▸e)
   ·obtain⟨u,g,_⟩:=X b rb hb
    exact((xd (x b u rb g hb hib m)).2.2.2.1 j U).2
  have R:∀a' c',eM S n (dz (FD nx ops.size D) (nx+i)) (pB (iD s cA D) o.dst r.p r.d) a' c'->wpAny P .any ops Q y (f.setIfInBounds i true) a' c'.w:=by
   intro a' c' N
   refine ih (mC D i) _ a' c' (by simp[I]) (λb hb=>?_) (λb u g m q hq=>?_) ?_ (hstep▸N.up λj U=>?_)
   ·unfold mC
    rw[J4]
    by_cases e:i=b
    ·subst e;simp[I,h1]
    ·rw[y8 e,y8 (Ne.symm e)];exact C b hb
   ·unfold mC at m⊢
    by_cases e:b=i
    ·subst e
     rw[g]at E;cases E
     split
     ·rfl
     ·exact O q hq
    ·rw[y8 e]at m
     split
     ·rfl
     ·exact L b u g m q hq
   ·have hmem:i∈(List.range ops.size).filter λi=>!D i:=C5.2 ⟨J0.2 h1,by simp[h2]⟩
    have e:((List.range ops.size).filter λb=>!mC D i b)=((List.range ops.size).filter λb=>!D b).filter λb=>b != i:=by
     rw[List.filter_filter]
     apply List.filter_congr
     intro b _
     unfold mC
     by_cases M:b=i<;>simp[M]
    rw[e]
    have hnd:((List.range ops.size).filter λb=>!D b).Nodup:=List.Pairwise.filter _ List.nodup_range
    rw[<-hnd.erase_eq_filter i,List.length_erase_of_mem hmem]
    omega
   ·rcases U with U|⟨b,hb,m,rfl⟩
    ·exact⟨.inl U,om⟩
    ·unfold mC at m
     by_cases e:b=i
     ·rw[z7 e]at m;cases m
     ·rw[y8 e]at m
      exact⟨.inr ⟨b,hb,m,rr⟩,om⟩
  have hF:FD nx ops.size D (nx+i):=.inr ⟨i,h1,h2,rr⟩
  have J:ops[i]? = some o:=by rw[<-w8];exact E
  unfold wpOp
  rw[J]
  dsimp only
  have go:ql P G T (nx+i) o (iD s cA D) (sy r)->o.wp P a c.w (wpAny P .any ops Q y (f.setIfInBounds i true)) Q:=λh=>
   Um hT hG hF K (acW h g3) λs' a' c' e N=>R a' c' (e▸N)
  unfold mW at B
  split at B
  ·rename_i hg
   rw[z7 (by unfold Region.wanted;rw[hg])]
   exact .inl (go B)
  ·rename_i j want hg
   split at B
   ·rename_i hb
    rw[z7 (EC K hg hb)]
    exact .inl (go B)
   ·rename_i hb
    rw[y8 (by rw[EC K hg hb];exact I1)]
    obtain⟨e1,e2,_⟩:=B
    have hput:nz n ⟨(iD s cA D).bD,eY (iD s cA D).hp r.d⟩ o.dst r.p λs'=>s'=pB (iD s cA D) o.dst r.p r.d:=Yr rr g3
    obtain⟨s',e3,N⟩:=tz (F':=dz (FD nx ops.size D) (nx+i)) (v:=undef) K (cI.refl c) (by rw[<-e2];exact K.dT.up λj h=>h.1) (show bW r.p c undef from by rw[<-e1];exact⟨[],rr,rr⟩) o.dst hput
    exact R _ c (by rw[<-e3];exact N)
   ·exact B.elim
theorem Nw(hT:dV P T)(hG:S.G=G){ops:Array Oper}{n nx:Nat}{s:AS}{a:Act}{c:RC}{k:AS→Prop}{Q:Exit→Act→World→Prop}(hm:eM S n (ge nx) s a c)
 (h:tD P G T n ops.toList ops.toList nx s [] fun cA s'=>yA ops.toList cA=true∧k s') (hk:∀s' a' c',k s'→eM S n (ge (nx+ops.size)) s' a' c'→Q .normal a' c'.w):
 wpAny P .any ops Q ops.size (Array.replicate ops.size false) a c.w:=by
 obtain⟨cA,h1,⟨h2,h3⟩,h4⟩:=TK h
 rw[List.reverse_nil,D4]at h2
 refine abN hT hG (by simpa using h1) h2 h4 h3 hk ops.size (fun _=>false) _ a c (by simp) (fun i hi=>by simp[hi]) (fun i o _ h=>by cases h) ?_ ?_
 ·exact r8 (C6 _ _) (by simp)
 ·rw[Up s cA fun _=>rfl]
  exact hm.up fun j hj=>by
   rcases hj with hj|⟨b,_,_,rfl⟩
   ·show nx≤j;omega
   ·show nx≤nx+b;omega
end
theorem SE{P:Program}{c:Code}{Q:Exit->Act->World->Prop}{ι:Type}(I:ι->Act->World->Prop)(μ:ι->Nat)(p:ι){a:Act}{w:World}(q:I p a w)
 (round:∀i a w,I i a w->c.wp P (Exit.then (λa' w'=>∃i',μ i'<μ i/\I i' a' w') Q) a w):(Code.loop c).wp P Q a w:=by
 intro b k cs
 have key:∀n i a w,μ i=n->I i a w->∃e a' w',Q e a' w'/\Arrives P (lone (b.at a (.code c::.inLoop c::k)) cs w) b k cs e a' w':=by
  intro n
  induction n using Nat.strongRecOn with
  |_ n ih=>
   intro i a w r s
   obtain⟨e,h,g,hq,d⟩:=round i a w s b (.inLoop c::k) cs
   cases e with
   |normal=>
    obtain⟨i',j,m⟩:=hq
    obtain⟨u,v,t,o,f⟩:=ih (μ i') (r▸j) i' h g rfl m
    exact⟨u,v,t,o,.of_steps (Steps.trans d (.one step_inLoop)) f⟩
   |exit id=>exact⟨_,h,g,hq,.pass (x:=.inLoop c) rr (λ_ _=>.inl (by simp)) d⟩
   |goto l=>exact⟨_,h,g,hq,.pass (x:=.inLoop c) rr (λ_ _=>.inl (by simp)) d⟩
   |ret=>exact⟨_,h,g,hq,.pass (x:=.inLoop c) rr (λ_ _=>.inl (by simp)) d⟩
   |panic ch=>exact⟨_,h,g,hq,.pass (x:=.inLoop c) rr (λ_ _=>.inl (by simp)) d⟩
   |outgrown=>exact⟨_,h,g,hq,.pass (x:=.inLoop c) rr (λ_ _=>.inl (by simp)) d⟩
 obtain⟨e,a',w',hq,d⟩:=key _ p a w rfl q
 exact⟨e,a',w',hq,.of_steps (.one step_loop) d⟩
def EA(P:Program)(c:Code)(Q:Exit->Act->World->Prop)(a:Act)(w:World):Prop:=∀b k cs,∃e a' w',Q e a' w'/\Arrives P (lone (b.at a (.code c::.inLoop c::k)) cs w) b k cs e a' w'
theorem ZF{P:Program}{c:Code}{Q:Exit->Act->World->Prop}{a:Act}{w:World}(h:EA P c Q a w):(Code.loop c).wp P Q a w:=by
 intro b k cs;obtain⟨e,a',w',hq,d⟩:=h b k cs;exact⟨e,a',w',hq,.of_steps (.one step_loop) d⟩
theorem ajh{P:Program}{c:Code}{Q:Exit->Act->World->Prop}{a:Act}{w:World}(h:c.wp P (Exit.then (λa' w'=>EA P c Q a' w') Q) a w):EA P c Q a w:=by
 intro b k cs;obtain⟨e,i,g,hq,d⟩:=h b (.inLoop c::k) cs;cases e with
 |normal=>
  obtain⟨o,p,m,j,f⟩:=hq b k cs;exact⟨o,p,m,j,.of_steps (Steps.trans d (.one step_inLoop)) f⟩
 |exit id=>exact⟨_,i,g,hq,.pass (x:=.inLoop c) rr (λ_ _=>.inl (by simp)) d⟩
 |goto l=>exact⟨_,i,g,hq,.pass (x:=.inLoop c) rr (λ_ _=>.inl (by simp)) d⟩
 |ret=>exact⟨_,i,g,hq,.pass (x:=.inLoop c) rr (λ_ _=>.inl (by simp)) d⟩
 |panic ch=>exact⟨_,i,g,hq,.pass (x:=.inLoop c) rr (λ_ _=>.inl (by simp)) d⟩
 |outgrown=>exact⟨_,i,g,hq,.pass (x:=.inLoop c) rr (λ_ _=>.inl (by simp)) d⟩
mutual
def PV.rn(ρ:Nat->Nat):PV->PV
 |.agg cs=>.agg (PV.ja ρ cs)
 |.lp j i o=>.lp (ρ j) i o
 |.le j i o=>.le (ρ j) i o
 |.aS j lo len=>.aS (ρ j) lo len
 |.gJ j lo=>.gJ (ρ j) lo
 |.iL j=>.iL (ρ j)
 |.fn f cs=>.fn f (PV.ja ρ cs)
 |.fm t v=>.fm t (PV.rn ρ v)
 |.mv f v=>.mv f (PV.rn ρ v)
 |.aU vs=>.aU (PV.ja ρ vs)
 |.at v=>.at v
 |.any=>.any
 |.sl c r=>.sl c r
 |.ip cs o=>.ip cs o
 |.mp k v=>.mp k v
def PV.ja(ρ:Nat->Nat):List PV->List PV
 | []=>[]
 |p::l=>PV.rn ρ p::PV.ja ρ l
end
mutual
def PV.lt(m:Nat):PV->Bool
 |.agg cs=>PV.lq m cs
 |.lp j _ _=>Nat.ble (j+1) m
 |.le j _ _=>Nat.ble (j+1) m
 |.aS j _ _=>Nat.ble (j+1) m
 |.gJ j _=>Nat.ble (j+1) m
 |.iL j=>Nat.ble (j+1) m
 |.fn _ cs=>PV.lq m cs
 |.fm _ v=>PV.lt m v
 |.mv _ v=>PV.lt m v
 |.aU vs=>PV.lq m vs
 |_=>true
def PV.lq(m:Nat):List PV->Bool
 | []=>true
 |p::l=>match PV.lt m p with|true=>PV.lq m l|false=>false
end
def lS(nx:Nat)(ρ:Nat->Nat)(c:RC):RC:=⟨c.w,c.Z,λj=>if j<nx then c.hb (ρ j)else none⟩
theorem oC{nx:Nat}{ρ:Nat->Nat}{c:RC}{j:Nat}(h:Nat.ble (j+1) nx=true):(lS nx ρ c).hb j=c.hb (ρ j):=z7 (o9 h)
mutual
theorem wc(nx:Nat)(ρ:Nat->Nat)(c:RC):∀(p:PV) (v:Value),p.lt nx=true->(bW (p.rn ρ) c v↔bW p (lS nx ρ c) v)
 |.at x,v,_=>O7
 |.any,v,_=>O7
 |.agg cs,v,h=>by
  constructor
  ·intro⟨vs,e,r⟩;exact⟨vs,e,(rE nx ρ c cs vs h).1 r⟩
  ·intro⟨vs,e,r⟩;exact⟨vs,e,(rE nx ρ c cs vs h).2 r⟩
 |.sl b rows,v,_=>O7
 |.lp j i o,v,h=>by
  show(∃B k,c.hb (ρ j)=some (B,k)/\_)↔(∃B k,(lS nx ρ c).hb j=some (B,k)/\_)
  rw[oC h]
 |.le j i o,v,h=>by
  show(∃B k,c.hb (ρ j)=some (B,k)/\_)↔(∃B k,(lS nx ρ c).hb j=some (B,k)/\_)
  rw[oC h]
 |.gJ j lo,v,h=>by
  show(∃B k cap aK e f,c.hb (ρ j)=some (B,k)/\_)↔(∃B k cap aK e f,(lS nx ρ c).hb j=some (B,k)/\_)
  rw[oC h]
  exact O7
 |.aS j lo len,v,h=>by
  show(_\/∃B k cap aK e f,c.hb (ρ j)=some (B,k)/\_)↔(_\/∃B k cap aK e f,(lS nx ρ c).hb j=some (B,k)/\_)
  rw[oC h]
  exact O7
 |.iL j,v,h=>by
  show(∃B k,c.hb (ρ j)=some (B,k)/\_)↔(∃B k,(lS nx ρ c).hb j=some (B,k)/\_)
  rw[oC h]
 |.ip cs o,v,_=>O7
 |.fn f cs,v,h=>by
  constructor
  ·intro⟨vs,e,r⟩;exact⟨vs,e,(rE nx ρ c cs vs h).1 r⟩
  ·intro⟨vs,e,r⟩;exact⟨vs,e,(rE nx ρ c cs vs h).2 r⟩
 |.fm t p,v,h=>by
  constructor
  ·intro⟨x,e,r⟩;exact⟨x,e,(wc nx ρ c p x h).1 r⟩
  ·intro⟨x,e,r⟩;exact⟨x,e,(wc nx ρ c p x h).2 r⟩
 |.mv f p,v,h=>by
  constructor
  ·intro⟨x,e,r⟩;exact⟨x,e,(wc nx ρ c p x h).1 r⟩
  ·intro⟨x,e,r⟩;exact⟨x,e,(wc nx ρ c p x h).2 r⟩
 |.aU ps,v,h=>by
  constructor
  ·intro⟨vs,e,r⟩;exact⟨vs,e,(rE nx ρ c ps vs h).1 r⟩
  ·intro⟨vs,e,r⟩;exact⟨vs,e,(rE nx ρ c ps vs h).2 r⟩
 |.mp ks ps,v,_=>O7
theorem rE(nx:Nat)(ρ:Nat->Nat)(c:RC):∀(b:List PV) (vs:List Value),PV.lq nx b=true->(aM (PV.ja ρ b) c vs↔aM b (lS nx ρ c) vs)
 | [],_,_=>O7
 |p::b,vs,h=>by
  unfold PV.lq at h
  cases hp:p.lt nx
  ·rw[hp]at h;cases h
  rw[hp]at h
  constructor
  ·intro⟨v,a,e,r1,r2⟩;exact⟨v,a,e,(wc nx ρ c p v hp).1 r1,(rE nx ρ c b a h).1 r2⟩
  ·intro⟨v,a,e,r1,r2⟩;exact⟨v,a,e,(wc nx ρ c p v hp).2 r1,(rE nx ρ c b a h).2 r2⟩
end
theorem Zt(ρ:Nat->Nat):∀{a:List PV},PV.ja ρ a=[]->a=[]
 | [],_=>rfl
 |_::_,h=>by cases h
def aI.rn(ρ:Nat->Nat):aI->aI
 |.rows k rs wr f e=>.rows k (PV.ja ρ rs) wr f e
 |.map ks vs wr=>.map ks (PV.ja ρ vs) wr
def aI.lt(m:Nat):aI->Bool
 |.rows _ rs _ _ _=>PV.lq m rs
 |.map _ vs _=>PV.lq m vs
theorem aI.ahn(ρ:Nat->Nat)(b:aI):(b.rn ρ).own=b.own:=by cases b<;>rfl
def gr:List Nat->Bool
 | []=>true
 |x::l=>match cW x l with|true=>false|false=>gr l
structure dM(ι:Type) where
 eG:ι->List (Nat×PV)
 gd:List Nat
 dE:ι->List (Nat×aI)
 bx:List Nat
def dM.st{ι:Type}(I:dM ι)(s:AS)(i:ι):AS:=
 ⟨λt=>match lk (I.eG i) t with|some p=>some p|none=>match cW t I.gd with|true=>s.bD t|false=>none,
  λj=>match lk (I.dE i) j with|some p=>some p|none=>match cW j I.bx with|true=>s.hp j|false=>none⟩
def aI.dP:aI->Prop
 |.rows _ rs _ _ _=>Proofs.YtbnonpbnhenkfaaGreatDoor.dP rs
 |.map _ vs _=>Proofs.YtbnonpbnhenkfaaGreatDoor.dP vs
def BB(nx:Nat)(ρ:Nat->Nat)(b:aI)(b':Option aI):Prop:=(b'=some (b.rn ρ)/\b.lt nx=true)\/(b'=some b/\b.dP)
theorem BB.rn{nx:Nat}{ρ:Nat->Nat}{b:aI}{b':Option aI}(h:b'=some (b.rn ρ))(h2:b.lt nx=true):BB nx ρ b b':=.inl ⟨h,h2⟩
theorem BB.br{nx:Nat}{ρ:Nat->Nat}{b:aI}{b':Option aI}(h:b'=some b)(h2:b.dP):BB nx ρ b b':=.inr ⟨h,h2⟩
def sW(ρ:Nat->Nat):Nat->Bool
 |0=>true
 |i+1=>match Nat.beq (ρ i) i with|true=>sW ρ i|false=>false
theorem Uv{ρ:Nat->Nat}:∀{m:Nat},sW ρ m=true->∀i,i<m->ρ i=i
 |m+1,h,i,hi=>by
  unfold sW at h
  split at h
  ·rename_i e
   by_cases a:i=m
   ·subst a;exact n9 e
   ·exact Uv h i om
  ·cases h
structure ga{ι:Type}(M nx:Nat)(ρ:Nat->Nat)(I:dM ι)(s:AS)(i:ι)(s':AS):Prop where
 eG:dJ (λx:Nat×PV=>s'.bD x.1=some (x.2.rn ρ)/\x.2.lt nx=true) (I.eG i)
 gd:dJ (λt=>∃p,s.bD t=some p/\s'.bD t=some (p.rn ρ)/\p.lt nx=true) I.gd
 dE:dJ (λx:Nat×aI=>BB nx ρ x.2 (s'.hp (ρ x.1))/\Nat.ble (x.1+1) nx=true) (I.dE i)
 bx:dJ (λj=>∃b,s.hp j=some b/\BB nx ρ b (s'.hp (ρ j))/\Nat.ble (j+1) nx=true) I.bx
 fix:sW ρ M=true
 dL:Nat.ble M nx=true
 inj:gr (((I.dE i).map (·.1)++I.bx).map ρ)=true
def jq(s:AS)(nx:Nat):List (Nat×Nat×TypeId)->AS
 | []=>s
 |(t,k,e)::l=>let s':=jq s (nx+1) l;⟨da s'.bD t (some (.aS nx 0 0)),da s'.hp nx (some (.rows k [] true none e))⟩
def xA(body:Nat->AS->(Ex->Nat->AS->Prop)->Prop)(k:Ex->Nat->AS->Prop):Nat->Nat->AS->Prop
 |0,_,_=>False
 |m+1,nx,s=>body nx s λex nx' s'=>match ex with
  |.normal=>xA body k m nx' s'
  |.ret=>k .ret nx' s'
  |.exit j=>k (.exit j) nx' s'
structure akx(M nx:Nat)(s:AS)(body:Nat->AS->(Ex->Nat->AS->Prop)->Prop)(k:Ex->Nat->AS->Prop):Prop where
 h:∃(a:List (Nat×Nat×TypeId)) (m:Nat) (ι:Type) (I:dM ι) (μ:ι->Nat) (b:ι),m=nx+a.length/\dJ (λx:Nat×Nat×TypeId=>s.bD x.1=some (.sl true [])) a/\ga M m id I (jq s nx a) b (jq s nx a)/\∀i,body m (I.st (jq s nx a) i) λex m' s'=>match ex with
  |.normal=>∃i' ρ,μ i'<μ i/\ga M m ρ I (jq s nx a) i' s'
  |.ret=>k .ret m' s'
  |.exit j=>k (.exit j) m' s'
structure cV(M nx:Nat)(s:AS)(body:Nat->AS->(Ex->Nat->AS->Prop)->Prop)(k:Ex->Nat->AS->Prop):Prop where
 h:akx M nx s body k\/∃m,xA body k m nx s
theorem cV.bA {M nx:Nat} {s:AS} {body:Nat->AS->(Ex->Nat->AS->Prop)->Prop} {k:Ex->Nat->AS->Prop} {ι:Type} (I:dM ι) (μ:ι->Nat) (a:ι) (h0:ga M nx id I s a s) (b:∀i,body nx (I.st s i) λex m' s'=>match ex with
 |.normal=>∃i' ρ,μ i'<μ i/\ga M nx ρ I s i' s'
 |.ret=>k .ret m' s'
 |.exit j=>k (.exit j) m' s'):cV M nx s body k:=⟨.inl ⟨[],nx,ι,I,μ,a,rr,trivial,h0,b⟩⟩
theorem cV.k_ {M nx:Nat} {s:AS} {body:Nat->AS->(Ex->Nat->AS->Prop)->Prop} {k:Ex->Nat->AS->Prop} (a:List (Nat×Nat×TypeId)) (m:Nat) {ι:Type} (I:dM ι) (μ:ι->Nat) (b:ι) (c:m=nx+a.length) (hv:dJ (λx:Nat×Nat×TypeId=>s.bD x.1=some (.sl true [])) a) (h0:ga M m id I (jq s nx a) b (jq s nx a)) (d:∀i,body m (I.st (jq s nx a) i) λex m' s'=>match ex with
 |.normal=>∃i' ρ,μ i'<μ i/\ga M m ρ I (jq s nx a) i' s'
 |.ret=>k .ret m' s'
 |.exit j=>k (.exit j) m' s'):cV M nx s body k:=⟨.inl ⟨a,m,ι,I,μ,b,c,hv,h0,d⟩⟩
theorem cV.nI{M nx:Nat}{s:AS}{body:Nat->AS->(Ex->Nat->AS->Prop)->Prop}{k:Ex->Nat->AS->Prop}(m:Nat)(h:xA body k m nx s):cV M nx s body k:=⟨.inr ⟨m,h⟩⟩
theorem IZ{α:Type}{q:Nat×α->Prop}:∀{l:List (Nat×α)} {t:Nat} {v:α},dJ q l->lk l t=some v->q (t,v)/\t∈l.map (·.1)
 |(k,u)::l,t,v,hq,h=>by
  unfold lk at h
  split at h
  ·rename_i e
   obtain rfl:=n9 e
   cases h
   exact⟨hq.1,j6⟩
  ·have:=IZ hq.2 h
   exact⟨this.1,j3 _ this.2⟩
theorem FB{q:Nat->Prop}:∀{l:List Nat} {t:Nat},dJ q l->cW t l=true->q t/\t∈l
 |x::l,t,hq,h=>by
  unfold cW at h
  split at h
  ·rename_i e
   obtain rfl:=n9 e
   exact⟨hq.1,j6⟩
  ·have:=FB hq.2 h
   exact⟨this.1,j3 _ this.2⟩
theorem xN{t:Nat}:∀{l:List Nat},t∈l->cW t l=true
 |x::l,h=>by
  unfold cW
  split
  ·rfl
  ·rename_i e
   rcases p9.1 h with rfl|h
   ·rw[I6]at e;cases e
   ·exact xN h
theorem RF{ρ:Nat->Nat}:∀{l:List Nat},gr (l.map ρ)=true->∀i∈l,∀j∈l,ρ i=ρ j->i=j
 |x::l,h,i,hi,j,a,e=>by
  rw[w9]at h
  unfold gr at h
  split at h
  ·cases h
  ·rename_i c
   have b:∀y∈l,ρ y≠ρ x:=λy d e=>by
    have:=xN (C8 (f:=ρ) d)
    rw[e,c]at this;cases this
   rcases p9.1 hi with h1|h1
   ·rcases p9.1 a with h2|h2
    ·rw[h1,h2]
    ·rw[h1]at e;exact absurd e.symm (b j h2)
   ·rcases p9.1 a with h2|h2
    ·rw[h2]at e;exact absurd e (b i h1)
    ·exact RF h i h1 j h2 e
theorem yC{S:dr}{n M nx m:Nat}{ι:Type}{I:dM ι}{s s':AS}{i:ι}{ρ:Nat->Nat}{a:Act}{c:RC}(hM:S.M=M)(d:eM S n (ge m) s' a c)(hb:ga M nx ρ I s i s'):eM S n (ge nx) (I.st s i) a (lS nx ρ c):=by
 have l:∀j b,(I.st s i).hp j=some b->BB nx ρ b (s'.hp (ρ j))/\Nat.ble (j+1) nx=true/\j∈(I.dE i).map (·.1)++I.bx:=by
  intro j b h;unfold dM.st at h;dsimp only at h;split at h
  ·rename_i p e;cases h;obtain⟨⟨h1,h2⟩,U⟩:=IZ hb.dE e;exact⟨h1,h2,G5 _ U⟩
  ·split at h
   ·rename_i e;obtain⟨⟨b',h1,h2,o⟩,V⟩:=FB hb.bx e;rw[h1]at h;cases h;exact⟨h2,o,H9 _ V⟩
   ·cases h
 have O:=o9 hb.dL;have E:cI S.rc (lS nx ρ c):=⟨λ_ _ h=>(by cases h),d.dT.bZ.z,d.dT.bZ.cell,d.dT.bZ.shape,d.dT.bZ.rB⟩;have F:∀{b:aI} {b':Option aI},BB nx ρ b b'->∃b'',b'=some b''/\b''.own=b.own:=by
  intro b b' h;rcases h with⟨h,_⟩|⟨h,_⟩
  ·exact⟨_,h,b.ahn ρ⟩
  ·exact⟨_,h,rr⟩
 refine⟨⟨d.dT.fL,E,d.dT.jU,d.dT.fC,λj (H:nx<=j)=>y8 om,λj b H=>?_,λp q bp bq hp hq K W x y Q R=>?_,λj H=>?_,λj (H:nx<=j)=>om⟩,d.size,λt p h=>?_,d.defers⟩
 ·obtain⟨h1,o,_⟩:=l j b H;have g:∀{r:List PV} {vs:List Value},((aM (PV.ja ρ r) c vs/\PV.lq nx r=true)\/(aM r c vs/\dP r))->aM r (lS nx ρ c) vs:=by
   intro r vs h;rcases h with⟨h,h2⟩|⟨h,h2⟩
   ·exact(rE nx ρ c r vs h2).1 h
   ·exact aM.ext r (cI.ng (lS nx ρ c)) (dP.rel (c:=c) h2 h)
  cases b with
  |rows k rs wr f e=>
   rcases h1 with⟨h1,h2⟩|⟨h1,h2⟩
   ·rcases d.dT.dK _ _ h1 with⟨g0,g1,g2⟩|⟨B,aK,vs,u,w,C,A,D,J,b7,Y,Z⟩
    ·exact .inl ⟨Zt ρ g0,g1,(oC o).trans g2⟩
    ·exact .inr ⟨B,aK,vs,(oC o).trans u,w,C,g (.inl ⟨A,h2⟩),D,J,b7,Y,Z⟩
   ·rcases d.dT.dK _ _ h1 with⟨g0,g1,g2⟩|⟨B,aK,vs,u,w,C,A,D⟩
    ·exact .inl ⟨g0,g1,(oC o).trans g2⟩
    ·exact .inr ⟨B,aK,vs,(oC o).trans u,w,C,g (.inr ⟨A,h2⟩),D⟩
  |map ks r wr=>
   rcases h1 with⟨h1,h2⟩|⟨h1,h2⟩
   ·obtain⟨B,es,cl,u,w,C,A,D,J⟩:=d.dT.dK _ _ h1;exact⟨B,es,cl,(oC o).trans u,w,C,A,g (.inl ⟨D,h2⟩),J⟩
   ·obtain⟨B,es,cl,u,w,C,A,D,J⟩:=d.dT.dK _ _ h1;exact⟨B,es,cl,(oC o).trans u,w,C,A,g (.inr ⟨D,h2⟩),J⟩
 ·obtain⟨L,p3,p4⟩:=l p bp hp;obtain⟨N,X,q4⟩:=l q bq hq;obtain⟨bp',L,po⟩:=F L;obtain⟨bq',N,_⟩:=F N;rw[oC p3]at Q;rw[oC X]at R;exact d.dT.eW _ _ _ _ L N (λe=>K (RF hb.inj p p4 q q4 e)) (po.trans W) x y Q R
 ·show(if j<nx then c.hb (ρ j)else none)=_
  rw[z7 om,Uv hb.fix j om];exact d.dT.dL j H
 ·have:s'.bD t=some (p.rn ρ)/\p.lt nx=true:=by
   unfold dM.st at h;dsimp only at h;split at h
   ·rename_i p' e;cases h;exact(IZ hb.eG e).1
   ·split at h
    ·rename_i e;obtain⟨p',h1,h2,o⟩:=(FB hb.gd e).1;rw[h1]at h;cases h;exact⟨h2,o⟩
    ·cases h
  obtain⟨v,h1,h2⟩:=d.bD t _ this.1;exact⟨v,h1,(wc nx ρ c p v this.2).1 h2⟩
theorem KC{S:dr}{n:Nat}{s:AS}{a:Act}{c:RC}:∀(C:List (Nat×Nat×TypeId)) {nx:Nat},eM S n (ge nx) s a c->dJ (λx:Nat×Nat×TypeId=>s.bD x.1=some (.sl true [])) C->eM S n (ge (nx+C.length)) (jq s nx C) a c
 | [],nx,m,_=>m
 |(t,k,e)::l,nx,m,⟨h1,h2⟩=>by
  have f:=KC l (nx:=nx+1) (m.up λj (d:nx+1<=j)=>show nx<=j by omega) h2
  have w:c.hb nx=none:=m.dT.fresh nx (j2 nx)
  refine⟨⟨f.dT.fL,f.dT.bZ,f.dT.jU,f.dT.fC,λj d=>f.dT.fresh j (show nx+1+l.length<=j by simp at d;omega),λj b d=>?_,λi j bi bj hi d z D x y A B=>?_,f.dT.dL,λj d=>f.dT.mY j (show nx+1+l.length<=j by simp at d;omega)⟩,f.size,λu p h=>?_,f.defers⟩
  ·replace d:da (jq s (nx+1) l).hp nx (some (.rows k [] true none e)) j=some b:=d
   by_cases g:j=nx
   ·subst g;rw[fc]at d;cases d;exact .inl ⟨rr,rr,w⟩
   ·rw[fU _ _ g]at d;exact f.dT.dK j b d
  ·replace hi:da (jq s (nx+1) l).hp nx (some (.rows k [] true none e)) i=some bi:=hi
   replace d:da (jq s (nx+1) l).hp nx (some (.rows k [] true none e)) j=some bj:=d
   by_cases o:i=nx
   ·subst o;rw[w]at A;cases A
   ·by_cases g:j=nx
    ·subst g;rw[w]at B;cases B
    ·rw[fU _ _ o]at hi;rw[fU _ _ g]at d
     exact f.dT.eW i j bi bj hi d z D x y A B
  ·replace h:da (jq s (nx+1) l).bD t (some (.aS nx 0 0)) u=some p:=h
   by_cases q:u=t
   ·subst q
    rw[fc]at h;cases h
    obtain⟨v,g1,vs,r,E,cap,hv,g2,g3,_⟩:=m.bD u _ h1
    obtain rfl:vs=[]:=r
    have:=g3 rr
    subst this
    exact⟨v,g1,.inl ⟨rr,E,hv⟩⟩
   ·rw[fU _ _ q]at h;exact f.bD u p h
section
variable (P:Program)(G:World→Prop)(T:TT)(M:Nat)
def vc(n:Nat):Code→Nat→AS→(Ex→Nat→AS→Prop)→Prop
 |.skip,nx,s,k=>k .normal nx s
 |.label _,nx,s,k=>k .normal nx s
 |.region _ ops draw,nx,s,k=>match draw with
  |false=>oW P G T n ops.toList ops.toList nx s (k .normal)
  |true=>tD P G T n ops.toList ops.toList nx s [] fun cA s'=>yA ops.toList cA=true∧k .normal (nx+ops.size) s'
 |.seq a b,nx,s,k=>vc n a nx s fun ex m s=>match ex with
  |.normal=>vc n b m s k
  |.ret=>k .ret m s
  |.exit i=>k (.exit i) m s
 |.cond x a b,nx,s,k=>match s.ev x with
  |some (.at (.bool t))=>gQ t (vc n a nx s k) (vc n b nx s k)
  |_=>False
 |.block i c,nx,s,k=>vc n c nx s fun ex m s=>match ex with
  |.normal=>k .normal m s
  |.ret=>k .ret m s
  |.exit j=>match Nat.beq j i with|true=>k .normal m s|false=>k (.exit j) m s
 |.loop c,nx,s,k=>cV M nx s (fun nx s k=>vc n c nx s k) k
 |.exit i,nx,s,k=>k (.exit i) nx s
 |.ret,nx,s,k=>k .ret nx s
 |.scope c,nx,s,k=>vc n c nx s k
 |_,_,_,_=>False
end
section
variable {P:Program}{G:World→Prop}{T:TT}{S:dr}
theorem mE{M:Nat}(hT:dV P T)(hX:P.follows .mixedOrders=true)(hG:S.G=G)(hM:S.M=M){n:Nat}:∀(c:Code) {nx:Nat} {s:AS} {a:Act} {cx:RC} {k:Ex→Nat→AS→Prop} {Q:Exit→Act→World→Prop},eM S n (ge nx) s a cx→vc P G T M n c nx s k→
 (∀ex m s' a' c',k ex m s'→eM S n (ge m) s' a' c'→Q ex.to a' c'.w)→c.wp P Q a cx.w
 |.skip,nx,s,a,cx,k,Q,hm,h,hk=>wp_skip (hk .normal nx s a cx h hm)
 |.label _,nx,s,a,cx,k,Q,hm,h,hk=>wp_label (hk .normal nx s a cx h hm)
 |.ret,nx,s,a,cx,k,Q,hm,h,hk=>wp_ret (hk .ret nx s a cx h hm)
 |.exit i,nx,s,a,cx,k,Q,hm,h,hk=>wp_exit (hk (.exit i) nx s a cx h hm)
 |.region id ops draw,nx,s,a,cx,k,Q,hm,h,hk=>by
  cases draw with
  |true=>exact wp_region_any hX (Nw hT hG hm.drew h fun s' a' c' h1 h2=>hk .normal _ s' a' c' h1 h2)
  |false=>
   refine wp_region_list ?_
   have:=Cl (Q:=Q) hT hG hm h fun m s' a' c' h1 h2=>hk .normal m s' a' c' h1 h2
   simpa using this
 |.seq x y,nx,s,a,cx,k,Q,hm,h,hk=>by
  refine wp_seq (mE hT hX hG hM x hm h fun ex m s' a' c' h1 h2=>?_)
  cases ex with
  |normal=>exact mE hT hX hG hM y h2 h1 hk
  |ret=>exact hk .ret m s' a' c' h1 h2
  |exit i=>exact hk (.exit i) m s' a' c' h1 h2
 |.cond x p q,nx,s,a,cx,k,Q,hm,h,hk=>by
  unfold vc at h
  split at h
  ·rename_i t e
   obtain⟨hx,_⟩:=FL hm.bD x _ e
   refine wp_cond (t:=t) hx ?_
   cases t with
   |true=>exact mE hT hX hG hM p hm (h.h1 rfl) hk
   |false=>exact mE hT hX hG hM q hm (h.h2 rfl) hk
  ·exact h.elim
 |.block i c,nx,s,a,cx,k,Q,hm,h,hk=>by
  refine wp_block (mE hT hX hG hM c hm h fun ex m s' a' c' h1 h2=>?_)
  cases ex with
  |normal=>exact hk .normal m s' a' c' h1 h2
  |ret=>exact hk .ret m s' a' c' h1 h2
  |exit j=>
   dsimp only at h1
   show if j=i then _ else _
   split at h1
   ·rename_i e
    rw[z7 (n9 e)];exact hk .normal m s' a' c' h1 h2
   ·rename_i e
    rw[y8 (by rintro rfl;rw[I6]at e;cases e)];exact hk (.exit j) m s' a' c' h1 h2
 |.loop c,nx,s,a,cx,k,Q,hm,h,hk=>by
  rcases h.h with⟨vt,m,ι,I,μ,i₀,rfl,hv,h0,hr⟩|⟨m,hu⟩
  ·have hm0:=KC vt hm hv
   refine SE (fun i a w=>∃c',c'.w=w∧eM S n (ge (nx+vt.length)) (I.st (jq s nx vt) i) a c') μ i₀ ⟨_,rfl,yC hM hm0 h0⟩ ?_
   rintro i a w ⟨c',rfl,hm'⟩
   refine mE hT hX hG hM c hm' (hr i) fun ex m s' a' c2 h1 h2=>?_
   cases ex with
   |normal=>
    obtain⟨i',ρ,hlt,hb⟩:=h1
    exact⟨i',hlt,lS _ ρ c2,rfl,yC hM h2 hb⟩
   |ret=>exact hk .ret m s' a' c2 h1 h2
   |exit j=>exact hk (.exit j) m s' a' c2 h1 h2
  ·have nI:∀(m:Nat) {nx:Nat} {s:AS} {a:Act} {cx:RC},eM S n (ge nx) s a cx→xA (fun nx s k=>vc P G T M n c nx s k) k m nx s→EA P c Q a cx.w:=by
    intro m
    induction m with
    |zero=>intro nx s a cx _ hu;exact hu.elim
    |succ m ih=>
     intro nx s a cx hm hu
     refine ajh (mE hT hX hG hM c hm hu fun ex m' s' a' c2 h1 h2=>?_)
     cases ex with
     |normal=>exact ih h2 h1
     |ret=>exact hk .ret m' s' a' c2 h1 h2
     |exit j=>exact hk (.exit j) m' s' a' c2 h1 h2
   exact ZF (nI m hm hu)
 |.rangeFunc _ _ _ _,_,_,_,_,_,_,_,h,_=>h.elim
 |.scope x,nx,s,a,cx,k,Q,hm,h,hk=>wp_scope_straight (mE hT hX hG hM x hm h fun ex m s' a' c' h1 h2=>by cases ex<;>exact hk _ m s' a' c' h1 h2)
 |.goto _,_,_,_,_,_,_,_,h,_=>h.elim
 |.refuse _,_,_,_,_,_,_,_,h,_=>h.elim
end
structure SV(P:Program)(G:World->Prop)(M n:Nat)(c:Code)(nx:Nat)(s:AS)(k:Ex->Nat->AS->Prop):Prop where
 h:∀{S:dr} {a:Act} {cx:RC},S.G=G->S.M=M->eM S n (ge nx) s a cx->c.wp P (λe a' w'=>∃ex m s' c',e=Ex.to ex/\c'.w=w'/\k ex m s'/\eM S n (ge m) s' a' c') a cx.w
section
variable {P:Program}{G:World→Prop}{T:TT}{M n:Nat}
theorem SV.of(a:dV P T)(b:P.follows .mixedOrders=true){c:Code}{nx:Nat}{s:AS}{k:Ex->Nat->AS->Prop}(h:vc P G T M n c nx s k):SV P G M n c nx s k:=
 ⟨λhG d e=>mE a b hG d c e h λex m s' a' c' h1 h2=>⟨ex,m,s',c',rr,rr,h1,h2⟩⟩
theorem SV.mono{c:Code}{nx:Nat}{s:AS}{k k':Ex->Nat->AS->Prop}(h:SV P G M n c nx s k)(a:∀ex m s,k ex m s->k' ex m s):SV P G M n c nx s k':=
 ⟨λhG b d=>wp_mono (h.h hG b d) λ_ _ _ ⟨ex,m,s',c',h1,h2,e,f⟩=>⟨ex,m,s',c',h1,h2,a _ _ _ e,f⟩⟩
theorem SV.seq (d:dV P T) (f:P.follows .mixedOrders=true) {x y:Code} {nx:Nat} {s:AS} {k:Ex->Nat->AS->Prop} (h:vc P G T M n x nx s λex m s'=>match ex with
 |.normal=>SV P G M n y m s' k
 |.ret=>k .ret m s'
 |.exit j=>k (.exit j) m s'):SV P G M n (.seq x y) nx s k:=⟨λhG c g=>by
 refine wp_seq (wp_mono ((SV.of d f h).h hG c g) ?_)
 rintro e a' w' ⟨ex,m,s',c',rfl,rfl,a,b⟩
 cases ex with
 |normal=>exact a.h hG c b
 |ret=>exact⟨.ret,m,s',c',rr,rr,a,b⟩
 |exit j=>exact⟨.exit j,m,s',c',rr,rr,a,b⟩⟩
theorem SV.cut {ι:Type} (J:dM ι) (D:ι->Prop) {x y:Code} {nx:Nat} {s:AS} {k:Ex->Nat->AS->Prop} (h1:SV P G M n x nx s λex m s'=>match ex with
 |.normal=>∃i ρ,D i/\ga M nx ρ J s i s'
 |.ret=>k .ret m s'
 |.exit j=>k (.exit j) m s') (h2:∀i,D i->SV P G M n y nx (J.st s i) k):SV P G M n (.seq x y) nx s k:=⟨λhG a d=>by
 refine wp_seq (wp_mono (h1.h hG a d) ?_)
 rintro e a' w' ⟨ex,m,s',c',rfl,rfl,b,c⟩
 cases ex with
 |normal=>
  obtain⟨i,ρ,f,hb⟩:=b
  exact(h2 i f).h hG a (cx:=lS nx ρ c') (yC a c hb)
 |ret=>exact⟨.ret,m,s',c',rr,rr,b,c⟩
 |exit j=>exact⟨.exit j,m,s',c',rr,rr,b,c⟩⟩
theorem SV.loop {ι:Type} (I:dM ι) (μ:ι->Nat) (o:ι) {c:Code} {nx:Nat} {s:AS} {k:Ex->Nat->AS->Prop} (h0:ga M nx id I s o s) (p:∀i,SV P G M n c nx (I.st s i) λex m s'=>match ex with
 |.normal=>∃i' ρ,μ i'<μ i/\ga M nx ρ I s i' s'
 |.ret=>k .ret m s'
 |.exit j=>k (.exit j) m s'):SV P G M n (.loop c) nx s k:=⟨fun{S a cx} hG b q=>by
 refine SE (λi a w=>∃c',c'.w=w/\eM S n (ge nx) (I.st s i) a c') μ o ⟨_,rr,yC b q h0⟩ ?_
 rintro i a w ⟨c',rfl,d⟩
 refine wp_mono ((p i).h hG b d) ?_
 rintro e a' w' ⟨ex,m,s',c2,rfl,rfl,f,g⟩
 cases ex with
 |normal=>
  obtain⟨i',ρ,l,hb⟩:=f
  exact⟨i',l,lS _ ρ c2,rr,yC b g hb⟩
 |ret=>exact⟨.ret,m,s',c2,rr,rr,f,g⟩
 |exit j=>exact⟨.exit j,m,s',c2,rr,rr,f,g⟩⟩
theorem SV.block {i:Nat} {c:Code} {nx:Nat} {s:AS} {k:Ex->Nat->AS->Prop} (h:SV P G M n c nx s λex m s=>match ex with
 |.normal=>k .normal m s
 |.ret=>k .ret m s
 |.exit j=>match Nat.beq j i with|true=>k .normal m s|false=>k (.exit j) m s):SV P G M n (.block i c) nx s k:=⟨λhG d f=>by
 refine wp_block (wp_mono (h.h hG d f) ?_)
 rintro e a' w' ⟨ex,m,s',c',rfl,rfl,a,b⟩
 cases ex with
 |normal=>exact⟨.normal,m,s',c',rr,rr,a,b⟩
 |ret=>exact⟨.ret,m,s',c',rr,rr,a,b⟩
 |exit j=>
  dsimp only at a
  show if j=i then _ else _
  split at a
  ·rename_i e
   rw[z7 (n9 e)];exact⟨.normal,m,s',c',rr,rr,a,b⟩
  ·rename_i e
   rw[y8 (by rintro rfl;rw[I6]at e;cases e)];exact⟨.exit j,m,s',c',rr,rr,a,b⟩⟩
end
def lG(T:TT)(s:AS):List ResultVar->(List PV->Prop)->Prop
 | [],k=>k []
 |.tmp t::l,k=>match s.bD t with|some v=>lG T s l λvs=>k (v::vs)|none=>False
 |.cell a t::l,k=>match s.bD a with|some p=>(wV T t [p]).wp s.hp λv _=>lG T s l λvs=>k (v::vs)|none=>False
def mf:List PV->Nat->(Nat->Option PV)
 | [],_=>λ_=>none
 |v::vs,i=>da (mf vs (i+1)) i (some v)
def jy:List PV->PV
 | [v]=>v
 |vs=>.aU vs
def zY(T:TT)(fn:Func)(post:PV->Prop):Ex->Nat->AS->Prop
 |.exit _,_,_=>False
 |_,_,s=>lG T s fn.results.toList λvs=>∃n rs l,(eH [] n s.hp vs=some (rs,l)\/(rs=vs/\PV.ri vs=true))/\post (jy rs)
def zm(P:Program)(G:World->Prop)(T:TT)(fn:Func)(args:List PV)(post:PV->Prop):Prop:=
 match fn.body with
 |some c=>match Nat.ble args.length fn.ntmps with
  |true=>vc P G T 0 fn.ntmps c 0 ⟨mf args 0,λ_=>none⟩ (zY T fn post)
  |false=>False
 |none=>False
def sm:List aI->Nat->Nat->Option aI
 | [],_=>λ_=>none
 |b::bs,i=>da (sm bs (i+1)) i (some b)
structure fk(js:List Nat)(nx:Nat)(hp:Nat->Option aI)(x:Nat×Nat):Prop where
 h:∃b,hp x.1=some b/\b.dP/\(x.2=nx\/PV.cR js x.1=some x.2)
def PV.wk:PV->PV
 |.gJ j lo=>.aS j lo 0
 |p=>p
theorem aiJ{p:PV}{c:RC}{v:Value}(r:bW p c v):bW p.wk c v:=by
 cases p with
 |gJ j lo=>
  obtain⟨B,k,cap,aK,e,f,h1,h2,a,b,d⟩:=r;exact .inr ⟨B,k,cap,aK,e,f,h1,h2,j9 _,a,b,d⟩
 |_=>exact r
theorem VK:∀{a:List PV} {c:RC} {vs:List Value},aM a c vs->aM (a.map PV.wk) c vs
 | [],_,_,r=>r
 |p::a,_,_,r=>by
  obtain⟨v,b,e,r1,r2⟩:=r
  exact⟨v,b,e,aiJ r1,VK r2⟩
def BP:Option aI->Option aI
 |some (.rows k rs wr _ e)=>some (.rows k rs wr none e)
 |b=>b
def rF(hp:Nat->Option aI)(i:Nat):Option aI:=BP (hp i)
theorem Hl{hp:Nat->Option aI}{i:Nat}{b:aI}(h:rF hp i=some b):∃b',hp i=some b'/\b'.own=b.own/\(∀S c,im S c i b'->im S c i b):=by
 unfold rF at h;cases e:hp i with
 |none=>rw[e]at h;cases h
 |some b'=>
  rw[e]at h;cases b' with
  |rows k rs wr cp t=>
   cases h;refine⟨_,rr,rr,λS c h=>?_⟩;rcases h with⟨h1,h2,a⟩|⟨B,aK,vs,g,j,m,d,f,p,o,l,q⟩
   ·exact .inl ⟨h1,rr,a⟩
   ·exact .inr ⟨B,aK,vs,g,j,m,d,f,p,o,l,λn h=>by cases h⟩
  |map ks vs wr=>cases h;exact⟨_,rr,rr,λ_ _ h=>h⟩
theorem bU.wk{S:dr}{F:Nat->Prop}{hp:Nat->Option aI}{c:RC}(h:bU S F hp c):bU S F (rF hp) c:=by
 refine⟨h.fL,h.bZ,h.jU,h.fC,h.fresh,λj b a=>?_,λi j bi bj hi a d g x y k l=>?_,h.dL,h.mY⟩
 ·obtain⟨b',h1,_,h2⟩:=Hl a;exact h2 S c (h.dK j b' h1)
 ·obtain⟨e,h1,h2,_⟩:=Hl hi;obtain⟨f,m,_,_⟩:=Hl a;exact h.eW i j e f h1 m d (h2.trans g) x y k l
theorem fk.wk{js:List Nat}{nx:Nat}{hp:Nat->Option aI}{x:Nat×Nat}(h:fk js nx hp x):fk js nx (rF hp) x:=by
 obtain⟨b,h1,h2,a⟩:=h.h;cases b with
 |rows k rs wr cp t=>exact⟨.rows k rs wr none t,by unfold rF;rw[h1];rfl,h2,a⟩
 |map ks vs wr=>exact⟨_,by unfold rF;rw[h1];rfl,h2,a⟩
def oK(out:List (Nat×Nat))(i:Nat):Nat:=(lk out i).getD 0
structure fw(js:List Nat)(nx:Nat)(hp:Nat->Option aI)(vs:List PV)(post:PV->cU->Prop):Prop where
 h:∃(out:List (Nat×Nat)) (n:Nat) (rs:List PV) (l:List Nat),eH (out.map (·.1)) n hp vs=some (rs,l)/\gr (out.map (·.1))=true/\gr (out.map (·.2))=true/\
  dJ (fk js nx (fx hp l)) out/\
  post (PV.rn (oK out) (jy (rs.map PV.wk))) (out.map (λx=>(x.2,rF (fx hp l) x.1))++js.map λj=>(j,none))
structure sV(T:TT)(fn:Func)(js:List Nat)(nx:Nat)(post:PV->cU->Prop)(m:Nat)(s:AS):Prop where
 h:∃vt:List (Nat×Nat×TypeId),dJ (λx:Nat×Nat×TypeId=>s.bD x.1=some (.sl true [])) vt/\lG T (jq s m vt) fn.results.toList λvs=>fw js nx (jq s m vt).hp vs post
def yg(T:TT)(fn:Func)(js:List Nat)(nx:Nat)(post:PV->cU->Prop):Ex->Nat->AS->Prop
 |.exit _,_,_=>False
 |_,m,s=>sV T fn js nx post m s
def se(P:Program)(G:World->Prop)(T:TT)(fn:Func)(args:List PV)(bs:List aI)(js:List Nat)(nx:Nat)(post:PV->cU->Prop):Prop:=
 match fn.body with
 |some c=>match Nat.ble args.length fn.ntmps with
  |true=>vc P G T js.length fn.ntmps c js.length ⟨mf args 0,sm bs 0⟩ (yg T fn js nx post)
  |false=>False
 |none=>False
section
variable {P:Program}{G:World→Prop}{T:TT}{S:dr}
theorem ZE(A:dV P T){F:Nat->Prop}{hp:Nat->Option aI}{c:RC}{K:PV->cU->Prop}(C:bU S F hp c)(t:TypeId){p:PV}{x:Value}(hv:bW p c x)(h:(wV T t [p]).wp hp K):
 ∃p d v,K p d/\bW p c v/\(Instr.loadAt t x).run P c.w=.ok v c.w:=by
 have key:∀{ti:TI} {j i off:Nat} {k:Nat} {rs:List PV} {wr:Bool} {f:Option Nat} {e:TypeId} {row v:PV},T t=some ti->(∃B k,c.hb j=some (B,k)/\x=.pointer (some ⟨B,i*k+off,none⟩))->hp j=some (.rows k rs wr f e)->PV.cR rs i=some row->
  Nat.ble (off+ti.size) row.cells.length=true->PV.kW ti.ag (PV.sub row.cells off ti.size)=some v->K v []->∃p d v,K p d/\bW p c v/\(Instr.loadAt t x).run P c.w=.ok v c.w:=by
  intro ti j i off k rs wr f e row v eT n o a g l D
  obtain⟨B,k',E,n⟩:=n
  obtain⟨rfl,u,r,H,s⟩:=GY C o a E
  obtain⟨w,z,q⟩:=xH (P:=P) (A t ti eT) r.cells g l B (i*k') s
  exact⟨_,_,w,D,q,by simp[n,Instr.loadAt,Instr.sureAddr,z]⟩
 unfold wV at h
 simp only[Sy,Xi]at h
 split at h
 ·rename_i ti j i off eT e
  cases e
  simp only[Tr.wp]at h
  split at h
  ·rename_i k rs wr f e o
   split at h
   ·rename_i row a
    split at h
    ·rename_i v g l
     exact key eT hv o a g l h
    ·exact False.elim h
   ·exact False.elim h
  ·exact False.elim h
 ·rename_i ti j i off eT e
  cases e
  simp only[Tr.wp]at h
  split at h
  ·rename_i k rs wr f e o
   obtain⟨row,a,_,h⟩:=h
   dsimp only at h
   split at h
   ·rename_i v g l
    exact key eT hv o (by simpa using a) g l h
   ·exact False.elim h
  ·exact False.elim h
 ·rename_i ti cs off eT e
  cases e
  split at h
  ·rename_i v g l
   obtain⟨b,bZ,us,n,q,s⟩:=hv
   obtain⟨w,z,q⟩:=xH (P:=P) (A t ti eT) (aM.ext cs (cI.ng c) q) g l b bZ (λm y I=>(s m y I).2)
   exact⟨_,_,w,h,q,by simp[n,Instr.loadAt,Instr.sureAddr,z]⟩
  ·exact False.elim h
 ·exact False.elim h
theorem KN:∀{a:List PV} {i t:Nat} {p:PV},mf a i t=some p->i<=t/\a[t-i]? = some p
 |q::a,i,t,p,h=>by
  unfold mf at h
  by_cases b:t=i
  ·subst b
   rw[fc]at h;cases h
   exact⟨j2 _,by simp⟩
  ·rw[fU _ _ b]at h
   have:=KN h
   refine⟨om,?_⟩
   rw[show t-i=t-(i+1)+1 by omega]
   simpa using this.2
theorem aM.get{c:RC}:∀{a:List PV} {vs:List Value},aM a c vs->∀{i:Nat} {p:PV},a[i]? = some p->∃v,vs[i]? = some v/\bW p c v
 |p::a,vs,r,i,q,h=>by
  obtain⟨v,b,rfl,r1,r2⟩:=r
  cases i with
  |zero=>simp at h;subst h;exact⟨v,rr,r1⟩
  |succ i=>simpa using aM.get r2 (by simpa using h)
def rv(tmps:Array Value):ResultVar->Sem Value
 |.tmp t=>pure (tmps.getD t undef)
 |.cell x t=>do loadVar t (<-asAddr (tmps.getD x undef))
theorem DV(i:dV P T){n:Nat}{F:Nat->Prop}{s:AS}{a:Act}{c:RC}(b:eM S n F s a c):∀(l:List ResultVar) {k:List PV->Prop},lG T s l k->
 ∃g vs,k g/\aM g c vs/\(l.mapM (m:=Sem) (rv a.tmps)).run P c.w=.ok vs c.w
 | [],k,h=>⟨[],[],h,rr,rr⟩
 |.tmp t::l,k,h=>by
  unfold lG at h
  split at h
  ·rename_i p e
   obtain⟨g,vs,h1,h2,j⟩:=DV i b l h
   obtain⟨v,hv,y⟩:=b.bD t p e
   have o:(rv a.tmps (.tmp t)).run P c.w=.ok v c.w:=by
    show Result.ok (a.tmps.getD t undef) c.w=_
    rw[B6,hv];rfl
   refine⟨_,v::vs,h1,⟨v,vs,rr,y,h2⟩,?_⟩
   rw[List.mapM_cons]
   simp only[Sem.run_bind,o,j,Result.andThen_ok,Sem.run_pure]
  ·exact h.elim
 |.cell x t::l,k,h=>by
  unfold lG at h
  split at h
  case h_2=>exact h.elim
  rename_i q e
  obtain⟨D,r,f⟩:=b.bD x q e
  have u:a.eval (.tmp x)=D:=by simp[Act.eval,B6,r]
  obtain⟨p,d,v,h1,h2,j⟩:=ZE (P:=P) i b.dT t (by rw[<-u]at f;exact f) h
  obtain⟨g,vs,o,z,A⟩:=DV i b l h1
  refine⟨_,v::vs,o,⟨v,vs,rr,h2,z⟩,?_⟩
  have B:(rv a.tmps (.cell x t)).run P c.w=.ok v c.w:=by
   have C:a.eval (.tmp x)=a.tmps.getD x undef:=rfl
   show(do loadVar t (<-asAddr (a.tmps.getD x undef)):Sem Value).run P c.w=_
   rw[<-C]
   revert j
   cases a.eval (.tmp x)with
   |pointer q=>cases q with
    |none=>intro h;cases h
    |some q=>intro h;exact h
   |_=>intro h;cases h
  rw[List.mapM_cons]
  simp only[Sem.run_bind,B,A,Result.andThen_ok,Sem.run_pure]
theorem TS{fn:Func}{n:Nat}{body:Code}{E:Ex->Nat->AS->Prop}{R:List PV->Nat->(Nat->Option aI)->Prop}(k:∀j m s,¬E (.exit j) m s)(o:∀ex m s,E ex m s->∃d:List (Nat×Nat×TypeId),dJ (λx:Nat×Nat×TypeId=>s.bD x.1=some (.sl true [])) d/\lG T (jq s m d) fn.results.toList λvs=>R vs (m+d.length) (jq s m d).hp)(p:dV P T)
 (q:S.D=[]) {a:Act} {w:World} (h:body.wp P (λe a' w'=>∃ex m s' c',e=Ex.to ex/\c'.w=w'/\E ex m s'/\eM S n (ge m) s' a' c') a w):
 body.wp P (bodyPost P fn λe w'=>∃m b c' c us,e=.returned (if us.length=1 then us[0]! else .tuple us.toArray)/\c'.w=w'/\bU S (ge m) b c'/\R c m b/\aM c c' us) a w:=by
 refine wp_mono h ?_
 rintro e a' w' ⟨ex,m,s',c',rfl,rfl,h1,h2⟩
 have fin:bodyPost P fn (λe w'=>∃m b c' c us,e=.returned (if us.length=1 then us[0]! else .tuple us.toArray)/\c'.w=w'/\bU S (ge m) b c'/\R c m b/\aM c c' us) .ret a' c'.w:=by
  obtain⟨d,g,i⟩:=o ex m s' h1
  have h2:=KC d h2 g
  obtain⟨c,us,r,t,v⟩:=DV (P:=P) p h2 _ i
  have f:(results fn a'.tmps).run P c'.w=.ok (if h:us.toArray.size=1 then us.toArray[0]else .tuple us.toArray) c'.w:=by
   have e1:results fn a'.tmps=(do let vs <-fn.results.mapM (rv a'.tmps);pure (if h:vs.size=1 then vs[0]else .tuple vs)):=by
    unfold results
    congr 1
   have e2:fn.results.mapM (rv a'.tmps)=(do let l <-fn.results.toList.mapM (rv a'.tmps);pure l.toArray):=by
    rw[show fn.results.mapM (rv a'.tmps)=fn.results.toList.toArray.mapM (rv a'.tmps)by rw[Array.toArray_toList],List.mapM_toArray,map_eq_pure_bind]
   rw[e1,e2]
   simp only[Sem.run_bind,v,Result.andThen_ok,Sem.run_pure]
  refine⟨h2.defers.trans q,_,f,_,_,c',c,us,?_,rr,h2.dT,r,t⟩
  congr 1
  by_cases h1:us.length=1
  ·obtain⟨u,rfl⟩:=J1.1 h1
   simp
  ·rw[y8 h1,dif_neg (by simpa using h1)]
 cases ex with
 |normal=>exact fin
 |ret=>exact fin
 |exit j=>exact(k j m s' h1).elim
theorem IV{args:List PV}{n nx:Nat}{hp:Nat->Option aI}(f:S.D=[]){c:RC}{vs:List Value}(g:bU S (ge nx) hp c)(d:aM args c vs)(h:args.length<=n):eM S n (ge nx) ⟨mf args 0,hp⟩ {tmps:=vs.toArray++Array.replicate (n-vs.toArray.size) undef,defers:=[]} c:=by
 have i:=d.length;refine⟨g,by simp;omega,λt p e=>?_,f.symm⟩;obtain⟨_,h2⟩:=KN e;obtain⟨v,hv,a⟩:=d.get h2;refine⟨v,?_,a⟩;rw[L7]at hv;have b:t<vs.length:=(c9.1 hv).1;rw[Array.getElem?_append_left (by simpa using b)];simpa using hv
theorem FZ{c:RC}{rs:List PV}{us:List Value}(h:aM rs c us):bW (jy rs) c (if us.length=1 then us[0]! else .tuple us.toArray):=by
 cases rs with
 |nil=>obtain rfl:us=[]:=h;exact⟨[],rr,rr⟩
 |cons r rs=>
  obtain⟨u,a,rfl,r1,r2⟩:=h;cases rs with
  |nil=>obtain rfl:a=[]:=r2;exact r1
  |cons r' rs'=>
   obtain⟨u',us'',rfl,r3,b⟩:=r2;exact⟨u::u'::us'',rr,u,u'::us'',rr,r1,u',us'',rr,r3,b⟩
theorem My{f:FuncId}{fn:Func}{args:List PV}{body:Code}{post:PV->Prop}(v:dV P T)(k:∀{w w':World},G w->Below w.heap.size w w'->G w')(x:P.funcs[f]? = some fn)(r:∀args w,(callFunc f args).run P w=.ok (.enter f args) w)(y:fn.body=some body)(p:args.length<=fn.ntmps)
 (h:∀{S:dr} {a:Act} {c:RC},S.G=G->S.M=0->S.D=[]->(∀b,¬S.L b)->eM S fn.ntmps (ge 0) ⟨mf args 0,λ_=>none⟩ a c->body.wp P (λe a' w'=>∃ex m s' c',e=Ex.to ex/\c'.w=w'/\zY T fn post ex m s'/\eM S fn.ntmps (ge m) s' a' c') a c.w):kS P G f args post:=by
 refine⟨r,λw Z vs t A B=>?_⟩
 have C:bU ⟨w,Z,0,λ_=>none,λ_=>False,G,λhb=>k t hb.below,[]⟩ (ge 0) (λ_=>none) ⟨w,Z,λ_=>none⟩:=
  ⟨ie.refl _ _,cI.refl _,λ_ _ _ _ h=>h,A,λ_ _=>rfl,(λ_ _ h=>by cases h),(λ_ _ _ _ h=>by cases h),λ_ h=>(by cases h),λ_ _=>j9 _⟩
 refine(calls_of_wp x y (TS (S:=⟨w,Z,0,λ_=>none,λ_=>False,G,λhb=>k t hb.below,[]⟩) (R:=λvs _ hp=>∃n rs l,(eH [] n hp vs=some (rs,l)\/(rs=vs/\PV.ri vs=true))/\post (jy rs)) (λj m s h=>h) (λex m s h=>⟨[],trivial,by cases ex<;>first|exact h|exact h.elim⟩) v rfl (h rfl rfl rfl (λ_ h=>h) (IV rfl C B p)))).mono ?_
 rintro e w' ⟨m,i,c',H,us,rfl,rfl,d,⟨n,rs,l,e,E⟩,u⟩
 have q:aM rs (jc i c' l).pure us:=by
  rcases e with e|⟨rfl,e⟩
  ·have q:=mN d l n e (λ_ h=>h) u
   rw[RC.xT]at q
   exact q
  ·exact aM.ext _ (qV i c' l).pure (yu _ e u)
 have g:=d.fx l
 have F:cI (jc i c' l).pure ⟨c'.w,od w c'.w Z,λ_=>none⟩:=by
  refine⟨λ_ _ h=>h,λb o z=>?_,λ_ _ _=>rfl,λ_ aK _ f h=>⟨aK,f,h,rr⟩,λ_ _ _ _ h=>h⟩
  by_cases hb:b<w.heap.size
  ·exact .inl (g.jU b o hb id z)
  ·exact .inr ⟨om,g.fC b o z⟩
 exact⟨jy rs,_,rr,E,bW.ext _ F (FZ q),d.fL.below⟩
theorem akj{f:FuncId}{fn:Func}{args:List PV}{post:PV->Prop}(e:dV P T)(g:P.follows .mixedOrders=true)(a:∀{w w':World},G w->Below w.heap.size w w'->G w')(i:P.funcs[f]? = some fn)(b:∀args w,(callFunc f args).run P w=.ok (.enter f args) w)
 (h:zm P G T fn args post):kS P G f args post:=by
 unfold zm at h
 split at h
 ·rename_i c j
  split at h
  ·rename_i d
   exact My e a i b j (o9 d) λhG k n _ l=>mE e g hG k c l h λex m s' a' c' h1 h2=>⟨ex,m,s',c',rr,rr,h1,h2⟩
  ·exact h.elim
 ·exact h.elim
end
theorem Bc:∀{bs:List aI} {i t:Nat} {b:aI},sm bs i t=some b->i<=t/\PV.cR bs (t-i)=some b
 |q::bs,i,t,b,h=>by
  unfold sm at h
  by_cases a:t=i
  ·subst a
   rw[fc]at h;cases h
   exact⟨j2 _,by rw[G0];rfl⟩
  ·rw[fU _ _ a]at h
   have:=Bc h
   refine⟨om,?_⟩
   rw[show t-i=t-(i+1)+1 by omega]
   exact this.2
theorem PX{α β:Type}:∀{l:List α} {m:List β} {i:Nat} {b:β},l.length=m.length->PV.cR m i=some b->∃a,PV.cR l i=some a/\(a,b)∈l.zip m
 |a::l,c::m,0,b,_,h=>by cases h;exact⟨a,rr,j6⟩
 |a::l,c::m,i+1,b,d,h=>by
  obtain⟨x,h1,h2⟩:=PX (l:=l) (m:=m) (by simpa using d) h
  exact⟨x,h1,j3 _ h2⟩
 | [],[],i,b,_,h=>by cases i<;>cases h
theorem TZ:∀{l:List Nat},gr l=true->∀{i j x:Nat},PV.cR l i=some x->PV.cR l j=some x->i=j
 |y::l,h,i,j,x,hi,b=>by
  unfold gr at h
  split at h
  ·cases h
  ·rename_i c
   have a:∀{k:Nat},PV.cR l k≠some y:=fun{k} d=>by
    have:y∈l:=i7 (wq d)
    rw[xN this]at c;cases c
   cases i with
   |zero=>
    cases hi
    cases j with
    |zero=>rfl
    |succ j=>exact absurd b a
   |succ i=>
    cases j with
    |zero=>cases b;exact absurd hi a
    |succ j=>exact congrArg Nat.succ (TZ h hi b)
theorem Eu{α:Type}:∀{l:List (Nat×α)} {x:Nat×α},x∈l->gr (l.map (·.1))=true->lk l x.1=some x.2
 |y::l,x,h,a=>by
  rw[w9]at a
  unfold gr at a
  split at a
  ·cases a
  ·rename_i b
   unfold lk
   rcases p9.1 h with rfl|h
   ·rw[I6]
   ·split
    ·rename_i e
     have:=n9 e
     exfalso
     rw[<-this,xN (C8 h)]at b
     cases b
    ·exact Eu h a
theorem aeC{l:List (Nat×Nat)}(h:gr (l.map (·.2))=true){x y:Nat×Nat}(d:x∈l)(f:y∈l)(e:x.2=y.2):x.1=y.1:=by
 induction l with
 |nil=>cases d
 |cons z l ih=>
  rw[w9]at h;unfold gr at h;split at h
  ·cases h
  ·rename_i g;have c:∀{w:Nat×Nat},w∈l->w.2≠z.2:=λi e=>by
    rw[<-e,xN (C8 i)]at g;cases g
   rcases p9.1 d with b|b
   ·rcases p9.1 f with a|a
    ·rw[b,a]
    ·rw[b]at e;exact absurd e.symm (c a)
   ·rcases p9.1 f with a|a
    ·rw[a]at e;exact absurd e (c b)
    ·exact ih h b a
theorem Nd{i:Nat}:∀{l:List (Nat×Nat)},cW i (l.map (·.1))=true->∃x∈l,x.1=i
 |y::l,h=>by
  rw[w9]at h
  unfold cW at h
  split at h
  ·rename_i e;exact⟨y,j6,(n9 e).symm⟩
  ·obtain⟨x,h1,h2⟩:=Nd h
   exact⟨x,j3 _ h1,h2⟩
theorem zd{c:RC}{X:List Nat}{j:Nat}{x:Nat×Nat}(h:(c.only X).hb j=some x):cW j X=true/\c.hb j=some x:=by
 unfold RC.only at h;dsimp only at h;split at h
 ·rename_i e;exact⟨e,h⟩
 ·cases h
mutual
theorem Eb{c d:RC}{X:List Nat}{σ:Nat->Nat}(a:d.w=c.w)(g:d.Z=c.Z)(hb:∀i,cW i X=true->d.hb (σ i)=c.hb i):∀(p:PV) {v:Value},bW p (c.only X) v->bW (p.rn σ) d v
 |.at _,_,r=>r
 |.any,_,r=>r
 |.agg cs,_,r=>by obtain⟨vs,e,r⟩:=r;exact⟨vs,e,Et a g hb cs r⟩
 |.sl _ rows,_,r=>by
  have e:d.pure=(c.only X).pure:=by unfold RC.pure RC.only;rw[a,g]
  obtain⟨vs,r1,r2⟩:=r
  exact⟨vs,by rw[e];exact r1,by rw[a,g];exact r2⟩
 |.lp j _ _,_,r=>by
  obtain⟨B,k,h1,h2⟩:=r
  obtain⟨h,l⟩:=zd h1
  exact⟨B,k,(hb j h).trans l,h2⟩
 |.le j _ _,_,r=>by
  obtain⟨B,k,h1,h2⟩:=r
  obtain⟨h,l⟩:=zd h1
  exact⟨B,k,(hb j h).trans l,h2⟩
 |.gJ j _,_,r=>by
  obtain⟨B,k,cap,aK,e,f,h1,h2,h,m,n⟩:=r
  obtain⟨g1,g2⟩:=zd h1
  exact⟨B,k,cap,aK,e,f,(hb j g1).trans g2,h2,h,by rw[a];exact m,n⟩
 |.aS j _ _,_,r=>by
  rcases r with r|⟨B,k,cap,aK,e,f,h1,h2,h,o,m,n⟩
  ·exact .inl r
  ·obtain⟨g1,g2⟩:=zd h1
   exact .inr ⟨B,k,cap,aK,e,f,(hb j g1).trans g2,h2,h,o,by rw[a];exact m,n⟩
 |.iL j,_,r=>by
  obtain⟨B,k,h1,h2⟩:=r
  obtain⟨h,l⟩:=zd h1
  exact⟨B,k,(hb j h).trans l,h2⟩
 |.ip cs _,_,r=>by
  have e:d.pure=(c.only X).pure:=by unfold RC.pure RC.only;rw[a,g]
  obtain⟨b,bZ,vs,h1,r1,r2⟩:=r
  exact⟨b,bZ,vs,h1,by rw[e];exact r1,by rw[a,g];exact r2⟩
 |.fn _ cs,_,r=>by obtain⟨vs,e,r⟩:=r;exact⟨vs,e,Et a g hb cs r⟩
 |.fm _ p,_,r=>by obtain⟨x,e,r⟩:=r;exact⟨x,e,Eb a g hb p r⟩
 |.mv _ p,_,r=>by obtain⟨x,e,r⟩:=r;exact⟨x,e,Eb a g hb p r⟩
 |.aU cs,_,r=>by obtain⟨vs,e,r⟩:=r;exact⟨vs,e,Et a g hb cs r⟩
 |.mp _ _,_,r=>by
  have e:d.pure=(c.only X).pure:=by unfold RC.pure RC.only;rw[a,g]
  obtain⟨rr,es,cl,h1,h2,h,q,l,m⟩:=r
  exact⟨rr,es,cl,h1,by rw[g];exact h2,by rw[a];exact h,q,l,by rw[e];exact m⟩
theorem Et{c d:RC}{X:List Nat}{σ:Nat->Nat}(f:d.w=c.w)(g:d.Z=c.Z)(hb:∀i,cW i X=true->d.hb (σ i)=c.hb i):∀(a:List PV) {vs:List Value},aM a (c.only X) vs->aM (PV.ja σ a) d vs
 | [],_,r=>r
 |p::a,_,r=>by
  obtain⟨v,b,e,r1,r2⟩:=r
  exact⟨v,b,e,Eb f g hb p r1,Et f g hb a r2⟩
end
section
variable {P:Program}{G:World→Prop}{T:TT}
theorem akr{P:Program}{fn:Func}{R R':Ending->World->Prop}(h:∀e w,R e w->R' e w):∀(e:Exit) (a:Act) (w:World),bodyPost P fn R e a w->bodyPost P fn R' e a w
 |.normal,_,_,⟨h1,v,h2,b⟩=>⟨h1,v,h2,h _ _ b⟩
 |.ret,_,_,⟨h1,v,h2,b⟩=>⟨h1,v,h2,h _ _ b⟩
 |.panic _,_,_,⟨h1,h2⟩=>⟨h1,h _ _ h2⟩
 |.outgrown,_,_,h1=>h _ _ h1
 |.exit _,_,_,h1=>h1
 |.goto _,_,_,h1=>h1
theorem TL{fn:Func}{body:Code}{args:List PV}{bs:List aI}{js:List Nat}{nx:Nat}{post:PV->cU->Prop}(hT:dV P T)
 (hjs:gr js=true) (hnx:cW nx js=false) (hlen:js.length=bs.length) (hbs:dJ (λb:aI=>b.own=true/\b.dP) bs) (hlt:PV.lq js.length args=true) (hle':args.length<=fn.ntmps) (h:SV P G js.length fn.ntmps body js.length ⟨mf args 0,sm bs 0⟩ (yg T fn js nx post))
 {S:dr} {F:Nat->Prop} {hp:Nat->Option aI} {c:RC} {vs:List Value} (hG:S.G=G) (hF:F nx) (E:bU S F hp c) (hb:dJ (λx:Nat×aI=>hp x.1=some x.2) (js.zip bs)) (hr:aM (PV.ja (λi=>(PV.cR js i).getD 0) args) c vs):
 body.wp P (bodyPost P fn λe w'=>∃r d v c',e=.returned v/\c'.w=w'/\post r d/\tw S (dz F nx) (eY hp d) c c' r v) {tmps:=vs.toArray++Array.replicate (fn.ntmps-vs.toArray.size) undef,defers:=[]} c.w:=by
 let ρ:Nat->Nat:=λi=>(PV.cR js i).getD 0
 have hρ:∀{i b},PV.cR bs i=some b->PV.cR js i=some (ρ i)/\hp (ρ i)=some b/\i<js.length:=by
  intro i b hi
  obtain⟨a,h1,h2⟩:=PX hlen hi
  have J:ρ i=a:=by show(PV.cR js i).getD 0=a;rw[h1];rfl
  rw[J]
  exact⟨h1,hb.mem _ h2,Cn h1⟩
 have hlow:∀i,i<js.length->∃b,PV.cR bs i=some b:=by
  intro i hi
  rw[hlen]at hi
  have:∀(l:List aI) (i:Nat),i<l.length->∃b,PV.cR l i=some b:=by
   intro l
   induction l with
   |nil=>intro i hi;cases hi
   |cons a l ih=>intro i hi;cases i with
    |zero=>exact⟨a,rr⟩
    |succ i=>exact ih i (by simpa using hi)
  exact this bs i hi
 have X:∀{i b},PV.cR bs i=some b->b.own=true/\b.dP:=λhi=>hbs.mem _ (i7 (wq hi))
 let L:Nat->Prop:=λB=>∃i k,i<js.length/\c.hb (ρ i)=some (B,k)
 have H:∀B,L B->S.Own B/\BX c.w B:=by
  rintro B ⟨i,k,hi,K⟩
  obtain⟨b,hbi⟩:=hlow i hi
  exact(E.dK _ _ (hρ hbi).2.1).at K
 let S':dr:=⟨c.w,c.Z,js.length,(lS js.length ρ c).hb,L,G,λhk=>hG▸S.hG (E.fL.step hk λi hi hl=>by
  rcases(H i hl).1 with h|h
  ·omega
  ·exact h),[]⟩
 let c0:RC:=lS js.length ρ c
 have hs0:bU S' (ge js.length) (sm bs 0) c0:=by
  refine⟨ie.refl _ _,cI.ng c0,λ_ _ _ _ h=>h,E.fC,λj (t:js.length<=j)=>y8 om,λj b t=>?_,λi j Y bj hi t Q ho x y p hy=>?_,λ_ _=>rfl,λ_ h=>h⟩
  ·obtain⟨_,t⟩:=Bc t
   rw[L7]at t
   obtain⟨h1,h2,J⟩:=hρ t
   obtain⟨_,hclo⟩:=X t
   have hhb:c0.hb j=c.hb (ρ j):=z7 J
   have K:=E.dK _ _ h2
   cases b with
   |rows k rs wr f e=>
    rcases K with⟨g0,g1,g2⟩|⟨B,aK,us,b1,b2,b3,b4,b5⟩
    ·exact .inl ⟨g0,g1,hhb.trans g2⟩
    ·exact .inr ⟨B,aK,us,hhb.trans b1,.inr ⟨j,k,J,b1⟩,b3,aM.ext rs (cI.ng c0) (dP.rel (c:=c) hclo b4),b5⟩
   |map ks ps wr=>
    obtain⟨B,es,cl,b1,b2,b3,b4,b5,b6⟩:=K
    exact⟨B,es,cl,hhb.trans b1,.inr ⟨j,0,J,b1⟩,b3,b4,aM.ext ps (cI.ng c0) (dP.rel (c:=c) hclo b5),b6⟩
  ·obtain⟨_,hi⟩:=Bc hi
   obtain⟨_,t⟩:=Bc t
   rw[L7]at hi t
   obtain⟨h1,h2,J⟩:=hρ hi
   obtain⟨g1,g2,g3⟩:=hρ t
   have V:c.hb (ρ i)=some x:=by rw[<-p];exact(z7 J).symm
   have hy':c.hb (ρ j)=some y:=by rw[<-hy];exact(z7 g3).symm
   refine E.eW _ _ _ _ h2 g2 (λe=>Q ?_) ho x y V hy'
   rw[<-e]at g1
   exact TZ hjs h1 g1
 have hr0:aM args c0 vs:=(rE js.length ρ c args vs hlt).1 hr
 refine wp_mono (TS (S:=S') (R:=λvs _ hp=>fw js nx hp vs post) (λj m s h=>h) (λex m s h=>by cases ex<;>first|exact h.h|exact h.elim) hT rfl (h.h rfl rfl (cx:=c0) (IV rfl hs0 hr0 hle'))) (akr ?_)
 rintro e w' ⟨m,hp',c',ps,us,rfl,rfl,hsat,⟨out,n,rs,l,e1,e2,e3,e4,e5⟩,h4⟩
 have h6:=VK (mN hsat l n e1 (λ_ h=>h) h4)
 generalize rs.map PV.wk=rs at h6 e5
 have g:=(hsat.fx l).wk
 have e4:=e4.imp λx _ h=>fk.wk h
 generalize hc1:jc hp' c' l=c1 at h6 g
 generalize hhp1:rF (fx hp' l)=I at g e4 e5
 have hw1:c1.w=c'.w:=by rw[<-hc1];rfl
 have hkeep:=g.fL
 have C:=g.bZ
 have hnx0:c.hb nx=none:=E.fresh nx hF
 have hnj:∀{i},PV.cR js i≠some nx:=fun{i} hi=>by
  rw[xN (i7 (wq hi))]at hnx;cases hnx
 let U:Nat->Option (Nat×Nat):=λy=>if y=nx then(out.find? (λx=>x.2==nx)).bind (λx=>c1.hb x.1)else c.hb y
 let cF:RC:=⟨c1.w,c1.Z,U⟩
 have hbF_ne:∀{y},y≠nx->U y=c.hb y:=λh=>y8 h
 have M:cI c cF:=by
  refine⟨λj x h=>?_,C.z,C.cell,C.shape,C.rB⟩
  rw[show cF.hb j=c.hb j from hbF_ne (λe=>by rw[e,hnx0]at h;cases h)]
  exact h
 have hlowhb:∀i,i<js.length->c1.hb i=c.hb (ρ i):=λi hi=>(g.dL i hi).trans (z7 hi)
 have A:∀x∈out,U x.2=c1.hb x.1:=by
  intro x p
  obtain⟨⟨b,_,_,g3⟩⟩:=e4.mem x p
  by_cases hn:x.2=nx
  ·show(if x.2=nx then _ else _)=_
   rw[z7 hn]
   cases D:out.find? (λx=>x.2==nx)with
   |none=>
    have:=List.find?_eq_none.1 D x p
    simp[hn]at this
   |some y=>
    have hy:=x7 D
    have hy2:y.2=nx:=by simpa using G9 D
    have:y.1=x.1:=aeC e3 hy p (hy2.trans hn.symm)
    show c1.hb y.1=c1.hb x.1
    rw[this]
  ·rcases g3 with g3|g3
   ·exact(hn g3).elim
   ·rw[hbF_ne hn,hlowhb x.1 (Cn g3)]
    show c.hb x.2=c.hb ((PV.cR js x.1).getD 0)
    rw[g3];rfl
 have hownS:∀B,S'.Own B->S.Own B:=by
  intro B h
  rcases h with h|h
  ·exact .inl (r8 E.fL.size h)
  ·exact(H B h).1
 have hout:∀x∈out,∃b,I x.1=some b/\im S cF x.2 b:=by
  intro x p
  obtain⟨⟨b,g1,g2,g3⟩⟩:=e4.mem x p
  refine⟨b,g1,?_⟩
  have K:=g.dK _ _ g1
  have hn:cF.hb x.2=c1.hb x.1:=A x p
  cases b with
  |rows k rs wr f e=>
   rcases K with⟨q0,q1,q2⟩|⟨B,aK,us,b1,b2,b3,b4,b5⟩
   ·exact .inl ⟨q0,q1,hn.trans q2⟩
   ·exact .inr ⟨B,aK,us,hn.trans b1,hownS B b2,b3,aM.ext rs (cI.ng cF) (dP.rel (c:=c1) g2 b4),b5⟩
  |map ks ps wr=>
   obtain⟨B,es,cl,b1,b2,b3,b4,b5,b6⟩:=K
   exact⟨B,es,cl,hn.trans b1,hownS B b2,b3,b4,aM.ext ps (cI.ng cF) (dP.rel (c:=c1) g2 b5),b6⟩
 generalize hd:(out.map (λx=>(x.2,I x.1))++js.map λj=>(j,none):cU)=d at e5
 have hget:∀j b,eY hp d j=some b->(∃x∈out,x.2=j/\I x.1=some b)\/(hp j=some b/\(∀x∈out,x.2≠j)/\j∉js):=by
  intro j b t
  rw[<-hd,Ky]at t
  have W:∀(js:List Nat) {b},eY hp (js.map λj=>(j,none)) j=some b->hp j=some b/\j∉js:=by
   intro js
   induction js with
   |nil=>intro b h;exact⟨h,o7⟩
   |cons y js ih=>
    intro b h
    replace h:da (eY hp (js.map λj=>(j,none))) y none j=some b:=h
    by_cases e:j=y
    ·subst e;rw[fc]at h;cases h
    ·rw[fU _ _ e]at h
     obtain⟨i1,i2⟩:=ih h
     exact⟨i1,λhm=>by rcases p9.1 hm with h9|h9;exact e h9;exact i2 h9⟩
  generalize hq:eY hp (js.map λj=>(j,none))=q at t W
  have:∀(l:List (Nat×Nat)),(∀x∈l,x∈out)->eY q (l.map (λx=>(x.2,I x.1))) j=some b->(∃x∈out,x.2=j/\I x.1=some b)\/(q j=some b/\∀x∈l,x.2≠j):=by
   intro l
   induction l with
   |nil=>intro _ h;exact .inr ⟨h,λx p=>by cases p⟩
   |cons y l ih=>
    intro hm h
    replace h:da (eY q (l.map (λx=>(x.2,I x.1)))) y.2 (I y.1) j=some b:=h
    by_cases e:j=y.2
    ·subst e;rw[fc]at h;exact .inl ⟨y,hm y j6,rr,h⟩
    ·rw[fU _ _ e]at h
     rcases ih (λx p=>hm x (j3 _ p)) h with h|⟨h1,h2⟩
     ·exact .inl h
     ·exact .inr ⟨h1,λx p=>by rcases p9.1 p with rfl|p;exact λe2=>e e2.symm;exact h2 x p⟩
  rcases this out (λ_ h=>h) t with h|⟨h1,h2⟩
  ·exact .inl h
  ·have J:=W js (b:=b) (by rw[hq];exact h1)
   exact .inr ⟨J.1,h2,J.2⟩
 have O:∀j b B n,hp j=some b->j∉js->c.hb j=some (B,n)->B<c.w.heap.size/\¬L B:=by
  intro j b B n t hnjs K
  refine⟨((E.dK j b t).at K).2.lt,?_⟩
  rintro⟨i,k,hi,hBi⟩
  obtain⟨Y,hbi⟩:=hlow i hi
  obtain⟨q1,q2,q3⟩:=hρ hbi
  have Q:ρ i≠j:=λe=>hnjs (e▸i7 (wq q1))
  exact E.eW _ _ _ _ q2 t Q (X hbi).1 _ _ hBi K rr
 have hZold:∀b o,b<c.w.heap.size->¬L b->c1.Z b o->c.Z b o:=g.jU
 have hblock:∀B,B<c.w.heap.size->¬L B->c1.w.heap[B]? = c.w.heap[B]?:=hkeep.block
 have houtblk:∀x∈out,∀B n,U x.2=some (B,n)->c.w.heap.size<=B\/L B:=by
  intro x p B n K
  obtain⟨b,g1,_⟩:=hout x p
  rw[A x p]at K
  exact((g.dK _ _ g1).at K).1
 refine⟨_,d,_,cF,rr,hw1,e5,M,⟨E.fL.step hkeep λi hi hl=>?_,E.bZ.trans M,λb o hb hl z=>?_,g.fC,λj t=>?_,λj b t=>?_,λi j Y bj hi t Q ho x y p hy=>?_,λj t=>?_,λj t=>E.mY j t.1⟩,?_⟩
 ·rcases(H i hl).1 with h|h
  ·omega
  ·exact h
 ·refine E.jU b o hb hl (hZold b o (u9 hb E.fL.size) (λh=>?_) z)
  rcases(H b h).1 with h|h
  ·omega
  ·exact hl h
 ·exact(hbF_ne t.2).trans (E.fresh j t.1)
 ·rcases hget j b t with⟨x,p,rfl,h1⟩|⟨h1,h2,J⟩
  ·obtain⟨b',g1,g2⟩:=hout x p
   rw[h1]at g1;cases g1;exact g2
  ·refine(E.dK j b h1).bx M (λhz=>?_) λB n K=>?_
   ·by_cases e:j=nx
    ·subst e
     show(if j=j then _ else _)=_
     rw[z7 rfl]
     cases D:out.find? (λx=>x.2==j)with
     |none=>rfl
     |some y=>exact absurd (by simpa using G9 D) (h2 y (x7 D))
    ·exact(hbF_ne e).trans hz
   ·obtain⟨g1,g2⟩:=O j b B n h1 J K
    exact⟨hblock B g1 g2,λo=>⟨hZold B o g1 g2,C.z B o⟩⟩
 ·have N:∀{i Y},eY hp d i=some Y->∀{x:Nat×Nat},U i=some x->(∃z∈out,z.2=i/\I z.1=some Y/\c1.hb z.1=some x)\/(hp i=some Y/\c.hb i=some x/\x.1<c.w.heap.size/\¬L x.1):=by
   intro i Y hi x p
   rcases hget i Y hi with⟨z,hz,rfl,h1⟩|⟨h1,h2,J⟩
   ·exact .inl ⟨z,hz,rr,h1,by rw[<-A z hz];exact p⟩
   ·have hin:i≠nx:=by
     rintro rfl
     have V:(if i=i then(out.find? (λx=>x.2==i)).bind (λx=>c1.hb x.1)else c.hb i)=some x:=p
     rw[z7 rfl]at V
     cases D:out.find? (λx=>x.2==i)with
     |none=>rw[D]at V;cases V
     |some y=>exact absurd (by simpa using G9 D) (h2 y (x7 D))
    rw[hbF_ne hin]at p
    exact .inr ⟨h1,p,O i Y x.1 x.2 h1 J p⟩
  rcases N hi p with⟨z,hz,rfl,h1,h2⟩|⟨h1,h2,J,h4⟩
  ·rcases N t hy with⟨u,hu,rfl,g1,g2⟩|⟨g1,g2,g3,g4⟩
   ·exact g.eW z.1 u.1 Y bj h1 g1 (λe=>Q (by
     have e1':=Eu hz e2
     have e2':=Eu hu e2
     rw[e,e2']at e1'
     exact(z8 e1').symm)) ho x y h2 g2
   ·rcases houtblk z hz x.1 x.2 (by rw[A z hz];exact h2)with h|h
    ·omega
    ·exact λe=>g4 (e▸h)
  ·rcases N t hy with⟨u,hu,rfl,g1,g2⟩|⟨g1,g2,g3,g4⟩
   ·rcases houtblk u hu y.1 y.2 (by rw[A u hu];exact g2)with h|h
    ·omega
    ·exact λe=>h4 (e▸h)
   ·exact E.eW i j Y bj h1 g1 Q ho x y h2 g2
 ·exact(hbF_ne (by have:=E.mY nx hF;omega)).trans (E.dL j t)
 ·refine Eb (c:=c1) (d:=cF) rr rr (λi hi=>?_) (jy rs) (FZ h6)
  obtain⟨x,p,rfl⟩:=Nd hi
  show U ((lk out x.1).getD 0)=c1.hb x.1
  rw[Eu p e2]
  exact A x p
theorem Sr{fn:Func}{args:List PV}{bs:List aI}{js:List Nat}{nx:Nat}{post:PV->cU->Prop}(b:dV P T)(d:P.follows .mixedOrders=true)(h:se P G T fn args bs js nx post):∃body,fn.body=some body/\args.length<=fn.ntmps/\SV P G js.length fn.ntmps body js.length ⟨mf args 0,sm bs 0⟩ (yg T fn js nx post):=by
 unfold se at h;split at h
 ·rename_i c e;split at h
  ·rename_i a;exact⟨c,e,o9 a,SV.of b d h⟩
  ·exact h.elim
 ·exact h.elim
theorem V'{f:FuncId}{fn:Func}{body:Code}{args:List PV}{bs:List aI}{js:List Nat}{nx:Nat}{post:PV->cU->Prop}(l:dV P T)(m:P.funcs[f]? = some fn)(c:∀args w,(callFunc f args).run P w=.ok (.enter f args) w)
 (d:gr js=true) (e:cW nx js=false) (a:js.length=bs.length) (g:dJ (λb:aI=>b.own=true/\b.dP) bs) (j:PV.lq js.length args=true) (n:fn.body=some body) (k:args.length<=fn.ntmps) (h:SV P G js.length fn.ntmps body js.length ⟨mf args 0,sm bs 0⟩ (yg T fn js nx post)):
 HC P G f (PV.ja (λi=>(PV.cR js i).getD 0) args) (js.zip bs) nx post:=
 ⟨c,λhG o p hb q=>calls_of_wp m n (TL l d e a g j k h hG o p hb q)⟩
theorem afP{f:FuncId}{fn:Func}{args:List PV}{bs:List aI}{js:List Nat}{nx:Nat}{post:PV->cU->Prop}(l:dV P T)(m:P.follows .mixedOrders=true)(n:P.funcs[f]? = some fn)(c:∀args w,(callFunc f args).run P w=.ok (.enter f args) w)
 (d:gr js=true) (e:cW nx js=false) (a:js.length=bs.length) (g:dJ (λb:aI=>b.own=true/\b.dP) bs) (j:PV.lq js.length args=true) (h:se P G T fn args bs js nx post):
 HC P G f (PV.ja (λi=>(PV.cR js i).getD 0) args) (js.zip bs) nx post:=by
 obtain⟨body,o,k,h⟩:=Sr l m h
 exact V' l n c d e a g j o k h
structure py(P:Program)(G:World->Prop)(f:FuncId)(args:List PV)(bs:List (Nat×aI))(nx:Nat)(post:PV->cU->Prop):Prop where
 enter:∀args w,(callFunc f args).run P w=.ok (.enter f args) w
 run:∀{S:dr} {F:Nat->Prop} {hp:Nat->Option aI} {c:RC} {vs:List Value},S.G=G->F nx->bU S F hp c->dJ (λx:Nat×aI=>hp x.1=some x.2) bs->aM args c vs->
  CallsD P f vs.toArray .returning c.w λe u w'=>u=.returning/\∃r d v c',e=.returned v/\c'.w=w'/\post r d/\tw S (dz F nx) (eY hp d) c c' r v
theorem aoC{f:FuncId}{fn:Func}{args:List PV}{bs:List aI}{js:List Nat}{nx:Nat}{post:PV->cU->Prop}(l:dV P T)(m:P.follows .mixedOrders=true)(n:P.funcs[f]? = some fn)(c:∀args w,(callFunc f args).run P w=.ok (.enter f args) w)
 (d:gr js=true) (e:cW nx js=false) (a:js.length=bs.length) (g:dJ (λb:aI=>b.own=true/\b.dP) bs) (j:PV.lq js.length args=true) (h:se P G T fn args bs js nx post):
 py P G f (PV.ja (λi=>(PV.cR js i).getD 0) args) (js.zip bs) nx post:=by
 obtain⟨body,o,k,h⟩:=Sr l m h
 exact⟨c,λhG p q hb r=>callsD_of_wp n o (TL l d e a g j k h hG p q hb r)⟩
end
end
section
open Go.RowKit Go.Proofs.Tryz
mutual
def DQ:PV->Value
 |.at v=>v
 |.agg cs=>.agg (Ef cs).toArray
 |.sl _ _=>.slice none 0 0
 |_=>undef
def Ef:List PV->List Value
 | []=>[]
 |p::l=>DQ p::Ef l
end
mutual
def Fm:PV->Bool
 |.at v=>v.oneCell'
 |.agg cs=>CV cs
 |.sl true []=>true
 |_=>false
def CV:List PV->Bool
 | []=>true
 |p::l=>Fm p&&CV l
end
mutual
theorem Xk(c:RC):∀p,Fm p=true->bW p c (DQ p)
 |.at _,h=>⟨rr,h⟩
 |.agg cs,h=>⟨Ef cs,rr,Xo c cs h⟩
 |.sl true [],_=>⟨[],rr,none,0,rr,j2 _,λ_=>rfl,.inl rr⟩
 |.sl true (_::_),h=>by cases h
 |.sl false _,h=>by cases h
 |.any,h|.lp _ _ _,h|.le _ _ _,h|.aS _ _ _,h|.gJ _ _,h|.ip _ _,h|.fn _ _,h|.fm _ _,h|.mv _ _,h|.aU _,h|.mp _ _,h|.iL _,h=>by cases h
theorem Xo(c:RC):∀ps,CV ps=true->aM ps c (Ef ps)
 | [],_=>rfl
 |p::l,h=>by
  unfold CV at h
  rw[y7]at h
  exact⟨_,_,rr,Xk c p h.1,Xo c l h.2⟩
end
def A'(P:Program):TypeDesc->Kd
 |.struct fs=>if fs.toList.all (λf=>((P.info? f.type).map λi=>i.size != 0).getD false)then .struct (fs.toList.map λf=>(f.offset,f.type))else .fj
 |.array n e=>.aK n e
 |.slice e=>.sl e
 |.int k=>.int k
 |.string=>.qe
 |.bool=>.bool
 |.func _ _ _=>.func
 |.map k v=>.map k v
 |.pointer _=>.ptr
 |_=>.fj
theorem adE{α:Type}:∀{l:List α} {n:Nat} {x:α},PV.cR l n=some x->l[n]? = some x:=wq
theorem Qv{P:Program}:∀{fs:List Field},(∀f∈fs,∃i,P.info? f.type=some i)->∃places,fs.mapM (λf=>(P.info? f.type).map λi=>(f.offset,i.size))=some places/\
 ∀(n:Nat) (f:Field) (i:TypeInfo),fs[n]? = some f->P.info? f.type=some i->places[n]? = some (f.offset,i.size)
 | [],_=>⟨[],rr,λn f i h=>by simp at h⟩
 |f::fs,h=>by
  obtain⟨i,hi⟩:=h f j6
  obtain⟨d,h1,h2⟩:=Qv λg c=>h g (j3 _ c)
  refine⟨(f.offset,i.size)::d,by simp[List.mapM_cons,hi,h1],λn g j a b=>?_⟩
  cases n with
  |zero=>simp at a;subst a;rw[hi]at b;cases b;rfl
  |succ n=>exact h2 n g j (by simpa using a) b
theorem ZL(P:Program)(d:TypeDesc):WB P d (A' P d):=by
 cases d with
 |struct fs=>
  unfold A';dsimp only;split
  ·rename_i h;have c:∀f∈fs.toList,∃i,P.info? f.type=some i/\i.size≠0:=λf k=>by
    have:=A3.1 h f k;cases hi:P.info? f.type with
    |none=>rw[hi]at this;cases this
    |some i=>rw[hi]at this;exact⟨i,rr,by simpa using this⟩
   have g:∀n o t,PV.cR (fs.toList.map λf=>(f.offset,f.type)) n=some (o,t)->∃f,fs.toList[n]? = some f/\f.offset=o/\f.type=t:=λn o t j=>by
    have:=adE j;rw[A6]at this;obtain⟨f,h1,h2⟩:=H4.1 this;cases h2;exact⟨f,h1,rr,rr⟩
   obtain⟨m,q,p⟩:=Qv (P:=P) (fs:=fs.toList) λf l=>(c f l).imp λ_ h=>h.1
   refine⟨fs,rr,⟨m,q,λn o t i j hi=>?_⟩,λn o t j=>?_⟩
   ·obtain⟨f,h1,rfl,rfl⟩:=g n o t j;exact p n f i h1 hi
   ·obtain⟨f,h1,rfl,rfl⟩:=g n o t j;exact⟨f,by rw[<-w8];exact h1,rr,rr,c f (i7 h1)⟩
  ·exact trivial
 |func a b v=>exact⟨a,b,v,rr⟩
 |pointer e=>exact⟨e,rr⟩
 |_=>first|exact trivial|exact rfl
def NA(P:Program)(t:TypeId):Option ((Option Value×Nat)×Bool)×Option (Bool×Kd):=((P.info? t).map λi=>((i.zero,i.size),Nat.ble i.bytes 1048576),(P.underlying t).map λd=>(Qb d,A' P d))
def Gp(P:Program)(t:TypeId):Bool:=!P.stoodInHeld t&&!P.eqGuardType P.depth t&&(match P.underlying t with|some (.struct fs)=>fs.toList.all (λf=>f.name != "_")|_=>true)
theorem alE{P:Program}{t:TypeId}{d:TypeDesc}(a:P.underlying t=some d)(h:Gp P t=true):P.stoodInHeld t=false/\P.eqGuardType P.depth t=false/\YF d (A' P d):=by
 unfold Gp at h;rw[a]at h;simp only[y7,Bool.not_eq_true']at h;obtain⟨⟨h1,h2⟩,b⟩:=h;refine⟨h1,h2,?_⟩;cases d with
 |struct fs=>
  unfold A';dsimp only;split
  ·exact⟨fs,rr,rr,λf c=>by simpa using A3.1 b f c⟩
  ·exact trivial
 |_=>exact trivial
theorem akg{P:Program}{t:TypeId}{ti:TI}(h:NA P t=(some ((some (DQ ti.zero),ti.size),true),some (ti.ag,ti.kd)))(j:Fm ti.zero=true)(k:(DQ ti.zero).cells.size=ti.size)(f:(!ti.Fl||Gp P t)=true):iR P t ti:=by
 unfold NA at h;obtain⟨h1,h2⟩:=I3 h;obtain⟨i,hi,l⟩:=H4.1 h1;obtain⟨d,b,m⟩:=H4.1 h2;obtain⟨n,e⟩:=I3 l;obtain⟨o,p⟩:=I3 n;obtain⟨q,g⟩:=I3 m;refine⟨⟨i,_,hi,p,o,k,o9 e,λc=>Xk c _ j⟩,⟨d,b,q.symm,g▸ZL P d⟩,λhq=>?_⟩;rw[hq]at f;obtain⟨g1,g2,g3⟩:=alE b (by simpa using f);refine⟨g1,g2,λd2 a=>?_⟩;rw[b]at a;cases a;rw[<-g];exact g3
inductive pY where
 |nil
 |node (k:Nat) (v:TI) (l r:pY)
def pY.get(t:Nat):pY->Option TI
 |.nil=>none
 |.node k v l r=>match Nat.beq t k with
  |true=>some v
  |false=>match Nat.ble t k with
   |true=>l.get t
   |false=>r.get t
def pY.wJ:pY->List (Nat×TI)
 |.nil=>[]
 |.node k v l r=>l.wJ++(k,v)::r.wJ
theorem pY.mem{t:Nat}{x:TI}:∀{T:pY},T.get t=some x->(t,x)∈T.wJ
 |.node k v l r,h=>by
  unfold pY.get at h
  split at h
  ·rename_i e
   cases h
   rw[n9 e]
   exact H9 _ j6
  ·split at h
   ·exact G5 _ (pY.mem h)
   ·exact H9 _ (j3 _ (pY.mem h))
abbrev bE:PV:=.at (.int .u64 0)
abbrev dN:PV:=.at (.int .i64 0)
abbrev eC:PV:=.at (.string ⟨#[]⟩)
abbrev cQ:PV:=.sl true []
abbrev dI:PV:=.at (.int .u8 0)
abbrev og:PV:=.at (.bool false)
def QA:TI:=⟨1,false,dN,.int .i64,true⟩
def UE:TI:=⟨1,false,og,.bool,true⟩
def Rm:TI:=⟨1,false,dI,.int .u8,true⟩
def Tz:TI:=⟨1,false,eC,.qe,true⟩
def Qs:TI:=⟨1,false,.at .nilIface,.fj,false⟩
def QK:TI:=⟨1,false,.at (.int .i32 0),.int .i32,true⟩
def Od:TI:=⟨1,false,.at (.int .u16 0),.int .u16,true⟩
def SR:TI:=⟨1,false,cQ,.sl 44,false⟩
def Oe:TI:=⟨1,false,cQ,.sl 9,false⟩
def PY:TI:=⟨1,false,cQ,.sl 40,false⟩
def Yk:TI:=⟨1,false,bE,.int .u64,true⟩
def PH:TI:=⟨4,true,.agg [bE,bE,bE,bE],.aK 4 30,true⟩
def L_:TI:=⟨1,false,cQ,.sl 183,false⟩
def R_:TI:=⟨9,true,.agg [eC,bE,bE,bE,bE,dN,dN,dN,cQ],.struct [(0,9),(1,32),(5,3),(6,3),(7,3),(8,33)],false⟩
def TV:TI:=⟨1,false,cQ,.sl 160,false⟩
def Mq:TI:=⟨18,true,.agg [dN,bE,bE,eC,bE,bE,bE,bE,eC,bE,bE,bE,bE,dN,dN,dN,cQ,cQ],.struct [(0,3),(1,30),(2,30),(3,9),(4,32),(8,35),(17,36)],false⟩
def PR:TI:=⟨24,true,.agg [dN,eC,eC,dN,dN,dN,bE,bE,eC,bE,bE,bE,bE,eC,bE,bE,bE,bE,dN,dN,dN,cQ,cQ,eC],.struct [(0,3),(1,9),(2,9),(3,3),(4,3),(5,38),(23,9)],false⟩
def Sl:TI:=⟨5,true,.agg [dI,dI,dI,dI,dI],.struct [(0,5),(1,5),(2,5),(3,5),(4,5)],true⟩
def PO:TI:=⟨8,true,.agg [dI,dI,dI,dI,dI,dI,dI,dI],.struct [(0,42),(5,5),(6,5),(7,5)],true⟩
def Ny:TI:=⟨1,false,cQ,.sl 78,false⟩
def Uz:TI:=⟨1,false,cQ,.sl 54,false⟩
def YC:TI:=⟨1,false,cQ,.sl 97,false⟩
def TX:TI:=⟨1,false,.at .nilFunc,.func,false⟩
def NB:TI:=⟨2,true,.agg [eC,eC],.struct [(0,9),(1,9)],true⟩
def XX:TI:=⟨4,true,.agg [eC,eC,eC,eC],.aK 2 59,true⟩
def Rn:TI:=⟨8,true,.agg [dN,eC,eC,eC,eC,og,dN,dN],.struct [(0,3),(1,60),(5,4),(6,3),(7,3)],true⟩
def Wb:TI:=⟨1,false,cQ,.sl 124,false⟩
def WQ:TI:=⟨1,false,cQ,.sl 99,false⟩
def WZ:TI:=⟨2,true,.agg [cQ,cQ],.struct [(0,63),(1,64)],false⟩
def Xa:TI:=⟨1,false,cQ,.sl 130,false⟩
def Tm:TI:=⟨1,false,cQ,.sl 90,false⟩
def SL:TI:=⟨1,false,cQ,.sl 137,false⟩
def Ul:TI:=⟨1,false,cQ,.sl 248,false⟩
def VS:TI:=⟨2,true,.agg [bE,cQ],.struct [(0,30),(1,70)],false⟩
def Of:TI:=⟨11,true,.agg [bE,bE,cQ,cQ,cQ,cQ,cQ,bE,cQ,bE,cQ],.struct [(0,30),(1,30),(2,66),(4,67),(5,68),(6,69),(7,72),(9,72)],false⟩
def Sm:TI:=⟨22,true,.agg [eC,dN,eC,eC,eC,eC,og,dN,dN,bE,bE,cQ,cQ,cQ,cQ,cQ,bE,cQ,bE,cQ,dN,bE],.struct [(0,9),(1,62),(9,74),(20,3),(21,30)],false⟩
def Mn:TI:=⟨23,true,.agg [eC,eC,dN,eC,eC,eC,eC,og,dN,dN,bE,bE,cQ,cQ,cQ,cQ,cQ,bE,cQ,bE,cQ,dN,bE],.struct [(0,9),(1,76)],false⟩
def OJ:TI:=⟨1,false,cQ,.sl 30,false⟩
def Pe:TI:=⟨12,true,.agg [bE,eC,bE,bE,bE,bE,dN,dN,dN,cQ,og,dN],.struct [(0,30),(1,35),(10,4),(11,3)],false⟩
def WD:TI:=⟨1,false,dN,.int .i64,true⟩
def QL:TI:=⟨14,true,.agg [dN,bE,bE,dN,bE,bE,bE,bE,bE,bE,bE,bE,cQ,cQ],.struct [(0,93),(1,30),(2,30),(3,3),(4,32),(8,32),(12,25),(13,70)],false⟩
def Tu:TI:=⟨15,true,.agg [eC,dN,bE,bE,dN,bE,bE,bE,bE,bE,bE,bE,bE,cQ,cQ],.struct [(0,9),(1,95)],false⟩
def Ou:TI:=⟨6,true,.agg [bE,eC,bE,bE,bE,bE],.struct [(0,30),(1,9),(2,32)],true⟩
def MO:TI:=⟨1,false,cQ,.sl 3,false⟩
def QO:TI:=⟨4,true,.agg [dN,dN,dN,dN],.aK 4 3,true⟩
def Wl:TI:=⟨1,false,.at .nilFunc,.func,false⟩
def Pj:TI:=⟨1,false,cQ,.sl 115,false⟩
def XT:TI:=⟨3,true,.agg [eC,cQ,eC],.struct [(0,9),(1,109),(2,9)],false⟩
def TC:TI:=⟨2,true,.agg [dN,bE],.struct [(0,3),(1,30)],true⟩
def LX:TI:=⟨1,false,cQ,.sl 5,false⟩
def Qk:TI:=⟨1,false,cQ,.sl 38,false⟩
def WW:TI:=⟨1,false,.at (.map none),.map 3 56,false⟩
def Wr:TI:=⟨7,true,.agg [eC,bE,bE,bE,bE,cQ,og],.struct [(0,9),(1,32),(5,36),(6,4)],false⟩
def SY:TI:=⟨9,true,.agg [eC,bE,bE,bE,bE,bE,bE,bE,bE],.struct [(0,9),(1,32),(5,32)],true⟩
def UO:TI:=⟨2,true,.agg [bE,dN],.struct [(0,30),(1,3)],true⟩
def Mk:TI:=⟨11,true,.agg [bE,bE,cQ,cQ,cQ,cQ,cQ,bE,cQ,bE,cQ],.struct [(0,74)],false⟩
def QB:TI:=⟨1,false,.at .nilFunc,.func,false⟩
def OA:TI:=⟨2,true,.agg [eC,eC],.struct [(0,9),(1,9)],true⟩
def RH:TI:=⟨9,true,.agg [bE,bE,bE,bE,bE,bE,bE,bE,bE],.aK 9 30,true⟩
def WY:TI:=⟨1,false,.at .nilFunc,.func,false⟩
def Vq:TI:=⟨1,false,.at .nilFunc,.func,false⟩
def Wk:TI:=⟨1,false,.at .nilFunc,.func,false⟩
def Qo:TI:=⟨1,false,.at .nilFunc,.func,false⟩
def NP:TI:=⟨3,true,.agg [eC,og,cQ],.struct [(0,9),(1,4),(2,25)],false⟩
def VQ:TI:=⟨1,false,.at .nilFunc,.func,false⟩
def Si:TI:=⟨1,false,cQ,.sl 130,false⟩
def Og:TI:=⟨1,false,.at .nilFunc,.func,false⟩
def LI:TI:=⟨1,false,.at .nilFunc,.func,false⟩
def OE:TI:=⟨1,false,.at .nilFunc,.func,false⟩
def MF:TI:=⟨1,false,.at .nilFunc,.func,false⟩
def Ob:TI:=⟨1,false,.at .nilFunc,.func,false⟩
def PM:TI:=⟨1,false,.at .nilFunc,.func,false⟩
def UW:TI:=⟨1,false,.at .nilFunc,.func,false⟩
def VH:TI:=⟨1,false,.at (.map none),.map 30 3,false⟩
def Qj:TI:=⟨6,true,.agg [og,og,og,og,og,og],.struct [(0,4),(1,4),(2,4),(3,4),(4,4),(5,4)],true⟩
def On:TI:=⟨1,false,.at (.map none),.map 3 231,false⟩
def Ri:TI:=⟨1,false,cQ,.sl 243,false⟩
def Qz:TI:=⟨2,true,.agg [.at (.int .i32 0),.at (.int .i32 0)],.struct [(0,21),(1,21)],true⟩
def VW:TI:=⟨6,true,.agg [.at (.int .i32 0),.at (.int .i32 0),.at (.int .i32 0),.at (.int .i32 0),.at (.int .i32 0),.at (.int .i32 0)],.aK 3 243,true⟩
def Ox:TI:=⟨4,true,.agg [.at (.int .i32 0),.at (.int .i32 0),.at (.int .i32 0),.at (.int .i32 0)],.aK 2 243,true⟩
def OS:TI:=⟨3,true,.agg [bE,bE,dN],.struct [(0,30),(1,30),(2,3)],true⟩
def PJ:TI:=⟨1,false,cQ,.sl 351,false⟩
def Yh:TI:=⟨1,false,.at .nilFunc,.func,false⟩
def Ng:TI:=⟨4,true,.agg [bE,bE,bE,bE],.struct [(0,32)],true⟩
def Pf:TI:=⟨1,false,.at .nilFunc,.func,false⟩
def Vu:TI:=⟨1,false,.at .nilFunc,.func,false⟩
def RR:TI:=⟨1,false,bE,.int .u64,true⟩
def RV:TI:=⟨1,false,.at (.int .u32 0),.int .u32,true⟩
def Wm:TI:=⟨8,true,.agg [.at (.int .u32 0),.at (.int .u32 0),.at (.int .u32 0),.at (.int .u32 0),.at (.int .u32 0),.at (.int .u32 0),.at (.int .u32 0),.at (.int .u32 0)],.aK 8 308,true⟩
def Ut:TI:=⟨1,false,cQ,.sl 109,false⟩
def Yb:TI:=⟨1,false,.at .nilFunc,.func,false⟩
def VJ:TI:=⟨1,false,.at .nilFunc,.func,false⟩
def Uw:TI:=⟨1,false,.at .nilFunc,.func,false⟩
def TG:TI:=⟨0,true,.agg [],.struct [],true⟩
def Pc:TI:=⟨1,false,cQ,.sl 9,false⟩
def OK:TI:=⟨1,false,.at (.pointer none),.ptr,false⟩
def Oq:TI:=⟨2,true,.agg [.at (.pointer none),cQ],.struct [(0,339),(1,116)],false⟩
def Nc:TI:=⟨6,true,.agg [eC,bE,bE,bE,bE,cQ],.struct [(0,9),(1,32),(5,36)],false⟩
def Pp:TI:=⟨1,true,.agg [.at .nilFunc],.struct [(0,215)],false⟩
def LG:TI:=⟨8,true,.agg [dI,dI,dI,dI,dI,dI,dI,dI],.aK 8 5,true⟩
def PA:TI:=⟨1,false,cQ,.sl 320,false⟩
def Pr:TI:=⟨1,false,.at .nilFunc,.func,false⟩
def SP:TI:=⟨19,true,.agg [dN,bE,bE,eC,bE,bE,bE,bE,eC,bE,bE,bE,bE,dN,dN,dN,cQ,cQ,.at .nilFunc],.struct [(0,38),(18,392)],false⟩
def LS:TI:=⟨18,true,.agg [dN,bE,bE,eC,bE,bE,bE,bE,eC,bE,bE,bE,bE,dN,dN,dN,cQ,cQ],.struct [(0,38)],false⟩
def Ov:TI:=⟨1,false,.at .nilFunc,.func,false⟩
def SA:TI:=⟨19,true,.agg [dN,bE,bE,eC,bE,bE,bE,bE,eC,bE,bE,bE,bE,dN,dN,dN,cQ,cQ,.at .nilFunc],.struct [(0,38),(18,398)],false⟩
def Yc:TI:=⟨1,false,.at .nilFunc,.func,false⟩
def Xh:TI:=⟨1,false,.at (.pointer none),.ptr,false⟩
def Vy:TI:=⟨1,false,.at .nilFunc,.func,false⟩
def LU:TI:=⟨3,true,.agg [bE,bE,bE],.aK 3 30,true⟩
def RI:TI:=⟨1,false,.at .nilFunc,.func,false⟩
def Vz:TI:=⟨1,false,.at (.map none),.map 3 392,false⟩
def LQ:TI:=⟨1,false,.at (.map none),.map 3 398,false⟩
def Ve:TI:=⟨1,false,.at (.pointer none),.fj,false⟩
def V_:TI:=⟨1,false,.at (.pointer none),.ptr,false⟩
def Pv:TI:=⟨2,true,.agg [eC,dN],.struct [(0,9),(1,3)],true⟩
def TE:TI:=⟨0,true,.agg [],.struct [],true⟩
def Vi:TI:=⟨1,false,.at .nilFunc,.func,false⟩
def WV:TI:=⟨4,true,.agg [dI,dI,dI,dI],.aK 4 5,true⟩
def Oa:TI:=⟨12,true,.agg [bE,bE,cQ,cQ,cQ,cQ,cQ,bE,cQ,bE,cQ,dN],.struct [(0,74),(11,3)],false⟩
def X_:TI:=⟨1,false,.at .nilFunc,.func,false⟩
def Wh:TI:=⟨0,true,.agg [],.struct [],true⟩
def NI:TI:=⟨1,false,.at (.pointer none),.ptr,false⟩
def Ya:TI:=⟨2,true,.agg [eC,dN],.struct [(0,9),(1,3)],true⟩
def XU:TI:=⟨2,true,.agg [dI,dI],.struct [(0,5),(1,5)],true⟩
def SK:TI:=⟨32,true,.agg [dI,dI,dI,dI,dI,dI,dI,dI,dI,dI,dI,dI,dI,dI,dI,dI,dI,dI,dI,dI,dI,dI,dI,dI,dI,dI,dI,dI,dI,dI,dI,dI],.aK 16 514,true⟩
def OQ:TI:=⟨1,false,.at .nilFunc,.func,false⟩
def LP:TI:=⟨1,false,.at .nilFunc,.func,false⟩
def Py:TI:=⟨1,false,dN,.int .i64,true⟩
def UX:TI:=⟨1,false,bE,.int .u64,true⟩
def QS:TI:=⟨1,false,.at (.pointer none),.ptr,false⟩
def LN:pY:=(.node 188 Si (.node 70 Ul (.node 40 PR (.node 25 Oe (.node 20 Qs (.node 5 Rm (.node 4 UE (.node 3 QA .nil .nil) .nil) (.node 9 Tz .nil .nil)) (.node 22 Od (.node 21 QK .nil .nil) (.node 23 SR .nil .nil))) (.node 33 L_ (.node 30 Yk (.node 27 PY .nil .nil) (.node 32 PH .nil .nil)) (.node 36 TV (.node 35 R_ .nil .nil) (.node 38 Mq .nil .nil)))) (.node 60 XX (.node 50 Uz (.node 44 PO (.node 42 Sl .nil .nil) (.node 49 Ny .nil .nil)) (.node 56 TX (.node 54 YC .nil .nil) (.node 59 NB .nil .nil))) (.node 66 WZ (.node 63 Wb (.node 62 Rn .nil .nil) (.node 64 WQ .nil .nil)) (.node 68 Tm (.node 67 Xa .nil .nil) (.node 69 SL .nil .nil))))) (.node 116 LX (.node 97 Tu (.node 82 OJ (.node 76 Sm (.node 74 Of (.node 72 VS .nil .nil) .nil) (.node 78 Mn .nil .nil)) (.node 93 WD (.node 90 Pe .nil .nil) (.node 95 QL .nil .nil))) (.node 104 Wl (.node 102 MO (.node 99 Ou .nil .nil) (.node 103 QO .nil .nil)) (.node 111 XT (.node 109 Pj .nil .nil) (.node 115 TC .nil .nil)))) (.node 160 OA (.node 130 SY (.node 120 WW (.node 118 Qk .nil .nil) (.node 124 Wr .nil .nil)) (.node 148 Mk (.node 137 UO .nil .nil) (.node 155 QB .nil .nil))) (.node 178 Wk (.node 166 WY (.node 161 RH .nil .nil) (.node 172 Vq .nil .nil)) (.node 183 NP (.node 180 Qo .nil .nil) (.node 185 VQ .nil .nil)))))) (.node 358 Pp (.node 275 Yh (.node 231 Qj (.node 210 Ob (.node 205 OE (.node 200 LI (.node 193 Og .nil .nil) .nil) (.node 207 MF .nil .nil)) (.node 215 UW (.node 213 PM .nil .nil) (.node 219 VH .nil .nil))) (.node 244 VW (.node 241 Ri (.node 232 On .nil .nil) (.node 243 Qz .nil .nil)) (.node 248 OS (.node 245 Ox .nil .nil) (.node 271 PJ .nil .nil)))) (.node 315 Yb (.node 304 RR (.node 289 Pf (.node 277 Ng .nil .nil) (.node 303 Vu .nil .nil)) (.node 309 Wm (.node 308 RV .nil .nil) (.node 312 Ut .nil .nil))) (.node 337 Pc (.node 334 Uw (.node 320 VJ .nil .nil) (.node 336 TG .nil .nil)) (.node 341 Oq (.node 339 OK .nil .nil) (.node 351 Nc .nil .nil))))) (.node 449 Pv (.node 407 Xh (.node 396 LS (.node 392 Pr (.node 385 PA (.node 378 LG .nil .nil) .nil) (.node 394 SP .nil .nil)) (.node 400 SA (.node 398 Ov .nil .nil) (.node 405 Yc .nil .nil))) (.node 432 Vz (.node 418 LU (.node 410 Vy .nil .nil) (.node 422 RI .nil .nil)) (.node 441 Ve (.node 433 LQ .nil .nil) (.node 447 V_ .nil .nil)))) (.node 496 Ya (.node 467 Oa (.node 454 Vi (.node 450 TE .nil .nil) (.node 457 WV .nil .nil)) (.node 492 Wh (.node 489 X_ .nil .nil) (.node 494 NI .nil .nil))) (.node 526 LP (.node 515 SK (.node 514 XU .nil .nil) (.node 523 OQ .nil .nil)) (.node 543 UX (.node 532 Py .nil .nil) (.node 546 QS .nil .nil)))))))
def tt:TT:=λt=>LN.get t
theorem Zp:dJ (λx:Nat×TI=>iR prog x.1 x.2) LN.wJ:=by
 show dJ _ [(3,QA),(4,UE),(5,Rm),(9,Tz),(20,Qs),(21,QK),(22,Od),(23,SR),(25,Oe),(27,PY),(30,Yk),(32,PH),(33,L_),(35,R_),(36,TV),(38,Mq),(40,PR),(42,Sl),(44,PO),(49,Ny),(50,Uz),(54,YC),(56,TX),(59,NB),(60,XX),(62,Rn),(63,Wb),(64,WQ),(66,WZ),(67,Xa),(68,Tm),(69,SL),(70,Ul),(72,VS),(74,Of),(76,Sm),(78,Mn),(82,OJ),(90,Pe),(93,WD),(95,QL),(97,Tu),(99,Ou),(102,MO),(103,QO),(104,Wl),(109,Pj),(111,XT),(115,TC),(116,LX),(118,Qk),(120,WW),(124,Wr),(130,SY),(137,UO),(148,Mk),(155,QB),(160,OA),(161,RH),(166,WY),(172,Vq),(178,Wk),(180,Qo),(183,NP),(185,VQ),(188,Si),(193,Og),(200,LI),(205,OE),(207,MF),(210,Ob),(213,PM),(215,UW),(219,VH),(231,Qj),(232,On),(241,Ri),(243,Qz),(244,VW),(245,Ox),(248,OS),(271,PJ),(275,Yh),(277,Ng),(289,Pf),(303,Vu),(304,RR),(308,RV),(309,Wm),(312,Ut),(315,Yb),(320,VJ),(334,Uw),(336,TG),(337,Pc),(339,OK),(341,Oq),(351,Nc),(358,Pp),(378,LG),(385,PA),(392,Pr),(394,SP),(396,LS),(398,Ov),(400,SA),(405,Yc),(407,Xh),(410,Vy),(418,LU),(422,RI),(432,Vz),(433,LQ),(441,Ve),(447,V_),(449,Pv),(450,TE),(454,Vi),(457,WV),(467,Oa),(489,X_),(492,Wh),(494,NI),(496,Ya),(514,XU),(515,SK),(523,OQ),(526,LP),(532,Py),(543,UX),(546,QS)]
 repeat (refine⟨akg (by kernel_rfl) (by kernel_rfl) (by kernel_rfl) (by kernel_rfl),?_⟩)
 exact trivial
theorem cM:prog.follows .mixedOrders=true:=by kernel_rfl
theorem cz:dV prog tt:=λ_ _ h=>Zp.mem _ (pY.mem h)
end
section
open Go.RowKit
section
variable {P:Program}{G:World→Prop}{T:TT}{M n:Nat}
theorem xP{s:AS}{d:Option Nat}{v:PV}{k k':AS->Prop}(a:∀s,k s->k' s)(h:nz n s d v k):nz n s d v k':=by
 rw[BU]at h⊢;split at h
 ·exact a _ h
 ·split at h
  ·exact a _ h
  ·exact h.elim
theorem Kq{hp:Nat->Option aI}{nx:Nat}{f:FuncId}{args:List PV}{k k':PV->cU->Prop}(b:∀r d,k r d->k' r d)(h:bu P G hp nx f args k):bu P G hp nx f args k':=by
 rcases h.h with⟨n,rs,l,post,h0,h1,h2⟩|⟨X,n,a,l',bs,post,h1,h2,c,e⟩|⟨X,n,a,l',bs,r,h1,h2,c,e⟩
 ·exact⟨.inl ⟨n,rs,l,post,h0,h1,λr g=>b _ _ (h2 r g)⟩⟩
 ·exact⟨.inr (.inl ⟨X,n,a,l',bs,post,h1,h2,c,λr d g=>b _ _ (e r d g)⟩)⟩
 ·exact⟨.inr (.inr ⟨X,n,a,l',bs,r,h1,h2,c,b _ _ e⟩)⟩
theorem ZX{nx:Nat}{op:Op}{ev:Operand->Option PV}{hp:Nat->Option aI}{k k':PV->cU->Prop}(a:∀r d,k r d->k' r d)(h:act T nx op ev hp k):act T nx op ev hp k':=by
 unfold act at h⊢;split at h
 ·exact Tr.wp_mono a h
 ·exact h.elim
theorem NC{nx:Nat}{o:Oper}{s:AS}{k k':AS->Prop}(a:∀s,k s->k' s)(h:tZ P G T n nx o s k):tZ P G T n nx o s k':=by
 rw[Kk]at h⊢;split at h
 ·split at h
  ·exact Kq (λr d=>xP a) h
  ·exact Kq (λr d=>xP a) h
  ·exact h.elim
 ·split at h
  ·obtain⟨g,b,h⟩:=h.h;exact⟨g,b,Kq (λr d=>xP a) h⟩
  ·exact h.elim
 ·exact ZX (λr d=>xP a) h
theorem DR{all:List Oper}:∀{os:List Oper} {nx:Nat} {s:AS} {k k':Nat->AS->Prop},(∀m s,k m s->k' m s)->oW P G T n all os nx s k->oW P G T n all os nx s k'
 | [],_,_,_,_,a,h=>a _ _ h
 |o::os,nx,s,k,k',a,h=>by
  unfold oW at h⊢
  split at h
  ·exact NC (λs=>DR a) h
  ·split at h
   ·exact NC (λs=>DR a) h
   ·exact xP (λs=>DR a) h
   ·exact h.elim
theorem Mf{hp:Nat->Option aI}{nx:Nat}{f:FuncId}{args:List PV}{k k':PV->cU->List Nat->Prop}(a:∀r d l,k r d l->k' r d l)(h:fi P G hp nx f args k):fi P G hp nx f args k':=by
 obtain⟨r,d,rd,h1,h2⟩:=h.h;exact⟨r,d,rd,a _ _ _ h1,h2⟩
theorem Wu{nx:Nat}{o:Oper}{s:AS}{k k':PV->cU->List Nat->Prop}(a:∀r d l,k r d l->k' r d l)(h:ql P G T nx o s k):ql P G T nx o s k':=by
 rw[Dv]at h⊢;split at h
 ·split at h
  ·exact Mf a h
  ·exact h.elim
 ·split at h
  ·obtain⟨g,b,h⟩:=h.h;exact⟨g,b,Mf a h⟩
  ·exact h.elim
 ·split at h
  ·exact Tr.nM a h
  ·exact h.elim
theorem aaO{all:List Oper}{nx:Nat}{o:Oper}{s:AS}{k k':PV->cU->List Nat->Prop}(a:∀r d l,k r d l->k' r d l)(h:mW P G T all nx o s k):mW P G T all nx o s k':=by
 unfold mW at h⊢;split at h
 ·exact Wu a h
 ·split at h
  ·exact Wu a h
  ·exact a _ _ _ h
  ·exact h.elim
theorem Sf{all:List Oper}:∀{os:List Oper} {nx:Nat} {s:AS} {acc:List fy} {k k':List fy->AS->Prop},(∀r s,k r s->k' r s)->tD P G T n all os nx s acc k->tD P G T n all os nx s acc k'
 | [],_,_,_,_,_,a,h=>a _ _ h
 |o::os,nx,s,acc,k,k',a,h=>by
  rw[Qh]at h⊢
  exact aaO (λp d rd=>xP λs=>Sf a) h
theorem Nk{body:Nat->AS->(Ex->Nat->AS->Prop)->Prop}(hb:∀nx s k k',(∀ex m s,k ex m s->k' ex m s)->body nx s k->body nx s k'){k k':Ex->Nat->AS->Prop}(a:∀ex m s,k ex m s->k' ex m s):∀(m:Nat) {nx:Nat} {s:AS},xA body k m nx s->xA body k' m nx s
 |0,_,_,h=>h
 |m+1,nx,s,h=>hb _ _ _ _ (λex m' s' h=>by
  cases ex with
  |normal=>exact Nk hb a m h
  |ret=>exact a _ _ _ h
  |exit j=>exact a _ _ _ h) h
theorem adz{nx:Nat}{s:AS}{body:Nat->AS->(Ex->Nat->AS->Prop)->Prop}(hb:∀nx s k k',(∀ex m s,k ex m s->k' ex m s)->body nx s k->body nx s k'){k k':Ex->Nat->AS->Prop}(a:∀ex m s,k ex m s->k' ex m s)(h:cV M nx s body k):cV M nx s body k':=by
 rcases h.h with⟨d,m,ι,I,μ,e,h1,h2,b,c⟩|⟨m,h⟩
 ·exact⟨.inl ⟨d,m,ι,I,μ,e,h1,h2,b,λi=>hb _ _ _ _ (λex m' s' h=>by
   cases ex with
   |normal=>exact h
   |ret=>exact a _ _ _ h
   |exit j=>exact a _ _ _ h) (c i)⟩⟩
 ·exact⟨.inr ⟨m,Nk hb a m h⟩⟩
theorem vi:∀(c:Code) {nx:Nat} {s:AS} {k k':Ex->Nat->AS->Prop},vc P G T M n c nx s k->(∀ex m s,k ex m s->k' ex m s)->vc P G T M n c nx s k'
 |.skip,_,_,_,_,h,d=>d _ _ _ h
 |.label _,_,_,_,_,h,d=>d _ _ _ h
 |.ret,_,_,_,_,h,d=>d _ _ _ h
 |.exit _,_,_,_,_,h,d=>d _ _ _ h
 |.region id ops draw,_,_,_,_,h,d=>by
  cases draw
  ·exact DR (λm s=>d _ m s) h
  exact Sf (λr s h=>⟨h.1,d _ _ _ h.2⟩) h
 |.seq a b,_,_,_,_,h,d=>vi a h λex m s h=>by
  cases ex with
  |normal=>exact vi b h d
  |ret=>exact d _ _ _ h
  |exit i=>exact d _ _ _ h
 |.cond x a b,nx,s,k,k',h,d=>by
  unfold vc at h⊢
  split at h
  ·exact⟨λe=>vi a (h.h1 e) d,λe=>vi b (h.h2 e) d⟩
  ·exact h.elim
 |.block i c,_,_,_,_,h,d=>vi c h λex m s h=>by
  cases ex with
  |normal=>exact d _ _ _ h
  |ret=>exact d _ _ _ h
  |exit j=>
   dsimp only at h⊢
   cases e:Nat.beq j i
   case true=>rw[e]at h;exact d _ _ _ h
   rw[e]at h;exact d _ _ _ h
 |.loop c,nx,s,k,k',h,d=>adz (M:=M) (nx:=nx) (s:=s) (body:=λnx s k=>vc P G T M n c nx s k) (λnx s k k' d h=>vi c h d) d h
 |.rangeFunc _ _ _ _,_,_,_,_,h,_=>h.elim
 |.scope c,_,_,_,_,h,d=>vi c h d
 |.goto _,_,_,_,_,h,_=>h.elim
 |.refuse _,_,_,_,_,h,_=>h.elim
end
end
end Go.Proofs.YtbnonpbnhenkfaaGreatDoor
section
namespace Go.Proofs.YtbnonpbnhenkfaaGreatDoor
open Go.RowKit
structure gO where
 lo:Int
 hi:Int
instance:Inhabited gO:=⟨⟨0,0⟩⟩
def gO.cells(x:gO):List Value:=[.int .i32 x.lo,.int .i32 x.hi]
def gO.val(x:gO):Value:=.agg x.cells.toArray
namespace Wd
def wh(r:Int)(x:gO):Bool:=decide (x.lo<=r)&&decide (r<=x.hi)
def vo(r:Int)(l:List gO):Bool:=l.any (wh r)
def letters:List gO:=[⟨97,122⟩,⟨945,969⟩,⟨1072,1103⟩]
def pC:List gO:=[⟨48,57⟩,⟨45,45⟩]
def sr(s:ByteArray):Nat->Nat->Bool
 |0,_=>true
 |f+1,dH=>if dH<s.size then(if !(vo ((Utf8.decode s dH).1:Int) letters)&&(decide (dH=0)||!(vo ((Utf8.decode s dH).1:Int) pC))then false else sr s f (dH+(Utf8.decode s dH).2))else true
def right(s:ByteArray):Bool:=sr s s.size 0&&(decide (0<s.size)&&decide (Lib.runeCount s<=16))
end Wd
end Go.Proofs.YtbnonpbnhenkfaaGreatDoor
end
section
namespace Go.Proofs.YtbnonpbnhenkfaaGreatDoor
open Go.RowKit
namespace Sh
def fN(x n:Nat):Nat:=(x*2^(32-n)%4294967296) ||| (x / 2^n)
def add(a b:Nat):Nat:=(a+b)%4294967296
def Ai(x:Nat):Nat:=fN x 7 ^^^ fN x 18 ^^^ (x / 8)
def yM(y:Nat):Nat:=fN y 17 ^^^ fN y 19 ^^^ (y / 1024)
def iA(a b c d:Nat):Nat:=a*16777216 ||| b*65536 ||| c*256 ||| d
def CF(b:List UInt8)(i:Nat):Nat:=iA (b.getD (4*i) 0).toNat (b.getD (4*i+1) 0).toNat (b.getD (4*i+2) 0).toNat (b.getD (4*i+3) 0).toNat
def Cd(l:List Nat)(i:Nat):Nat:=add (add (add (l.getD (i-16) 0) (Ai (l.getD (i-15) 0))) (l.getD (i-7) 0)) (yM (l.getD (i-2) 0))
def Dj(b:List UInt8)(l:List Nat):List Nat:=l++[if l.length<16 then CF b l.length else Cd l l.length]
def pR(b:List UInt8):Nat->List Nat
 |0=>[]
 |k+1=>Dj b (pR b k)
def lj(b:List UInt8):List Nat:=pR b 64
structure V where
 a:Nat
 b:Nat
 c:Nat
 d:Nat
 e:Nat
 f:Nat
 g:Nat
 h:Nat
def one(k w:Nat)(v:V):Nat:=add (add (add (add v.h (fN v.e 6 ^^^ fN v.e 11 ^^^ fN v.e 25)) (v.e &&& v.f ^^^ (4294967295 ^^^ v.e) &&& v.g)) k) w
def aN(v:V):Nat:=add (fN v.a 2 ^^^ fN v.a 13 ^^^ fN v.a 22) (v.a &&& v.b ^^^ v.a &&& v.c ^^^ v.b &&& v.c)
def yK(k w:Nat)(v:V):V:=⟨add (one k w v) (aN v),v.a,v.b,v.c,add v.d (one k w v),v.e,v.f,v.g⟩
def K:List Nat:=[0x428a2f98,0x71374491,0xb5c0fbcf,0xe9b5dba5,0x3956c25b,0x59f111f1,0x923f82a4,0xab1c5ed5,
 0xd807aa98,0x12835b01,0x243185be,0x550c7dc3,0x72be5d74,0x80deb1fe,0x9bdc06a7,0xc19bf174,
 0xe49b69c1,0xefbe4786,0x0fc19dc6,0x240ca1cc,0x2de92c6f,0x4a7484aa,0x5cb0a9dc,0x76f988da,
 0x983e5152,0xa831c66d,0xb00327c8,0xbf597fc7,0xc6e00bf3,0xd5a79147,0x06ca6351,0x14292967,
 0x27b70a85,0x2e1b2138,0x4d2c6dfc,0x53380d13,0x650a7354,0x766a0abb,0x81c2c92e,0x92722c85,
 0xa2bfe8a1,0xa81a664b,0xc24b8b70,0xc76c51a3,0xd192e819,0xd6990624,0xf40e3585,0x106aa070,
 0x19a4c116,0x1e376c08,0x2748774c,0x34b0bcb5,0x391c0cb3,0x4ed8aa4a,0x5b9cca4f,0x682e6ff3,
 0x748f82ee,0x78a5636f,0x84c87814,0x8cc70208,0x90befffa,0xa4506ceb,0xbef9a3f7,0xc67178f2]
def H0:V:=⟨0x6a09e667,0xbb67ae85,0x3c6ef372,0xa54ff53a,0x510e527f,0x9b05688c,0x1f83d9ab,0x5be0cd19⟩
def rounds(w:List Nat)(v:V):Nat->V
 |0=>v
 |k+1=>yK (K.getD k 0) (w.getD k 0) (rounds w v k)
def plus(v h:V):V:=⟨add v.a h.a,add v.b h.b,add v.c h.c,add v.d h.d,add v.e h.e,add v.f h.f,add v.g h.g,add v.h h.h⟩
def block(h:V)(b:List UInt8):V:=plus (rounds (lj b) h 64) h
def xD(n:Nat):Nat:=(119-n%64)%64
def ub(n:Nat):List UInt8:=(List.range 8).map λi=>UInt8.ofNat (n / 2^(8*(7-i))%256)
def qo(s:List UInt8):List UInt8:=s++[128]++List.replicate (xD s.length) 0++ub (s.length*8%18446744073709551616)
def kh(t:List UInt8)(h:V):Nat->V
 |0=>h
 |k+1=>block (kh t h k) ((t.drop (64*k)).take 64)
def pb(x:Nat):List UInt8:=[UInt8.ofNat (x / 16777216%256),UInt8.ofNat (x / 65536%256),UInt8.ofNat (x / 256%256),UInt8.ofNat (x%256)]
def out(v:V):List UInt8:=pb v.a++pb v.b++pb v.c++pb v.d++pb v.e++pb v.f++pb v.g++pb v.h
def sum(s:List UInt8):List UInt8:=out (kh (qo s) H0 ((qo s).length / 64))
end Sh
end Go.Proofs.YtbnonpbnhenkfaaGreatDoor
end
namespace Go.Proofs.YtbnonpbnhenkfaaGreatDoor
section
open Go.RowKit
def Bp:List Int:=[0,1,1,4,2,2,2,2,2]
def jY:List (Nat×List Value):=[
 (1,Bp.map (Value.int .u64)),
 (0,([2,6,7,9]:List Int).map (Value.int .i64)),
 (2,Wd.letters.flatMap gO.cells),
 (3,Wd.pC.flatMap gO.cells),
 (4,[Sh.H0.a,Sh.H0.b,Sh.H0.c,Sh.H0.d,Sh.H0.e,Sh.H0.f,Sh.H0.g,Sh.H0.h].map fun n=>Value.int .u32 ((n:Nat):Int)),
 (5,Sh.K.map fun n=>Value.int .u32 ((n:Nat):Int))]
structure jz(w:World):Prop where
 qh:∀x∈jY,∀i v,x.2[i]? = some v->w.cell? ⟨x.1,i,none⟩=some v
 lt:∀x∈jY,x.1<w.heap.size
 mx:∃m,w.cell? ⟨6,0,none⟩=some (.int .i64 m)
 lm:6<w.heap.size
theorem jz.below{w x:World}(h:jz w)(hb:Below w.heap.size w x):jz x:=by
 obtain⟨m,b⟩:=h.mx;exact⟨λt a i v hv=>(hb.cell (p:=⟨t.1,i,none⟩) (h.lt t a)).trans (h.qh t a i v hv),λt a=>u9 (h.lt t a) hb.size,⟨m,(hb.cell (p:=⟨_,0,none⟩) h.lm).trans b⟩,u9 h.lm hb.size⟩
end
end Go.Proofs.YtbnonpbnhenkfaaGreatDoor
