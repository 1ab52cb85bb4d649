/- Part 3 of the proof; the last part says what is proved. -/
import Derived.Test.YtbnonpbnhenkfaaGreatDoorQ02
import Derived.Orders
import Derived.Scope
import Derived.Shelf.Abstract
import Derived.Defers
import Derived.KernelRfl
import Derived.Lib.RuneCount
set_option linter.all false
set_option maxRecDepth 1000000
set_option maxHeartbeats 8000000
namespace Go.Proofs.YtbnonpbnhenkfaaGreatDoor
section
open Go.RowKit
def lk{α:Type}:List (Nat×α)→Nat→Option α
 | [],_=>none
 |(k,v)::l,t=>match Nat.beq t k with|true=>some v|false=>lk l t
theorem xg{ev ev':Operand→Option PV}:∀{l:List Operand},(∀x∈l,ev' x=ev x)→dZ ev' l=dZ ev l
 | [],_=>rfl
 |o::l,h=>by
  unfold dZ
  rw[h o aaA,xg fun x hx=>h x (aaz _ hx)]
inductive Bj(P:Program)(G:World→Prop)(hp:Nat→Option aA)(nx:Nat)(f:FuncId)(args:List PV)(r:PV)(d:bW)(rd:List Nat):Prop where
 |pure (n:Nat) (rs:List PV) (l:List Nat) (h0:cY [] n hp args=some (rs,l)) (h:gB P G f rs (·=r)) (hd:d=lV hp l r) (hr:rd=l)
 |bB (X:List Nat) (n:Nat) (rs':List PV) (l':List Nat) (bs:List (Nat×aA)) (d':bW) (h1:cY X n hp args=some (rs',l')) (h2:cC (fun x:Nat×aA=>dE hp l' x.1=some x.2) bs) (h3:HC P G f rs' bs nx fun r' d''=>r'=r∧d''=d') (hd:d=d'++jt hp l') (hr:rd=l'++bs.map (·.1))
structure dy(P:Program)(G:World→Prop)(hp:Nat→Option aA)(nx:Nat)(f:FuncId)(args:List PV)(k:PV→bW→List Nat→Prop):Prop where
 h:∃r d rd,k r d rd∧Bj P G hp nx f args r d rd
section
variable {P:Program}{G:World→Prop}{hp:Nat→Option aA}{nx:Nat}
theorem dy.is{f:FuncId}{args rs:List PV}{l:List Nat}{k:PV→bW→List Nat→Prop}{r:PV}(h:gB P G f rs (·=r))(hk:k r (lV hp l r) l)(hr:cY [] 200 hp args=some (rs,l):=by exact rfl):dy P G hp nx f args k:=⟨_,_,_,hk,.pure 200 rs l hr h rfl rfl⟩
theorem dy.by{n:Nat}{f:FuncId}{args rs:List PV}{l:List Nat}{k:PV→bW→List Nat→Prop}{r:PV}(h:gB P G f rs (·=r))(hr:cY [] n hp args=some (rs,l))(hk:k r (lV hp l r) l):dy P G hp nx f args k:=⟨_,_,_,hk,.pure n rs l hr h rfl rfl⟩
theorem dy.bB(X:List Nat){n:Nat}{f:FuncId}{args rs':List PV}{l':List Nat}{k:PV→bW→List Nat→Prop}{bs:List (Nat×aA)}{r:PV}{d:bW}(h:HC P G f rs' bs nx fun r' d'=>r'=r∧d'=d)(hr:cY X n hp args=some (rs',l'))(hb:cC (fun x:Nat×aA=>dE hp l' x.1=some x.2) bs)(hk:k r (d++jt hp l') (l'++bs.map (·.1))):dy P G hp nx f args k:=
 ⟨_,_,_,hk,.bB X n rs' l' bs d hr hb h rfl rfl⟩
end
structure Rec where
 dst:Option Nat
 p:PV
 d:bW
 rd:List Nat
section
variable (P:Program)(G:World→Prop)(T:TT)
def OL(nx:Nat)(o:Oper)(env:Nat→Option PV)(hp:Nat→Option aA)(K:PV→bW→List Nat→Prop):Prop:=
 match o.op with
 |.call ⟨.value f,args,_⟩=>match gD env f,dZ (gD env) args.toList with
  |some (.fn g fe),some ps=>dy P G hp nx g (ps++fe) K
  |_,_=>False
 |.call ⟨.invoke x name,args,_⟩=>match gD env x,dZ (gD env) args.toList with
  |some (.dq t v),some ps=>oh P t name fun g=>dy P G hp nx g (v::ps) K
  |_,_=>False
 |op=>match dZ (gD env) op.operands.toList with
  |some vs=>(tr T nx op vs).fj hp K
  |none=>False
def lK(nx:Nat)(o:Oper)(s:AS)(K:PV→bW→List Nat→Prop):Prop:=match s with|⟨env,hp⟩=>OL P G T nx o env hp K
theorem vY(nx:Nat)(o:Oper)(s:AS)(K:PV→bW→List Nat→Prop):lK P G T nx o s K=match o.op with
 |.call ⟨.value f,args,_⟩=>match s.ev f,dZ s.ev args.toList with
  |some (.fn g fe),some ps=>dy P G s.hp nx g (ps++fe) K
  |_,_=>False
 |.call ⟨.invoke x name,args,_⟩=>match s.ev x,dZ s.ev args.toList with
  |some (.dq t v),some ps=>oh P t name fun g=>dy P G s.hp nx g (v::ps) K
  |_,_=>False
 |op=>match dZ s.ev op.operands.toList with
  |some vs=>(tr T nx op vs).fj s.hp K
  |none=>False:=by cases s;rfl
def jm(all:List Oper)(nx:Nat)(o:Oper)(s:AS)(K:PV→bW→List Nat→Prop):Prop:=
 match o.guard with
 |none=>lK P G T nx o s K
 |some (j,want)=>match n_ all s j want with
  |some true=>lK P G T nx o s K
  |some false=>K (.aK []) [] []
  |none=>False
def ov(n:Nat)(all:List Oper):List Oper→Nat→AS→List Rec→(List Rec→AS→Prop)→Prop
 | [],_,s,acc,k=>k acc.reverse s
 |o::os,nx,s,acc,k=>match s with|⟨env,hp⟩=>jm P G T all nx o ⟨env,hp⟩ fun p d rd=>mC n env (dh hp d) o.dst p fun s'=>ov n all os (nx+1) s' (⟨o.dst,p,d,rd⟩::acc) k
theorem Mf(n:Nat)(all:List Oper)(o:Oper)(os:List Oper)(nx:Nat)(s:AS)(acc:List Rec)(k:List Rec→AS→Prop):ov P G T n all (o::os) nx s acc k=jm P G T all nx o s fun p d rd=>ja n ⟨s.env,dh s.hp d⟩ o.dst p fun s'=>ov P G T n all os (nx+1) s' (⟨o.dst,p,d,rd⟩::acc) k:=by cases s;rfl
end
def mE(o:Oper):List Nat:=o.after.toList.filterMap fun e=>if Region.binds .any e then some e.on else none
def qt(B:List Nat):List Nat→Nat
 | []=>0
 |q::l=>(2^q ||| (PV.nth B q).getD 0) ||| qt B l
def CS(ops:List Oper):List Nat:=ops.foldl (fun acc o=>acc++[qt acc (mE o)]) []
def tu(B:List Nat):Nat→List Oper→Bool
 |_,[]=>true
 |i,o::os=>(PV.nth B i==some (qt B (mE o)))&&(mE o).all (fun q=>Nat.blt q i)&&tu B (i+1) os
def Sn:Operand→Option Nat
 |.tmp t=>some t
 |_=>none
def looks(all:List Oper)(o:Oper):List Nat:=
 o.op.operands.toList.filterMap Sn++(match o.guard with|some (g,_)=>(match PV.nth all g with|some x=>x.dst.toList|none=>[])|none=>[])
def apart(l m:List Nat):Bool:=l.all fun x=>!m.contains x
def indep(all:List Oper)(oa ob:Oper)(ra rb:Rec):Bool:=
 apart oa.dst.toList (looks all ob)&&apart ob.dst.toList (looks all oa)&&apart oa.dst.toList ob.dst.toList&&apart (ra.d.map (·.1)) (rb.rd++rb.d.map (·.1))&&apart (rb.d.map (·.1)) ra.rd
def F8(all:List Oper)(bI:List Rec)(B:List Nat):Bool:=
 (List.range all.length).all fun b=>(List.range b).all fun a=>
   ((PV.nth B b).getD 0).testBit a||match PV.nth all a,PV.nth all b,PV.nth bI a,PV.nth bI b with
     |some oa,some ob,some ra,some rb=>indep all oa ob ra rb
     |_,_,_,_=>false
def tZ(all:List Oper)(bI:List Rec):Bool:=tu (CS all) 0 all&&F8 all bI (CS all)
theorem w7{B:List Nat}:∀{os:List Oper} {i:Nat},tu B i os=true→∀j o,os[j]? = some o→PV.nth B (i+j)=some (qt B (mE o))∧∀q∈mE o,q<i+j
 | [],_,_,j,o,h=>by simp at h
 |x::os,i,h,j,o,hj=>by
  unfold tu at h
  simp only[abm]at h
  cases j with
  |zero=>
   simp at hj;subst hj
   refine⟨by simpa using h.1.1,fun q hq=>?_⟩
   have:=abn.1 h.1.2 q hq
   have:=aaG this
   omega
  |succ j=>
   have:=w7 h.2 j o (by simpa using hj)
   rw[show i+(j+1)=i+1+j by omega]
   exact this
theorem F1{B:List Nat}:∀{l:List Nat} {a:Nat},(qt B l).testBit a=true→∃q∈l,a=q∨((PV.nth B q).getD 0).testBit a=true
 | [],a,h=>by simp[qt]at h
 |q::l,a,h=>by
  unfold qt at h
  simp only[Nat.testBit_or,adA,Nat.testBit_two_pow,adH]at h
  rcases h with(h|h)|h
  ·exact⟨q,aaA,.inl h.symm⟩
  ·exact⟨q,aaA,.inr h⟩
  ·obtain⟨q',h1,h2⟩:=F1 h
   exact⟨q',aaz _ h1,h2⟩
theorem KF{all:List Oper}{B:List Nat}(hB:tu B 0 all=true){D:Nat→Bool}(hD:∀i o,all[i]? = some o→D i=true→∀q∈mE o,D q=true):
 ∀(b:Nat) (o:Oper),all[b]? = some o→(∀q∈mE o,D q=true)→∀a,((PV.nth B b).getD 0).testBit a=true→D a=true:=by
 intro b
 induction b using Nat.strongRecOn with
 |_ b ih=>
  intro o ho he a ha
  obtain⟨h1,h2⟩:=w7 hB b o ho
  rw[aav]at h1 h2
  rw[h1]at ha
  obtain⟨q,hq,h3⟩:=F1 ha
  rcases h3 with rfl|h3
  ·exact he _ hq
  ·have hqb:=h2 q hq
   have hlt:q<all.length:=Nat.lt_trans hqb (aaq.1 ho).1
   exact ih q hqb _ (aay hlt) (hD q _ (aay hlt) (he q hq)) a h3
def ey:List Rec→Nat→(Nat→Bool)→Nat→Option PV
 | [],_,_,_=>none
 |r::rs,i,D,t=>match ey rs (i+1) D t with
  |some p=>some p
  |none=>if D i=true∧r.dst=some t then some r.p else none
def eP:List Rec→Nat→(Nat→Bool)→Nat→Option (Option aA)
 | [],_,_,_=>none
 |r::rs,i,D,j=>match eP rs (i+1) D j with
  |some p=>some p
  |none=>if D i=true then lk r.d j else none
def fp(s:AS)(bI:List Rec)(D:Nat→Bool):AS:=
 ⟨fun t=>match ey bI 0 D t with|some p=>some p|none=>s.env t,fun j=>match eP bI 0 D j with|some b=>b|none=>s.hp j⟩
theorem ur{D D':Nat→Bool}{t:Nat}:∀{bI:List Rec} {i:Nat},(∀a r,bI[a]? = some r→r.dst=some t→D (i+a)=D' (i+a))→ey bI i D t=ey bI i D' t
 | [],_,_=>rfl
 |r::rs,i,h=>by
  have ih:ey rs (i+1) D t=ey rs (i+1) D' t:=ur fun a r' ha hr=>by have:=h (a+1) r' (by simpa using ha) hr;rwa [show i+(a+1)=i+1+a by omega]at this
  unfold ey
  rw[ih]
  by_cases hr:r.dst=some t
  ·have:=h 0 r rfl hr
   rw[abM]at this
   rw[this]
  ·simp[hr]
theorem rN{D D':Nat→Bool}{j:Nat}:∀{bI:List Rec} {i:Nat},(∀a r,bI[a]? = some r→j∈r.d.map (·.1)→D (i+a)=D' (i+a))→eP bI i D j=eP bI i D' j
 | [],_,_=>rfl
 |r::rs,i,h=>by
  have ih:eP rs (i+1) D j=eP rs (i+1) D' j:=rN fun a r' ha hr=>by have:=h (a+1) r' (by simpa using ha) hr;rwa [show i+(a+1)=i+1+a by omega]at this
  unfold eP
  rw[ih]
  by_cases hr:j∈r.d.map (·.1)
  ·have:=h 0 r rfl hr
   rw[abM]at this
   rw[this]
  ·have:lk r.d j=none:=by
    cases e:lk r.d j with
    |none=>rfl
    |some b=>exact absurd (lkm e) hr
   simp[this]
where
 lkm {α:Type}:∀{l:List (Nat×α)} {t:Nat} {v:α},lk l t=some v→t∈l.map (·.1)
  |(k,u)::l,t,v,h=>by
   unfold lk at h
   split at h
   ·rename_i e;rw[aaE e];exact aaA
   ·exact aaz _ (lkm h)
theorem zb{D:Nat→Bool}{t:Nat}{r:Rec}:∀{bI:List Rec} {i a:Nat},bI[a]? = some r→D (i+a)=true→r.dst=some t→(∀b r',bI[b]? = some r'→a<b→D (i+b)=true→r'.dst≠some t)→ey bI i D t=some r.p
 | [],_,_,h,_,_,_=>by simp at h
 |x::rs,i,a,h,hD,hr,hno=>by
  unfold ey
  cases a with
  |zero=>
   simp at h;subst h
   have:ey rs (i+1) D t=none:=by
    have hcg:ey rs (i+1) D t=ey rs (i+1) (fun _=>false) t:=ur fun b r' hb hr'=>by
     cases e:D (i+1+b)with
     |false=>rfl
     |true=>exact absurd hr' (hno (b+1) r' (by simpa using hb) (by omega) (by rwa [show i+(b+1)=i+1+b by omega]))
    rw[hcg]
    exact noneE rs (i+1)
   rw[this]
   rw[abM]at hD
   simp[hD,hr]
  |succ a=>
   rw[zb (bI:=rs) (i:=i+1) (a:=a) (by simpa using h) (by rwa [show i+1+a=i+(a+1)by omega]) hr fun b r' hb hab hDb=>hno (b+1) r' (by simpa using hb) (by omega) (by rwa [show i+(b+1)=i+1+b by omega])]
where
 noneE:∀(rs:List Rec) (i:Nat),ey rs i (fun _=>false) t=none
  | [],_=>rfl
  |_::rs,i=>by unfold ey;rw[noneE rs (i+1)];simp
theorem zQ{D:Nat→Bool}{j:Nat}{r:Rec}{x:Option aA}:∀{bI:List Rec} {i a:Nat},bI[a]? = some r→D (i+a)=true→lk r.d j=some x→(∀b r',bI[b]? = some r'→a<b→D (i+b)=true→j∉r'.d.map (·.1))→eP bI i D j=some x
 | [],_,_,h,_,_,_=>by simp at h
 |y::rs,i,a,h,hD,hr,hno=>by
  unfold eP
  cases a with
  |zero=>
   simp at h;subst h
   have:eP rs (i+1) D j=none:=by
    have hcg:eP rs (i+1) D j=eP rs (i+1) (fun _=>false) j:=rN fun b r' hb hr'=>by
     cases e:D (i+1+b)with
     |false=>rfl
     |true=>exact absurd hr' (hno (b+1) r' (by simpa using hb) (by omega) (by rwa [show i+(b+1)=i+1+b by omega]))
    rw[hcg]
    exact noneH rs (i+1)
   rw[this]
   rw[abM]at hD
   simp[hD,hr]
  |succ a=>
   rw[zQ (bI:=rs) (i:=i+1) (a:=a) (by simpa using h) (by rwa [show i+1+a=i+(a+1)by omega]) hr fun b r' hb hab hDb=>hno (b+1) r' (by simpa using hb) (by omega) (by rwa [show i+(b+1)=i+1+b by omega])]
where
 noneH:∀(rs:List Rec) (i:Nat),eP rs i (fun _=>false) j=none
  | [],_=>rfl
  |_::rs,i=>by unfold eP;rw[noneH rs (i+1)];simp
theorem apart_spec{l m:List Nat}(h:apart l m=true):∀x∈l,x∉m:=fun x hx hm=>by
 have:=abn.1 h x hx
 simp[hm]at this
section
variable {P:Program}{G:World→Prop}{T:TT}
def nX(r:Rec)(p:PV)(d:bW)(rd:List Nat):Prop:=p=r.p∧d=r.d∧rd=r.rd
theorem Fv{nx:Nat}{o:Oper}{s:AS}{K:PV→bW→List Nat→Prop}(h:lK P G T nx o s K):∃p d rd,K p d rd∧lK P G T nx o s fun p' d' rd'=>p'=p∧d'=d∧rd'=rd:=by
 simp only[vY]at h⊢;split at h
 ·split at h
  ·obtain⟨r,d,rd,h1,h2⟩:=h;exact⟨_,_,_,h1,⟨r,d,rd,⟨rfl,rfl,rfl⟩,h2⟩⟩
  ·exact h.elim
 ·split at h
  ·obtain⟨g,hg,r,d,rd,h1,h2⟩:=h;exact⟨_,_,_,h1,⟨g,hg,r,d,rd,⟨rfl,rfl,rfl⟩,h2⟩⟩
  ·exact h.elim
 ·split at h
  ·exact Tr.jh h
  ·exact h.elim
theorem Qx{all:List Oper}{nx:Nat}{o:Oper}{s:AS}{K:PV→bW→List Nat→Prop}(h:jm P G T all nx o s K):∃p d rd,K p d rd∧jm P G T all nx o s fun p' d' rd'=>p'=p∧d'=d∧rd'=rd:=by
 unfold jm at h⊢;split at h
 ·exact Fv h
 ·split at h
  ·exact Fv h
  ·exact⟨_,_,_,h,rfl,rfl,rfl⟩
  ·exact h.elim
theorem TZ{hp hp':Nat→Option aA}{l:List Nat}{j:Nat}(h:hp' j=hp j):dE hp' l j=dE hp l j:=by
 by_cases hj:j∈l
 ·rw[wT _ hj,wT _ hj,h]
 ·rw[wO _ hj,wO _ hj,h]
theorem cC.imp{α:Type}{p q:α→Prop}:∀{l:List α},(∀x∈l,p x→q x)→cC p l→cC q l
 | [],_,_=>trivial
 |_::_,h,⟨h1,h2⟩=>⟨h _ aaA h1,cC.imp (fun x hx=>h x (aaz _ hx)) h2⟩
theorem Iy{hp hp':Nat→Option aA}{nx:Nat}{f:FuncId}{args:List PV}{r:PV}{d:bW}{rd:List Nat}(h:Bj P G hp nx f args r d rd)(h2:∀j∈rd,hp' j=hp j):Bj P G hp' nx f args r d rd:=by
 cases h with
 |pure n rs l h0 h hd hr=>
  subst hr;refine .pure n rs _ (om _ h0 h2) h ?_ rfl;rw[hd];unfold lV;rw[yT h2]
 |bB X n rs' l' bs d' h1 hb h3 hd hr=>
  subst hr;have hl':∀j∈l',hp' j=hp j:=fun j hj=>h2 j (abR _ hj)
  refine .bB X n rs' l' bs d' (om _ h1 hl') (hb.imp fun x hx e=>?_) h3 (by rw[hd,yT hl']) rfl;rw[TZ (h2 x.1 (acr _ (abC hx)))];exact e
theorem Ku{nx:Nat}{o:Oper}{s s':AS}{r:Rec}(h:lK P G T nx o s (nX r))(h1:∀x∈o.op.operands.toList,s'.ev x=s.ev x)(h2:∀j∈r.rd,s'.hp j=s.hp j):lK P G T nx o s' (nX r):=by
 rw[vY]at h⊢;split at h
 ·rename_i f args ty ho;rw[ho]at h1;have hf:s'.ev f=s.ev f:=h1 f (by simp[Op.operands,Call.operands]);have ha:dZ s'.ev args.toList=dZ s.ev args.toList:=xg fun x hx=>h1 x (by simp[Op.operands,Call.operands];exact .inr (by simpa using hx))
  rw[hf,ha];split at h
  ·obtain⟨v,d,rd,h3,h4⟩:=h;obtain⟨rfl,rfl,rfl⟩:=h3;exact⟨_,_,_,⟨rfl,rfl,rfl⟩,Iy h4 h2⟩
  ·exact h.elim
 ·rename_i x name args ty ho;rw[ho]at h1;have hf:s'.ev x=s.ev x:=h1 x (by simp[Op.operands,Call.operands]);have ha:dZ s'.ev args.toList=dZ s.ev args.toList:=xg fun x hx=>h1 x (by simp[Op.operands,Call.operands];exact .inr (by simpa using hx))
  rw[hf,ha];split at h
  ·obtain⟨g,hg,v,d,rd,h3,h4⟩:=h;obtain⟨rfl,rfl,rfl⟩:=h3;exact⟨g,hg,_,_,_,⟨rfl,rfl,rfl⟩,Iy h4 h2⟩
  ·exact h.elim
 ·rw[xg h1];split at h
  ·exact Tr.kT (fun p d l hK j hj=>h2 j (by rw[← hK.2.2];exact hj)) h
  ·exact h.elim
theorem SI{all:List Oper}{s s':AS}{g:Nat}{w:Bool}(h:∀x,PV.nth all g=some x→∀d,x.dst=some d→s'.env d=s.env d):n_ all s' g w=n_ all s g w:=by
 unfold n_;split
 ·rename_i o ho;split
  ·rename_i d hd;rw[h o ho d hd]
  ·rfl
 ·rfl
theorem Vx(e e':Nat→Option PV)(v:Value):gD e (.const v)=gD e' (.const v):=by cases v<;>first|rfl|(rename_i a n c;cases a<;>cases n<;>cases c<;>rfl)
theorem PY{all:List Oper}{nx:Nat}{o:Oper}{s s':AS}{r:Rec}(h:jm P G T all nx o s (nX r))(h1:∀t∈looks all o,s'.env t=s.env t)(h2:∀j∈r.rd,s'.hp j=s.hp j):jm P G T all nx o s' (nX r):=by
 have hop:∀x∈o.op.operands.toList,s'.ev x=s.ev x:=fun x hx=>by
  cases x with
  |tmp t=>exact h1 t (by unfold looks;exact abR _ (adh.2 ⟨_,hx,rfl⟩))
  |const v=>exact Vx _ _ v
  |_=>rfl
 unfold jm at h⊢;split at h
 ·exact Ku h hop h2
 ·rename_i j want hg;have:n_ all s' j want=n_ all s j want:=SI fun x hx d hd=>h1 d (by
   unfold looks;rw[hg];dsimp only;rw[hx];exact acr _ (by simp[hd]))
  rw[this];split at h
  ·exact Ku h hop h2
  ·exact h
  ·exact h.elim
def kZ(s:AS)(dst:Option Nat)(p:PV)(d:bW):AS:=⟨match dst with|some t=>ck s.env t (some p)|none=>s.env,dh s.hp d⟩
theorem Qv{n:Nat}{s:AS}{dst:Option Nat}{p:PV}{d:bW}{k:AS→Prop}(h:ja n ⟨s.env,dh s.hp d⟩ dst p k):k (kZ s dst p d)∧∀t,dst=some t→t+1≤n:=by
 cases dst with
 |none=>exact⟨h,fun _ e=>by cases e⟩
 |some t=>
  rw[vH]at h;dsimp only at h;split at h
  ·rename_i hd;exact⟨h,fun _ e=>by cases e;exact aaG hd⟩
  ·exact h.elim
theorem KD{n:Nat}{s:AS}{dst:Option Nat}{p:PV}{d:bW}{k:AS→Prop}(h:k (kZ s dst p d))(hn:∀t,dst=some t→t+1≤n):ja n ⟨s.env,dh s.hp d⟩ dst p k:=by
 cases dst with
 |none=>exact h
 |some t=>
  rw[vH];dsimp only;rw[Nat.ble_eq_true_of_le (hn t rfl)];exact h
theorem GB{D:Nat→Bool}{t:Nat}:∀{rs:List Rec} {i:Nat},ey rs (i+1) D t=ey rs i (fun a=>D (a+1)) t
 | [],_=>rfl
 |r::rs,i=>by
  show(match ey rs (i+1+1) D t with|some p=>some p|none=>if D (i+1)=true∧r.dst=some t then some r.p else none)=match ey rs (i+1) (fun a=>D (a+1)) t with|some p=>some p|none=>if D (i+1)=true∧r.dst=some t then some r.p else none
  rw[GB (rs:=rs) (i:=i+1)]
theorem CR{D:Nat→Bool}{t:Nat}:∀{rs:List Rec} {i:Nat},eP rs (i+1) D t=eP rs i (fun a=>D (a+1)) t
 | [],_=>rfl
 |r::rs,i=>by
  show(match eP rs (i+1+1) D t with|some p=>some p|none=>if D (i+1)=true then lk r.d t else none)=match eP rs (i+1) (fun a=>D (a+1)) t with|some p=>some p|none=>if D (i+1)=true then lk r.d t else none
  rw[CR (rs:=rs) (i:=i+1)]
theorem AB(hp:Nat→Option aA)(j:Nat):∀d:bW,dh hp d j=match lk d j with|some b=>b|none=>hp j
 | []=>rfl
 |(k,b)::d=>by
  show ck (dh hp d) k b j=match(match Nat.beq j k with|true=>some b|false=>lk d j)with|some b=>b|none=>hp j
  unfold ck
  cases e:Nat.beq j k with
  |true=>rfl
  |false=>exact AB hp j d
theorem Ep{s:AS}{r:Rec}{rs:List Rec}{D:Nat→Bool}(h:D 0=true):fp s (r::rs) D=fp (kZ s r.dst r.p r.d) rs (fun a=>D (a+1)):=by
 unfold fp;congr 1
 ·funext t;show(match(match ey rs (0+1) D t with|some p=>some p|none=>if D 0=true∧r.dst=some t then some r.p else none)with|some p=>some p|none=>s.env t)=_
  rw[GB];cases ey rs 0 (fun a=>D (a+1)) t with
  |some p=>rfl
  |none=>
   dsimp only;unfold kZ;cases hd:r.dst with
   |none=>simp
   |some d=>
    by_cases e:d=t
    ·subst e;simp[h,dm]
    ·simp[e,dR _ _ (Ne.symm e)]
 ·funext j;show(match(match eP rs (0+1) D j with|some p=>some p|none=>if D 0=true then lk r.d j else none)with|some p=>p|none=>s.hp j)=_
  rw[CR];cases eP rs 0 (fun a=>D (a+1)) j with
  |some p=>rfl
  |none=>
   dsimp only;unfold kZ;show _=dh s.hp r.d j
   rw[AB,abb h]
theorem IU(s:AS)(rs:List Rec){D:Nat→Bool}(h:∀a,D a=false):fp s rs D=s:=by
 have e:D=fun _=>false:=funext h
 subst e;unfold fp;cases s with
 |mk env hp=>
  congr 1
  ·funext t;rw[zb.noneE]
  ·funext j;rw[zQ.noneH]
theorem KW{n:Nat}{all:List Oper}:∀{os:List Oper} {nx:Nat} {s:AS} {acc:List Rec} {k:List Rec→AS→Prop},ov P G T n all os nx s acc k→
 ∃bI,bI.length=os.length∧k (acc.reverse++bI) (fp s bI fun _=>true)∧∀i o r,os[i]? = some o→bI[i]? = some r→jm P G T all (nx+i) o (fp s bI fun a=>decide (a<i)) (nX r)∧r.dst=o.dst∧∀t,o.dst=some t→t+1≤n
 | [],nx,s,acc,k,h=>⟨[],rfl,by rw[abe];exact h,fun i o r hi=>by simp at hi⟩
 |o::os,nx,s,acc,k,h=>by
  rw[Mf]at h
  obtain⟨p,d,rd,h1,h2⟩:=Qx h
  obtain⟨h3,h4⟩:=Qv h1
  obtain⟨bI,l1,l2,l3⟩:=KW h3
  refine⟨⟨o.dst,p,d,rd⟩::bI,by simp[l1],?_,fun i o' r hi hr=>?_⟩
  ·rw[Ep rfl]
   simpa using l2
  ·cases i with
   |zero=>
    simp at hi hr
    subst hi;subst hr
    refine⟨?_,rfl,h4⟩
    rw[IU s _ (fun a=>by simp),abM]
    exact h2
   |succ i=>
    have:=l3 i o' r (by simpa using hi) (by simpa using hr)
    rw[show nx+1+i=nx+(i+1)by omega]at this
    refine⟨?_,this.2⟩
    rw[Ep (by simp)]
    have e:(fun a=>decide (a+1<i+1))=fun a=>decide (a<i):=by funext a;simp
    rw[e]
    exact this.1
end
section
variable {P:Program}{G:World→Prop}{T:TT}{S:ct}
theorem Rc{n nx:Nat}{o:Oper}{s:AS}{r:Rec}(h:lK P G T nx o s (nX r))(hn:∀t,o.dst=some t→t+1≤n):o7 P G T n nx o s fun s'=>s'=kZ s o.dst r.p r.d:=by
 have hput:ja n ⟨s.env,dh s.hp r.d⟩ o.dst r.p fun s'=>s'=kZ s o.dst r.p r.d:=KD rfl hn
 rw[vY]at h;rw[B3];split at h
 ·rename_i f args ty ho;rw[ho];dsimp only;split at h
  ·rename_i g fe ps e1 e2;rw[e1,e2];dsimp only;obtain⟨v,d,rd,⟨h4,h5,h6⟩,h3⟩:=h;subst h4 h5;cases h3 with
   |pure n' rs l e3 h hd hr=>
    refine a_.by (l:=l) h e3 ?_;rw[← hd];exact hput
   |bB X n' rs' l' bs d' h1 hb h3 hd hr=>
    refine a_.bB X h3 h1 hb ?_;rw[← hd];exact hput
  ·exact h.elim
 ·rename_i x name args ty ho;rw[ho];dsimp only;split at h
  ·rename_i t v0 ps e1 e2;rw[e1,e2];dsimp only;obtain⟨g,hg,v,d,rd,⟨h4,h5,h6⟩,h3⟩:=h;subst h4 h5;refine oh.is g hg ?_;cases h3 with
   |pure n' rs l e3 h hd hr=>
    refine a_.by (l:=l) h e3 ?_;rw[← hd];exact hput
   |bB X n' rs' l' bs d' h1 hb h3 hd hr=>
    refine a_.bB X h3 h1 hb ?_;rw[← hd];exact hput
  ·exact h.elim
 ·rename_i op hno hno2;split
  ·rename_i f args ty ho;exact(hno f args ty ho).elim
  ·rename_i x name args ty ho;exact(hno2 x name args ty ho).elim
  ·unfold act;split at h
   ·rename_i vs e;rw[e];refine Tr.lJ (fun p d l hr=>?_) h;obtain⟨h1,h2,_⟩:=hr;rw[h1,h2];exact hput
   ·exact h.elim
theorem c_.drew{n:Nat}{F:Nat→Prop}{s:AS}{a:Act}{c:RC}(h:c_ S n F s a c):c_ S n F s a ⟨c.w.drew,c.Z,c.hb⟩:=by
 have hbl:Below c.w.heap.size c.w c.w.drew:=(Below.refl _ _).drew;have hx:Ext c ⟨c.w.drew,c.Z,c.hb⟩:=pT h.sat.dG hbl fun _ _ z=>z
 exact⟨qH h.sat hbl (fun _ _ z=>z) (fun _ _ z=>.inl z),h.size,fun t p e=>by
  obtain⟨v,h1,h2⟩:=h.env t p e;exact⟨v,h1,Rel.ext p hx h2⟩,h.defers⟩
def FD(nx N:Nat)(D:Nat→Bool)(j:Nat):Prop:=nx+N≤j∨∃b,b<N∧D b=false∧j=nx+b
def iS(D:Nat→Bool)(i:Nat):Nat→Bool:=fun a=>if a=i then true else D a
theorem Vt{s:AS}{bI:List Rec}{D:Nat→Bool}{i:Nat}{r:Rec}(hr:bI[i]? = some r)
 (hE:∀b r',bI[b]? = some r'→i<b→D b=true→∀t,r.dst=some t→r'.dst≠some t) (hH:∀b r',bI[b]? = some r'→i<b→D b=true→∀j∈r.d.map (·.1),j∉r'.d.map (·.1)):
 fp s bI (iS D i)=kZ (fp s bI D) r.dst r.p r.d:=by
 have hi:iS D i i=true:=by unfold iS;simp
 unfold fp kZ
 congr 1
 ·funext t
  by_cases hd:r.dst=some t
  ·rw[zb hr (by rw[aav];exact hi) hd (fun b r' hb hib hDb=>hE b r' hb hib (by unfold iS at hDb;rw[aav,abg (by omega)]at hDb;exact hDb) t hd),hd]
   exact(dm _ _ _).symm
  ·have e:ey bI 0 (iS D i) t=ey bI 0 D t:=ur fun a r' ha hr'=>by
    rw[aav]
    unfold iS
    rw[abg (show¬a=i by rintro rfl;rw[hr]at ha;cases ha;exact hd hr')]
   rw[e]
   cases hd2:r.dst with
   |none=>rfl
   |some d=>exact(dR (fun t=>match ey bI 0 D t with|some p=>some p|none=>s.env t) (some r.p) (show t≠d from fun e=>hd (by rw[hd2,e]))).symm
 ·funext j
  rw[AB]
  cases hl:lk r.d j with
  |some x=>
   rw[zQ hr (by rw[aav];exact hi) hl (fun b r' hb hib hDb=>hH b r' hb hib (by unfold iS at hDb;rw[aav,abg (by omega)]at hDb;exact hDb) j (rN.lkm hl))]
  |none=>
   have e:eP bI 0 (iS D i) j=eP bI 0 D j:=by
    by_cases hm:j∈r.d.map (·.1)
    ·exfalso
     obtain⟨x,hx⟩:=lkin hm
     rw[hl]at hx;cases hx
    ·exact rN fun a r' ha hr'=>by
      rw[aav]
      unfold iS
      rw[abg (show¬a=i by rintro rfl;rw[hr]at ha;cases ha;exact hm hr')]
   rw[e]
where
 lkin {α:Type}:∀{l:List (Nat×α)} {t:Nat},t∈l.map (·.1)→∃v,lk l t=some v
  |(k,u)::l,t,h=>by
   unfold lk
   split
   ·exact⟨_,rfl⟩
   ·rename_i e
    rcases aaI.1 h with h|h
    ·exfalso;rw[h,acI]at e;cases e
    ·exact lkin h
theorem Ji{all:List Oper}{bI:List Rec}{B:List Nat}(h:F8 all bI B=true){a b:Nat}(hab:a<b){oa ob:Oper}(ha:all[a]? = some oa)(hb:all[b]? = some ob){ra rb:Rec}(hra:bI[a]? = some ra)(hrb:bI[b]? = some rb):
 ((PV.nth B b).getD 0).testBit a=true∨indep all oa ob ra rb=true:=by
 have hbl:b<all.length:=(aaq.1 hb).1
 have h1:=abn.1 (abn.1 h b (acN.2 hbl)) a (acN.2 hab)
 have g:∀{α:Type} {l:List α} {j:Nat} {x:α},l[j]? = some x→PV.nth l j=some x:=by
  intro α l
  induction l with
  |nil=>intro j x h;simp at h
  |cons y l ih=>intro j x h;cases j with
   |zero=>simpa[PV.nth]using h
   |succ j=>exact ih (by simpa using h)
 rw[g ha,g hb,g hra,g hrb]at h1
 simpa using h1
theorem rT{all:List Oper}{oa ob:Oper}{ra rb:Rec}(h:indep all oa ob ra rb=true):
 (∀t,oa.dst=some t→t∉looks all ob)∧(∀t,ob.dst=some t→t∉looks all oa)∧(∀t,oa.dst=some t→ob.dst≠some t)∧(∀j∈ra.d.map (·.1),j∉rb.rd∧j∉rb.d.map (·.1))∧(∀j∈rb.d.map (·.1),j∉ra.rd):=by
 unfold indep at h
 simp only[abm]at h
 obtain⟨⟨⟨⟨h1,h2⟩,h3⟩,h4⟩,h5⟩:=h
 refine⟨fun t e=>apart_spec h1 t (by simp[e]),fun t e=>apart_spec h2 t (by simp[e]),fun t e e2=>apart_spec h3 t (by simp[e]) (by simp[e2]),fun j hj=>?_,fun j hj=>apart_spec h5 j hj⟩
 have:=apart_spec h4 j hj
 rw[aaN]at this
 exact⟨fun h=>this (.inl h),fun h=>this (.inr h)⟩
theorem Qw(hT:cL P T)(hG:S.G=G){ops:Array Oper}{n nx:Nat}{s:AS}{bI:List Rec}{k:AS→Prop}{Q:Exit→Act→World→Prop}(hlen:bI.length=ops.size)(hc:tZ ops.toList bI=true)
 (hr:∀i o r,ops.toList[i]? = some o→bI[i]? = some r→jm P G T ops.toList (nx+i) o (fp s bI fun a=>decide (a<i)) (nX r)∧r.dst=o.dst∧∀t,o.dst=some t→t+1≤n)
 (hfin:k (fp s bI fun _=>true)) (hk:∀s' a' c',k s'→c_ S n (ge (nx+ops.size)) s' a' c'→Q .normal a' c'.w):
 ∀(fuel:Nat) (D:Nat→Bool) (listed:Array Bool) (a:Act) (c:RC),listed.size=ops.size→(∀i,i<ops.size→listed[i]? = some (D i))→(∀i o,ops.toList[i]? = some o→D i=true→∀q∈mE o,D q=true)→
  ((List.range ops.size).filter fun i=>!D i).length≤fuel→c_ S n (FD nx ops.size D) (fp s bI D) a c→wpAny P .any ops Q fuel listed a c.w:=by
 unfold tZ at hc
 rw[abm]at hc
 obtain⟨hB,hP⟩:=hc
 have hready:∀(D:Nat→Bool) (listed:Array Bool),listed.size=ops.size→(∀i,i<ops.size→listed[i]? = some (D i))→∀i,i∈Region.ready .any ops listed→i<ops.size∧D i=false∧∀o,ops.toList[i]? = some o→∀q∈mE o,q<ops.size→D q=true:=by
  intro D listed hs hl i hi
  unfold Region.ready at hi
  rw[acq,acN]at hi
  obtain⟨h1,h2⟩:=hi
  rw[abm]at h2
  refine⟨h1,?_,fun o ho q hq hqs=>?_⟩
  ·have:=h2.1
   simp[abA,hl i h1]at this
   exact this
  ·have h3:=h2.2
   have ho':ops[i]? = some o:=by rw[← aaU];exact ho
   rw[ho']at h3
   simp only[ach,acK]at h3
   obtain⟨e,he,hee⟩:=adh.1 hq
   have h4:=Array.all_eq_true'.1 h3 e (by simpa using he)
   by_cases hb:Region.binds .any e=true
   ·rw[abb hb]at hee;cases hee
    simp[hb,abA,hl _ hqs]at h4
    exact h4
   ·rw[abg hb]at hee;cases hee
 have hall:∀(D:Nat→Bool) (listed:Array Bool),listed.size=ops.size→(∀i,i<ops.size→listed[i]? = some (D i))→Region.ready .any ops listed=[]→∀i,i<ops.size→D i=true:=by
  intro D listed hs hl he i
  induction i using Nat.strongRecOn with
  |_ i ih=>
   intro hi
   cases hD:D i with
   |true=>rfl
   |false=>
    exfalso
    have:i∈Region.ready .any ops listed:=by
     unfold Region.ready
     rw[acq,acN]
     refine⟨hi,?_⟩
     rw[abm]
     have hlt:i<ops.toList.length:=by simpa using hi
     have ho:=aay hlt
     refine⟨by simp[abA,hl i hi,hD],?_⟩
     have ho':ops[i]? = some ops.toList[i]:=by rw[← aaU];exact ho
     rw[ho']
     simp only[ach,acK]
     rw[Array.all_eq_true']
     intro e he'
     by_cases hb:Region.binds .any e=true
     ·have hq:e.on∈mE ops.toList[i]:=adh.2 ⟨e,by simpa using he',by rw[abb hb]⟩
      have hlt2:=(w7 hB i _ ho).2 e.on hq
      rw[aav]at hlt2
      have:=ih e.on hlt2 (by omega)
      simp[hb,abA,hl e.on (by omega),this]
     ·simp[hb]
    rw[he]at this;cases this
 have hend:∀(D:Nat→Bool) (listed:Array Bool) (a:Act) (c:RC),listed.size=ops.size→(∀i,i<ops.size→listed[i]? = some (D i))→c_ S n (FD nx ops.size D) (fp s bI D) a c→Region.ready .any ops listed=[]→Q .normal a c.w:=by
  intro D listed a c hs hl hm he
  have hD:=hall D listed hs hl he
  have e:fp s bI D=fp s bI fun _=>true:=by
   unfold fp
   congr 1
   ·funext t
    rw[show ey bI 0 D t=ey bI 0 (fun _=>true) t from ur fun a r ha _=>by rw[aav];exact hD a (by have:=(aaq.1 ha).1;omega)]
   ·funext j
    rw[show eP bI 0 D j=eP bI 0 (fun _=>true) j from rN fun a r ha _=>by rw[aav];exact hD a (by have:=(aaq.1 ha).1;omega)]
  rw[e]at hm
  exact hk _ a c hfin (hm.up fun j (hj:nx+ops.size≤j)=>.inl hj)
 intro fuel
 induction fuel with
 |zero=>
  intro D listed a c hs hl hcl hcnt hm
  have he:Region.ready .any ops listed=[]:=by
   cases e:Region.ready .any ops listed with
   |nil=>rfl
   |cons i l=>
    exfalso
    obtain⟨h1,h2,_⟩:=hready D listed hs hl i (by rw[e];exact aaA)
    have:i∈(List.range ops.size).filter fun i=>!D i:=acq.2 ⟨acN.2 h1,by simp[h2]⟩
    have h0:=abz.1 (Nat.le_zero.1 hcnt)
    rw[h0]at this;cases this
  exact⟨he,hend D listed a c hs hl hm he⟩
 |succ fuel ih=>
  intro D listed a c hs hl hcl hcnt hm
  refine⟨hend D listed a c hs hl hm,fun i hi=>?_⟩
  obtain⟨h1,h2,h3⟩:=hready D listed hs hl i hi
  have hlt:i<ops.toList.length:=by simpa using h1
  obtain⟨o,ho⟩:∃o,ops.toList[i]? = some o:=⟨_,aay hlt⟩
  obtain⟨r,hri⟩:∃r,bI[i]? = some r:=⟨_,aay (by omega)⟩
  have hedge:∀q∈mE o,D q=true:=fun q hq=>h3 o ho q hq (by have:=(w7 hB i o ho).2 q hq;omega)
  obtain⟨g1,g2,g3⟩:=hr i o r ho hri
  have hbefore:∀b ob rb,ops.toList[b]? = some ob→bI[b]? = some rb→b<i→D b=false→indep ops.toList ob o rb r=true:=by
   intro b ob rb hob hrb hbi hDb
   rcases Ji hP hbi hob ho hrb hri with h|h
   ·exfalso
    have:=KF hB hcl i o ho hedge b h
    rw[hDb]at this;cases this
   ·exact h
  have hafter:∀b ob rb,ops.toList[b]? = some ob→bI[b]? = some rb→i<b→D b=true→indep ops.toList o ob r rb=true:=by
   intro b ob rb hob hrb hbi hDb
   rcases Ji hP hbi ho hob hri hrb with h|h
   ·exfalso
    have:=KF hB hcl b ob hob (hcl b ob hob hDb) i h
    rw[h2]at this;cases this
   ·exact h
  have hop:∀(b:Nat) (rb:Rec),bI[b]? = some rb→∃ob:Oper,ops.toList[b]? = some ob∧rb.dst=ob.dst:=fun b rb hrb=>by
   have hb:b<ops.toList.length:=by have:=(aaq.1 hrb).1;simp;omega
   exact⟨_,aay hb,(hr b _ rb (aay hb) hrb).2.1⟩
  have hgd:jm P G T ops.toList (nx+i) o (fp s bI D) (nX r):=by
   refine PY g1 (fun t ht=>?_) (fun j hj=>?_)
   ·show(match ey bI 0 D t with|some p=>some p|none=>s.env t)=(match ey bI 0 (fun a=>decide (a<i)) t with|some p=>some p|none=>s.env t)
    rw[show ey bI 0 D t=ey bI 0 (fun a=>decide (a<i)) t from ur fun b rb hb hdst=>by
     rw[aav]
     obtain⟨ob,hob,hd⟩:=hop b rb hb
     rcases adk b i with hlt|rfl|hgt
     ·rw[aaB hlt]
      cases e:D b with
      |true=>rfl
      |false=>exact absurd ht ((rT (hbefore b ob rb hob hb hlt e)).1 t (hd▸hdst))
     ·rw[h2];simp
     ·rw[aar (by omega)]
      cases e:D b with
      |false=>rfl
      |true=>exact absurd ht ((rT (hafter b ob rb hob hb hgt e)).2.1 t (hd▸hdst))]
   ·show(match eP bI 0 D j with|some p=>p|none=>s.hp j)=(match eP bI 0 (fun a=>decide (a<i)) j with|some p=>p|none=>s.hp j)
    rw[show eP bI 0 D j=eP bI 0 (fun a=>decide (a<i)) j from rN fun b rb hb hdst=>by
     rw[aav]
     obtain⟨ob,hob,hd⟩:=hop b rb hb
     rcases adk b i with hlt|rfl|hgt
     ·rw[aaB hlt]
      cases e:D b with
      |true=>rfl
      |false=>exact absurd hj ((rT (hbefore b ob rb hob hb hlt e)).2.2.2.1 j hdst).1
     ·rw[h2];simp
     ·rw[aar (by omega)]
      cases e:D b with
      |false=>rfl
      |true=>exact absurd hj ((rT (hafter b ob rb hob hb hgt e)).2.2.2.2 j hdst)]
  have hstep:fp s bI (iS D i)=kZ (fp s bI D) o.dst r.p r.d:=by
   rw[← g2]
   refine Vt hri (fun b rb hb hib hDb t ht e=>?_) (fun b rb hb hib hDb j hj=>?_)
   ·obtain⟨ob,hob,hd⟩:=hop b rb hb
    exact(rT (hafter b ob rb hob hb hib hDb)).2.2.1 t (g2▸ht) (hd▸e)
   ·obtain⟨ob,hob,_⟩:=hop b rb hb
    exact((rT (hafter b ob rb hob hb hib hDb)).2.2.2.1 j hj).2
  have hnext:∀a' c',c_ S n (less (FD nx ops.size D) (nx+i)) (kZ (fp s bI D) o.dst r.p r.d) a' c'→wpAny P .any ops Q fuel (listed.setIfInBounds i true) a' c'.w:=by
   intro a' c' hm'
   refine ih (iS D i) _ a' c' (by simp[hs]) (fun b hb=>?_) (fun b ob hob hDb q hq=>?_) ?_ (hstep▸hm'.up fun j hj=>?_)
   ·unfold iS
    rw[ace]
    by_cases e:i=b
    ·subst e;simp[hs,h1]
    ·rw[abg e,abg (Ne.symm e)];exact hl b hb
   ·unfold iS at hDb⊢
    by_cases e:b=i
    ·subst e
     rw[hob]at ho;cases ho
     split
     ·rfl
     ·exact hedge q hq
    ·rw[abg e]at hDb
     split
     ·rfl
     ·exact hcl b ob hob hDb q hq
   ·have hmem:i∈(List.range ops.size).filter fun i=>!D i:=acq.2 ⟨acN.2 h1,by simp[h2]⟩
    have e:((List.range ops.size).filter fun b=>!iS D i b)=((List.range ops.size).filter fun b=>!D b).filter fun b=>b != i:=by
     rw[List.filter_filter]
     apply List.filter_congr
     intro b _
     unfold iS
     by_cases hbi:b=i<;>simp[hbi]
    rw[e]
    have hnd:((List.range ops.size).filter fun b=>!D b).Nodup:=List.Pairwise.filter _ List.nodup_range
    rw[← hnd.erase_eq_filter i,List.length_erase_of_mem hmem]
    omega
   ·rcases hj with hj|⟨b,hb,hDb,rfl⟩
    ·exact⟨.inl hj,by omega⟩
    ·unfold iS at hDb
     by_cases e:b=i
     ·rw[abb e]at hDb;cases hDb
     ·rw[abg e]at hDb
      exact⟨.inr ⟨b,hb,hDb,rfl⟩,by omega⟩
  have hF:FD nx ops.size D (nx+i):=.inr ⟨i,h1,h2,rfl⟩
  have ho':ops[i]? = some o:=by rw[← aaU];exact ho
  unfold wpOp
  rw[ho']
  dsimp only
  have go:lK P G T (nx+i) o (fp s bI D) (nX r)→o.wp P a c.w (wpAny P .any ops Q fuel (listed.setIfInBounds i true)) Q:=fun h=>
   II hT hG hF hm (Rc h g3) fun s' a' c' e hm'=>hnext a' c' (e▸hm')
  unfold jm at hgd
  split at hgd
  ·rename_i hg
   rw[abb (by unfold Region.wanted;rw[hg])]
   exact .inl (go hgd)
  ·rename_i j want hg
   split at hgd
   ·rename_i hb
    rw[abb (wF hm hg hb)]
    exact .inl (go hgd)
   ·rename_i hb
    rw[abg (by rw[wF hm hg hb];exact acm)]
    obtain⟨e1,e2,_⟩:=hgd
    have hput:ja n ⟨(fp s bI D).env,dh (fp s bI D).hp r.d⟩ o.dst r.p fun s'=>s'=kZ (fp s bI D) o.dst r.p r.d:=KD rfl g3
    obtain⟨s',e3,hm'⟩:=nW (F':=less (FD nx ops.size D) (nx+i)) (v:=undef) hm (Ext.refl c) (by rw[← e2];exact hm.sat.up fun j h=>h.1) (show Rel r.p c undef from by rw[← e1];exact⟨[],rfl,rfl⟩) o.dst hput
    exact hnext _ c (by rw[← e3];exact hm')
   ·exact hgd.elim
theorem Lg(hT:cL P T)(hG:S.G=G){ops:Array Oper}{n nx:Nat}{s:AS}{a:Act}{c:RC}{k:AS→Prop}{Q:Exit→Act→World→Prop}(hm:c_ S n (ge nx) s a c)
 (h:ov P G T n ops.toList ops.toList nx s [] fun bI s'=>tZ ops.toList bI=true∧k s') (hk:∀s' a' c',k s'→c_ S n (ge (nx+ops.size)) s' a' c'→Q .normal a' c'.w):
 wpAny P .any ops Q ops.size (Array.replicate ops.size false) a c.w:=by
 obtain⟨bI,h1,⟨h2,h3⟩,h4⟩:=KW h
 rw[List.reverse_nil,aci]at h2
 refine Qw hT hG (by simpa using h1) h2 h4 h3 hk ops.size (fun _=>false) _ a c (by simp) (fun i hi=>by simp[hi]) (fun i o _ h=>by cases h) ?_ ?_
 ·exact aaJ (abp _ _) (by simp)
 ·rw[IU s bI fun _=>rfl]
  exact hm.up fun j hj=>by
   rcases hj with hj|⟨b,_,_,rfl⟩
   ·show nx≤j;omega
   ·show nx≤nx+b;omega
end
theorem Lh{P:Program}{c:Code}{Q:Exit→Act→World→Prop}{ι:Type}(I:ι→Act→World→Prop)(μ:ι→Nat)(i₀:ι){a:Act}{w:World}(h₀:I i₀ a w)
 (round:∀i a w,I i a w→c.wp P (Exit.then (fun a' w'=>∃i',μ i'<μ i∧I i' a' w') Q) a w):(Code.loop c).wp P Q a w:=by
 intro b k cs
 have key:∀n i a w,μ i=n→I i a w→∃e a' w',Q e a' w'∧Arrives P (lone (b.at a (.code c::.inLoop c::k)) cs w) b k cs e a' w':=by
  intro n
  induction n using Nat.strongRecOn with
  |_ n ih=>
   intro i a w hn hI
   obtain⟨e,a₁,w₁,hq,harr⟩:=round i a w hI b (.inLoop c::k) cs
   cases e with
   |normal=>
    obtain⟨i',hlt,hI₁⟩:=hq
    obtain⟨e₂,a₂,w₂,hq₂,harr₂⟩:=ih (μ i') (hn▸hlt) i' a₁ w₁ rfl hI₁
    exact⟨e₂,a₂,w₂,hq₂,.of_steps (Steps.trans harr (.one step_inLoop)) harr₂⟩
   |exit id=>exact⟨_,a₁,w₁,hq,.pass (x:=.inLoop c) rfl (fun _ _=>.inl (by simp)) harr⟩
   |goto l=>exact⟨_,a₁,w₁,hq,.pass (x:=.inLoop c) rfl (fun _ _=>.inl (by simp)) harr⟩
   |ret=>exact⟨_,a₁,w₁,hq,.pass (x:=.inLoop c) rfl (fun _ _=>.inl (by simp)) harr⟩
   |panic ch=>exact⟨_,a₁,w₁,hq,.pass (x:=.inLoop c) rfl (fun _ _=>.inl (by simp)) harr⟩
   |outgrown=>exact⟨_,a₁,w₁,hq,.pass (x:=.inLoop c) rfl (fun _ _=>.inl (by simp)) harr⟩
 obtain⟨e,a',w',hq,harr⟩:=key _ i₀ a w rfl h₀
 exact⟨e,a',w',hq,.of_steps (.one step_loop) harr⟩
def wE(P:Program)(c:Code)(Q:Exit→Act→World→Prop)(a:Act)(w:World):Prop:=∀b k cs,∃e a' w',Q e a' w'∧Arrives P (lone (b.at a (.code c::.inLoop c::k)) cs w) b k cs e a' w'
theorem Xw{P:Program}{c:Code}{Q:Exit→Act→World→Prop}{a:Act}{w:World}(h:wE P c Q a w):(Code.loop c).wp P Q a w:=by
 intro b k cs;obtain⟨e,a',w',hq,harr⟩:=h b k cs;exact⟨e,a',w',hq,.of_steps (.one step_loop) harr⟩
theorem R2{P:Program}{c:Code}{Q:Exit→Act→World→Prop}{a:Act}{w:World}(h:c.wp P (Exit.then (fun a' w'=>wE P c Q a' w') Q) a w):wE P c Q a w:=by
 intro b k cs;obtain⟨e,a₁,w₁,hq,harr⟩:=h b (.inLoop c::k) cs;cases e with
 |normal=>
  obtain⟨e₂,a₂,w₂,hq₂,harr₂⟩:=hq b k cs;exact⟨e₂,a₂,w₂,hq₂,.of_steps (Steps.trans harr (.one step_inLoop)) harr₂⟩
 |exit id=>exact⟨_,a₁,w₁,hq,.pass (x:=.inLoop c) rfl (fun _ _=>.inl (by simp)) harr⟩
 |goto l=>exact⟨_,a₁,w₁,hq,.pass (x:=.inLoop c) rfl (fun _ _=>.inl (by simp)) harr⟩
 |ret=>exact⟨_,a₁,w₁,hq,.pass (x:=.inLoop c) rfl (fun _ _=>.inl (by simp)) harr⟩
 |panic ch=>exact⟨_,a₁,w₁,hq,.pass (x:=.inLoop c) rfl (fun _ _=>.inl (by simp)) harr⟩
 |outgrown=>exact⟨_,a₁,w₁,hq,.pass (x:=.inLoop c) rfl (fun _ _=>.inl (by simp)) harr⟩
mutual
def PV.rn(ρ:Nat→Nat):PV→PV
 |.agg cs=>.agg (PV.fD ρ cs)
 |.lp j i o=>.lp (ρ j) i o
 |.le j i o=>.le (ρ j) i o
 |.aH j lo len=>.aH (ρ j) lo len
 |.eD j lo=>.eD (ρ j) lo
 |.fy j=>.fy (ρ j)
 |.fn f cs=>.fn f (PV.fD ρ cs)
 |.dq t v=>.dq t (PV.rn ρ v)
 |.mv f v=>.mv f (PV.rn ρ v)
 |.aK vs=>.aK (PV.fD ρ vs)
 |.at v=>.at v
 |.any=>.any
 |.sl c r=>.sl c r
 |.ip cs o=>.ip cs o
 |.mp k v=>.mp k v
def PV.fD(ρ:Nat→Nat):List PV→List PV
 | []=>[]
 |p::l=>PV.rn ρ p::PV.fD ρ l
end
mutual
def PV.lt(m:Nat):PV→Bool
 |.agg cs=>PV.h_ m cs
 |.lp j _ _=>Nat.ble (j+1) m
 |.le j _ _=>Nat.ble (j+1) m
 |.aH j _ _=>Nat.ble (j+1) m
 |.eD j _=>Nat.ble (j+1) m
 |.fy j=>Nat.ble (j+1) m
 |.fn _ cs=>PV.h_ m cs
 |.dq _ v=>PV.lt m v
 |.mv _ v=>PV.lt m v
 |.aK vs=>PV.h_ m vs
 |_=>true
def PV.h_(m:Nat):List PV→Bool
 | []=>true
 |p::l=>match PV.lt m p with|true=>PV.h_ m l|false=>false
end
def iv(nx:Nat)(ρ:Nat→Nat)(c:RC):RC:=⟨c.w,c.Z,fun j=>if j<nx then c.hb (ρ j)else none⟩
theorem kR{nx:Nat}{ρ:Nat→Nat}{c:RC}{j:Nat}(h:Nat.ble (j+1) nx=true):(iv nx ρ c).hb j=c.hb (ρ j):=abb (aaG h)
mutual
theorem pY(nx:Nat)(ρ:Nat→Nat)(c:RC):∀(p:PV) (v:Value),p.lt nx=true→(Rel (p.rn ρ) c v↔Rel p (iv nx ρ c) v)
 |.at x,v,_=>adE
 |.any,v,_=>adE
 |.agg cs,v,h=>by
  constructor
  ·intro⟨vs,e,r⟩;exact⟨vs,e,(nr nx ρ c cs vs h).1 r⟩
  ·intro⟨vs,e,r⟩;exact⟨vs,e,(nr nx ρ c cs vs h).2 r⟩
 |.sl b rows,v,_=>adE
 |.lp j i o,v,h=>by
  show(∃B k,c.hb (ρ j)=some (B,k)∧_)↔(∃B k,(iv nx ρ c).hb j=some (B,k)∧_)
  rw[kR h]
 |.le j i o,v,h=>by
  show(∃B k,c.hb (ρ j)=some (B,k)∧_)↔(∃B k,(iv nx ρ c).hb j=some (B,k)∧_)
  rw[kR h]
 |.eD j lo,v,h=>by
  show(∃B k cap aB e f,c.hb (ρ j)=some (B,k)∧_)↔(∃B k cap aB e f,(iv nx ρ c).hb j=some (B,k)∧_)
  rw[kR h]
  exact adE
 |.aH j lo len,v,h=>by
  show(_∨∃B k cap aB e f,c.hb (ρ j)=some (B,k)∧_)↔(_∨∃B k cap aB e f,(iv nx ρ c).hb j=some (B,k)∧_)
  rw[kR h]
  exact adE
 |.fy j,v,h=>by
  show(∃B k,c.hb (ρ j)=some (B,k)∧_)↔(∃B k,(iv nx ρ c).hb j=some (B,k)∧_)
  rw[kR h]
 |.ip cs o,v,_=>adE
 |.fn f cs,v,h=>by
  constructor
  ·intro⟨vs,e,r⟩;exact⟨vs,e,(nr nx ρ c cs vs h).1 r⟩
  ·intro⟨vs,e,r⟩;exact⟨vs,e,(nr nx ρ c cs vs h).2 r⟩
 |.dq t p,v,h=>by
  constructor
  ·intro⟨x,e,r⟩;exact⟨x,e,(pY nx ρ c p x h).1 r⟩
  ·intro⟨x,e,r⟩;exact⟨x,e,(pY nx ρ c p x h).2 r⟩
 |.mv f p,v,h=>by
  constructor
  ·intro⟨x,e,r⟩;exact⟨x,e,(pY nx ρ c p x h).1 r⟩
  ·intro⟨x,e,r⟩;exact⟨x,e,(pY nx ρ c p x h).2 r⟩
 |.aK ps,v,h=>by
  constructor
  ·intro⟨vs,e,r⟩;exact⟨vs,e,(nr nx ρ c ps vs h).1 r⟩
  ·intro⟨vs,e,r⟩;exact⟨vs,e,(nr nx ρ c ps vs h).2 r⟩
 |.mp ks ps,v,_=>adE
theorem nr(nx:Nat)(ρ:Nat→Nat)(c:RC):∀(ps:List PV) (vs:List Value),PV.h_ nx ps=true→(aC (PV.fD ρ ps) c vs↔aC ps (iv nx ρ c) vs)
 | [],_,_=>adE
 |p::ps,vs,h=>by
  unfold PV.h_ at h
  cases hp:p.lt nx with
  |false=>rw[hp]at h;cases h
  |true=>
   rw[hp]at h
   constructor
   ·intro⟨v,vs',e,r1,r2⟩;exact⟨v,vs',e,(pY nx ρ c p v hp).1 r1,(nr nx ρ c ps vs' h).1 r2⟩
   ·intro⟨v,vs',e,r1,r2⟩;exact⟨v,vs',e,(pY nx ρ c p v hp).2 r1,(nr nx ρ c ps vs' h).2 r2⟩
end
theorem Zi(ρ:Nat→Nat):∀{ps:List PV},PV.fD ρ ps=[]→ps=[]
 | [],_=>rfl
 |_::_,h=>by cases h
def aA.rn(ρ:Nat→Nat):aA→aA
 |.rows k rs wr f e=>.rows k (PV.fD ρ rs) wr f e
 |.map ks vs wr=>.map ks (PV.fD ρ vs) wr
def aA.lt(m:Nat):aA→Bool
 |.rows _ rs _ _ _=>PV.h_ m rs
 |.map _ vs _=>PV.h_ m vs
theorem aA.Q3(ρ:Nat→Nat)(b:aA):(b.rn ρ).own=b.own:=by cases b<;>rfl
def nodup:List Nat→Bool
 | []=>true
 |x::l=>match cf x l with|true=>false|false=>nodup l
structure Inv(ι:Type) where
 fm:ι→List (Nat×PV)
 dU:List Nat
 cX:ι→List (Nat×aA)
 aQ:List Nat
def Inv.st{ι:Type}(I:Inv ι)(s:AS)(i:ι):AS:=
 ⟨fun t=>match lk (I.fm i) t with|some p=>some p|none=>match cf t I.dU with|true=>s.env t|false=>none,
  fun j=>match lk (I.cX i) j with|some p=>some p|none=>match cf j I.aQ with|true=>s.hp j|false=>none⟩
def aA.cE:aA→Prop
 |.rows _ rs _ _ _=>Proofs.YtbnonpbnhenkfaaGreatDoor.cE rs
 |.map _ vs _=>Proofs.YtbnonpbnhenkfaaGreatDoor.cE vs
def BB(nx:Nat)(ρ:Nat→Nat)(b:aA)(b':Option aA):Prop:=(b'=some (b.rn ρ)∧b.lt nx=true)∨(b'=some b∧b.cE)
theorem BB.rn{nx:Nat}{ρ:Nat→Nat}{b:aA}{b':Option aA}(h:b'=some (b.rn ρ))(h2:b.lt nx=true):BB nx ρ b b':=.inl ⟨h,h2⟩
theorem BB.aO{nx:Nat}{ρ:Nat→Nat}{b:aA}{b':Option aA}(h:b'=some b)(h2:b.cE):BB nx ρ b b':=.inr ⟨h,h2⟩
def nU(ρ:Nat→Nat):Nat→Bool
 |0=>true
 |i+1=>match Nat.beq (ρ i) i with|true=>nU ρ i|false=>false
theorem EJ{ρ:Nat→Nat}:∀{m:Nat},nU ρ m=true→∀i,i<m→ρ i=i
 |m+1,h,i,hi=>by
  unfold nU at h
  split at h
  ·rename_i e
   by_cases him:i=m
   ·subst him;exact aaE e
   ·exact EJ h i (by omega)
  ·cases h
structure dQ{ι:Type}(M nx:Nat)(ρ:Nat→Nat)(I:Inv ι)(s:AS)(i:ι)(s':AS):Prop where
 fm:cC (fun x:Nat×PV=>s'.env x.1=some (x.2.rn ρ)∧x.2.lt nx=true) (I.fm i)
 dU:cC (fun t=>∃p,s.env t=some p∧s'.env t=some (p.rn ρ)∧p.lt nx=true) I.dU
 cX:cC (fun x:Nat×aA=>BB nx ρ x.2 (s'.hp (ρ x.1))∧Nat.ble (x.1+1) nx=true) (I.cX i)
 aQ:cC (fun j=>∃b,s.hp j=some b∧BB nx ρ b (s'.hp (ρ j))∧Nat.ble (j+1) nx=true) I.aQ
 fix:nU ρ M=true
 low:Nat.ble M nx=true
 inj:nodup (((I.cX i).map (·.1)++I.aQ).map ρ)=true
def fR(s:AS)(nx:Nat):List (Nat×Nat×TypeId)→AS
 | []=>s
 |(t,k,e)::l=>let s':=fR s (nx+1) l;⟨ck s'.env t (some (.aH nx 0 0)),ck s'.hp nx (some (.rows k [] true none e))⟩
def qI(body:Nat→AS→(Ex→Nat→AS→Prop)→Prop)(k:Ex→Nat→AS→Prop):Nat→Nat→AS→Prop
 |0,_,_=>False
 |m+1,nx,s=>body nx s fun ex nx' s'=>match ex with
  |.normal=>qI body k m nx' s'
  |.ret=>k .ret nx' s'
  |.exit j=>k (.exit j) nx' s'
structure Sw(M nx:Nat)(s:AS)(body:Nat→AS→(Ex→Nat→AS→Prop)→Prop)(k:Ex→Nat→AS→Prop):Prop where
 h:∃(vt:List (Nat×Nat×TypeId)) (m:Nat) (ι:Type) (I:Inv ι) (μ:ι→Nat) (i₀:ι),m=nx+vt.length∧cC (fun x:Nat×Nat×TypeId=>s.env x.1=some (.sl true [])) vt∧dQ M m id I (fR s nx vt) i₀ (fR s nx vt)∧∀i,body m (I.st (fR s nx vt) i) fun ex m' s'=>match ex with
  |.normal=>∃i' ρ,μ i'<μ i∧dQ M m ρ I (fR s nx vt) i' s'
  |.ret=>k .ret m' s'
  |.exit j=>k (.exit j) m' s'
structure cv(M nx:Nat)(s:AS)(body:Nat→AS→(Ex→Nat→AS→Prop)→Prop)(k:Ex→Nat→AS→Prop):Prop where
 h:Sw M nx s body k∨∃m,qI body k m nx s
theorem cv.inv {M nx:Nat} {s:AS} {body:Nat→AS→(Ex→Nat→AS→Prop)→Prop} {k:Ex→Nat→AS→Prop} {ι:Type} (I:Inv ι) (μ:ι→Nat) (i₀:ι) (h0:dQ M nx id I s i₀ s) (hr:∀i,body nx (I.st s i) fun ex m' s'=>match ex with
 |.normal=>∃i' ρ,μ i'<μ i∧dQ M nx ρ I s i' s'
 |.ret=>k .ret m' s'
 |.exit j=>k (.exit j) m' s'):cv M nx s body k:=⟨.inl ⟨[],nx,ι,I,μ,i₀,rfl,trivial,h0,hr⟩⟩
theorem cv.grow {M nx:Nat} {s:AS} {body:Nat→AS→(Ex→Nat→AS→Prop)→Prop} {k:Ex→Nat→AS→Prop} (vt:List (Nat×Nat×TypeId)) (m:Nat) {ι:Type} (I:Inv ι) (μ:ι→Nat) (i₀:ι) (hm:m=nx+vt.length) (hv:cC (fun x:Nat×Nat×TypeId=>s.env x.1=some (.sl true [])) vt) (h0:dQ M m id I (fR s nx vt) i₀ (fR s nx vt)) (hr:∀i,body m (I.st (fR s nx vt) i) fun ex m' s'=>match ex with
 |.normal=>∃i' ρ,μ i'<μ i∧dQ M m ρ I (fR s nx vt) i' s'
 |.ret=>k .ret m' s'
 |.exit j=>k (.exit j) m' s'):cv M nx s body k:=⟨.inl ⟨vt,m,ι,I,μ,i₀,hm,hv,h0,hr⟩⟩
theorem cv.roll{M nx:Nat}{s:AS}{body:Nat→AS→(Ex→Nat→AS→Prop)→Prop}{k:Ex→Nat→AS→Prop}(m:Nat)(h:qI body k m nx s):cv M nx s body k:=⟨.inr ⟨m,h⟩⟩
theorem Bp{α:Type}{q:Nat×α→Prop}:∀{l:List (Nat×α)} {t:Nat} {v:α},cC q l→lk l t=some v→q (t,v)∧t∈l.map (·.1)
 |(k,u)::l,t,v,hq,h=>by
  unfold lk at h
  split at h
  ·rename_i e
   obtain rfl:=aaE e
   cases h
   exact⟨hq.1,aaA⟩
  ·have:=Bp hq.2 h
   exact⟨this.1,aaz _ this.2⟩
theorem Az{q:Nat→Prop}:∀{l:List Nat} {t:Nat},cC q l→cf t l=true→q t∧t∈l
 |x::l,t,hq,h=>by
  unfold cf at h
  split at h
  ·rename_i e
   obtain rfl:=aaE e
   exact⟨hq.1,aaA⟩
  ·have:=Az hq.2 h
   exact⟨this.1,aaz _ this.2⟩
theorem rC{t:Nat}:∀{l:List Nat},t∈l→cf t l=true
 |x::l,h=>by
  unfold cf
  split
  ·rfl
  ·rename_i e
   rcases aaI.1 h with rfl|h
   ·rw[acI]at e;cases e
   ·exact rC h
theorem Fl{ρ:Nat→Nat}:∀{l:List Nat},nodup (l.map ρ)=true→∀i∈l,∀j∈l,ρ i=ρ j→i=j
 |x::l,h,i,hi,j,hj,e=>by
  rw[aaZ]at h
  unfold nodup at h
  split at h
  ·cases h
  ·rename_i hm
   have hx:∀y∈l,ρ y≠ρ x:=fun y hy e=>by
    have:=rC (abC (f:=ρ) hy)
    rw[e,hm]at this;cases this
   rcases aaI.1 hi with h1|h1
   ·rcases aaI.1 hj with h2|h2
    ·rw[h1,h2]
    ·rw[h1]at e;exact absurd e.symm (hx j h2)
   ·rcases aaI.1 hj with h2|h2
    ·rw[h2]at e;exact absurd e (hx i h1)
    ·exact Fl h i h1 j h2 e
theorem sZ{S:ct}{n M nx m:Nat}{ι:Type}{I:Inv ι}{s s':AS}{i:ι}{ρ:Nat→Nat}{a:Act}{c:RC}(hM:S.M=M)(hm:c_ S n (ge m) s' a c)(hb:dQ M nx ρ I s i s'):c_ S n (ge nx) (I.st s i) a (iv nx ρ c):=by
 have hblk:∀j b,(I.st s i).hp j=some b→BB nx ρ b (s'.hp (ρ j))∧Nat.ble (j+1) nx=true∧j∈(I.cX i).map (·.1)++I.aQ:=by
  intro j b h;unfold Inv.st at h;dsimp only at h;split at h
  ·rename_i p e;cases h;obtain⟨⟨h1,h2⟩,h4⟩:=Bp hb.cX e;exact⟨h1,h2,abR _ h4⟩
  ·split at h
   ·rename_i e;obtain⟨⟨b',h1,h2,h3⟩,h5⟩:=Az hb.aQ e;rw[h1]at h;cases h;exact⟨h2,h3,acr _ h5⟩
   ·cases h
 have hlow:=aaG hb.low;have hext:Ext S.rc (iv nx ρ c):=⟨fun _ _ h=>(by cases h),hm.sat.base.z,hm.sat.base.cell,hm.sat.base.shape,hm.sat.base.mW⟩;have hbb:∀{b:aA} {b':Option aA},BB nx ρ b b'→∃b'',b'=some b''∧b''.own=b.own:=by
  intro b b' h;rcases h with⟨h,_⟩|⟨h,_⟩
  ·exact⟨_,h,b.Q3 ρ⟩
  ·exact⟨_,h,rfl⟩
 refine⟨⟨hm.sat.keeps,hext,hm.sat.gd,hm.sat.dG,fun j (hj:nx≤j)=>abg (by omega),fun j b hj=>?_,fun p q bp bq hp hq hne ho x y hx hy=>?_,fun j hj=>?_,fun j (hj:nx≤j)=>by omega⟩,hm.size,fun t p h=>?_,hm.defers⟩
 ·obtain⟨h1,h3,_⟩:=hblk j b hj;have hrel:∀{ps:List PV} {vs:List Value},((aC (PV.fD ρ ps) c vs∧PV.h_ nx ps=true)∨(aC ps c vs∧cE ps))→aC ps (iv nx ρ c) vs:=by
   intro ps vs h;rcases h with⟨h,h2⟩|⟨h,h2⟩
   ·exact(nr nx ρ c ps vs h2).1 h
   ·exact aC.ext ps (Ext.jz (iv nx ρ c)) (cE.rel (c:=c) h2 h)
  cases b with
  |rows k rs wr f e=>
   rcases h1 with⟨h1,h2⟩|⟨h1,h2⟩
   ·rcases hm.sat.cD _ _ h1 with⟨g0,g1,g2⟩|⟨B,aB,vs,b1,b2,b3,b4,b5,b6,b7,b8,b9⟩
    ·exact .inl ⟨Zi ρ g0,g1,(kR h3).trans g2⟩
    ·exact .inr ⟨B,aB,vs,(kR h3).trans b1,b2,b3,hrel (.inl ⟨b4,h2⟩),b5,b6,b7,b8,b9⟩
   ·rcases hm.sat.cD _ _ h1 with⟨g0,g1,g2⟩|⟨B,aB,vs,b1,b2,b3,b4,b5⟩
    ·exact .inl ⟨g0,g1,(kR h3).trans g2⟩
    ·exact .inr ⟨B,aB,vs,(kR h3).trans b1,b2,b3,hrel (.inr ⟨b4,h2⟩),b5⟩
  |map ks ps wr=>
   rcases h1 with⟨h1,h2⟩|⟨h1,h2⟩
   ·obtain⟨B,es,cl,b1,b2,b3,b4,b5,b6⟩:=hm.sat.cD _ _ h1;exact⟨B,es,cl,(kR h3).trans b1,b2,b3,b4,hrel (.inl ⟨b5,h2⟩),b6⟩
   ·obtain⟨B,es,cl,b1,b2,b3,b4,b5,b6⟩:=hm.sat.cD _ _ h1;exact⟨B,es,cl,(kR h3).trans b1,b2,b3,b4,hrel (.inr ⟨b5,h2⟩),b6⟩
 ·obtain⟨p1,p3,p4⟩:=hblk p bp hp;obtain⟨q1,q3,q4⟩:=hblk q bq hq;obtain⟨bp',p1,po⟩:=hbb p1;obtain⟨bq',q1,_⟩:=hbb q1;rw[kR p3]at hx;rw[kR q3]at hy;exact hm.sat.sep _ _ _ _ p1 q1 (fun e=>hne (Fl hb.inj p p4 q q4 e)) (po.trans ho) x y hx hy
 ·show(if j<nx then c.hb (ρ j)else none)=_
  rw[abb (by omega),EJ hb.fix j (by omega)];exact hm.sat.low j hj
 ·have:s'.env t=some (p.rn ρ)∧p.lt nx=true:=by
   unfold Inv.st at h;dsimp only at h;split at h
   ·rename_i p' e;cases h;exact(Bp hb.fm e).1
   ·split at h
    ·rename_i e;obtain⟨p',h1,h2,h3⟩:=(Az hb.dU e).1;rw[h1]at h;cases h;exact⟨h2,h3⟩
    ·cases h
  obtain⟨v,h1,h2⟩:=hm.env t _ this.1;exact⟨v,h1,(pY nx ρ c p v this.2).1 h2⟩
theorem yW{S:ct}{n:Nat}{s:AS}{a:Act}{c:RC}:∀(vt:List (Nat×Nat×TypeId)) {nx:Nat},c_ S n (ge nx) s a c→cC (fun x:Nat×Nat×TypeId=>s.env x.1=some (.sl true [])) vt→c_ S n (ge (nx+vt.length)) (fR s nx vt) a c
 | [],nx,hm,_=>hm
 |(t,k,e)::l,nx,hm,⟨h1,h2⟩=>by
  have ih:=yW l (nx:=nx+1) (hm.up fun j (hj:nx+1≤j)=>show nx≤j by omega) h2
  have hn:c.hb nx=none:=hm.sat.fresh nx (aas nx)
  refine⟨⟨ih.sat.keeps,ih.sat.base,ih.sat.gd,ih.sat.dG,fun j hj=>ih.sat.fresh j (show nx+1+l.length≤j by simp at hj;omega),fun j b hj=>?_,fun i j bi bj hi hj hne ho x y hx hy=>?_,ih.sat.low,fun j hj=>ih.sat.jw j (show nx+1+l.length≤j by simp at hj;omega)⟩,ih.size,fun u p h=>?_,ih.defers⟩
  ·replace hj:ck (fR s (nx+1) l).hp nx (some (.rows k [] true none e)) j=some b:=hj
   by_cases hjn:j=nx
   ·subst hjn;rw[dm]at hj;cases hj;exact .inl ⟨rfl,rfl,hn⟩
   ·rw[dR _ _ hjn]at hj;exact ih.sat.cD j b hj
  ·replace hi:ck (fR s (nx+1) l).hp nx (some (.rows k [] true none e)) i=some bi:=hi
   replace hj:ck (fR s (nx+1) l).hp nx (some (.rows k [] true none e)) j=some bj:=hj
   by_cases hin:i=nx
   ·subst hin;rw[hn]at hx;cases hx
   ·by_cases hjn:j=nx
    ·subst hjn;rw[hn]at hy;cases hy
    ·rw[dR _ _ hin]at hi;rw[dR _ _ hjn]at hj
     exact ih.sat.sep i j bi bj hi hj hne ho x y hx hy
  ·replace h:ck (fR s (nx+1) l).env t (some (.aH nx 0 0)) u=some p:=h
   by_cases hut:u=t
   ·subst hut
    rw[dm]at h;cases h
    obtain⟨v,g1,vs,r,ad,cap,hv,g2,g3,_⟩:=hm.env u _ h1
    obtain rfl:vs=[]:=r
    have:=g3 rfl
    subst this
    exact⟨v,g1,.inl ⟨rfl,ad,hv⟩⟩
   ·rw[dR _ _ hut]at h;exact ih.env u p h
section
variable (P:Program)(G:World→Prop)(T:TT)(M:Nat)
def vc(n:Nat):Code→Nat→AS→(Ex→Nat→AS→Prop)→Prop
 |.skip,nx,s,k=>k .normal nx s
 |.label _,nx,s,k=>k .normal nx s
 |.region _ ops draw,nx,s,k=>match draw with
  |false=>j7 P G T n ops.toList ops.toList nx s (k .normal)
  |true=>ov P G T n ops.toList ops.toList nx s [] fun bI s'=>tZ ops.toList bI=true∧k .normal (nx+ops.size) s'
 |.seq a b,nx,s,k=>vc n a nx s fun ex m s=>match ex with
  |.normal=>vc n b m s k
  |.ret=>k .ret m s
  |.exit i=>k (.exit i) m s
 |.cond x a b,nx,s,k=>match s.ev x with
  |some (.at (.bool t))=>eO t (vc n a nx s k) (vc n b nx s k)
  |_=>False
 |.block i c,nx,s,k=>vc n c nx s fun ex m s=>match ex with
  |.normal=>k .normal m s
  |.ret=>k .ret m s
  |.exit j=>match Nat.beq j i with|true=>k .normal m s|false=>k (.exit j) m s
 |.loop c,nx,s,k=>cv M nx s (fun nx s k=>vc n c nx s k) k
 |.exit i,nx,s,k=>k (.exit i) nx s
 |.ret,nx,s,k=>k .ret nx s
 |.scope c,nx,s,k=>vc n c nx s k
 |_,_,_,_=>False
end
section
variable {P:Program}{G:World→Prop}{T:TT}{S:ct}
theorem iN{M:Nat}(hT:cL P T)(hX:P.follows .mixedOrders=true)(hG:S.G=G)(hM:S.M=M){n:Nat}:∀(c:Code) {nx:Nat} {s:AS} {a:Act} {cx:RC} {k:Ex→Nat→AS→Prop} {Q:Exit→Act→World→Prop},c_ S n (ge nx) s a cx→vc P G T M n c nx s k→
 (∀ex m s' a' c',k ex m s'→c_ S n (ge m) s' a' c'→Q ex.to a' c'.w)→c.wp P Q a cx.w
 |.skip,nx,s,a,cx,k,Q,hm,h,hk=>wp_skip (hk .normal nx s a cx h hm)
 |.label _,nx,s,a,cx,k,Q,hm,h,hk=>wp_label (hk .normal nx s a cx h hm)
 |.ret,nx,s,a,cx,k,Q,hm,h,hk=>wp_ret (hk .ret nx s a cx h hm)
 |.exit i,nx,s,a,cx,k,Q,hm,h,hk=>wp_exit (hk (.exit i) nx s a cx h hm)
 |.region id ops draw,nx,s,a,cx,k,Q,hm,h,hk=>by
  cases draw with
  |true=>exact wp_region_any hX (Lg hT hG hm.drew h fun s' a' c' h1 h2=>hk .normal _ s' a' c' h1 h2)
  |false=>
   refine wp_region_list ?_
   have:=vx (Q:=Q) hT hG hm h fun m s' a' c' h1 h2=>hk .normal m s' a' c' h1 h2
   simpa using this
 |.seq x y,nx,s,a,cx,k,Q,hm,h,hk=>by
  refine wp_seq (iN hT hX hG hM x hm h fun ex m s' a' c' h1 h2=>?_)
  cases ex with
  |normal=>exact iN hT hX hG hM y h2 h1 hk
  |ret=>exact hk .ret m s' a' c' h1 h2
  |exit i=>exact hk (.exit i) m s' a' c' h1 h2
 |.cond x p q,nx,s,a,cx,k,Q,hm,h,hk=>by
  unfold vc at h
  split at h
  ·rename_i t e
   obtain⟨hx,_⟩:=A4 hm.env x _ e
   refine wp_cond (t:=t) hx ?_
   cases t with
   |true=>exact iN hT hX hG hM p hm (h.h1 rfl) hk
   |false=>exact iN hT hX hG hM q hm (h.h2 rfl) hk
  ·exact h.elim
 |.block i c,nx,s,a,cx,k,Q,hm,h,hk=>by
  refine wp_block (iN hT hX hG hM c hm h fun ex m s' a' c' h1 h2=>?_)
  cases ex with
  |normal=>exact hk .normal m s' a' c' h1 h2
  |ret=>exact hk .ret m s' a' c' h1 h2
  |exit j=>
   dsimp only at h1
   show if j=i then _ else _
   split at h1
   ·rename_i e
    rw[abb (aaE e)];exact hk .normal m s' a' c' h1 h2
   ·rename_i e
    rw[abg (by rintro rfl;rw[acI]at e;cases e)];exact hk (.exit j) m s' a' c' h1 h2
 |.loop c,nx,s,a,cx,k,Q,hm,h,hk=>by
  rcases h.h with⟨vt,m,ι,I,μ,i₀,rfl,hv,h0,hr⟩|⟨m,hu⟩
  ·have hm0:=yW vt hm hv
   refine Lh (fun i a w=>∃c',c'.w=w∧c_ S n (ge (nx+vt.length)) (I.st (fR s nx vt) i) a c') μ i₀ ⟨_,rfl,sZ hM hm0 h0⟩ ?_
   rintro i a w ⟨c',rfl,hm'⟩
   refine iN hT hX hG hM c hm' (hr i) fun ex m s' a' c2 h1 h2=>?_
   cases ex with
   |normal=>
    obtain⟨i',ρ,hlt,hb⟩:=h1
    exact⟨i',hlt,iv _ ρ c2,rfl,sZ hM h2 hb⟩
   |ret=>exact hk .ret m s' a' c2 h1 h2
   |exit j=>exact hk (.exit j) m s' a' c2 h1 h2
  ·have roll:∀(m:Nat) {nx:Nat} {s:AS} {a:Act} {cx:RC},c_ S n (ge nx) s a cx→qI (fun nx s k=>vc P G T M n c nx s k) k m nx s→wE P c Q a cx.w:=by
    intro m
    induction m with
    |zero=>intro nx s a cx _ hu;exact hu.elim
    |succ m ih=>
     intro nx s a cx hm hu
     refine R2 (iN hT hX hG hM c hm hu fun ex m' s' a' c2 h1 h2=>?_)
     cases ex with
     |normal=>exact ih h2 h1
     |ret=>exact hk .ret m' s' a' c2 h1 h2
     |exit j=>exact hk (.exit j) m' s' a' c2 h1 h2
   exact Xw (roll m hm hu)
 |.rangeFunc _ _ _ _,_,_,_,_,_,_,_,h,_=>h.elim
 |.scope x,nx,s,a,cx,k,Q,hm,h,hk=>wp_scope_straight (iN hT hX hG hM x hm h fun ex m s' a' c' h1 h2=>by cases ex<;>exact hk _ m s' a' c' h1 h2)
 |.goto _,_,_,_,_,_,_,_,h,_=>h.elim
 |.refuse _,_,_,_,_,_,_,_,h,_=>h.elim
end
structure SV(P:Program)(G:World→Prop)(M n:Nat)(c:Code)(nx:Nat)(s:AS)(k:Ex→Nat→AS→Prop):Prop where
 h:∀{S:ct} {a:Act} {cx:RC},S.G=G→S.M=M→c_ S n (ge nx) s a cx→c.wp P (fun e a' w'=>∃ex m s' c',e=Ex.to ex∧c'.w=w'∧k ex m s'∧c_ S n (ge m) s' a' c') a cx.w
section
variable {P:Program}{G:World→Prop}{T:TT}{M n:Nat}
theorem SV.of(hT:cL P T)(hX:P.follows .mixedOrders=true){c:Code}{nx:Nat}{s:AS}{k:Ex→Nat→AS→Prop}(h:vc P G T M n c nx s k):SV P G M n c nx s k:=
 ⟨fun hG hM hm=>iN hT hX hG hM c hm h fun ex m s' a' c' h1 h2=>⟨ex,m,s',c',rfl,rfl,h1,h2⟩⟩
theorem SV.mono{c:Code}{nx:Nat}{s:AS}{k k':Ex→Nat→AS→Prop}(h:SV P G M n c nx s k)(hk:∀ex m s,k ex m s→k' ex m s):SV P G M n c nx s k':=
 ⟨fun hG hM hm=>wp_mono (h.h hG hM hm) fun _ _ _ ⟨ex,m,s',c',h1,h2,h3,h4⟩=>⟨ex,m,s',c',h1,h2,hk _ _ _ h3,h4⟩⟩
theorem SV.seq (hT:cL P T) (hX:P.follows .mixedOrders=true) {x y:Code} {nx:Nat} {s:AS} {k:Ex→Nat→AS→Prop} (h:vc P G T M n x nx s fun ex m s'=>match ex with
 |.normal=>SV P G M n y m s' k
 |.ret=>k .ret m s'
 |.exit j=>k (.exit j) m s'):SV P G M n (.seq x y) nx s k:=⟨fun hG hM hm=>by
 refine wp_seq (wp_mono ((SV.of hT hX h).h hG hM hm) ?_)
 rintro e a' w' ⟨ex,m,s',c',rfl,rfl,h3,h4⟩
 cases ex with
 |normal=>exact h3.h hG hM h4
 |ret=>exact⟨.ret,m,s',c',rfl,rfl,h3,h4⟩
 |exit j=>exact⟨.exit j,m,s',c',rfl,rfl,h3,h4⟩⟩
theorem SV.cut {ι:Type} (J:Inv ι) (D:ι→Prop) {x y:Code} {nx:Nat} {s:AS} {k:Ex→Nat→AS→Prop} (h1:SV P G M n x nx s fun ex m s'=>match ex with
 |.normal=>∃i ρ,D i∧dQ M nx ρ J s i s'
 |.ret=>k .ret m s'
 |.exit j=>k (.exit j) m s') (h2:∀i,D i→SV P G M n y nx (J.st s i) k):SV P G M n (.seq x y) nx s k:=⟨fun hG hM hm=>by
 refine wp_seq (wp_mono (h1.h hG hM hm) ?_)
 rintro e a' w' ⟨ex,m,s',c',rfl,rfl,h3,h4⟩
 cases ex with
 |normal=>
  obtain⟨i,ρ,hD,hb⟩:=h3
  exact(h2 i hD).h hG hM (cx:=iv nx ρ c') (sZ hM h4 hb)
 |ret=>exact⟨.ret,m,s',c',rfl,rfl,h3,h4⟩
 |exit j=>exact⟨.exit j,m,s',c',rfl,rfl,h3,h4⟩⟩
theorem SV.loop {ι:Type} (I:Inv ι) (μ:ι→Nat) (i₀:ι) {c:Code} {nx:Nat} {s:AS} {k:Ex→Nat→AS→Prop} (h0:dQ M nx id I s i₀ s) (hr:∀i,SV P G M n c nx (I.st s i) fun ex m s'=>match ex with
 |.normal=>∃i' ρ,μ i'<μ i∧dQ M nx ρ I s i' s'
 |.ret=>k .ret m s'
 |.exit j=>k (.exit j) m s'):SV P G M n (.loop c) nx s k:=⟨fun{S a cx} hG hM hm=>by
 refine Lh (fun i a w=>∃c',c'.w=w∧c_ S n (ge nx) (I.st s i) a c') μ i₀ ⟨_,rfl,sZ hM hm h0⟩ ?_
 rintro i a w ⟨c',rfl,hm'⟩
 refine wp_mono ((hr i).h hG hM hm') ?_
 rintro e a' w' ⟨ex,m,s',c2,rfl,rfl,h3,h4⟩
 cases ex with
 |normal=>
  obtain⟨i',ρ,hlt,hb⟩:=h3
  exact⟨i',hlt,iv _ ρ c2,rfl,sZ hM h4 hb⟩
 |ret=>exact⟨.ret,m,s',c2,rfl,rfl,h3,h4⟩
 |exit j=>exact⟨.exit j,m,s',c2,rfl,rfl,h3,h4⟩⟩
theorem SV.block {i:Nat} {c:Code} {nx:Nat} {s:AS} {k:Ex→Nat→AS→Prop} (h:SV P G M n c nx s fun ex m s=>match ex with
 |.normal=>k .normal m s
 |.ret=>k .ret m s
 |.exit j=>match Nat.beq j i with|true=>k .normal m s|false=>k (.exit j) m s):SV P G M n (.block i c) nx s k:=⟨fun hG hM hm=>by
 refine wp_block (wp_mono (h.h hG hM hm) ?_)
 rintro e a' w' ⟨ex,m,s',c',rfl,rfl,h3,h4⟩
 cases ex with
 |normal=>exact⟨.normal,m,s',c',rfl,rfl,h3,h4⟩
 |ret=>exact⟨.ret,m,s',c',rfl,rfl,h3,h4⟩
 |exit j=>
  dsimp only at h3
  show if j=i then _ else _
  split at h3
  ·rename_i e
   rw[abb (aaE e)];exact⟨.normal,m,s',c',rfl,rfl,h3,h4⟩
  ·rename_i e
   rw[abg (by rintro rfl;rw[acI]at e;cases e)];exact⟨.exit j,m,s',c',rfl,rfl,h3,h4⟩⟩
end
def gX(T:TT)(s:AS):List ResultVar→(List PV→Prop)→Prop
 | [],k=>k []
 |.tmp t::l,k=>match s.env t with|some v=>gX T s l fun vs=>k (v::vs)|none=>False
 |.cell a t::l,k=>match s.env a with|some p=>(rS T t [p]).wp s.hp fun v _=>gX T s l fun vs=>k (v::vs)|none=>False
def iF:List PV→Nat→(Nat→Option PV)
 | [],_=>fun _=>none
 |v::vs,i=>ck (iF vs (i+1)) i (some v)
def fI:List PV→PV
 | [v]=>v
 |vs=>.aK vs
def tD(T:TT)(fn:Func)(post:PV→Prop):Ex→Nat→AS→Prop
 |.exit _,_,_=>False
 |_,_,s=>gX T s fn.results.toList fun vs=>∃n rs l,(cY [] n s.hp vs=some (rs,l)∨(rs=vs∧PV.lQ vs=true))∧post (fI rs)
def sg(P:Program)(G:World→Prop)(T:TT)(fn:Func)(args:List PV)(post:PV→Prop):Prop:=
 match fn.body with
 |some c=>match Nat.ble args.length fn.ntmps with
  |true=>vc P G T 0 fn.ntmps c 0 ⟨iF args 0,fun _=>none⟩ (tD T fn post)
  |false=>False
 |none=>False
def ng:List aA→Nat→Nat→Option aA
 | [],_=>fun _=>none
 |b::bs,i=>ck (ng bs (i+1)) i (some b)
structure dz(js:List Nat)(nx:Nat)(hp:Nat→Option aA)(x:Nat×Nat):Prop where
 h:∃b,hp x.1=some b∧b.cE∧(x.2=nx∨PV.nth js x.1=some x.2)
def PV.wk:PV→PV
 |.eD j lo=>.aH j lo 0
 |p=>p
theorem Zw{p:PV}{c:RC}{v:Value}(r:Rel p c v):Rel p.wk c v:=by
 cases p with
 |eD j lo=>
  obtain⟨B,k,cap,aB,e,f,h1,h2,h3,h4,h5⟩:=r;exact .inr ⟨B,k,cap,aB,e,f,h1,h2,aaF _,h3,h4,h5⟩
 |_=>exact r
theorem Hi:∀{ps:List PV} {c:RC} {vs:List Value},aC ps c vs→aC (ps.map PV.wk) c vs
 | [],_,_,r=>r
 |p::ps,_,_,r=>by
  obtain⟨v,vs',e,r1,r2⟩:=r
  exact⟨v,vs',e,Zw r1,Hi r2⟩
def wA:Option aA→Option aA
 |some (.rows k rs wr _ e)=>some (.rows k rs wr none e)
 |b=>b
def ny(hp:Nat→Option aA)(i:Nat):Option aA:=wA (hp i)
theorem Ay{hp:Nat→Option aA}{i:Nat}{b:aA}(h:ny hp i=some b):∃b',hp i=some b'∧b'.own=b.own∧(∀S c,fh S c i b'→fh S c i b):=by
 unfold ny at h;cases e:hp i with
 |none=>rw[e]at h;cases h
 |some b'=>
  rw[e]at h;cases b' with
  |rows k rs wr cp t=>
   cases h;refine⟨_,rfl,rfl,fun S c h=>?_⟩;rcases h with⟨h1,h2,h3⟩|⟨B,aB,vs,b1,b2,b3,b4,b5,b6,b7,b8,b9⟩
   ·exact .inl ⟨h1,rfl,h3⟩
   ·exact .inr ⟨B,aB,vs,b1,b2,b3,b4,b5,b6,b7,b8,fun n h=>by cases h⟩
  |map ks vs wr=>cases h;exact⟨_,rfl,rfl,fun _ _ h=>h⟩
theorem Sat.wk{S:ct}{F:Nat→Prop}{hp:Nat→Option aA}{c:RC}(h:Sat S F hp c):Sat S F (ny hp) c:=by
 refine⟨h.keeps,h.base,h.gd,h.dG,h.fresh,fun j b hj=>?_,fun i j bi bj hi hj hne ho x y hx hy=>?_,h.low,h.jw⟩
 ·obtain⟨b',h1,_,h2⟩:=Ay hj;exact h2 S c (h.cD j b' h1)
 ·obtain⟨bi',h1,h2,_⟩:=Ay hi;obtain⟨bj',h3,_,_⟩:=Ay hj;exact h.sep i j bi' bj' h1 h3 hne (h2.trans ho) x y hx hy
theorem dz.wk{js:List Nat}{nx:Nat}{hp:Nat→Option aA}{x:Nat×Nat}(h:dz js nx hp x):dz js nx (ny hp) x:=by
 obtain⟨b,h1,h2,h3⟩:=h.h;cases b with
 |rows k rs wr cp t=>exact⟨.rows k rs wr none t,by unfold ny;rw[h1];rfl,h2,h3⟩
 |map ks vs wr=>exact⟨_,by unfold ny;rw[h1];rfl,h2,h3⟩
def kJ(out:List (Nat×Nat))(i:Nat):Nat:=(lk out i).getD 0
structure dW(js:List Nat)(nx:Nat)(hp:Nat→Option aA)(vs:List PV)(post:PV→bW→Prop):Prop where
 h:∃(out:List (Nat×Nat)) (n:Nat) (rs:List PV) (l:List Nat),cY (out.map (·.1)) n hp vs=some (rs,l)∧nodup (out.map (·.1))=true∧nodup (out.map (·.2))=true∧
  cC (dz js nx (dE hp l)) out∧
  post (PV.rn (kJ out) (fI (rs.map PV.wk))) (out.map (fun x=>(x.2,ny (dE hp l) x.1))++js.map fun j=>(j,none))
structure nP(T:TT)(fn:Func)(js:List Nat)(nx:Nat)(post:PV→bW→Prop)(m:Nat)(s:AS):Prop where
 h:∃vt:List (Nat×Nat×TypeId),cC (fun x:Nat×Nat×TypeId=>s.env x.1=some (.sl true [])) vt∧gX T (fR s m vt) fn.results.toList fun vs=>dW js nx (fR s m vt).hp vs post
def r9(T:TT)(fn:Func)(js:List Nat)(nx:Nat)(post:PV→bW→Prop):Ex→Nat→AS→Prop
 |.exit _,_,_=>False
 |_,m,s=>nP T fn js nx post m s
def ni(P:Program)(G:World→Prop)(T:TT)(fn:Func)(args:List PV)(bs:List aA)(js:List Nat)(nx:Nat)(post:PV→bW→Prop):Prop:=
 match fn.body with
 |some c=>match Nat.ble args.length fn.ntmps with
  |true=>vc P G T js.length fn.ntmps c js.length ⟨iF args 0,ng bs 0⟩ (r9 T fn js nx post)
  |false=>False
 |none=>False
section
variable {P:Program}{G:World→Prop}{T:TT}{S:ct}
theorem Sq(hT:cL P T){F:Nat→Prop}{hp:Nat→Option aA}{c:RC}{K:PV→bW→Prop}(hs:Sat S F hp c)(t:TypeId){p:PV}{x:Value}(hv:Rel p c x)(h:(rS T t [p]).wp hp K):
 ∃p d v,K p d∧Rel p c v∧(Instr.loadAt t x).run P c.w=.ok v c.w:=by
 have key:∀{ti:TI} {j i off:Nat} {k:Nat} {rs:List PV} {wr:Bool} {f:Option Nat} {e:TypeId} {row v:PV},T t=some ti→(∃B k,c.hb j=some (B,k)∧x=.pointer (some ⟨B,i*k+off,none⟩))→hp j=some (.rows k rs wr f e)→PV.nth rs i=some row→
  Nat.ble (off+ti.size) row.cells.length=true→PV.gC ti.ag (PV.sub row.cells off ti.size)=some v→K v []→∃p d v,K p d∧Rel p c v∧(Instr.loadAt t x).run P c.w=.ok v c.w:=by
  intro ti j i off k rs wr f e row v eT hx hj hrow hle ho2 hK
  obtain⟨B,k',hB,hx⟩:=hx
  obtain⟨rfl,u,hru,huk,hc⟩:=zM hs hj hrow hB
  obtain⟨w,hw,hr⟩:=r8 (P:=P) (hT t ti eT) hru.cells hle ho2 B (i*k') hc
  exact⟨_,_,w,hK,hr,by simp[hx,Instr.loadAt,Instr.sureAddr,hw]⟩
 unfold rS at h
 simp only[DK,E5]at h
 split at h
 ·rename_i ti j i off eT e
  cases e
  simp only[Tr.wp]at h
  split at h
  ·rename_i k rs wr f e hj
   split at h
   ·rename_i row hrow
    split at h
    ·rename_i v hle ho2
     exact key eT hv hj hrow hle ho2 h
    ·exact False.elim h
   ·exact False.elim h
  ·exact False.elim h
 ·rename_i ti j i off eT e
  cases e
  simp only[Tr.wp]at h
  split at h
  ·rename_i k rs wr f e hj
   obtain⟨row,hrow,_,h⟩:=h
   dsimp only at h
   split at h
   ·rename_i v hle ho2
    exact key eT hv hj (by simpa using hrow) hle ho2 h
   ·exact False.elim h
  ·exact False.elim h
 ·rename_i ti cs off eT e
  cases e
  split at h
  ·rename_i v hle ho2
   obtain⟨b,base,us,hx,hr,hc⟩:=hv
   obtain⟨w,hw,hr⟩:=r8 (P:=P) (hT t ti eT) (aC.ext cs (Ext.jz c) hr) hle ho2 b base (fun m y hm=>(hc m y hm).2)
   exact⟨_,_,w,h,hr,by simp[hx,Instr.loadAt,Instr.sureAddr,hw]⟩
  ·exact False.elim h
 ·exact False.elim h
theorem zK:∀{ps:List PV} {i t:Nat} {p:PV},iF ps i t=some p→i≤t∧ps[t-i]? = some p
 |q::ps,i,t,p,h=>by
  unfold iF at h
  by_cases ht:t=i
  ·subst ht
   rw[dm]at h;cases h
   exact⟨aas _,by simp⟩
  ·rw[dR _ _ ht]at h
   have:=zK h
   refine⟨by omega,?_⟩
   rw[show t-i=t-(i+1)+1 by omega]
   simpa using this.2
theorem aC.get{c:RC}:∀{ps:List PV} {vs:List Value},aC ps c vs→∀{i:Nat} {p:PV},ps[i]? = some p→∃v,vs[i]? = some v∧Rel p c v
 |p::ps,vs,r,i,q,h=>by
  obtain⟨v,vs',rfl,r1,r2⟩:=r
  cases i with
  |zero=>simp at h;subst h;exact⟨v,rfl,r1⟩
  |succ i=>simpa using aC.get r2 (by simpa using h)
def rv(tmps:Array Value):ResultVar→Sem Value
 |.tmp t=>pure (tmps.getD t undef)
 |.cell x t=>do loadVar t (← asAddr (tmps.getD x undef))
theorem wM(hT:cL P T){n:Nat}{F:Nat→Prop}{s:AS}{a:Act}{c:RC}(hm:c_ S n F s a c):∀(l:List ResultVar) {k:List PV→Prop},gX T s l k→
 ∃ps vs,k ps∧aC ps c vs∧(l.mapM (m:=Sem) (rv a.tmps)).run P c.w=.ok vs c.w
 | [],k,h=>⟨[],[],h,rfl,rfl⟩
 |.tmp t::l,k,h=>by
  unfold gX at h
  split at h
  ·rename_i p e
   obtain⟨ps,vs,h1,h2,h3⟩:=wM hT hm l h
   obtain⟨v,hv,hr⟩:=hm.env t p e
   have h4:(rv a.tmps (.tmp t)).run P c.w=.ok v c.w:=by
    show Result.ok (a.tmps.getD t undef) c.w=_
    rw[abA,hv];rfl
   refine⟨_,v::vs,h1,⟨v,vs,rfl,hr,h2⟩,?_⟩
   rw[List.mapM_cons]
   simp only[Sem.run_bind,h4,h3,Result.andThen_ok,Sem.run_pure]
  ·exact h.elim
 |.cell x t::l,k,h=>by
  unfold gX at h
  split at h
  case h_2=>exact h.elim
  rename_i q e
  obtain⟨xv,hxv,hrq⟩:=hm.env x q e
  have hev:a.eval (.tmp x)=xv:=by simp[Act.eval,abA,hxv]
  obtain⟨p,d,v,h1,h2,h3⟩:=Sq (P:=P) hT hm.sat t (by rw[← hev]at hrq;exact hrq) h
  obtain⟨ps,vs,h4,h5,h6⟩:=wM hT hm l h1
  refine⟨_,v::vs,h4,⟨v,vs,rfl,h2,h5⟩,?_⟩
  have h7:(rv a.tmps (.cell x t)).run P c.w=.ok v c.w:=by
   have h8:a.eval (.tmp x)=a.tmps.getD x undef:=rfl
   show(do loadVar t (← asAddr (a.tmps.getD x undef)):Sem Value).run P c.w=_
   rw[← h8]
   revert h3
   cases a.eval (.tmp x)with
   |pointer q=>cases q with
    |none=>intro h;cases h
    |some q=>intro h;exact h
   |_=>intro h;cases h
  rw[List.mapM_cons]
  simp only[Sem.run_bind,h7,h6,Result.andThen_ok,Sem.run_pure]
theorem DE{fn:Func}{n:Nat}{body:Code}{E:Ex→Nat→AS→Prop}{R:List PV→Nat→(Nat→Option aA)→Prop}(hx:∀j m s,¬E (.exit j) m s)(hE:∀ex m s,E ex m s→∃vt:List (Nat×Nat×TypeId),cC (fun x:Nat×Nat×TypeId=>s.env x.1=some (.sl true [])) vt∧gX T (fR s m vt) fn.results.toList fun vs=>R vs (m+vt.length) (fR s m vt).hp)(hT:cL P T)
 (hD:S.D=[]) {a:Act} {w:World} (h:body.wp P (fun e a' w'=>∃ex m s' c',e=Ex.to ex∧c'.w=w'∧E ex m s'∧c_ S n (ge m) s' a' c') a w):
 body.wp P (bodyPost P fn fun e w'=>∃m hp' c' ps us,e=.returned (if us.length=1 then us[0]! else .tuple us.toArray)∧c'.w=w'∧Sat S (ge m) hp' c'∧R ps m hp'∧aC ps c' us) a w:=by
 refine wp_mono h ?_
 rintro e a' w' ⟨ex,m,s',c',rfl,rfl,h1,h2⟩
 have fin:bodyPost P fn (fun e w'=>∃m hp' c' ps us,e=.returned (if us.length=1 then us[0]! else .tuple us.toArray)∧c'.w=w'∧Sat S (ge m) hp' c'∧R ps m hp'∧aC ps c' us) .ret a' c'.w:=by
  obtain⟨vt,hvt,hE1⟩:=hE ex m s' h1
  have h2:=yW vt h2 hvt
  obtain⟨ps,us,h3,h4,h5⟩:=wM (P:=P) hT h2 _ hE1
  have hres:(results fn a'.tmps).run P c'.w=.ok (if h:us.toArray.size=1 then us.toArray[0]else .tuple us.toArray) c'.w:=by
   have e1:results fn a'.tmps=(do let vs ← fn.results.mapM (rv a'.tmps);pure (if h:vs.size=1 then vs[0]else .tuple vs)):=by
    unfold results
    congr 1
   have e2:fn.results.mapM (rv a'.tmps)=(do let l ← fn.results.toList.mapM (rv a'.tmps);pure l.toArray):=by
    rw[show fn.results.mapM (rv a'.tmps)=fn.results.toList.toArray.mapM (rv a'.tmps)by rw[Array.toArray_toList],List.mapM_toArray,map_eq_pure_bind]
   rw[e1,e2]
   simp only[Sem.run_bind,h5,Result.andThen_ok,Sem.run_pure]
  refine⟨h2.defers.trans hD,_,hres,_,_,c',ps,us,?_,rfl,h2.sat,h3,h4⟩
  congr 1
  by_cases h1:us.length=1
  ·obtain⟨u,rfl⟩:=acP.1 h1
   simp
  ·rw[abg h1,dif_neg (by simpa using h1)]
 cases ex with
 |normal=>exact fin
 |ret=>exact fin
 |exit j=>exact(hx j m s' h1).elim
theorem zf{args:List PV}{n nx:Nat}{hp:Nat→Option aA}(hD:S.D=[]){c:RC}{vs:List Value}(hs:Sat S (ge nx) hp c)(hr:aC args c vs)(hle:args.length≤n):c_ S n (ge nx) ⟨iF args 0,hp⟩ {tmps:=vs.toArray++Array.replicate (n-vs.toArray.size) undef,defers:=[]} c:=by
 have hl:=hr.length;refine⟨hs,by simp;omega,fun t p e=>?_,hD.symm⟩;obtain⟨_,h2⟩:=zK e;obtain⟨v,hv,hrv⟩:=hr.get h2;refine⟨v,?_,hrv⟩;rw[ado]at hv;have hlt:t<vs.length:=(aaq.1 hv).1;rw[Array.getElem?_append_left (by simpa using hlt)];simpa using hv
theorem x_{c:RC}{rs:List PV}{us:List Value}(h:aC rs c us):Rel (fI rs) c (if us.length=1 then us[0]! else .tuple us.toArray):=by
 cases rs with
 |nil=>obtain rfl:us=[]:=h;exact⟨[],rfl,rfl⟩
 |cons r rs=>
  obtain⟨u,us',rfl,r1,r2⟩:=h;cases rs with
  |nil=>obtain rfl:us'=[]:=r2;exact r1
  |cons r' rs'=>
   obtain⟨u',us'',rfl,r3,r4⟩:=r2;exact⟨u::u'::us'',rfl,u,u'::us'',rfl,r1,u',us'',rfl,r3,r4⟩
theorem Iu{f:FuncId}{fn:Func}{args:List PV}{body:Code}{post:PV→Prop}(hT:cL P T)(hGs:∀{w w':World},G w→Below w.heap.size w w'→G w')(hf:P.funcs[f]? = some fn)(hen:∀args w,(callFunc f args).run P w=.ok (.enter f args) w)(hc:fn.body=some body)(hle':args.length≤fn.ntmps)
 (h:∀{S:ct} {a:Act} {c:RC},S.G=G→S.M=0→S.D=[]→(∀b,¬S.L b)→c_ S fn.ntmps (ge 0) ⟨iF args 0,fun _=>none⟩ a c→body.wp P (fun e a' w'=>∃ex m s' c',e=Ex.to ex∧c'.w=w'∧tD T fn post ex m s'∧c_ S fn.ntmps (ge m) s' a' c') a c.w):gB P G f args post:=by
 refine⟨hen,fun w Z vs hg hz hr=>?_⟩
 have hs:Sat ⟨w,Z,0,fun _=>none,fun _=>False,G,fun hb=>hGs hg hb.below,[]⟩ (ge 0) (fun _=>none) ⟨w,Z,fun _=>none⟩:=
  ⟨e_.refl _ _,Ext.refl _,fun _ _ _ _ h=>h,hz,fun _ _=>rfl,(fun _ _ h=>by cases h),(fun _ _ _ _ h=>by cases h),fun _ h=>(by cases h),fun _ _=>aaF _⟩
 refine(calls_of_wp hf hc (DE (S:=⟨w,Z,0,fun _=>none,fun _=>False,G,fun hb=>hGs hg hb.below,[]⟩) (R:=fun vs _ hp=>∃n rs l,(cY [] n hp vs=some (rs,l)∨(rs=vs∧PV.lQ vs=true))∧post (fI rs)) (fun j m s h=>h) (fun ex m s h=>⟨[],trivial,by cases ex<;>first|exact h|exact h.elim⟩) hT rfl (h rfl rfl rfl (fun _ h=>h) (zf rfl hs hr hle')))).mono ?_
 rintro e w' ⟨m,hp',c',ps,us,rfl,rfl,hsat,⟨n,rs,l,e,h3⟩,h4⟩
 have h6:aC rs (fK hp' c' l).pure us:=by
  rcases e with e|⟨rfl,e⟩
  ·have h6:=jA hsat l n e (fun _ h=>h) h4
   rw[RC.rq]at h6
   exact h6
  ·exact aC.ext _ (m_ hp' c' l).pure (rE _ e h4)
 have hsat2:=hsat.dE l
 have hx:Ext (fK hp' c' l).pure ⟨c'.w,ln w c'.w Z,fun _=>none⟩:=by
  refine⟨fun _ _ h=>h,fun b o z=>?_,fun _ _ _=>rfl,fun _ aB _ f h=>⟨aB,f,h,rfl⟩,fun _ _ _ _ h=>h⟩
  by_cases hb:b<w.heap.size
  ·exact .inl (hsat2.gd b o hb id z)
  ·exact .inr ⟨by omega,hsat2.dG b o z⟩
 exact⟨fI rs,_,rfl,h3,Rel.ext _ hx (x_ h6),hsat.keeps.below⟩
theorem RT{f:FuncId}{fn:Func}{args:List PV}{post:PV→Prop}(hT:cL P T)(hX:P.follows .mixedOrders=true)(hGs:∀{w w':World},G w→Below w.heap.size w w'→G w')(hf:P.funcs[f]? = some fn)(hen:∀args w,(callFunc f args).run P w=.ok (.enter f args) w)
 (h:sg P G T fn args post):gB P G f args post:=by
 unfold sg at h
 split at h
 ·rename_i c hc
  split at h
  ·rename_i hle
   exact Iu hT hGs hf hen hc (aaG hle) fun hG hM hD _ hm=>iN hT hX hG hM c hm h fun ex m s' a' c' h1 h2=>⟨ex,m,s',c',rfl,rfl,h1,h2⟩
  ·exact h.elim
 ·exact h.elim
end
theorem vF:∀{bs:List aA} {i t:Nat} {b:aA},ng bs i t=some b→i≤t∧PV.nth bs (t-i)=some b
 |q::bs,i,t,b,h=>by
  unfold ng at h
  by_cases ht:t=i
  ·subst ht
   rw[dm]at h;cases h
   exact⟨aas _,by rw[acn];rfl⟩
  ·rw[dR _ _ ht]at h
   have:=vF h
   refine⟨by omega,?_⟩
   rw[show t-i=t-(i+1)+1 by omega]
   exact this.2
theorem Ds{α β:Type}:∀{l:List α} {m:List β} {i:Nat} {b:β},l.length=m.length→PV.nth m i=some b→∃a,PV.nth l i=some a∧(a,b)∈l.zip m
 |a::l,c::m,0,b,_,h=>by cases h;exact⟨a,rfl,aaA⟩
 |a::l,c::m,i+1,b,hl,h=>by
  obtain⟨x,h1,h2⟩:=Ds (l:=l) (m:=m) (by simpa using hl) h
  exact⟨x,h1,aaz _ h2⟩
 | [],[],i,b,_,h=>by cases i<;>cases h
theorem Fe:∀{l:List Nat},nodup l=true→∀{i j x:Nat},PV.nth l i=some x→PV.nth l j=some x→i=j
 |y::l,h,i,j,x,hi,hj=>by
  unfold nodup at h
  split at h
  ·cases h
  ·rename_i hm
   have hnot:∀{k:Nat},PV.nth l k≠some y:=fun{k} hk=>by
    have:y∈l:=aau (p9 hk)
    rw[rC this]at hm;cases hm
   cases i with
   |zero=>
    cases hi
    cases j with
    |zero=>rfl
    |succ j=>exact absurd hj hnot
   |succ i=>
    cases j with
    |zero=>cases hj;exact absurd hi hnot
    |succ j=>exact congrArg Nat.succ (Fe h hi hj)
theorem xM{α:Type}:∀{l:List (Nat×α)} {x:Nat×α},x∈l→nodup (l.map (·.1))=true→lk l x.1=some x.2
 |y::l,x,h,hn=>by
  rw[aaZ]at hn
  unfold nodup at hn
  split at hn
  ·cases hn
  ·rename_i hm
   unfold lk
   rcases aaI.1 h with rfl|h
   ·rw[acI]
   ·split
    ·rename_i e
     have:=aaE e
     exfalso
     rw[← this,rC (abC h)]at hm
     cases hm
    ·exact xM h hn
theorem P'{l:List (Nat×Nat)}(h:nodup (l.map (·.2))=true){x y:Nat×Nat}(hx:x∈l)(hy:y∈l)(e:x.2=y.2):x.1=y.1:=by
 induction l with
 |nil=>cases hx
 |cons z l ih=>
  rw[aaZ]at h;unfold nodup at h;split at h
  ·cases h
  ·rename_i hm;have hnot:∀{w:Nat×Nat},w∈l→w.2≠z.2:=fun hw e=>by
    rw[← e,rC (abC hw)]at hm;cases hm
   rcases aaI.1 hx with hx1|hx1
   ·rcases aaI.1 hy with hy1|hy1
    ·rw[hx1,hy1]
    ·rw[hx1]at e;exact absurd e.symm (hnot hy1)
   ·rcases aaI.1 hy with hy1|hy1
    ·rw[hy1]at e;exact absurd e (hnot hx1)
    ·exact ih h hx1 hy1
theorem LK{i:Nat}:∀{l:List (Nat×Nat)},cf i (l.map (·.1))=true→∃x∈l,x.1=i
 |y::l,h=>by
  rw[aaZ]at h
  unfold cf at h
  split at h
  ·rename_i e;exact⟨y,aaA,(aaE e).symm⟩
  ·obtain⟨x,h1,h2⟩:=LK h
   exact⟨x,aaz _ h1,h2⟩
theorem sv{c:RC}{X:List Nat}{j:Nat}{x:Nat×Nat}(h:(c.only X).hb j=some x):cf j X=true∧c.hb j=some x:=by
 unfold RC.only at h;dsimp only at h;split at h
 ·rename_i e;exact⟨e,h⟩
 ·cases h
mutual
theorem uL{c d:RC}{X:List Nat}{σ:Nat→Nat}(hw:d.w=c.w)(hZ:d.Z=c.Z)(hb:∀i,cf i X=true→d.hb (σ i)=c.hb i):∀(p:PV) {v:Value},Rel p (c.only X) v→Rel (p.rn σ) d v
 |.at _,_,r=>r
 |.any,_,r=>r
 |.agg cs,_,r=>by obtain⟨vs,e,r⟩:=r;exact⟨vs,e,uM hw hZ hb cs r⟩
 |.sl _ rows,_,r=>by
  have e:d.pure=(c.only X).pure:=by unfold RC.pure RC.only;rw[hw,hZ]
  obtain⟨vs,r1,r2⟩:=r
  exact⟨vs,by rw[e];exact r1,by rw[hw,hZ];exact r2⟩
 |.lp j _ _,_,r=>by
  obtain⟨B,k,h1,h2⟩:=r
  obtain⟨h3,h4⟩:=sv h1
  exact⟨B,k,(hb j h3).trans h4,h2⟩
 |.le j _ _,_,r=>by
  obtain⟨B,k,h1,h2⟩:=r
  obtain⟨h3,h4⟩:=sv h1
  exact⟨B,k,(hb j h3).trans h4,h2⟩
 |.eD j _,_,r=>by
  obtain⟨B,k,cap,aB,e,f,h1,h2,h3,h5,h6⟩:=r
  obtain⟨g1,g2⟩:=sv h1
  exact⟨B,k,cap,aB,e,f,(hb j g1).trans g2,h2,h3,by rw[hw];exact h5,h6⟩
 |.aH j _ _,_,r=>by
  rcases r with r|⟨B,k,cap,aB,e,f,h1,h2,h3,h3',h5,h6⟩
  ·exact .inl r
  ·obtain⟨g1,g2⟩:=sv h1
   exact .inr ⟨B,k,cap,aB,e,f,(hb j g1).trans g2,h2,h3,h3',by rw[hw];exact h5,h6⟩
 |.fy j,_,r=>by
  obtain⟨B,k,h1,h2⟩:=r
  obtain⟨h3,h4⟩:=sv h1
  exact⟨B,k,(hb j h3).trans h4,h2⟩
 |.ip cs _,_,r=>by
  have e:d.pure=(c.only X).pure:=by unfold RC.pure RC.only;rw[hw,hZ]
  obtain⟨b,base,vs,h1,r1,r2⟩:=r
  exact⟨b,base,vs,h1,by rw[e];exact r1,by rw[hw,hZ];exact r2⟩
 |.fn _ cs,_,r=>by obtain⟨vs,e,r⟩:=r;exact⟨vs,e,uM hw hZ hb cs r⟩
 |.dq _ p,_,r=>by obtain⟨x,e,r⟩:=r;exact⟨x,e,uL hw hZ hb p r⟩
 |.mv _ p,_,r=>by obtain⟨x,e,r⟩:=r;exact⟨x,e,uL hw hZ hb p r⟩
 |.aK cs,_,r=>by obtain⟨vs,e,r⟩:=r;exact⟨vs,e,uM hw hZ hb cs r⟩
 |.mp _ _,_,r=>by
  have e:d.pure=(c.only X).pure:=by unfold RC.pure RC.only;rw[hw,hZ]
  obtain⟨rr,es,cl,h1,h2,h3,hm,h4,h5⟩:=r
  exact⟨rr,es,cl,h1,by rw[hZ];exact h2,by rw[hw];exact h3,hm,h4,by rw[e];exact h5⟩
theorem uM{c d:RC}{X:List Nat}{σ:Nat→Nat}(hw:d.w=c.w)(hZ:d.Z=c.Z)(hb:∀i,cf i X=true→d.hb (σ i)=c.hb i):∀(ps:List PV) {vs:List Value},aC ps (c.only X) vs→aC (PV.fD σ ps) d vs
 | [],_,r=>r
 |p::ps,_,r=>by
  obtain⟨v,vs',e,r1,r2⟩:=r
  exact⟨v,vs',e,uL hw hZ hb p r1,uM hw hZ hb ps r2⟩
end
section
variable {P:Program}{G:World→Prop}{T:TT}
theorem XO{P:Program}{fn:Func}{R R':Ending→World→Prop}(h:∀e w,R e w→R' e w):∀(e:Exit) (a:Act) (w:World),bodyPost P fn R e a w→bodyPost P fn R' e a w
 |.normal,_,_,⟨h1,v,h2,h3⟩=>⟨h1,v,h2,h _ _ h3⟩
 |.ret,_,_,⟨h1,v,h2,h3⟩=>⟨h1,v,h2,h _ _ h3⟩
 |.panic _,_,_,⟨h1,h2⟩=>⟨h1,h _ _ h2⟩
 |.outgrown,_,_,h1=>h _ _ h1
 |.exit _,_,_,h1=>h1
 |.goto _,_,_,h1=>h1
theorem KE{fn:Func}{body:Code}{args:List PV}{bs:List aA}{js:List Nat}{nx:Nat}{post:PV→bW→Prop}(hT:cL P T)
 (hjs:nodup js=true) (hnx:cf nx js=false) (hlen:js.length=bs.length) (hbs:cC (fun b:aA=>b.own=true∧b.cE) bs) (hlt:PV.h_ js.length args=true) (hle':args.length≤fn.ntmps) (h:SV P G js.length fn.ntmps body js.length ⟨iF args 0,ng bs 0⟩ (r9 T fn js nx post))
 {S:ct} {F:Nat→Prop} {hp:Nat→Option aA} {c:RC} {vs:List Value} (hG:S.G=G) (hF:F nx) (hs:Sat S F hp c) (hb:cC (fun x:Nat×aA=>hp x.1=some x.2) (js.zip bs)) (hr:aC (PV.fD (fun i=>(PV.nth js i).getD 0) args) c vs):
 body.wp P (bodyPost P fn fun e w'=>∃r d v c',e=.returned v∧c'.w=w'∧post r d∧Good S (less F nx) (dh hp d) c c' r v) {tmps:=vs.toArray++Array.replicate (fn.ntmps-vs.toArray.size) undef,defers:=[]} c.w:=by
 let ρ:Nat→Nat:=fun i=>(PV.nth js i).getD 0
 have hρ:∀{i b},PV.nth bs i=some b→PV.nth js i=some (ρ i)∧hp (ρ i)=some b∧i<js.length:=by
  intro i b hi
  obtain⟨a,h1,h2⟩:=Ds hlen hi
  have h3:ρ i=a:=by show(PV.nth js i).getD 0=a;rw[h1];rfl
  rw[h3]
  exact⟨h1,hb.mem _ h2,xK h1⟩
 have hlow:∀i,i<js.length→∃b,PV.nth bs i=some b:=by
  intro i hi
  rw[hlen]at hi
  have:∀(l:List aA) (i:Nat),i<l.length→∃b,PV.nth l i=some b:=by
   intro l
   induction l with
   |nil=>intro i hi;cases hi
   |cons a l ih=>intro i hi;cases i with
    |zero=>exact⟨a,rfl⟩
    |succ i=>exact ih i (by simpa using hi)
  exact this bs i hi
 have hbmem:∀{i b},PV.nth bs i=some b→b.own=true∧b.cE:=fun hi=>hbs.mem _ (aau (p9 hi))
 let L:Nat→Prop:=fun B=>∃i k,i<js.length∧c.hb (ρ i)=some (B,k)
 have hLown:∀B,L B→S.Own B∧vZ c.w B:=by
  rintro B ⟨i,k,hi,hB⟩
  obtain⟨b,hbi⟩:=hlow i hi
  exact(hs.cD _ _ (hρ hbi).2.1).at hB
 let S':ct:=⟨c.w,c.Z,js.length,(iv js.length ρ c).hb,L,G,fun hk=>hG▸S.hG (hs.keeps.step hk fun i hi hl=>by
  rcases(hLown i hl).1 with h|h
  ·omega
  ·exact h),[]⟩
 let c0:RC:=iv js.length ρ c
 have hs0:Sat S' (ge js.length) (ng bs 0) c0:=by
  refine⟨e_.refl _ _,Ext.jz c0,fun _ _ _ _ h=>h,hs.dG,fun j (hj:js.length≤j)=>abg (by omega),fun j b hj=>?_,fun i j bi bj hi hj hne ho x y hx hy=>?_,fun _ _=>rfl,fun _ h=>h⟩
  ·obtain⟨_,hj⟩:=vF hj
   rw[ado]at hj
   obtain⟨h1,h2,h3⟩:=hρ hj
   obtain⟨_,hclo⟩:=hbmem hj
   have hhb:c0.hb j=c.hb (ρ j):=abb h3
   have hB:=hs.cD _ _ h2
   cases b with
   |rows k rs wr f e=>
    rcases hB with⟨g0,g1,g2⟩|⟨B,aB,us,b1,b2,b3,b4,b5⟩
    ·exact .inl ⟨g0,g1,hhb.trans g2⟩
    ·exact .inr ⟨B,aB,us,hhb.trans b1,.inr ⟨j,k,h3,b1⟩,b3,aC.ext rs (Ext.jz c0) (cE.rel (c:=c) hclo b4),b5⟩
   |map ks ps wr=>
    obtain⟨B,es,cl,b1,b2,b3,b4,b5,b6⟩:=hB
    exact⟨B,es,cl,hhb.trans b1,.inr ⟨j,0,h3,b1⟩,b3,b4,aC.ext ps (Ext.jz c0) (cE.rel (c:=c) hclo b5),b6⟩
  ·obtain⟨_,hi⟩:=vF hi
   obtain⟨_,hj⟩:=vF hj
   rw[ado]at hi hj
   obtain⟨h1,h2,h3⟩:=hρ hi
   obtain⟨g1,g2,g3⟩:=hρ hj
   have hx':c.hb (ρ i)=some x:=by rw[← hx];exact(abb h3).symm
   have hy':c.hb (ρ j)=some y:=by rw[← hy];exact(abb g3).symm
   refine hs.sep _ _ _ _ h2 g2 (fun e=>hne ?_) ho x y hx' hy'
   rw[← e]at g1
   exact Fe hjs h1 g1
 have hr0:aC args c0 vs:=(nr js.length ρ c args vs hlt).1 hr
 refine wp_mono (DE (S:=S') (R:=fun vs _ hp=>dW js nx hp vs post) (fun j m s h=>h) (fun ex m s h=>by cases ex<;>first|exact h.h|exact h.elim) hT rfl (h.h rfl rfl (cx:=c0) (zf rfl hs0 hr0 hle'))) (XO ?_)
 rintro e w' ⟨m,hp',c',ps,us,rfl,rfl,hsat,⟨out,n,rs,l,e1,e2,e3,e4,e5⟩,h4⟩
 have h6:=Hi (jA hsat l n e1 (fun _ h=>h) h4)
 generalize rs.map PV.wk=rs at h6 e5
 have hsat2:=(hsat.dE l).wk
 have e4:=e4.imp fun x _ h=>dz.wk h
 generalize hc1:fK hp' c' l=c1 at h6 hsat2
 generalize hhp1:ny (dE hp' l)=hp1 at hsat2 e4 e5
 have hw1:c1.w=c'.w:=by rw[← hc1];rfl
 have hkeep:=hsat2.keeps
 have hbase:=hsat2.base
 have hnx0:c.hb nx=none:=hs.fresh nx hF
 have hnj:∀{i},PV.nth js i≠some nx:=fun{i} hi=>by
  rw[rC (aau (p9 hi))]at hnx;cases hnx
 let hbF:Nat→Option (Nat×Nat):=fun y=>if y=nx then(out.find? (fun x=>x.2==nx)).bind (fun x=>c1.hb x.1)else c.hb y
 let cF:RC:=⟨c1.w,c1.Z,hbF⟩
 have hbF_ne:∀{y},y≠nx→hbF y=c.hb y:=fun h=>abg h
 have hextF:Ext c cF:=by
  refine⟨fun j x h=>?_,hbase.z,hbase.cell,hbase.shape,hbase.mW⟩
  rw[show cF.hb j=c.hb j from hbF_ne (fun e=>by rw[e,hnx0]at h;cases h)]
  exact h
 have hlowhb:∀i,i<js.length→c1.hb i=c.hb (ρ i):=fun i hi=>(hsat2.low i hi).trans (abb hi)
 have hname:∀x∈out,hbF x.2=c1.hb x.1:=by
  intro x hx
  obtain⟨⟨b,_,_,g3⟩⟩:=e4.mem x hx
  by_cases hn:x.2=nx
  ·show(if x.2=nx then _ else _)=_
   rw[abb hn]
   cases hfd:out.find? (fun x=>x.2==nx)with
   |none=>
    have:=List.find?_eq_none.1 hfd x hx
    simp[hn]at this
   |some y=>
    have hy:=aaW hfd
    have hy2:y.2=nx:=by simpa using acs hfd
    have:y.1=x.1:=P' e3 hy hx (hy2.trans hn.symm)
    show c1.hb y.1=c1.hb x.1
    rw[this]
  ·rcases g3 with g3|g3
   ·exact(hn g3).elim
   ·rw[hbF_ne hn,hlowhb x.1 (xK g3)]
    show c.hb x.2=c.hb ((PV.nth js x.1).getD 0)
    rw[g3];rfl
 have hownS:∀B,S'.Own B→S.Own B:=by
  intro B h
  rcases h with h|h
  ·exact .inl (aaJ hs.keeps.size h)
  ·exact(hLown B h).1
 have hout:∀x∈out,∃b,hp1 x.1=some b∧fh S cF x.2 b:=by
  intro x hx
  obtain⟨⟨b,g1,g2,g3⟩⟩:=e4.mem x hx
  refine⟨b,g1,?_⟩
  have hB:=hsat2.cD _ _ g1
  have hn:cF.hb x.2=c1.hb x.1:=hname x hx
  cases b with
  |rows k rs wr f e=>
   rcases hB with⟨q0,q1,q2⟩|⟨B,aB,us,b1,b2,b3,b4,b5⟩
   ·exact .inl ⟨q0,q1,hn.trans q2⟩
   ·exact .inr ⟨B,aB,us,hn.trans b1,hownS B b2,b3,aC.ext rs (Ext.jz cF) (cE.rel (c:=c1) g2 b4),b5⟩
  |map ks ps wr=>
   obtain⟨B,es,cl,b1,b2,b3,b4,b5,b6⟩:=hB
   exact⟨B,es,cl,hn.trans b1,hownS B b2,b3,b4,aC.ext ps (Ext.jz cF) (cE.rel (c:=c1) g2 b5),b6⟩
 generalize hd:(out.map (fun x=>(x.2,hp1 x.1))++js.map fun j=>(j,none):bW)=d at e5
 have hget:∀j b,dh hp d j=some b→(∃x∈out,x.2=j∧hp1 x.1=some b)∨(hp j=some b∧(∀x∈out,x.2≠j)∧j∉js):=by
  intro j b hj
  rw[← hd,As]at hj
  have hdead:∀(js:List Nat) {b},dh hp (js.map fun j=>(j,none)) j=some b→hp j=some b∧j∉js:=by
   intro js
   induction js with
   |nil=>intro b h;exact⟨h,aaH⟩
   |cons y js ih=>
    intro b h
    replace h:ck (dh hp (js.map fun j=>(j,none))) y none j=some b:=h
    by_cases e:j=y
    ·subst e;rw[dm]at h;cases h
    ·rw[dR _ _ e]at h
     obtain⟨i1,i2⟩:=ih h
     exact⟨i1,fun hm=>by rcases aaI.1 hm with h9|h9;exact e h9;exact i2 h9⟩
  generalize hq:dh hp (js.map fun j=>(j,none))=q at hj hdead
  have:∀(l:List (Nat×Nat)),(∀x∈l,x∈out)→dh q (l.map (fun x=>(x.2,hp1 x.1))) j=some b→(∃x∈out,x.2=j∧hp1 x.1=some b)∨(q j=some b∧∀x∈l,x.2≠j):=by
   intro l
   induction l with
   |nil=>intro _ h;exact .inr ⟨h,fun x hx=>by cases hx⟩
   |cons y l ih=>
    intro hm h
    replace h:ck (dh q (l.map (fun x=>(x.2,hp1 x.1)))) y.2 (hp1 y.1) j=some b:=h
    by_cases e:j=y.2
    ·subst e;rw[dm]at h;exact .inl ⟨y,hm y aaA,rfl,h⟩
    ·rw[dR _ _ e]at h
     rcases ih (fun x hx=>hm x (aaz _ hx)) h with h|⟨h1,h2⟩
     ·exact .inl h
     ·exact .inr ⟨h1,fun x hx=>by rcases aaI.1 hx with rfl|hx;exact fun e2=>e e2.symm;exact h2 x hx⟩
  rcases this out (fun _ h=>h) hj with h|⟨h1,h2⟩
  ·exact .inl h
  ·have h3:=hdead js (b:=b) (by rw[hq];exact h1)
   exact .inr ⟨h3.1,h2,h3.2⟩
 have hother:∀j b B n,hp j=some b→j∉js→c.hb j=some (B,n)→B<c.w.heap.size∧¬L B:=by
  intro j b B n hj hnjs hB
  refine⟨((hs.cD j b hj).at hB).2.lt,?_⟩
  rintro⟨i,k,hi,hBi⟩
  obtain⟨bi,hbi⟩:=hlow i hi
  obtain⟨q1,q2,q3⟩:=hρ hbi
  have hne:ρ i≠j:=fun e=>hnjs (e▸aau (p9 q1))
  exact hs.sep _ _ _ _ q2 hj hne (hbmem hbi).1 _ _ hBi hB rfl
 have hZold:∀b o,b<c.w.heap.size→¬L b→c1.Z b o→c.Z b o:=hsat2.gd
 have hblock:∀B,B<c.w.heap.size→¬L B→c1.w.heap[B]? = c.w.heap[B]?:=hkeep.block
 have houtblk:∀x∈out,∀B n,hbF x.2=some (B,n)→c.w.heap.size≤B∨L B:=by
  intro x hx B n hB
  obtain⟨b,g1,_⟩:=hout x hx
  rw[hname x hx]at hB
  exact((hsat2.cD _ _ g1).at hB).1
 refine⟨_,d,_,cF,rfl,hw1,e5,hextF,⟨hs.keeps.step hkeep fun i hi hl=>?_,hs.base.trans hextF,fun b o hb hl z=>?_,hsat2.dG,fun j hj=>?_,fun j b hj=>?_,fun i j bi bj hi hj hne ho x y hx hy=>?_,fun j hj=>?_,fun j hj=>hs.jw j hj.1⟩,?_⟩
 ·rcases(hLown i hl).1 with h|h
  ·omega
  ·exact h
 ·refine hs.gd b o hb hl (hZold b o (aaS hb hs.keeps.size) (fun h=>?_) z)
  rcases(hLown b h).1 with h|h
  ·omega
  ·exact hl h
 ·exact(hbF_ne hj.2).trans (hs.fresh j hj.1)
 ·rcases hget j b hj with⟨x,hx,rfl,h1⟩|⟨h1,h2,h3⟩
  ·obtain⟨b',g1,g2⟩:=hout x hx
   rw[h1]at g1;cases g1;exact g2
  ·refine(hs.cD j b h1).aQ hextF (fun hz=>?_) fun B n hB=>?_
   ·by_cases e:j=nx
    ·subst e
     show(if j=j then _ else _)=_
     rw[abb rfl]
     cases hfd:out.find? (fun x=>x.2==j)with
     |none=>rfl
     |some y=>exact absurd (by simpa using acs hfd) (h2 y (aaW hfd))
    ·exact(hbF_ne e).trans hz
   ·obtain⟨g1,g2⟩:=hother j b B n h1 h3 hB
    exact⟨hblock B g1 g2,fun o=>⟨hZold B o g1 g2,hbase.z B o⟩⟩
 ·have hcase:∀{i bi},dh hp d i=some bi→∀{x:Nat×Nat},hbF i=some x→(∃z∈out,z.2=i∧hp1 z.1=some bi∧c1.hb z.1=some x)∨(hp i=some bi∧c.hb i=some x∧x.1<c.w.heap.size∧¬L x.1):=by
   intro i bi hi x hx
   rcases hget i bi hi with⟨z,hz,rfl,h1⟩|⟨h1,h2,h3⟩
   ·exact .inl ⟨z,hz,rfl,h1,by rw[← hname z hz];exact hx⟩
   ·have hin:i≠nx:=by
     rintro rfl
     have hx':(if i=i then(out.find? (fun x=>x.2==i)).bind (fun x=>c1.hb x.1)else c.hb i)=some x:=hx
     rw[abb rfl]at hx'
     cases hfd:out.find? (fun x=>x.2==i)with
     |none=>rw[hfd]at hx';cases hx'
     |some y=>exact absurd (by simpa using acs hfd) (h2 y (aaW hfd))
    rw[hbF_ne hin]at hx
    exact .inr ⟨h1,hx,hother i bi x.1 x.2 h1 h3 hx⟩
  rcases hcase hi hx with⟨z,hz,rfl,h1,h2⟩|⟨h1,h2,h3,h4⟩
  ·rcases hcase hj hy with⟨u,hu,rfl,g1,g2⟩|⟨g1,g2,g3,g4⟩
   ·exact hsat2.sep z.1 u.1 bi bj h1 g1 (fun e=>hne (by
     have e1':=xM hz e2
     have e2':=xM hu e2
     rw[e,e2']at e1'
     exact(abl e1').symm)) ho x y h2 g2
   ·rcases houtblk z hz x.1 x.2 (by rw[hname z hz];exact h2)with h|h
    ·omega
    ·exact fun e=>g4 (e▸h)
  ·rcases hcase hj hy with⟨u,hu,rfl,g1,g2⟩|⟨g1,g2,g3,g4⟩
   ·rcases houtblk u hu y.1 y.2 (by rw[hname u hu];exact g2)with h|h
    ·omega
    ·exact fun e=>h4 (e▸h)
   ·exact hs.sep i j bi bj h1 g1 hne ho x y h2 g2
 ·exact(hbF_ne (by have:=hs.jw nx hF;omega)).trans (hs.low j hj)
 ·refine uL (c:=c1) (d:=cF) rfl rfl (fun i hi=>?_) (fI rs) (x_ h6)
  obtain⟨x,hx,rfl⟩:=LK hi
  show hbF ((lk out x.1).getD 0)=c1.hb x.1
  rw[xM hx e2]
  exact hname x hx
theorem Md{fn:Func}{args:List PV}{bs:List aA}{js:List Nat}{nx:Nat}{post:PV→bW→Prop}(hT:cL P T)(hX:P.follows .mixedOrders=true)(h:ni P G T fn args bs js nx post):∃body,fn.body=some body∧args.length≤fn.ntmps∧SV P G js.length fn.ntmps body js.length ⟨iF args 0,ng bs 0⟩ (r9 T fn js nx post):=by
 unfold ni at h;split at h
 ·rename_i c hc;split at h
  ·rename_i hle;exact⟨c,hc,aaG hle,SV.of hT hX h⟩
  ·exact h.elim
 ·exact h.elim
theorem Jo{f:FuncId}{fn:Func}{body:Code}{args:List PV}{bs:List aA}{js:List Nat}{nx:Nat}{post:PV→bW→Prop}(hT:cL P T)(hf:P.funcs[f]? = some fn)(hen:∀args w,(callFunc f args).run P w=.ok (.enter f args) w)
 (hjs:nodup js=true) (hnx:cf nx js=false) (hlen:js.length=bs.length) (hbs:cC (fun b:aA=>b.own=true∧b.cE) bs) (hlt:PV.h_ js.length args=true) (hc:fn.body=some body) (hle:args.length≤fn.ntmps) (h:SV P G js.length fn.ntmps body js.length ⟨iF args 0,ng bs 0⟩ (r9 T fn js nx post)):
 HC P G f (PV.fD (fun i=>(PV.nth js i).getD 0) args) (js.zip bs) nx post:=
 ⟨hen,fun hG hF hs hb hr=>calls_of_wp hf hc (KE hT hjs hnx hlen hbs hlt hle h hG hF hs hb hr)⟩
theorem YF{f:FuncId}{fn:Func}{args:List PV}{bs:List aA}{js:List Nat}{nx:Nat}{post:PV→bW→Prop}(hT:cL P T)(hX:P.follows .mixedOrders=true)(hf:P.funcs[f]? = some fn)(hen:∀args w,(callFunc f args).run P w=.ok (.enter f args) w)
 (hjs:nodup js=true) (hnx:cf nx js=false) (hlen:js.length=bs.length) (hbs:cC (fun b:aA=>b.own=true∧b.cE) bs) (hlt:PV.h_ js.length args=true) (h:ni P G T fn args bs js nx post):
 HC P G f (PV.fD (fun i=>(PV.nth js i).getD 0) args) (js.zip bs) nx post:=by
 obtain⟨body,hc,hle,h⟩:=Md hT hX h
 exact Jo hT hf hen hjs hnx hlen hbs hlt hc hle h
structure oJ(P:Program)(G:World→Prop)(f:FuncId)(args:List PV)(bs:List (Nat×aA))(nx:Nat)(post:PV→bW→Prop):Prop where
 enter:∀args w,(callFunc f args).run P w=.ok (.enter f args) w
 run:∀{S:ct} {F:Nat→Prop} {hp:Nat→Option aA} {c:RC} {vs:List Value},S.G=G→F nx→Sat S F hp c→cC (fun x:Nat×aA=>hp x.1=some x.2) bs→aC args c vs→
  CallsD P f vs.toArray .returning c.w fun e u w'=>u=.returning∧∃r d v c',e=.returned v∧c'.w=w'∧post r d∧Good S (less F nx) (dh hp d) c c' r v
theorem Y'{f:FuncId}{fn:Func}{args:List PV}{bs:List aA}{js:List Nat}{nx:Nat}{post:PV→bW→Prop}(hT:cL P T)(hX:P.follows .mixedOrders=true)(hf:P.funcs[f]? = some fn)(hen:∀args w,(callFunc f args).run P w=.ok (.enter f args) w)
 (hjs:nodup js=true) (hnx:cf nx js=false) (hlen:js.length=bs.length) (hbs:cC (fun b:aA=>b.own=true∧b.cE) bs) (hlt:PV.h_ js.length args=true) (h:ni P G T fn args bs js nx post):
 oJ P G f (PV.fD (fun i=>(PV.nth js i).getD 0) args) (js.zip bs) nx post:=by
 obtain⟨body,hc,hle,h⟩:=Md hT hX h
 exact⟨hen,fun hG hF hs hb hr=>callsD_of_wp hf hc (KE hT hjs hnx hlen hbs hlt hle h hG hF hs hb hr)⟩
end
mutual
def xf:PV→Value
 |.at v=>v
 |.agg cs=>.agg (xC cs).toArray
 |.sl _ _=>.slice none 0 0
 |_=>undef
def xC:List PV→List Value
 | []=>[]
 |p::l=>xf p::xC l
end
mutual
def zA:PV→Bool
 |.at v=>v.oneCell'
 |.agg cs=>xq cs
 |.sl true []=>true
 |_=>false
def xq:List PV→Bool
 | []=>true
 |p::l=>zA p&&xq l
end
mutual
theorem FK(c:RC):∀p,zA p=true→Rel p c (xf p)
 |.at _,h=>⟨rfl,h⟩
 |.agg cs,h=>⟨xC cs,rfl,Ej c cs h⟩
 |.sl true [],_=>⟨[],rfl,none,0,rfl,aas _,fun _=>rfl,.inl rfl⟩
 |.sl true (_::_),h=>by cases h
 |.sl false _,h=>by cases h
 |.any,h|.lp _ _ _,h|.le _ _ _,h|.aH _ _ _,h|.eD _ _,h|.ip _ _,h|.fn _ _,h|.dq _ _,h|.mv _ _,h|.aK _,h|.mp _ _,h|.fy _,h=>by cases h
theorem Ej(c:RC):∀ps,xq ps=true→aC ps c (xC ps)
 | [],_=>rfl
 |p::l,h=>by
  unfold xq at h
  rw[abm]at h
  exact⟨_,_,rfl,FK c p h.1,Ej c l h.2⟩
end
def uj(P:Program):TypeDesc→Kd
 |.struct fs=>if fs.toList.all (fun f=>((P.info? f.type).map fun i=>i.size != 0).getD false)then .struct (fs.toList.map fun f=>(f.offset,f.type))else .other
 |.array n e=>.aB n e
 |.slice e=>.sl e
 |.int k=>.int k
 |.string=>.str
 |.bool=>.bool
 |.func _ _ _=>.func
 |.map k v=>.map k v
 |.pointer _=>.ptr
 |_=>.other
theorem Xd{α:Type}:∀{l:List α} {n:Nat} {x:α},PV.nth l n=some x→l[n]? = some x:=p9
theorem La{P:Program}:∀{fs:List Field},(∀f∈fs,∃i,P.info? f.type=some i)→∃places,fs.mapM (fun f=>(P.info? f.type).map fun i=>(f.offset,i.size))=some places∧
 ∀(n:Nat) (f:Field) (i:TypeInfo),fs[n]? = some f→P.info? f.type=some i→places[n]? = some (f.offset,i.size)
 | [],_=>⟨[],rfl,fun n f i h=>by simp at h⟩
 |f::fs,h=>by
  obtain⟨i,hi⟩:=h f aaA
  obtain⟨ps,h1,h2⟩:=La fun g hg=>h g (aaz _ hg)
  refine⟨(f.offset,i.size)::ps,by simp[List.mapM_cons,hi,h1],fun n g j hn hj=>?_⟩
  cases n with
  |zero=>simp at hn;subst hn;rw[hi]at hj;cases hj;rfl
  |succ n=>exact h2 n g j (by simpa using hn) hj
theorem Mm(P:Program)(d:TypeDesc):FF P d (uj P d):=by
 cases d with
 |struct fs=>
  unfold uj;dsimp only;split
  ·rename_i h;have hinfo:∀f∈fs.toList,∃i,P.info? f.type=some i∧i.size≠0:=fun f hm=>by
    have:=abn.1 h f hm;cases hi:P.info? f.type with
    |none=>rw[hi]at this;cases this
    |some i=>rw[hi]at this;exact⟨i,rfl,by simpa using this⟩
   have hget:∀n o t,PV.nth (fs.toList.map fun f=>(f.offset,f.type)) n=some (o,t)→∃f,fs.toList[n]? = some f∧f.offset=o∧f.type=t:=fun n o t hn=>by
    have:=Xd hn;rw[aaT]at this;obtain⟨f,h1,h2⟩:=acx.1 this;cases h2;exact⟨f,h1,rfl,rfl⟩
   obtain⟨ps,p1,p2⟩:=La (P:=P) (fs:=fs.toList) fun f hf=>(hinfo f hf).imp fun _ h=>h.1
   refine⟨fs,rfl,⟨ps,p1,fun n o t i hn hi=>?_⟩,fun n o t hn=>?_⟩
   ·obtain⟨f,h1,rfl,rfl⟩:=hget n o t hn;exact p2 n f i h1 hi
   ·obtain⟨f,h1,rfl,rfl⟩:=hget n o t hn;exact⟨f,by rw[← aaU];exact h1,rfl,rfl,hinfo f (aau h1)⟩
  ·exact trivial
 |func a b v=>exact⟨a,b,v,rfl⟩
 |pointer e=>exact⟨e,rfl⟩
 |_=>first|exact trivial|exact rfl
def KG(P:Program)(t:TypeId):Option ((Option Value×Nat)×Bool)×Option (Bool×Kd):=((P.info? t).map fun i=>((i.zero,i.size),Nat.ble i.bytes 1048576),(P.underlying t).map fun d=>(E6 d,uj P d))
def Ba(P:Program)(t:TypeId):Bool:=!P.stoodInHeld t&&!P.eqGuardType P.depth t&&(match P.underlying t with|some (.struct fs)=>fs.toList.all (fun f=>f.name != "_")|_=>true)
theorem Zd{P:Program}{t:TypeId}{d:TypeDesc}(hd:P.underlying t=some d)(h:Ba P t=true):P.stoodInHeld t=false∧P.eqGuardType P.depth t=false∧Hr d (uj P d):=by
 unfold Ba at h;rw[hd]at h;simp only[abm,Bool.not_eq_true']at h;obtain⟨⟨h1,h2⟩,h3⟩:=h;refine⟨h1,h2,?_⟩;cases d with
 |struct fs=>
  unfold uj;dsimp only;split
  ·exact⟨fs,rfl,rfl,fun f hf=>by simpa using abn.1 h3 f hf⟩
  ·exact trivial
 |_=>exact trivial
theorem PF{P:Program}{t:TypeId}{ti:TI}(h:KG P t=(some ((some (xf ti.zero),ti.size),true),some (ti.ag,ti.kd)))(hz:zA ti.zero=true)(hs:(xf ti.zero).cells.size=ti.size)(he:(!ti.AE||Ba P t)=true):fz P t ti:=by
 unfold KG at h;obtain⟨h1,h2⟩:=acC h;obtain⟨i,hi,h3⟩:=acx.1 h1;obtain⟨d,hd,h4⟩:=acx.1 h2;obtain⟨h9,h10⟩:=acC h3;obtain⟨h5,h6⟩:=acC h9;obtain⟨h7,h8⟩:=acC h4;refine⟨⟨i,_,hi,h6,h5,hs,aaG h10,fun c=>FK c _ hz⟩,⟨d,hd,h7.symm,h8▸Mm P d⟩,fun hq=>?_⟩;rw[hq]at he;obtain⟨g1,g2,g3⟩:=Zd hd (by simpa using he);refine⟨g1,g2,fun d2 hd2=>?_⟩;rw[hd]at hd2;cases hd2;rw[← h8];exact g3
inductive ls where
 |nil
 |node (k:Nat) (v:TI) (l r:ls)
def ls.get(t:Nat):ls→Option TI
 |.nil=>none
 |.node k v l r=>match Nat.beq t k with
  |true=>some v
  |false=>match Nat.ble t k with
   |true=>l.get t
   |false=>r.get t
def ls.list:ls→List (Nat×TI)
 |.nil=>[]
 |.node k v l r=>l.list++(k,v)::r.list
theorem ls.mem{t:Nat}{x:TI}:∀{T:ls},T.get t=some x→(t,x)∈T.list
 |.node k v l r,h=>by
  unfold ls.get at h
  split at h
  ·rename_i e
   cases h
   rw[aaE e]
   exact acr _ aaA
  ·split at h
   ·exact abR _ (ls.mem h)
   ·exact acr _ (aaz _ (ls.mem h))
def Hn:TI:=⟨1,false,.at (.int .i64 0),.int .i64,true⟩
def Cv:TI:=⟨1,false,.at (.bool false),.bool,true⟩
def J6:TI:=⟨1,false,.at (.int .u8 0),.int .u8,true⟩
def Kf:TI:=⟨1,false,.at (.string ⟨#[]⟩),.str,true⟩
def CW:TI:=⟨1,false,.at .nilIface,.other,false⟩
def Fj:TI:=⟨1,false,.at (.int .i32 0),.int .i32,true⟩
def CT:TI:=⟨1,false,.at (.int .u16 0),.int .u16,true⟩
def Jt:TI:=⟨1,false,.sl true [],.sl 44,false⟩
def Cy:TI:=⟨1,false,.sl true [],.sl 9,false⟩
def JP:TI:=⟨1,false,.sl true [],.sl 40,false⟩
def Kq:TI:=⟨1,false,.at (.int .u64 0),.int .u64,true⟩
def I_:TI:=⟨4,true,.agg [.at (.int .u64 0),.at (.int .u64 0),.at (.int .u64 0),.at (.int .u64 0)],.aB 4 30,true⟩
def Dj:TI:=⟨1,false,.sl true [],.sl 183,false⟩
def LL:TI:=⟨9,true,.agg [.at (.string ⟨#[]⟩),.at (.int .u64 0),.at (.int .u64 0),.at (.int .u64 0),.at (.int .u64 0),.at (.int .i64 0),.at (.int .i64 0),.at (.int .i64 0),.sl true []],.struct [(0,9),(1,32),(5,3),(6,3),(7,3),(8,33)],false⟩
def Gs:TI:=⟨1,false,.sl true [],.sl 160,false⟩
def IX:TI:=⟨18,true,.agg [.at (.int .i64 0),.at (.int .u64 0),.at (.int .u64 0),.at (.string ⟨#[]⟩),.at (.int .u64 0),.at (.int .u64 0),.at (.int .u64 0),.at (.int .u64 0),.at (.string ⟨#[]⟩),.at (.int .u64 0),.at (.int .u64 0),.at (.int .u64 0),.at (.int .u64 0),.at (.int .i64 0),.at (.int .i64 0),.at (.int .i64 0),.sl true [],.sl true []],.struct [(0,3),(1,30),(2,30),(3,9),(4,32),(8,35),(17,36)],false⟩
def LH:TI:=⟨24,true,.agg [.at (.int .i64 0),.at (.string ⟨#[]⟩),.at (.string ⟨#[]⟩),.at (.int .i64 0),.at (.int .i64 0),.at (.int .i64 0),.at (.int .u64 0),.at (.int .u64 0),.at (.string ⟨#[]⟩),.at (.int .u64 0),.at (.int .u64 0),.at (.int .u64 0),.at (.int .u64 0),.at (.string ⟨#[]⟩),.at (.int .u64 0),.at (.int .u64 0),.at (.int .u64 0),.at (.int .u64 0),.at (.int .i64 0),.at (.int .i64 0),.at (.int .i64 0),.sl true [],.sl true [],.at (.string ⟨#[]⟩)],.struct [(0,3),(1,9),(2,9),(3,3),(4,3),(5,38),(23,9)],false⟩
def Dz:TI:=⟨5,true,.agg [.at (.int .u8 0),.at (.int .u8 0),.at (.int .u8 0),.at (.int .u8 0),.at (.int .u8 0)],.struct [(0,5),(1,5),(2,5),(3,5),(4,5)],true⟩
def KC:TI:=⟨8,true,.agg [.at (.int .u8 0),.at (.int .u8 0),.at (.int .u8 0),.at (.int .u8 0),.at (.int .u8 0),.at (.int .u8 0),.at (.int .u8 0),.at (.int .u8 0)],.struct [(0,42),(5,5),(6,5),(7,5)],true⟩
def Gx:TI:=⟨1,false,.sl true [],.sl 78,false⟩
def GD:TI:=⟨1,false,.sl true [],.sl 54,false⟩
def D3:TI:=⟨1,false,.sl true [],.sl 97,false⟩
def Lb:TI:=⟨1,false,.at .nilFunc,.func,false⟩
def Dc:TI:=⟨2,true,.agg [.at (.string ⟨#[]⟩),.at (.string ⟨#[]⟩)],.struct [(0,9),(1,9)],true⟩
def Kb:TI:=⟨4,true,.agg [.at (.string ⟨#[]⟩),.at (.string ⟨#[]⟩),.at (.string ⟨#[]⟩),.at (.string ⟨#[]⟩)],.aB 2 59,true⟩
def Ju:TI:=⟨8,true,.agg [.at (.int .i64 0),.at (.string ⟨#[]⟩),.at (.string ⟨#[]⟩),.at (.string ⟨#[]⟩),.at (.string ⟨#[]⟩),.at (.bool false),.at (.int .i64 0),.at (.int .i64 0)],.struct [(0,3),(1,60),(5,4),(6,3),(7,3)],true⟩
def LB:TI:=⟨1,false,.sl true [],.sl 124,false⟩
def JW:TI:=⟨1,false,.sl true [],.sl 99,false⟩
def GH:TI:=⟨2,true,.agg [.sl true [],.sl true []],.struct [(0,63),(1,64)],false⟩
def KK:TI:=⟨1,false,.sl true [],.sl 130,false⟩
def I':TI:=⟨1,false,.sl true [],.sl 90,false⟩
def Hm:TI:=⟨1,false,.sl true [],.sl 137,false⟩
def D5:TI:=⟨1,false,.sl true [],.sl 248,false⟩
def Kv:TI:=⟨2,true,.agg [.at (.int .u64 0),.sl true []],.struct [(0,30),(1,70)],false⟩
def Dy:TI:=⟨11,true,.agg [.at (.int .u64 0),.at (.int .u64 0),.sl true [],.sl true [],.sl true [],.sl true [],.sl true [],.at (.int .u64 0),.sl true [],.at (.int .u64 0),.sl true []],.struct [(0,30),(1,30),(2,66),(4,67),(5,68),(6,69),(7,72),(9,72)],false⟩
def DI:TI:=⟨22,true,.agg [.at (.string ⟨#[]⟩),.at (.int .i64 0),.at (.string ⟨#[]⟩),.at (.string ⟨#[]⟩),.at (.string ⟨#[]⟩),.at (.string ⟨#[]⟩),.at (.bool false),.at (.int .i64 0),.at (.int .i64 0),.at (.int .u64 0),.at (.int .u64 0),.sl true [],.sl true [],.sl true [],.sl true [],.sl true [],.at (.int .u64 0),.sl true [],.at (.int .u64 0),.sl true [],.at (.int .i64 0),.at (.int .u64 0)],.struct [(0,9),(1,62),(9,74),(20,3),(21,30)],false⟩
def Jf:TI:=⟨23,true,.agg [.at (.string ⟨#[]⟩),.at (.string ⟨#[]⟩),.at (.int .i64 0),.at (.string ⟨#[]⟩),.at (.string ⟨#[]⟩),.at (.string ⟨#[]⟩),.at (.string ⟨#[]⟩),.at (.bool false),.at (.int .i64 0),.at (.int .i64 0),.at (.int .u64 0),.at (.int .u64 0),.sl true [],.sl true [],.sl true [],.sl true [],.sl true [],.at (.int .u64 0),.sl true [],.at (.int .u64 0),.sl true [],.at (.int .i64 0),.at (.int .u64 0)],.struct [(0,9),(1,76)],false⟩
def GQ:TI:=⟨1,false,.sl true [],.sl 30,false⟩
def G6:TI:=⟨12,true,.agg [.at (.int .u64 0),.at (.string ⟨#[]⟩),.at (.int .u64 0),.at (.int .u64 0),.at (.int .u64 0),.at (.int .u64 0),.at (.int .i64 0),.at (.int .i64 0),.at (.int .i64 0),.sl true [],.at (.bool false),.at (.int .i64 0)],.struct [(0,30),(1,35),(10,4),(11,3)],false⟩
def Im:TI:=⟨1,false,.at (.int .i64 0),.int .i64,true⟩
def EL:TI:=⟨14,true,.agg [.at (.int .i64 0),.at (.int .u64 0),.at (.int .u64 0),.at (.int .i64 0),.at (.int .u64 0),.at (.int .u64 0),.at (.int .u64 0),.at (.int .u64 0),.at (.int .u64 0),.at (.int .u64 0),.at (.int .u64 0),.at (.int .u64 0),.sl true [],.sl true []],.struct [(0,93),(1,30),(2,30),(3,3),(4,32),(8,32),(12,25),(13,70)],false⟩
def C6:TI:=⟨15,true,.agg [.at (.string ⟨#[]⟩),.at (.int .i64 0),.at (.int .u64 0),.at (.int .u64 0),.at (.int .i64 0),.at (.int .u64 0),.at (.int .u64 0),.at (.int .u64 0),.at (.int .u64 0),.at (.int .u64 0),.at (.int .u64 0),.at (.int .u64 0),.at (.int .u64 0),.sl true [],.sl true []],.struct [(0,9),(1,95)],false⟩
def CK:TI:=⟨6,true,.agg [.at (.int .u64 0),.at (.string ⟨#[]⟩),.at (.int .u64 0),.at (.int .u64 0),.at (.int .u64 0),.at (.int .u64 0)],.struct [(0,30),(1,9),(2,32)],true⟩
def LZ:TI:=⟨1,false,.sl true [],.sl 3,false⟩
def ED:TI:=⟨4,true,.agg [.at (.int .i64 0),.at (.int .i64 0),.at (.int .i64 0),.at (.int .i64 0)],.aB 4 3,true⟩
def JC:TI:=⟨1,false,.at .nilFunc,.func,false⟩
def Lw:TI:=⟨1,false,.sl true [],.sl 115,false⟩
def Gi:TI:=⟨3,true,.agg [.at (.string ⟨#[]⟩),.sl true [],.at (.string ⟨#[]⟩)],.struct [(0,9),(1,109),(2,9)],false⟩
def DT:TI:=⟨2,true,.agg [.at (.int .i64 0),.at (.int .u64 0)],.struct [(0,3),(1,30)],true⟩
def Gl:TI:=⟨1,false,.sl true [],.sl 5,false⟩
def Ib:TI:=⟨1,false,.sl true [],.sl 38,false⟩
def GY:TI:=⟨1,false,.at (.map none),.map 3 56,false⟩
def Kg:TI:=⟨7,true,.agg [.at (.string ⟨#[]⟩),.at (.int .u64 0),.at (.int .u64 0),.at (.int .u64 0),.at (.int .u64 0),.sl true [],.at (.bool false)],.struct [(0,9),(1,32),(5,36),(6,4)],false⟩
def GS:TI:=⟨9,true,.agg [.at (.string ⟨#[]⟩),.at (.int .u64 0),.at (.int .u64 0),.at (.int .u64 0),.at (.int .u64 0),.at (.int .u64 0),.at (.int .u64 0),.at (.int .u64 0),.at (.int .u64 0)],.struct [(0,9),(1,32),(5,32)],true⟩
def CL:TI:=⟨2,true,.agg [.at (.int .u64 0),.at (.int .i64 0)],.struct [(0,30),(1,3)],true⟩
def Jy:TI:=⟨11,true,.agg [.at (.int .u64 0),.at (.int .u64 0),.sl true [],.sl true [],.sl true [],.sl true [],.sl true [],.at (.int .u64 0),.sl true [],.at (.int .u64 0),.sl true []],.struct [(0,74)],false⟩
def Ff:TI:=⟨1,false,.at .nilFunc,.func,false⟩
def CM:TI:=⟨2,true,.agg [.at (.string ⟨#[]⟩),.at (.string ⟨#[]⟩)],.struct [(0,9),(1,9)],true⟩
def GI:TI:=⟨9,true,.agg [.at (.int .u64 0),.at (.int .u64 0),.at (.int .u64 0),.at (.int .u64 0),.at (.int .u64 0),.at (.int .u64 0),.at (.int .u64 0),.at (.int .u64 0),.at (.int .u64 0)],.aB 9 30,true⟩
def FP:TI:=⟨1,false,.at .nilFunc,.func,false⟩
def Fc:TI:=⟨1,false,.at .nilFunc,.func,false⟩
def Le:TI:=⟨1,false,.at .nilFunc,.func,false⟩
def FW:TI:=⟨1,false,.at .nilFunc,.func,false⟩
def F5:TI:=⟨3,true,.agg [.at (.string ⟨#[]⟩),.at (.bool false),.sl true []],.struct [(0,9),(1,4),(2,25)],false⟩
def I0:TI:=⟨1,false,.at .nilFunc,.func,false⟩
def IG:TI:=⟨1,false,.sl true [],.sl 130,false⟩
def Dn:TI:=⟨1,false,.at .nilFunc,.func,false⟩
def F2:TI:=⟨1,false,.at .nilFunc,.func,false⟩
def Du:TI:=⟨1,false,.at .nilFunc,.func,false⟩
def Hv:TI:=⟨1,false,.at .nilFunc,.func,false⟩
def Ef:TI:=⟨1,false,.at .nilFunc,.func,false⟩
def Ga:TI:=⟨1,false,.at .nilFunc,.func,false⟩
def HQ:TI:=⟨1,false,.at .nilFunc,.func,false⟩
def Ly:TI:=⟨1,false,.at (.map none),.map 30 3,false⟩
def C8:TI:=⟨6,true,.agg [.at (.bool false),.at (.bool false),.at (.bool false),.at (.bool false),.at (.bool false),.at (.bool false)],.struct [(0,4),(1,4),(2,4),(3,4),(4,4),(5,4)],true⟩
def F_:TI:=⟨1,false,.at (.map none),.map 3 231,false⟩
def FE:TI:=⟨1,false,.sl true [],.sl 243,false⟩
def I6:TI:=⟨2,true,.agg [.at (.int .i32 0),.at (.int .i32 0)],.struct [(0,21),(1,21)],true⟩
def Fh:TI:=⟨6,true,.agg [.at (.int .i32 0),.at (.int .i32 0),.at (.int .i32 0),.at (.int .i32 0),.at (.int .i32 0),.at (.int .i32 0)],.aB 3 243,true⟩
def It:TI:=⟨4,true,.agg [.at (.int .i32 0),.at (.int .i32 0),.at (.int .i32 0),.at (.int .i32 0)],.aB 2 243,true⟩
def K5:TI:=⟨3,true,.agg [.at (.int .u64 0),.at (.int .u64 0),.at (.int .i64 0)],.struct [(0,30),(1,30),(2,3)],true⟩
def Fu:TI:=⟨1,false,.sl true [],.sl 351,false⟩
def IE:TI:=⟨1,false,.at .nilFunc,.func,false⟩
def EN:TI:=⟨4,true,.agg [.at (.int .u64 0),.at (.int .u64 0),.at (.int .u64 0),.at (.int .u64 0)],.struct [(0,32)],true⟩
def KU:TI:=⟨1,false,.at .nilFunc,.func,false⟩
def Jb:TI:=⟨1,false,.at .nilFunc,.func,false⟩
def KS:TI:=⟨1,false,.at (.int .u64 0),.int .u64,true⟩
def Cn:TI:=⟨1,false,.at (.int .u32 0),.int .u32,true⟩
def LJ:TI:=⟨8,true,.agg [.at (.int .u32 0),.at (.int .u32 0),.at (.int .u32 0),.at (.int .u32 0),.at (.int .u32 0),.at (.int .u32 0),.at (.int .u32 0),.at (.int .u32 0)],.aB 8 308,true⟩
def KO:TI:=⟨1,false,.sl true [],.sl 109,false⟩
def GF:TI:=⟨1,false,.at .nilFunc,.func,false⟩
def GC:TI:=⟨1,false,.at .nilFunc,.func,false⟩
def FM:TI:=⟨1,false,.at .nilFunc,.func,false⟩
def Ij:TI:=⟨0,true,.agg [],.struct [],true⟩
def F7:TI:=⟨1,false,.sl true [],.sl 9,false⟩
def Df:TI:=⟨1,false,.at (.pointer none),.ptr,false⟩
def Ey:TI:=⟨2,true,.agg [.at (.pointer none),.sl true []],.struct [(0,339),(1,116)],false⟩
def D4:TI:=⟨6,true,.agg [.at (.string ⟨#[]⟩),.at (.int .u64 0),.at (.int .u64 0),.at (.int .u64 0),.at (.int .u64 0),.sl true []],.struct [(0,9),(1,32),(5,36)],false⟩
def Ke:TI:=⟨1,true,.agg [.at .nilFunc],.struct [(0,215)],false⟩
def FA:TI:=⟨8,true,.agg [.at (.int .u8 0),.at (.int .u8 0),.at (.int .u8 0),.at (.int .u8 0),.at (.int .u8 0),.at (.int .u8 0),.at (.int .u8 0),.at (.int .u8 0)],.aB 8 5,true⟩
def Eo:TI:=⟨1,false,.sl true [],.sl 320,false⟩
def Is:TI:=⟨1,false,.at .nilFunc,.func,false⟩
def FQ:TI:=⟨19,true,.agg [.at (.int .i64 0),.at (.int .u64 0),.at (.int .u64 0),.at (.string ⟨#[]⟩),.at (.int .u64 0),.at (.int .u64 0),.at (.int .u64 0),.at (.int .u64 0),.at (.string ⟨#[]⟩),.at (.int .u64 0),.at (.int .u64 0),.at (.int .u64 0),.at (.int .u64 0),.at (.int .i64 0),.at (.int .i64 0),.at (.int .i64 0),.sl true [],.sl true [],.at .nilFunc],.struct [(0,38),(18,392)],false⟩
def FB:TI:=⟨18,true,.agg [.at (.int .i64 0),.at (.int .u64 0),.at (.int .u64 0),.at (.string ⟨#[]⟩),.at (.int .u64 0),.at (.int .u64 0),.at (.int .u64 0),.at (.int .u64 0),.at (.string ⟨#[]⟩),.at (.int .u64 0),.at (.int .u64 0),.at (.int .u64 0),.at (.int .u64 0),.at (.int .i64 0),.at (.int .i64 0),.at (.int .i64 0),.sl true [],.sl true []],.struct [(0,38)],false⟩
def EB:TI:=⟨1,false,.at .nilFunc,.func,false⟩
def D_:TI:=⟨19,true,.agg [.at (.int .i64 0),.at (.int .u64 0),.at (.int .u64 0),.at (.string ⟨#[]⟩),.at (.int .u64 0),.at (.int .u64 0),.at (.int .u64 0),.at (.int .u64 0),.at (.string ⟨#[]⟩),.at (.int .u64 0),.at (.int .u64 0),.at (.int .u64 0),.at (.int .u64 0),.at (.int .i64 0),.at (.int .i64 0),.at (.int .i64 0),.sl true [],.sl true [],.at .nilFunc],.struct [(0,38),(18,398)],false⟩
def Jc:TI:=⟨1,false,.at .nilFunc,.func,false⟩
def CF:TI:=⟨1,false,.at (.pointer none),.ptr,false⟩
def Lx:TI:=⟨1,false,.at .nilFunc,.func,false⟩
def KQ:TI:=⟨3,true,.agg [.at (.int .u64 0),.at (.int .u64 0),.at (.int .u64 0)],.aB 3 30,true⟩
def E0:TI:=⟨1,false,.at .nilFunc,.func,false⟩
def Je:TI:=⟨1,false,.at (.map none),.map 3 392,false⟩
def Jk:TI:=⟨1,false,.at (.map none),.map 3 398,false⟩
def IR:TI:=⟨1,false,.at (.pointer none),.other,false⟩
def Gh:TI:=⟨1,false,.at (.pointer none),.ptr,false⟩
def L7:TI:=⟨2,true,.agg [.at (.string ⟨#[]⟩),.at (.int .i64 0)],.struct [(0,9),(1,3)],true⟩
def CH:TI:=⟨0,true,.agg [],.struct [],true⟩
def J':TI:=⟨1,false,.at .nilFunc,.func,false⟩
def Ix:TI:=⟨4,true,.agg [.at (.int .u8 0),.at (.int .u8 0),.at (.int .u8 0),.at (.int .u8 0)],.aB 4 5,true⟩
def CN:TI:=⟨12,true,.agg [.at (.int .u64 0),.at (.int .u64 0),.sl true [],.sl true [],.sl true [],.sl true [],.sl true [],.at (.int .u64 0),.sl true [],.at (.int .u64 0),.sl true [],.at (.int .i64 0)],.struct [(0,74),(11,3)],false⟩
def JI:TI:=⟨1,false,.at .nilFunc,.func,false⟩
def H8:TI:=⟨0,true,.agg [],.struct [],true⟩
def IM:TI:=⟨1,false,.at (.pointer none),.ptr,false⟩
def Fz:TI:=⟨2,true,.agg [.at (.string ⟨#[]⟩),.at (.int .i64 0)],.struct [(0,9),(1,3)],true⟩
def GJ:TI:=⟨2,true,.agg [.at (.int .u8 0),.at (.int .u8 0)],.struct [(0,5),(1,5)],true⟩
def GN:TI:=⟨32,true,.agg [.at (.int .u8 0),.at (.int .u8 0),.at (.int .u8 0),.at (.int .u8 0),.at (.int .u8 0),.at (.int .u8 0),.at (.int .u8 0),.at (.int .u8 0),.at (.int .u8 0),.at (.int .u8 0),.at (.int .u8 0),.at (.int .u8 0),.at (.int .u8 0),.at (.int .u8 0),.at (.int .u8 0),.at (.int .u8 0),.at (.int .u8 0),.at (.int .u8 0),.at (.int .u8 0),.at (.int .u8 0),.at (.int .u8 0),.at (.int .u8 0),.at (.int .u8 0),.at (.int .u8 0),.at (.int .u8 0),.at (.int .u8 0),.at (.int .u8 0),.at (.int .u8 0),.at (.int .u8 0),.at (.int .u8 0),.at (.int .u8 0),.at (.int .u8 0)],.aB 16 514,true⟩
def Hd:TI:=⟨1,false,.at .nilFunc,.func,false⟩
def C_:TI:=⟨1,false,.at .nilFunc,.func,false⟩
def Fo:TI:=⟨1,false,.at (.int .i64 0),.int .i64,true⟩
def GX:TI:=⟨1,false,.at (.int .u64 0),.int .u64,true⟩
def Jj:TI:=⟨1,false,.at (.pointer none),.ptr,false⟩
def Lc:ls:=(.node 188 IG (.node 70 D5 (.node 40 LH (.node 25 Cy (.node 20 CW (.node 5 J6 (.node 4 Cv (.node 3 Hn .nil .nil) .nil) (.node 9 Kf .nil .nil)) (.node 22 CT (.node 21 Fj .nil .nil) (.node 23 Jt .nil .nil))) (.node 33 Dj (.node 30 Kq (.node 27 JP .nil .nil) (.node 32 I_ .nil .nil)) (.node 36 Gs (.node 35 LL .nil .nil) (.node 38 IX .nil .nil)))) (.node 60 Kb (.node 50 GD (.node 44 KC (.node 42 Dz .nil .nil) (.node 49 Gx .nil .nil)) (.node 56 Lb (.node 54 D3 .nil .nil) (.node 59 Dc .nil .nil))) (.node 66 GH (.node 63 LB (.node 62 Ju .nil .nil) (.node 64 JW .nil .nil)) (.node 68 I' (.node 67 KK .nil .nil) (.node 69 Hm .nil .nil))))) (.node 116 Gl (.node 97 C6 (.node 82 GQ (.node 76 DI (.node 74 Dy (.node 72 Kv .nil .nil) .nil) (.node 78 Jf .nil .nil)) (.node 93 Im (.node 90 G6 .nil .nil) (.node 95 EL .nil .nil))) (.node 104 JC (.node 102 LZ (.node 99 CK .nil .nil) (.node 103 ED .nil .nil)) (.node 111 Gi (.node 109 Lw .nil .nil) (.node 115 DT .nil .nil)))) (.node 160 CM (.node 130 GS (.node 120 GY (.node 118 Ib .nil .nil) (.node 124 Kg .nil .nil)) (.node 148 Jy (.node 137 CL .nil .nil) (.node 155 Ff .nil .nil))) (.node 178 Le (.node 166 FP (.node 161 GI .nil .nil) (.node 172 Fc .nil .nil)) (.node 183 F5 (.node 180 FW .nil .nil) (.node 185 I0 .nil .nil)))))) (.node 358 Ke (.node 275 IE (.node 231 C8 (.node 210 Ef (.node 205 Du (.node 200 F2 (.node 193 Dn .nil .nil) .nil) (.node 207 Hv .nil .nil)) (.node 215 HQ (.node 213 Ga .nil .nil) (.node 219 Ly .nil .nil))) (.node 244 Fh (.node 241 FE (.node 232 F_ .nil .nil) (.node 243 I6 .nil .nil)) (.node 248 K5 (.node 245 It .nil .nil) (.node 271 Fu .nil .nil)))) (.node 315 GF (.node 304 KS (.node 289 KU (.node 277 EN .nil .nil) (.node 303 Jb .nil .nil)) (.node 309 LJ (.node 308 Cn .nil .nil) (.node 312 KO .nil .nil))) (.node 337 F7 (.node 334 FM (.node 320 GC .nil .nil) (.node 336 Ij .nil .nil)) (.node 341 Ey (.node 339 Df .nil .nil) (.node 351 D4 .nil .nil))))) (.node 449 L7 (.node 407 CF (.node 396 FB (.node 392 Is (.node 385 Eo (.node 378 FA .nil .nil) .nil) (.node 394 FQ .nil .nil)) (.node 400 D_ (.node 398 EB .nil .nil) (.node 405 Jc .nil .nil))) (.node 432 Je (.node 418 KQ (.node 410 Lx .nil .nil) (.node 422 E0 .nil .nil)) (.node 441 IR (.node 433 Jk .nil .nil) (.node 447 Gh .nil .nil)))) (.node 496 Fz (.node 467 CN (.node 454 J' (.node 450 CH .nil .nil) (.node 457 Ix .nil .nil)) (.node 492 H8 (.node 489 JI .nil .nil) (.node 494 IM .nil .nil))) (.node 526 C_ (.node 515 GN (.node 514 GJ .nil .nil) (.node 523 Hd .nil .nil)) (.node 543 GX (.node 532 Fo .nil .nil) (.node 546 Jj .nil .nil)))))))
def tt:TT:=fun t=>Lc.get t
theorem Vo:cC (fun x:Nat×TI=>fz Tryz.prog x.1 x.2) Lc.list:=by
 show cC _ [(3,Hn),(4,Cv),(5,J6),(9,Kf),(20,CW),(21,Fj),(22,CT),(23,Jt),(25,Cy),(27,JP),(30,Kq),(32,I_),(33,Dj),(35,LL),(36,Gs),(38,IX),(40,LH),(42,Dz),(44,KC),(49,Gx),(50,GD),(54,D3),(56,Lb),(59,Dc),(60,Kb),(62,Ju),(63,LB),(64,JW),(66,GH),(67,KK),(68,I'),(69,Hm),(70,D5),(72,Kv),(74,Dy),(76,DI),(78,Jf),(82,GQ),(90,G6),(93,Im),(95,EL),(97,C6),(99,CK),(102,LZ),(103,ED),(104,JC),(109,Lw),(111,Gi),(115,DT),(116,Gl),(118,Ib),(120,GY),(124,Kg),(130,GS),(137,CL),(148,Jy),(155,Ff),(160,CM),(161,GI),(166,FP),(172,Fc),(178,Le),(180,FW),(183,F5),(185,I0),(188,IG),(193,Dn),(200,F2),(205,Du),(207,Hv),(210,Ef),(213,Ga),(215,HQ),(219,Ly),(231,C8),(232,F_),(241,FE),(243,I6),(244,Fh),(245,It),(248,K5),(271,Fu),(275,IE),(277,EN),(289,KU),(303,Jb),(304,KS),(308,Cn),(309,LJ),(312,KO),(315,GF),(320,GC),(334,FM),(336,Ij),(337,F7),(339,Df),(341,Ey),(351,D4),(358,Ke),(378,FA),(385,Eo),(392,Is),(394,FQ),(396,FB),(398,EB),(400,D_),(405,Jc),(407,CF),(410,Lx),(418,KQ),(422,E0),(432,Je),(433,Jk),(441,IR),(447,Gh),(449,L7),(450,CH),(454,J'),(457,Ix),(467,CN),(489,JI),(492,H8),(494,IM),(496,Fz),(514,GJ),(515,GN),(523,Hd),(526,C_),(532,Fo),(543,GX),(546,Jj)]
 repeat (refine⟨PF (by kernel_rfl) (by kernel_rfl) (by kernel_rfl) (by kernel_rfl),?_⟩)
 exact trivial
theorem bU:Tryz.prog.follows .mixedOrders=true:=by kernel_rfl
theorem bH:cL Tryz.prog tt:=fun _ _ h=>Vo.mem _ (ls.mem h)
section
variable {P:Program}{G:World→Prop}{T:TT}{M n:Nat}
theorem qL{s:AS}{d:Option Nat}{v:PV}{k k':AS→Prop}(hk:∀s,k s→k' s)(h:ja n s d v k):ja n s d v k':=by
 rw[vH]at h⊢;split at h
 ·exact hk _ h
 ·split at h
  ·exact hk _ h
  ·exact h.elim
theorem zh{hp:Nat→Option aA}{nx:Nat}{f:FuncId}{args:List PV}{k k':PV→bW→Prop}(hk:∀r d,k r d→k' r d)(h:a_ P G hp nx f args k):a_ P G hp nx f args k':=by
 rcases h.h with⟨n,rs,l,post,h0,h1,h2⟩|⟨X,n,rs',l',bs,post,h1,h2,h3,h4⟩|⟨X,n,rs',l',bs,r,h1,h2,h3,h4⟩
 ·exact⟨.inl ⟨n,rs,l,post,h0,h1,fun r hr=>hk _ _ (h2 r hr)⟩⟩
 ·exact⟨.inr (.inl ⟨X,n,rs',l',bs,post,h1,h2,h3,fun r d hr=>hk _ _ (h4 r d hr)⟩)⟩
 ·exact⟨.inr (.inr ⟨X,n,rs',l',bs,r,h1,h2,h3,hk _ _ h4⟩)⟩
theorem MC{nx:Nat}{op:Op}{ev:Operand→Option PV}{hp:Nat→Option aA}{k k':PV→bW→Prop}(hk:∀r d,k r d→k' r d)(h:act T nx op ev hp k):act T nx op ev hp k':=by
 unfold act at h⊢;split at h
 ·exact Tr.wp_mono hk h
 ·exact h.elim
theorem ET{nx:Nat}{o:Oper}{s:AS}{k k':AS→Prop}(hk:∀s,k s→k' s)(h:o7 P G T n nx o s k):o7 P G T n nx o s k':=by
 rw[B3]at h⊢;split at h
 ·split at h
  ·exact zh (fun r d=>qL hk) h
  ·exact zh (fun r d=>qL hk) h
  ·exact h.elim
 ·split at h
  ·obtain⟨g,hg,h⟩:=h.h;exact⟨g,hg,zh (fun r d=>qL hk) h⟩
  ·exact h.elim
 ·exact MC (fun r d=>qL hk) h
theorem wc{all:List Oper}:∀{os:List Oper} {nx:Nat} {s:AS} {k k':Nat→AS→Prop},(∀m s,k m s→k' m s)→j7 P G T n all os nx s k→j7 P G T n all os nx s k'
 | [],_,_,_,_,hk,h=>hk _ _ h
 |o::os,nx,s,k,k',hk,h=>by
  unfold j7 at h⊢
  split at h
  ·exact ET (fun s=>wc hk) h
  ·split at h
   ·exact ET (fun s=>wc hk) h
   ·exact qL (fun s=>wc hk) h
   ·exact h.elim
theorem Hf{hp:Nat→Option aA}{nx:Nat}{f:FuncId}{args:List PV}{k k':PV→bW→List Nat→Prop}(hk:∀r d l,k r d l→k' r d l)(h:dy P G hp nx f args k):dy P G hp nx f args k':=by
 obtain⟨r,d,rd,h1,h2⟩:=h.h;exact⟨r,d,rd,hk _ _ _ h1,h2⟩
theorem EW{nx:Nat}{o:Oper}{s:AS}{k k':PV→bW→List Nat→Prop}(hk:∀r d l,k r d l→k' r d l)(h:lK P G T nx o s k):lK P G T nx o s k':=by
 rw[vY]at h⊢;split at h
 ·split at h
  ·exact Hf hk h
  ·exact h.elim
 ·split at h
  ·obtain⟨g,hg,h⟩:=h.h;exact⟨g,hg,Hf hk h⟩
  ·exact h.elim
 ·split at h
  ·exact Tr.jL hk h
  ·exact h.elim
theorem TF{all:List Oper}{nx:Nat}{o:Oper}{s:AS}{k k':PV→bW→List Nat→Prop}(hk:∀r d l,k r d l→k' r d l)(h:jm P G T all nx o s k):jm P G T all nx o s k':=by
 unfold jm at h⊢;split at h
 ·exact EW hk h
 ·split at h
  ·exact EW hk h
  ·exact hk _ _ _ h
  ·exact h.elim
theorem GG{all:List Oper}:∀{os:List Oper} {nx:Nat} {s:AS} {acc:List Rec} {k k':List Rec→AS→Prop},(∀r s,k r s→k' r s)→ov P G T n all os nx s acc k→ov P G T n all os nx s acc k'
 | [],_,_,_,_,_,hk,h=>hk _ _ h
 |o::os,nx,s,acc,k,k',hk,h=>by
  rw[Mf]at h⊢
  exact TF (fun p d rd=>qL fun s=>GG hk) h
theorem I3{body:Nat→AS→(Ex→Nat→AS→Prop)→Prop}(hb:∀nx s k k',(∀ex m s,k ex m s→k' ex m s)→body nx s k→body nx s k'){k k':Ex→Nat→AS→Prop}(hk:∀ex m s,k ex m s→k' ex m s):∀(m:Nat) {nx:Nat} {s:AS},qI body k m nx s→qI body k' m nx s
 |0,_,_,h=>h
 |m+1,nx,s,h=>hb _ _ _ _ (fun ex m' s' h=>by
  cases ex with
  |normal=>exact I3 hb hk m h
  |ret=>exact hk _ _ _ h
  |exit j=>exact hk _ _ _ h) h
theorem NW{nx:Nat}{s:AS}{body:Nat→AS→(Ex→Nat→AS→Prop)→Prop}(hb:∀nx s k k',(∀ex m s,k ex m s→k' ex m s)→body nx s k→body nx s k'){k k':Ex→Nat→AS→Prop}(hk:∀ex m s,k ex m s→k' ex m s)(h:cv M nx s body k):cv M nx s body k':=by
 rcases h.h with⟨vt,m,ι,I,μ,i₀,h1,h2,h3,h4⟩|⟨m,h⟩
 ·exact⟨.inl ⟨vt,m,ι,I,μ,i₀,h1,h2,h3,fun i=>hb _ _ _ _ (fun ex m' s' h=>by
   cases ex with
   |normal=>exact h
   |ret=>exact hk _ _ _ h
   |exit j=>exact hk _ _ _ h) (h4 i)⟩⟩
 ·exact⟨.inr ⟨m,I3 hb hk m h⟩⟩
theorem py:∀(c:Code) {nx:Nat} {s:AS} {k k':Ex→Nat→AS→Prop},vc P G T M n c nx s k→(∀ex m s,k ex m s→k' ex m s)→vc P G T M n c nx s k'
 |.skip,_,_,_,_,h,hk=>hk _ _ _ h
 |.label _,_,_,_,_,h,hk=>hk _ _ _ h
 |.ret,_,_,_,_,h,hk=>hk _ _ _ h
 |.exit _,_,_,_,_,h,hk=>hk _ _ _ h
 |.region id ops draw,_,_,_,_,h,hk=>by
  cases draw with
  |false=>exact wc (fun m s=>hk _ m s) h
  |true=>exact GG (fun r s h=>⟨h.1,hk _ _ _ h.2⟩) h
 |.seq a b,_,_,_,_,h,hk=>py a h fun ex m s h=>by
  cases ex with
  |normal=>exact py b h hk
  |ret=>exact hk _ _ _ h
  |exit i=>exact hk _ _ _ h
 |.cond x a b,nx,s,k,k',h,hk=>by
  unfold vc at h⊢
  split at h
  ·exact⟨fun e=>py a (h.h1 e) hk,fun e=>py b (h.h2 e) hk⟩
  ·exact h.elim
 |.block i c,_,_,_,_,h,hk=>py c h fun ex m s h=>by
  cases ex with
  |normal=>exact hk _ _ _ h
  |ret=>exact hk _ _ _ h
  |exit j=>
   dsimp only at h⊢
   cases e:Nat.beq j i with
   |true=>rw[e]at h;exact hk _ _ _ h
   |false=>rw[e]at h;exact hk _ _ _ h
 |.loop c,nx,s,k,k',h,hk=>NW (M:=M) (nx:=nx) (s:=s) (body:=fun nx s k=>vc P G T M n c nx s k) (fun nx s k k' hk h=>py c h hk) hk h
 |.rangeFunc _ _ _ _,_,_,_,_,h,_=>h.elim
 |.scope c,_,_,_,_,h,hk=>py c h hk
 |.goto _,_,_,_,_,h,_=>h.elim
 |.refuse _,_,_,_,_,h,_=>h.elim
end
end
end Go.Proofs.YtbnonpbnhenkfaaGreatDoor
section
namespace Go.Proofs.YtbnonpbnhenkfaaGreatDoor
open Go.RowKit
structure eL where
 lo:Int
 hi:Int
instance:Inhabited eL:=⟨⟨0,0⟩⟩
def eL.cells(x:eL):List Value:=[.int .i32 x.lo,.int .i32 x.hi]
def eL.val(x:eL):Value:=.agg x.cells.toArray
namespace Wd
def qm(r:Int)(x:eL):Bool:=decide (x.lo≤r)&&decide (r≤x.hi)
def o6(r:Int)(l:List eL):Bool:=l.any (qm r)
def letters:List eL:=[⟨97,122⟩,⟨945,969⟩,⟨1072,1103⟩]
def marks:List eL:=[⟨48,57⟩,⟨45,45⟩]
def nD(s:ByteArray):Nat→Nat→Bool
 |0,_=>true
 |f+1,pos=>if pos<s.size then(if !(o6 ((Utf8.decode s pos).1:Int) letters)&&(decide (pos=0)||!(o6 ((Utf8.decode s pos).1:Int) marks))then false else nD s f (pos+(Utf8.decode s pos).2))else true
def right(s:ByteArray):Bool:=nD s s.size 0&&(decide (0<s.size)&&decide (Lib.runeCount s≤16))
end Wd
end Go.Proofs.YtbnonpbnhenkfaaGreatDoor
end
section
namespace Go.Proofs.YtbnonpbnhenkfaaGreatDoor
open Go.RowKit
namespace Sh
def dN(x n:Nat):Nat:=(x*2^(32-n)%4294967296) ||| (x / 2^n)
def add(a b:Nat):Nat:=(a+b)%4294967296
def sN(x:Nat):Nat:=dN x 7 ^^^ dN x 18 ^^^ (x / 8)
def tq(y:Nat):Nat:=dN y 17 ^^^ dN y 19 ^^^ (y / 1024)
def four(a b c d:Nat):Nat:=a*16777216 ||| b*65536 ||| c*256 ||| d
def word(b:List UInt8)(i:Nat):Nat:=four (b.getD (4*i) 0).toNat (b.getD (4*i+1) 0).toNat (b.getD (4*i+2) 0).toNat (b.getD (4*i+3) 0).toNat
def made(l:List Nat)(i:Nat):Nat:=add (add (add (l.getD (i-16) 0) (sN (l.getD (i-15) 0))) (l.getD (i-7) 0)) (tq (l.getD (i-2) 0))
def uP(b:List UInt8)(l:List Nat):List Nat:=l++[if l.length<16 then word b l.length else made l l.length]
def lc(b:List UInt8):Nat→List Nat
 |0=>[]
 |k+1=>uP b (lc b k)
def words(b:List UInt8):List Nat:=lc b 64
structure V where
 a:Nat
 b:Nat
 c:Nat
 d:Nat
 e:Nat
 f:Nat
 g:Nat
 h:Nat
def one(k w:Nat)(v:V):Nat:=add (add (add (add v.h (dN v.e 6 ^^^ dN v.e 11 ^^^ dN v.e 25)) (v.e &&& v.f ^^^ (4294967295 ^^^ v.e) &&& v.g)) k) w
def two(v:V):Nat:=add (dN v.a 2 ^^^ dN v.a 13 ^^^ dN v.a 22) (v.a &&& v.b ^^^ v.a &&& v.c ^^^ v.b &&& v.c)
def uf(k w:Nat)(v:V):V:=⟨add (one k w v) (two v),v.a,v.b,v.c,add v.d (one k w v),v.e,v.f,v.g⟩
def K:List Nat:=[0x428a2f98,0x71374491,0xb5c0fbcf,0xe9b5dba5,0x3956c25b,0x59f111f1,0x923f82a4,0xab1c5ed5,
 0xd807aa98,0x12835b01,0x243185be,0x550c7dc3,0x72be5d74,0x80deb1fe,0x9bdc06a7,0xc19bf174,
 0xe49b69c1,0xefbe4786,0x0fc19dc6,0x240ca1cc,0x2de92c6f,0x4a7484aa,0x5cb0a9dc,0x76f988da,
 0x983e5152,0xa831c66d,0xb00327c8,0xbf597fc7,0xc6e00bf3,0xd5a79147,0x06ca6351,0x14292967,
 0x27b70a85,0x2e1b2138,0x4d2c6dfc,0x53380d13,0x650a7354,0x766a0abb,0x81c2c92e,0x92722c85,
 0xa2bfe8a1,0xa81a664b,0xc24b8b70,0xc76c51a3,0xd192e819,0xd6990624,0xf40e3585,0x106aa070,
 0x19a4c116,0x1e376c08,0x2748774c,0x34b0bcb5,0x391c0cb3,0x4ed8aa4a,0x5b9cca4f,0x682e6ff3,
 0x748f82ee,0x78a5636f,0x84c87814,0x8cc70208,0x90befffa,0xa4506ceb,0xbef9a3f7,0xc67178f2]
def H0:V:=⟨0x6a09e667,0xbb67ae85,0x3c6ef372,0xa54ff53a,0x510e527f,0x9b05688c,0x1f83d9ab,0x5be0cd19⟩
def rounds(w:List Nat)(v:V):Nat→V
 |0=>v
 |k+1=>uf (K.getD k 0) (w.getD k 0) (rounds w v k)
def plus(v h:V):V:=⟨add v.a h.a,add v.b h.b,add v.c h.c,add v.d h.d,add v.e h.e,add v.f h.f,add v.g h.g,add v.h h.h⟩
def block(h:V)(b:List UInt8):V:=plus (rounds (words b) h 64) h
def qO(n:Nat):Nat:=(119-n%64)%64
def len8(n:Nat):List UInt8:=(List.range 8).map fun i=>UInt8.ofNat (n / 2^(8*(7-i))%256)
def my(s:List UInt8):List UInt8:=s++[128]++List.replicate (qO s.length) 0++len8 (s.length*8%18446744073709551616)
def blocks(t:List UInt8)(h:V):Nat→V
 |0=>h
 |k+1=>block (blocks t h k) ((t.drop (64*k)).take 64)
def lD(x:Nat):List UInt8:=[UInt8.ofNat (x / 16777216%256),UInt8.ofNat (x / 65536%256),UInt8.ofNat (x / 256%256),UInt8.ofNat (x%256)]
def out(v:V):List UInt8:=lD v.a++lD v.b++lD v.c++lD v.d++lD v.e++lD v.f++lD v.g++lD v.h
def sum(s:List UInt8):List UInt8:=out (blocks (my s) H0 ((my s).length / 64))
end Sh
end Go.Proofs.YtbnonpbnhenkfaaGreatDoor
end
namespace Go.Proofs.YtbnonpbnhenkfaaGreatDoor
section
open Go.RowKit
def vz:List Int:=[0,1,1,4,2,2,2,2,2]
def gE:List (Nat×List Value):=[
 (1,vz.map (Value.int .u64)),
 (0,([2,6,7,9]:List Int).map (Value.int .i64)),
 (2,Wd.letters.flatMap eL.cells),
 (3,Wd.marks.flatMap eL.cells),
 (4,[Sh.H0.a,Sh.H0.b,Sh.H0.c,Sh.H0.d,Sh.H0.e,Sh.H0.f,Sh.H0.g,Sh.H0.h].map fun n=>Value.int .u32 ((n:Nat):Int)),
 (5,Sh.K.map fun n=>Value.int .u32 ((n:Nat):Int))]
structure fU(w:World):Prop where
 lL:∀x∈gE,∀i v,x.2[i]? = some v→w.cell? ⟨x.1,i,none⟩=some v
 lt:∀x∈gE,x.1<w.heap.size
 mx:∃m,w.cell? ⟨6,0,none⟩=some (.int .i64 m)
 lm:6<w.heap.size
theorem fU.below{w x:World}(h:fU w)(hb:Below w.heap.size w x):fU x:=by
 obtain⟨m,hm⟩:=h.mx;exact⟨fun t ht i v hv=>(hb.cell (p:=⟨t.1,i,none⟩) (h.lt t ht)).trans (h.lL t ht i v hv),fun t ht=>aaS (h.lt t ht) hb.size,⟨m,(hb.cell (p:=⟨_,0,none⟩) h.lm).trans hm⟩,aaS h.lm hb.size⟩
end
end Go.Proofs.YtbnonpbnhenkfaaGreatDoor
