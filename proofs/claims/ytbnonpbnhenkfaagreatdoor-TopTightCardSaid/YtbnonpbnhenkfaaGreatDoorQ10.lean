/- Part 10 of the proof; the last part says what is proved. -/
import Derived.Test.YtbnonpbnhenkfaaGreatDoorQ09
import Derived.Maps.Range
import Derived.RangeFuncSeq
import Derived.OwnWalkIn
import Derived.Below
import Derived.RangeFuncBox
import Derived.RangeFuncLeaves
import Derived.RangeFuncNested
import Derived.RangeFuncWrites
import Derived.TacticsInMore
import Derived.LoopNIn
import Derived.LoopIn
import Derived.Maps.AppendAt
import Derived.Sort.CutIn
import Derived.Sort.MapsRangeIn
import Derived.RegionIn
import Derived.Deep.Onto
set_option linter.all false
set_option maxRecDepth 1000000
set_option maxHeartbeats 8000000
namespace Go.Proofs.YtbnonpbnhenkfaaGreatDoor
section
open Go.RowKit
structure Small(o:aw):Prop where
 path:o.path.size≤6
 xp:o.x.path.size≤6
 sl:o.x.cR.length≤1
 cR:∀t∈o.x.cR,t.key.size≤4∧t.aZ.length≤1∧∀v∈t.aZ,v.size≤4
 ll:o.labels.length≤1
 fA:∀p∈o.labels,p.k.size≤4∧p.v.size≤4
theorem uc:aG.size=0:=rfl
theorem OB{l:List bM}(hl:l.length≤1)(h:∀p∈l,p.k.size≤4∧p.v.size≤4):(fB l).size≤38:=by
 unfold fB;cases gl l with
 |false=>rw[uc];omega
 |true=>
  have h1:=bL (av (l.length:Nat));have:=jg (f:=jK) (B:=28) (l:=l) (s:=an (av (l.length:Nat))) fun s p hp=>by
   have h2:=h p hp;have h3:=d_ p.k;have h4:=d_ p.v;unfold jK;rw[aI,aI];omega
  have:28*l.length≤28:=by omega
  dsimp only;omega
theorem Ut{t:Term}(h:t.key.size≤4∧t.aZ.length≤1∧∀v∈t.aZ,v.size≤4):t.put.size≤38:=by
 obtain⟨h1,h2,h3⟩:=h;unfold Term.put;have h4:=d_ t.key;have h5:=bL (av t.n);have h6:=jg (f:=fE) (B:=14) (l:=t.aZ) (s:=bz t.key++an (av t.n)) fun s v hv=>by
  have:=h3 v hv;have:=d_ v;unfold fE;rw[aI];omega
 rw[aI]at h6;have:14*t.aZ.length≤14:=by omega
 omega
theorem UP{l:List Term}(hl:l.length≤1)(h:∀t∈l,t.key.size≤4∧t.aZ.length≤1∧∀v∈t.aZ,v.size≤4):(kH l).size≤48:=by
 unfold kH;cases ig l with
 |false=>rw[uc];omega
 |true=>
  have h1:=bL (av (l.length:Nat));have:=jg (f:=jM) (B:=38) (l:=l) (s:=an (av (l.length:Nat))) fun s t ht=>by
   have:=Ut (h t ht);unfold jM;rw[aI];omega
  have:38*l.length≤38:=by omega
  dsimp only;omega
theorem Xn{x:Spec}(h1:x.path.size≤6)(h2:x.cR.length≤1)(h3:∀t∈x.cR,t.key.size≤4∧t.aZ.length≤1∧∀v∈t.aZ,v.size≤4):x.put.size≤134:=by
 unfold Spec.put;cases decide (x.check=0)with
 |false=>dsimp only;rw[uc];omega
 |true=>
  dsimp only;rw[aI,aI,aI,aI,aI];have:=d_ x.path;have:=iC x.cy;have:=bL (av x.count);have:=bL (av x.prio);have:=bL (av x.cN);have:=UP h2 h3;omega
theorem tz{o:aw}(h:Small o):o.put.size≤320:=by
 unfold aw.put;cases o.right with
 |false=>rw[uc];omega
 |true=>
  dsimp only;unfold aw.bytes;generalize(known o.kind).getD fx.z=f;have a1:=kQ f.id (an (av o.kind)) (an o.id);generalize cat f.id (an (av o.kind)) (an o.id)=b1 at a1⊢;have a2:=kQ f.n b1 (an o.n);generalize cat f.n b1 (an o.n)=b2 at a2⊢;have a3:=kQ f.path b2 (bz o.path);generalize cat f.path b2 (bz o.path)=b3 at a3⊢;have a4:=kQ f.v b3 (cr o.v);generalize cat f.v b3 (cr o.v)=b4 at a4⊢;have a5:=kQ f.x b4 o.x.put;generalize cat f.x b4 o.x.put=b5 at a5⊢;have a6:=kQ f.labels b5 (fB o.labels);have:=bL (av o.kind);have:=bL o.id;have:=bL o.n;have:=d_ o.path;have:=h.path;have:=iC o.v;have:=Xn h.xp h.sl h.cR;have:=OB h.ll h.fA;omega
theorem Small.w8{o:aw}(h:Small o):o.x.Sz:=⟨by have:=h.xp;omega,by have:=h.sl;omega,fun t ht=>by
 have:=h.cR t ht
 have h3:=this.2.2
 exact⟨by omega,by omega,fun v hv=>by have:=h3 v hv;omega⟩⟩
theorem Small.sz{o:aw}(h:Small o):eM o:=⟨by have:=h.path;omega,h.w8,by have:=h.ll;omega,fun p hp=>by have:=h.fA p hp;omega⟩
theorem pR{l:List BA}{n:Nat}(h:∀s∈l,s.size≤n)(i:Nat):(pick l i).size≤n:=by
 unfold pick;cases hi:l[i]? with
 |none=>exact aaF _
 |some s=>exact h s (aau hi)
theorem Small.z:Small aw.z:=⟨aaF _,aaF _,aaF _,fun _ h=>(aaH h).elim,aaF _,fun _ h=>(aaH h).elim⟩
theorem Small.with{o:aw}(h:Small o)(k:Int)(id n:UInt64)(v:V4):Small {o with kind:=k,id:=id,n:=n,v:=v}:=⟨h.path,h.xp,h.sl,h.cR,h.ll,h.fA⟩
theorem wv(x:bf):x.node.size≤6:=pR (by decide) _
theorem I5(x:bf):x.path.size≤6:=pR (by decide) _
theorem Cw(x:bf):x.cR.length≤1∧∀t∈x.cR,t.key.size≤4∧t.aZ.length≤1∧∀v∈t.aZ,v.size≤4:=by
 unfold bf.cR;cases decide (200<x.d.toNat)with
 |false=>exact⟨aaF _,fun _ h=>(aaH h).elim⟩
 |true=>
  refine⟨aas _,fun t ht=>?_⟩;obtain rfl:=aaD.1 ht;refine⟨(by decide:qy.size≤4),aas _,fun v hv=>?_⟩;obtain rfl:=aaD.1 hv;exact(by decide:sA.size≤4)
theorem Lj(x:bf):x.labels.length≤1∧∀p∈x.labels,p.k.size≤4∧p.v.size≤4:=by
 unfold bf.labels;cases decide (0<x.c.toNat%3)with
 |false=>exact⟨aaF _,fun _ h=>(aaH h).elim⟩
 |true=>
  refine⟨aas _,fun t ht=>?_⟩;obtain rfl:=aaD.1 ht;exact⟨(by decide:qy.size≤4),pR (by decide) _⟩
theorem Small.p{p:BA}(h:p.size≤6)(k:Int)(v:V4):Small {aw.z with kind:=k,path:=p,v:=v}:=⟨h,Small.z.xp,Small.z.sl,Small.z.cR,Small.z.ll,Small.z.fA⟩
theorem Rv(x:bf)(k:Nat):Small (x.fr k):=by
 unfold bf.fr;cases decide (k≤4)with
 |true=>exact⟨Small.z.path,pR (by decide) _,(Cw x).1,(Cw x).2,Small.z.ll,Small.z.fA⟩
 |false=>
 dsimp only;cases decide (k=5)with
 |true=>exact Small.z.with _ _ _ _
 |false=>
 dsimp only;cases decide (k=6)with
 |true=>exact .p (I5 x) _ _
 |false=>
 dsimp only;cases decide (k=7)with
 |true=>exact Small.z.with _ _ _ _
 |false=>
 dsimp only;cases decide (k=8)with
 |true=>exact Small.z.with _ _ _ _
 |false=>
 dsimp only;cases decide (k=9)with
 |true=>exact Small.z.with _ _ _ _
 |false=>
 dsimp only;cases decide (k=10)with
 |true=>exact .p (pR (fun s hs=>by
   rcases aaI.1 hs with rfl|hs
   ·exact aaF _
   ·rw[aaD.1 hs];exact I5 x) _) _ _
 |false=>
 dsimp only;cases decide (k=11)with
 |true=>exact .p (wv x) _ _
 |false=>
 dsimp only;cases decide (k=12)with
 |true=>exact Small.z.with _ _ _ _
 |false=>
 dsimp only;cases decide (k≤14)with
 |true=>exact⟨wv x,Small.z.xp,Small.z.sl,Small.z.cR,(Lj x).1,(Lj x).2⟩
 |false=>
 dsimp only;cases decide (k=15)with
 |true=>exact .p (wv x) _ _
 |false=>
 dsimp only;cases decide (k=16)with
 |true=>exact .p (wv x) _ _
 |false=>exact Small.z.with _ _ _ _
theorem jG(x:bf):Small x.op:=Rv x _
structure eu(M:Nat)(x:aU):Prop where
 oH:x.1.kind≠5∧x.1.kind≠6∧x.1.kind≠7
 room:x.1.kind=1→2*(M:Int)≤x.1.n∨iy x.1.key x.1.n=true
 op:Small x.1.o
 ask:∀k o,x.2=some (k,o)→Small o
theorem eu.rL{M:Nat}{x:aU}(h:eu M x):uq M 320 x.1 x.2:=⟨h.oH,h.room,tz h.op,fun k o e=>tz (h.ask k o e)⟩
theorem LP{t:bD}{o:aw}{k:bD}{o':aw}(h:sG t o=some (k,o')):k=t∧o'=o:=by
 unfold sG at h;split at h
 ·cases h;exact⟨rfl,rfl⟩
 ·cases h
theorem ua(M:Nat)(t:bD){o:aw}(h:Small o):eu M (dx t o):=by
 refine⟨⟨by show(4:Int)≠5;decide,by show(4:Int)≠6;decide,by show(4:Int)≠7;decide⟩,fun e=>?_,Small.z,fun k o' e=>?_⟩
 ·exact absurd (show(4:Int)=1 from e) (by decide)
 ·obtain⟨_,rfl⟩:=LP e;exact h
theorem pL(M:Nat)(e:bV)(h5:e.kind≠5∧e.kind≠6∧e.kind≠7)(h1:e.kind=1→2*(M:Int)≤e.n∨iy e.key e.n=true)(ho:Small e.o):eu M (e,none):=⟨h5,h1,ho,fun _ _ h=>by cases h⟩
theorem NI(k:Nat):lz false k≠5∧lz false k≠6∧lz false k≠7:=by
 unfold lz;show(match decide (5≤k)&&decide (k≤7)with|true=>(0:Int)|false=>(k:Int))≠5∧(match decide (5≤k)&&decide (k≤7)with|true=>(0:Int)|false=>(k:Int))≠6∧(match decide (5≤k)&&decide (k≤7)with|true=>(0:Int)|false=>(k:Int))≠7
 cases h:decide (5≤k)&&decide (k≤7)with
 |true=>exact⟨by show(0:Int)≠5;decide,by show(0:Int)≠6;decide,by show(0:Int)≠7;decide⟩
 |false=>
  rw[Bool.and_eq_false_iff,acg,acg]at h;dsimp only;omega
theorem Zp(x:bf):eu 25000 (x.dV false):=by
 unfold bf.dV;generalize x.kind.toNat%24=k;unfold bf.di;rw[adF,adF,adF,adF];cases decide (k<4)with
 |true=>exact pL _ _ ⟨by show(3:Int)≠5;decide,by show(3:Int)≠6;decide,by show(3:Int)≠7;decide⟩ (fun e=>absurd (show(3:Int)=1 from e) (by decide)) Small.z
 |false=>
 dsimp only;cases decide (k=10)with
 |true=>exact pL _ _ ⟨by show(1:Int)≠5;decide,by show(1:Int)≠6;decide,by show(1:Int)≠7;decide⟩ (fun _=>.inl (by show(50000:Int)≤50000;decide)) Small.z
 |false=>
 dsimp only;cases decide (k=11)with
 |true=>exact ua _ _ (jG x)
 |false=>
 dsimp only;cases decide (k=12)with
 |true=>exact ua _ _ (jG x)
 |false=>
 dsimp only;cases decide (k=13)with
 |true=>exact pL _ _ (NI _) (fun _=>.inr rfl) (jG x)
 |false=>
 dsimp only;cases(dn x.op).2 with
 |false=>exact pL _ _ ⟨by show(2:Int)≠5;decide,by show(2:Int)≠6;decide,by show(2:Int)≠7;decide⟩ (fun e=>absurd (show(2:Int)=1 from e) (by decide)) (jG x)
 |true=>exact ua _ _ (jG x)
theorem Be{o:aw}(h:o∈iL):Small o:=by
 unfold iL at h;simp only[aaI,aaH,acQ]at h;rcases h with rfl|rfl|rfl|rfl|rfl|rfl
 ·exact Small.z.with _ _ _ _
 ·exact .p (by decide) _ _
 ·exact .p (by decide) _ _
 ·exact .p (by decide) _ _
 ·exact .p (by decide) _ _
 ·exact .p (by decide) _ _
theorem P6(M:Nat)(name:BA){o:aw}(h:Small o):eu M (ju name o):=by
 unfold ju;cases decide (o.kind=3)with
 |true=>exact ua _ _ h
 |false=>exact pL _ _ ⟨by show(2:Int)≠5;decide,by show(2:Int)≠6;decide,by show(2:Int)≠7;decide⟩ (fun e=>absurd (show(2:Int)=1 from e) (by decide)) h
theorem B0{M:Nat}{size:Int}(hs:2*(M:Int)≤size)(name:BA):∀x∈lZ size name,eu M x:=fun x hx=>by
 rcases aaI.1 hx with rfl|hx
 ·exact pL _ _ ⟨by show(1:Int)≠5;decide,by show(1:Int)≠6;decide,by show(1:Int)≠7;decide⟩ (fun _=>.inl hs) Small.z
 ·obtain⟨o,ho,rfl⟩:=abc.1 hx
  exact P6 M name (Be ho)
theorem FN{M:Nat}{size:Int}(hs:2*(M:Int)≤size):∀x∈opened size,eu M x:=fun x hx=>by
 rcases aaN.1 hx with hx|hx
 ·exact B0 hs _ x hx
 ·rcases aaN.1 hx with hx|hx
  ·exact B0 hs _ x hx
  ·exact B0 hs _ x hx
theorem KJ(M:Nat):eu M fM:=pL _ _ ⟨by show(3:Int)≠5;decide,by show(3:Int)≠6;decide,by show(3:Int)≠7;decide⟩ (fun e=>absurd (show(3:Int)=1 from e) (by decide)) Small.z
abbrev fX(l:List bf):List aU:=lH l false 100000++[fM]
theorem sL(l:List bf):∀x∈fX l,eu 25000 x:=fun x hx=>by
 rcases aaN.1 hx with hx|hx
 ·rcases aaN.1 hx with hx|hx
  ·exact FN (by decide) x hx
  ·obtain⟨y,_,rfl⟩:=abc.1 hx
   exact Zp y
 ·rw[aaD.1 hx];exact KJ _
theorem AW(size:Int):(opened size).length=21:=rfl
theorem wI(l:List bf):(fX l).length≤62:=by
 show(opened 100000++(l.take 40).map (bf.dV false)++[fM]).length≤62
 rw[aap,aap,aao,AW,aax];show 21+min 40 l.length+1≤62
 omega
def iK(m:Nat)(i:List bG):Prop:=∀x∈i,cB m x.s
theorem iK.le{m n:Nat}{i:List bG}(h:iK m i)(hmn:m≤n):iK n i:=fun x hx=>(h x hx).le hmn
theorem Uf(m:Nat):cB m State.new:=by
 refine⟨⟨?_,fun j hj=>(aaH hj).elim,fun j hj=>(aaH hj).elim,aaF _,?_,fun e he=>(aaH he).elim,acY⟩,⟨aaF _,aaF _,by show 1≤16;omega,aaF _,aaF _,aaF _,aaF _,fun j hj=>(aaH hj).elim,fun j hj=>(aaH hj).elim⟩,fun j hj=>(aaH hj).elim⟩
 ·first|trivial|exact List.Pairwise.nil|(constructor)|decide
 ·first|trivial|exact List.Pairwise.nil|(constructor)|decide
theorem yg{m:Nat}{i:List bG}(h:iK m i)(name:BA){f:State→State×aP}{n:Nat}(hmn:m≤n)(hf:∀s,cB m s→cB n (f s).1):iK n (gT i name f).1:=by
 unfold gT;cases hx:i.find? (fun x=>seq x.name name)with
 |none=>exact h.le hmn
 |some x=>
  intro y hy;rcases abr hy with hy|rfl
  ·exact(h y hy).le hmn
  ·exact hf _ (h x (aaW hx))
theorem Ja{m:Nat}{i:List bG}(h:iK m i){f:State→State×aP}{n:Nat}(hf:∀s,cB m s→cB n (f s).1):iK n (oE i f).1:=fun y hy=>by
 obtain⟨x,hx,rfl⟩:=abc.1 (show y∈i.map fun x=>(⟨x.name,x.key,(f x.s).1⟩:bG)from hy)
 exact hf _ (h x hx)
theorem aaf{m:Nat}{i:List bG}(h:iK m i){x:aU}(ho:x.1.o.x.Sz)(hq:∀k o,x.2=some (k,o)→o.x.Sz):iK (m+1024) (fi i x.1 x.2).1:=by
 have hle:=h.le (abj m 1024);obtain⟨e,q⟩:=x;dsimp only at ho hq⊢;unfold fi;cases decide (e.kind=1)with
 |true=>
  show iK _ (lF i e).1
  unfold lF;cases cQ e.aq with
  |false=>exact hle
  |true=>
  dsimp only;cases decide (0≤i_ i e.aq)with
  |true=>exact hle
  |false=>
  dsimp only;cases decide (8≤(i.length:Int))with
  |true=>exact hle
  |false=>
  dsimp only;cases iy e.key e.n with
  |true=>exact hle
  |false=>
   intro y hy;rcases aaN.1 (show y∈i.take _++_::i.drop _ from hy)with hy|hy
   ·exact hle y (aaV hy)
   ·rcases aaI.1 hy with rfl|hy
    ·exact Uf _
    ·exact hle y (aby hy)
 |false=>
 dsimp only;cases decide (e.kind=2)with
 |true=>
  show iK _ (mQ i e).1
  unfold mQ;cases decide (0≤i_ i e.aq)&&!within e.o.kind 9 12 with
  |true=>exact hle
  |false=>exact yg h _ (abj _ _) fun s hs=>Bf hs ho
 |false=>
 dsimp only;cases decide (e.kind=3)with
 |true=>exact Ja h fun s hs=>Bf hs Small.z.w8
 |false=>
 dsimp only;cases decide (e.kind=4)with
 |true=>
  show iK _ (iZ i q).1
  rcases q with _|⟨k,o⟩
  ·exact hle
  unfold iZ;dsimp only;cases i.find? (fun x=>seq x.name k.aq)with
  |none=>exact hle
  |some x=>
  dsimp only;cases k.check x.key with
  |false=>exact hle
  |true=>
  dsimp only;cases decide (gM x.key k o x.s.round=0)with
  |false=>exact hle
  |true=>exact yg h _ (abj _ _) fun s hs=>Bf hs (hq k o rfl)
 |false=>
 dsimp only;cases decide (e.kind=8)with
 |true=>exact(Ja h fun s hs=>hs).le (abj _ _)
 |false=>
 dsimp only;cases decide (e.kind=9)with
 |true=>exact(yg h _ (aas _) fun s hs=>hs).le (abj _ _)
 |false=>exact hle
theorem qP{M:Nat}:∀(l:List aU) {m:Nat} {i:List bG},iK m i→(∀x∈l,eu M x)→iK (m+1024*l.length) (dg i l).1
 | [],m,i,h,_=>h
 |x::l,m,i,h,hl=>by
  have hx:=hl x aaA
  have h1:=aaf h (x:=x) hx.op.w8 fun k o e=>(hx.ask k o e).w8
  have h2:=qP l h1 fun y hy=>hl y (aaz _ hy)
  rw[aaL,show m+1024*(l.length+1)=m+1024+1024*l.length by omega]
  exact h2
theorem za(i:List bG)(name:BA)(f:State→State×aP):(gT i name f).1.length=i.length:=by
 unfold gT;cases i.find? (fun x=>seq x.name name)with
 |none=>rfl
 |some x=>exact aaY ..
theorem Sr(i:List bG)(x:aU):i.length≤(fi i x.1 x.2).1.length:=by
 obtain⟨e,q⟩:=x;dsimp only;unfold fi;cases decide (e.kind=1)with
 |true=>
  show _≤(lF i e).1.length
  unfold lF;cases cQ e.aq with
  |false=>exact aas _
  |true=>
  dsimp only;cases decide (0≤i_ i e.aq)with
  |true=>exact aas _
  |false=>
  dsimp only;cases decide (8≤(i.length:Int))with
  |true=>exact aas _
  |false=>
  dsimp only;cases iy e.key e.n with
  |true=>exact aas _
  |false=>
   show _≤(i.take _++_::i.drop _).length
   rw[aap,aaL,aax,aaO];omega
 |false=>
 dsimp only;cases decide (e.kind=2)with
 |true=>
  show _≤(mQ i e).1.length
  unfold mQ;cases decide (0≤i_ i e.aq)&&!within e.o.kind 9 12 with
  |true=>exact aas _
  |false=>exact abF (za _ _ _).symm
 |false=>
 dsimp only;cases decide (e.kind=3)with
 |true=>exact abF (aao ..).symm
 |false=>
 dsimp only;cases decide (e.kind=4)with
 |true=>
  show _≤(iZ i q).1.length
  rcases q with _|⟨k,o⟩
  ·exact aas _
  unfold iZ;dsimp only;cases i.find? (fun x=>seq x.name k.aq)with
  |none=>exact aas _
  |some x=>
  dsimp only;cases k.check x.key with
  |false=>exact aas _
  |true=>
  dsimp only;cases decide (gM x.key k o x.s.round=0)with
  |false=>exact aas _
  |true=>exact abF (za _ _ _).symm
 |false=>
 dsimp only;cases decide (e.kind=8)with
 |true=>exact abF (aao ..).symm
 |false=>
 dsimp only;cases decide (e.kind=9)with
 |true=>exact abF (za _ _ _).symm
 |false=>exact aas _
theorem E8:∀(l:List aU) (i:List bG),i.length≤(dg i l).1.length
 | [],i=>aas _
 |x::l,i=>aaJ (Sr i x) (E8 l (fi i x.1 x.2).1)
def s_(l:List BA)(name:BA):Int:=idx (fun x:BA=>seq x name) l 0
def qA(l:List BA)(name:BA):Nat:=l.findIdx fun x=>!dL x name
def nL(l:List BA)(e:bV):List BA:=match cQ e.aq with
 |false=>l
 |true=>match decide (0≤s_ l e.aq)with
  |true=>l
  |false=>match decide (8≤(l.length:Int))with
   |true=>l
   |false=>match iy e.key e.n with
    |true=>l
    |false=>l.take (qA l e.aq)++e.aq::l.drop (qA l e.aq)
def nH(l:List BA)(e:bV):List BA:=match decide (e.kind=1)with
 |true=>nL l e
 |false=>l
theorem SR(i:List bG)(name:BA):s_ (i.map bG.name) name=i_ i name:=BO bG.name (fun x=>seq x name) i 0
theorem Ug(i:List bG)(name:BA):qA (i.map bG.name) name=rK i name:=by
 unfold qA rK;rw[List.findIdx_map];rfl
theorem H'{α:Type}(p:α→Bool):∀(l:List α) (k:Nat),idx p l k=-1∨∃m:Nat,idx p l k=((k+m:Nat):Int)∧∃x,l[m]? = some x∧l.find? p=some x
 | [],_=>.inl rfl
 |x::l,k=>by
  unfold idx
  cases h:p x with
  |true=>exact .inr ⟨0,rfl,x,rfl,by simp[h]⟩
  |false=>
   rcases H' p l (k+1)with h1|⟨m,h1,y,h2,h3⟩
   ·exact .inl h1
   ·exact .inr ⟨m+1,by show idx p l (k+1:Nat)=_;rw[h1];congr 1;omega,y,h2,by simp[h,h3]⟩
theorem yY(i:List bG)(name:BA)(f:State→State×aP):(gT i name f).1.map bG.name=i.map bG.name:=by
 unfold gT i_;rcases H' (fun x:bG=>seq x.name name) i 0 with h|⟨m,h1,x,h2,h3⟩
 ·cases hx:i.find? (fun x=>seq x.name name)with
  |none=>rfl
  |some x=>
   exfalso;obtain⟨hp,hm⟩:=And.intro (acs hx) (aaW hx);have key:∀(l:List bG) (k:Nat),x∈l→idx (fun x:bG=>seq x.name name) l k≠-1:=by
    intro l;induction l with
    |nil=>intro k h;exact(aaH h).elim
    |cons y l ih=>
     intro k hy;unfold idx;cases hq:seq y.name name with
     |true=>dsimp only;omega
     |false=>
      dsimp only;rcases aaI.1 hy with rfl|hy
      ·rw[hp]at hq;cases hq
      ·exact ih (k+1) hy
   exact key i 0 hm h
 ·show(match i.find? (fun x:bG=>seq x.name name)with|none=>((i,say aG 16):kp)|some x=>_).1.map bG.name=_
  rw[h3,show idx (fun x:bG=>seq x.name name) i 0=((0+m:Nat):Int)from h1,aav,abk];show(i.set m ⟨x.name,x.key,(f x.s).1⟩).map bG.name=_
  rw[List.map_set];apply acG;intro j;rw[acd];split
  ·rename_i e;subst e;rw[aaT,h2];split
   ·rfl
   ·rename_i hlt;rw[aao]at hlt;exact absurd (aaq.1 h2).1 hlt
  ·rfl
theorem V3(i:List bG)(x:aU):(fi i x.1 x.2).1.map bG.name=nH (i.map bG.name) x.1:=by
 obtain⟨e,q⟩:=x;dsimp only;unfold fi nH;cases decide (e.kind=1)with
 |true=>
  show(lF i e).1.map bG.name=nL (i.map bG.name) e
  unfold lF nL;rw[SR,Ug,aao];cases cQ e.aq with
  |false=>rfl
  |true=>
  dsimp only;cases decide (0≤i_ i e.aq)with
  |true=>rfl
  |false=>
  dsimp only;cases decide (8≤(i.length:Int))with
  |true=>rfl
  |false=>
  dsimp only;cases iy e.key e.n with
  |true=>rfl
  |false=>
   show(i.take _++_::i.drop _).map bG.name=_
   rw[aaC,aaZ,acB,adr]
 |false=>
 dsimp only;cases decide (e.kind=2)with
 |true=>
  show(mQ i e).1.map bG.name=_
  unfold mQ;cases decide (0≤i_ i e.aq)&&!within e.o.kind 9 12 with
  |true=>rfl
  |false=>exact yY _ _ _
 |false=>
 dsimp only;have each:∀f:State→State×aP,(oE i f).1.map bG.name=i.map bG.name:=fun f=>by
  show(i.map _).map _=_
  rw[abX];rfl
 cases decide (e.kind=3)with
 |true=>exact each _
 |false=>
 dsimp only;cases decide (e.kind=4)with
 |true=>
  show(iZ i q).1.map bG.name=_
  rcases q with _|⟨k,o⟩
  ·rfl
  unfold iZ;dsimp only;cases i.find? (fun x=>seq x.name k.aq)with
  |none=>rfl
  |some x=>
  dsimp only;cases k.check x.key with
  |false=>rfl
  |true=>
  dsimp only;cases decide (gM x.key k o x.s.round=0)with
  |false=>rfl
  |true=>exact yY _ _ _
 |false=>
 dsimp only;cases decide (e.kind=8)with
 |true=>exact each _
 |false=>
 dsimp only;cases decide (e.kind=9)with
 |true=>exact yY _ _ _
 |false=>rfl
theorem DP:∀(l:List aU) (i:List bG),(dg i l).1.map bG.name=(l.map Prod.fst).foldl nH (i.map bG.name)
 | [],_=>rfl
 |x::l,i=>by
  show(dg (fi i x.1 x.2).1 l).1.map bG.name=_
  rw[DP l,V3]
  rfl
theorem oZ:cQ sA=true:=by kernel_rfl
theorem xE:cQ sB=true:=by kernel_rfl
theorem Iw:cQ jU=true:=by kernel_rfl
theorem YE{l:List BA}{e:bV}(h:e.kind≠1):nH l e=l:=by
 unfold nH;rw[aar h]
theorem J9:∀(es:List bV) (l:List BA),(∀e∈es,e.kind≠1)→es.foldl nH l=l
 | [],_,_=>rfl
 |e::es,l,h=>by
  rw[acj,YE (h e aaA)]
  exact J9 es l fun x hx=>h x (aaz _ hx)
theorem N9(name:BA)(o:aw):(ju name o).1.kind≠1:=by
 unfold ju;cases decide (o.kind=3)with
 |true=>show(4:Int)≠1;decide
 |false=>show(2:Int)≠1;decide
theorem Ao(size:Int)(name:BA)(l:List BA):((lZ size name).map Prod.fst).foldl nH l=nL l {bV.z with kind:=1,aq:=name,key:=cG++name,n:=size}:=by
 unfold lZ;rw[aaZ,acj,J9 _ _ fun e he=>?_]
 ·unfold nH;rw[aaB (by rfl)]
 ·obtain⟨x,hx,rfl⟩:=abc.1 he;obtain⟨o,_,rfl⟩:=abc.1 hx;exact N9 name o
theorem Ck{l:List BA}{e:bV}{k:Nat}(h1:cQ e.aq=true)(h2:s_ l e.aq=-1)(h3:l.length<8)(h4:iy e.key e.n=false)(h5:qA l e.aq=k):nL l e=l.take k++e.aq::l.drop k:=by
 unfold nL;rw[h1,h2,h4,h5];dsimp only;rw[aar (by decide),aar (by omega)]
theorem zt{name:BA}{n:Int}(h1:name.size≤32)(h2:1≤n∧n≤1048576):iy (cG++name) n=false:=by
 unfold iy;rw[aI,show cG.size=3 from rfl,aar (by omega),aar (by omega),aar (by omega),aar (by omega)];rfl
theorem Xg{size:Int}(h:1≤size∧size≤1048576):((opened size).map Prod.fst).foldl nH []=[sA,sB,jU]:=by
 unfold opened;rw[aaC,aaC,abw,abw,Ao,Ao,Ao];have e1:nL [] {bV.z with kind:=1,aq:=sA,key:=cG++sA,n:=size}=[sA]:=(Ck (k:=0) oZ rfl (by decide) (zt (by decide) h) rfl).trans rfl;have e2:nL [sA] {bV.z with kind:=1,aq:=sB,key:=cG++sB,n:=size}=[sA,sB]:=by
  have h1:s_ [sA] sB=-1:=by kernel_rfl
  have h2:qA [sA] sB=1:=by kernel_rfl
  exact Ck (l:=[sA]) (k:=1) xE h1 (by decide) (zt (by decide) h) h2
 have e3:nL [sA,sB] {bV.z with kind:=1,aq:=jU,key:=cG++jU,n:=size}=[sA,sB,jU]:=by
  have h1:s_ [sA,sB] jU=-1:=by kernel_rfl
  have h2:qA [sA,sB] jU=2:=by kernel_rfl
  exact Ck (l:=[sA,sB]) (k:=2) Iw h1 (by decide) (zt (by decide) h) h2
 rw[e1,e2,e3]
theorem Up(size:Int)(h:1≤size∧size≤1048576):(dg [] (opened size)).1.length=3:=by
 have h1:=congrArg List.length (DP (opened size) []);rw[aao]at h1;rw[h1];exact congrArg List.length (Xg h)
theorem OX(a l:List aU)(h:3≤(dg [] a).1.length):3≤(dg [] (a++l)).1.length:=by
 have e:dg [] (a++l)=((dg (dg [] a).1 l).1,(dg [] a).2++(dg (dg [] a).1 l).2):=vn _ _ _ _;rw[e];exact aaJ h (E8 l (dg [] a).1)
theorem three(l:List aU):3≤(dg [] (opened 100000++l)).1.length:=OX (opened 100000) l (abF (Up 100000 (by decide)).symm)
theorem ZQ:gI.right=true:=by decide
theorem Zu(l:List aU)(h:∀x∈l,eu 25000 x):∀x∈(dg [] (l++[fM])).1,nQ x.s:=by
 have e:dg [] (l++[fM])=((dg (dg [] l).1 [fM]).1,(dg [] l).2++(dg (dg [] l).1 [fM]).2):=vn _ _ _ _;rw[e];have hok:=qP l (m:=0) (i:=[]) (fun x hx=>(aaH hx).elim) h;intro x hx;have hx:x∈(dg [] l).1.map fun y=>(⟨y.name,y.key,(apply y.s gI).1⟩:bG):=hx
 obtain⟨y,hy,rfl⟩:=abc.1 hx;show nQ (apply y.s gI).1
 rw[(SL y.s ZQ).1];exact(Jm (hok y hy).inv).2
theorem LX(name:BA):(dK name).fits=true:=rfl
theorem xw(name:BA):(dK name).aq=name:=rfl
theorem Ls(name:BA):(dK name).check (cG++name)=true:=by
 unfold bD.check;rw[LX];exact jJ.2 rfl
theorem O8{name:BA}(h:cQ name=true):(dK name).may=true:=by
 unfold bD.may;rw[xw,h,LX];exact aaB (by rw[show(dK name).sig=Mc.jc (cG++name) name from rfl,Mc.qx];rfl)
def Keyed(i:List bG):Prop:=∀x∈i,x.key=cG++x.name
inductive JE where
 |dV (e:bV)
 |dA (name:BA) (o:aw)
def JE.bF:JE→aU
 |.dV e=>(e,none)
 |.dA name o=>({bV.z with kind:=4,bytes:=kr (dK name) o},some (dK name,o))
def qo(i:List bG):JE→kp
 |.dV e=>fi i e none
 |.dA name o=>match i.find? (fun x=>seq x.name name)with
  |none=>(i,say aG 16)
  |some _=>match(dn o).2 with
   |false=>(i,say name 14)
   |true=>gT i name fun s=>apply s o
theorem V8{i:List bG}{e:bV}{q:rY}(h:e.kind=4):fi i e q=iZ i q:=by
 unfold fi;rw[h,aar (by decide),aar (by decide),aar (by decide),aaB (by rfl)]
theorem XR(name:BA)(a b:UInt64):(dK name).oP a b=true:=by
 unfold bD.oP;rw[show(dK name).bn=[]from rfl];rfl
theorem Th{key:BA}{t:bD}{o:aw}{r:UInt64}(h1:t.check key=true)(h2:∀a b,t.oP a b=true):gM key t o r=match(dn o).2 with|false=>14|true=>0:=by
 unfold gM;rw[h1];dsimp only;rcases dn o with⟨r',b⟩
 cases b with
 |false=>rfl
 |true=>dsimp only;rw[h2]
theorem U4{i:List bG}{k:bD}{name:BA}{o:aw}{x:bG}(ht:k.aq=name)(hx:i.find? (fun x:bG=>seq x.name name)=some x)(hc:k.check x.key=true)(h2:∀a b,k.oP a b=true):iZ i (some (k,o))=match(dn o).2 with|false=>(i,say name 14)|true=>gT i name fun s=>apply s o:=by
 unfold iZ;dsimp only;rw[ht,hx];dsimp only;rw[hc];dsimp only;rw[Th hc h2];cases(dn o).2<;>rfl
theorem Sx{i:List bG}{k:bD}{name:BA}{o:aw}(ht:k.aq=name)(hx:i.find? (fun x:bG=>seq x.name name)=none):iZ i (some (k,o))=(i,say aG 16):=by
 unfold iZ;dsimp only;rw[ht,hx]
theorem O9{i:List bG}{name:BA}{o:aw}(hx:i.find? (fun x:bG=>seq x.name name)=none):qo i (.dA name o)=(i,say aG 16):=by
 unfold qo;dsimp only;rw[hx]
theorem SC{i:List bG}{name:BA}{o:aw}{x:bG}(hx:i.find? (fun x:bG=>seq x.name name)=some x):qo i (.dA name o)=match(dn o).2 with|false=>(i,say name 14)|true=>gT i name fun s=>apply s o:=by
 unfold qo;dsimp only;rw[hx]
theorem XM(i:List bG)(name:BA)(o:aw):fi i (JE.dA name o).bF.1 (JE.dA name o).bF.2=iZ i (some (dK name,o)):=by
 unfold JE.bF;dsimp only;exact V8 rfl
theorem Xt{i:List bG}(hi:Keyed i)(j:JE):fi i j.bF.1 j.bF.2=qo i j:=by
 cases j with
 |dV e=>rfl
 |dA name o=>
  rw[XM];cases hx:i.find? (fun x:bG=>seq x.name name)with
  |none=>rw[Sx (xw name) hx,O9 hx]
  |some x=>
   have hq:=acs hx;have hk:x.key=cG++name:=by rw[hi x (aaW hx),jJ.1 hq]
   rw[U4 (xw name) hx (by rw[hk];exact Ls name) (XR name),SC hx]
theorem A8{i:List bG}(h:Keyed i)(name:BA)(f:State→State×aP):Keyed (gT i name f).1:=by
 unfold gT;cases hx:i.find? (fun x=>seq x.name name)with
 |none=>exact h
 |some x=>
  intro y hy;rcases abr hy with hy|rfl
  ·exact h y hy
  ·exact h x (aaW hx)
theorem Ip{i:List bG}(h:Keyed i)(f:State→State×aP):Keyed (oE i f).1:=fun y hy=>by
 obtain⟨x,hx,rfl⟩:=abc.1 (show y∈i.map fun x=>(⟨x.name,x.key,(f x.s).1⟩:bG)from hy)
 exact h x hx
theorem K7{i:List bG}(h:Keyed i){j:JE}(hj:∀e,j=.dV e→e.kind=1→e.key=cG++e.aq):Keyed (qo i j).1:=by
 cases j with
 |dA name o=>
  show Keyed (match i.find? (fun x:bG=>seq x.name name)with
   |none=>((i,say aG 16):kp)
   |some _=>match(dn o).2 with
    |false=>(i,say name 14)
    |true=>gT i name fun s=>apply s o).1
  cases i.find? (fun x=>seq x.name name)with
  |none=>exact h
  |some _=>
  dsimp only;cases(dn o).2 with
  |false=>exact h
  |true=>exact A8 h _ _
 |dV e=>
  have hj:=hj e rfl;show Keyed (fi i e none).1
  unfold fi;cases hk:decide (e.kind=1)with
  |true=>
   have hj:=hj (aat hk);show Keyed (lF i e).1
   unfold lF;cases cQ e.aq with
   |false=>exact h
   |true=>
   dsimp only;cases decide (0≤i_ i e.aq)with
   |true=>exact h
   |false=>
   dsimp only;cases decide (8≤(i.length:Int))with
   |true=>exact h
   |false=>
   dsimp only;cases iy e.key e.n with
   |true=>exact h
   |false=>
    intro y hy;rcases aaN.1 (show y∈i.take _++_::i.drop _ from hy)with hy|hy
    ·exact h y (aaV hy)
    ·rcases aaI.1 hy with rfl|hy
     ·exact hj
     ·exact h y (aby hy)
  |false=>
  dsimp only;cases decide (e.kind=2)with
  |true=>
   show Keyed (mQ i e).1
   unfold mQ;cases decide (0≤i_ i e.aq)&&!within e.o.kind 9 12 with
   |true=>exact h
   |false=>exact A8 h _ _
  |false=>
  dsimp only;cases decide (e.kind=3)with
  |true=>exact Ip h _
  |false=>
  dsimp only;cases decide (e.kind=4)with
  |true=>exact h
  |false=>
  dsimp only;cases decide (e.kind=8)with
  |true=>exact Ip h _
  |false=>
  dsimp only;cases decide (e.kind=9)with
  |true=>exact A8 h _ _
  |false=>exact h
def gz:List bG→List JE→List bG×List (List cw)
 |i,[]=>(i,[])
 |i,j::l=>match qo i j with
  |(d,r)=>match gz d l with
   |(e,rs)=>(e,r::rs)
theorem sj:∀(l:List JE) {i:List bG},Keyed i→(∀j∈l,∀e,j=.dV e→e.kind=1→e.key=cG++e.aq)→dg i (l.map JE.bF)=gz i l
 | [],i,_,_=>rfl
 |j::l,i,h,hl=>by
  have h1:=sj l (K7 h (hl j aaA)) fun y hy=>hl y (aaz _ hy)
  have e:dg i ((j::l).map JE.bF)=((dg (fi i j.bF.1 j.bF.2).1 (l.map JE.bF)).1,(fi i j.bF.1 j.bF.2).2::(dg (fi i j.bF.1 j.bF.2).1 (l.map JE.bF)).2):=rfl
  rw[e,Xt h j,h1]
  rfl
theorem vR:Lay cw.pv 15:=⟨fun _=>⟨rfl,rfl⟩,fun _=>rfl,fun _ _ _=>rfl⟩
abbrev fF(r:lX):PV:=.aK [sl aJ.pv r.1,sl cw.pv r.2]
theorem Ye(n:aJ)(name:BA):PC 113 [n.pv,.ip [st name] 0] (·=bo (seq n.name name)):=al Tryz.func113<|ae.is _ rfl<|ab
theorem tX(c:List aJ)(name:BA)(hl:c.length≤67108864):PC 49 [sl aJ.pv c,st name] (·=i64 (gN c name)):=al Tryz.func49<|af (Co cA.one c (fun n=>seq n.name name) hl fun n _=>Ye n name) rfl<|ab
theorem E2(c:List aJ)(name:BA):(gN c name=-1∧c.find? (fun n=>seq n.name name)=none)∨∃(k:Nat) (n:aJ),gN c name=(k:Int)∧c[k]? = some n∧c.find? (fun n=>seq n.name name)=some n:=by
 unfold gN;rcases l9 (fun n:aJ=>seq n.name name) c 0 with⟨h1,h2⟩|⟨m,x,h1,h2,h3⟩
 ·exact .inl ⟨h1,h2⟩
 ·exact .inr ⟨m,x,h1.trans (by rw[aav]),h2,h3⟩
theorem wR(c:List aJ)(name:BA)(hl:c.length≤67108864):PC 20 [sl aJ.pv c,st name] (·=.aK [(ic c name).1.pv,bo (ic c name).2]):=by
 refine al Tryz.func20<|af (tX c name hl) rfl ?_;unfold ic;rcases E2 c name with⟨h1,h2⟩|⟨m,n,h1,h2,h3⟩
 ·rw[h1,h2];exact ae.t (by decide)<|ah<|ab
 ·rw[h1,h3];exact ae.f (by omega)<|aa<|bx h2<|ab
theorem jI(name:BA)(e:Int):PC 35 [st name,i64 e] (·=sl cw.pv (say name e)):=al Tryz.func35<|ab
theorem CX(c:List aJ)(k:Nat)(n:aJ)(hk:c[k]? = some n)(hl:c.length≤67108864){g:Nat}{cs:List PV}(hc:cA cs)(f:aE→aE×aP)(hf:PC g (n.t.pv::cs) (·=.aK [(f n.t).1.pv,(f n.t).2.pv])):PC 157 [sl aJ.pv c,i64 k,.fn g cs] (·=.aK [sl aJ.pv (c.set k ⟨n.name,(f n.t).1⟩),cw.pv ⟨n.name,(f n.t).2⟩]):=by
 have hm:k<c.length:=(aaq.1 hk).1
 have hr:PV.c9 (c.map aJ.pv) (0+k) (aJ.pv ⟨n.name,(f n.t).1⟩)=(c.set k ⟨n.name,(f n.t).1⟩).map aJ.pv:=by rw[aav];exact mg aJ.pv c k _
 rcases hc with rfl|⟨a,rfl⟩|⟨a,b,rfl⟩<;>
 ·refine al Tryz.func157 ?_
  refine bx hk ?_
  refine af hf rfl ?_
  refine a_.bB [] (n:=200) (Ag c hl _) rfl trivial ?_
  refine ak.mk ⟨by omega,by omega⟩ ?_
  refine bx (i:=0+k) (by rw[aav];exact hk) ?_
  refine bx hk ?_
  refine ar ?_
  exact⟨(c.set k ⟨n.name,(f n.t).1⟩).length+100,_,_,.inl (aN (cT (l:=c.set k ⟨n.name,(f n.t).1⟩) rfl hr jX.br (aaY ..).symm rfl) (aN rfl rfl)),rfl⟩
theorem yd(c:List aJ)(name:BA)(hl:c.length≤67108864){g:Nat}{cs:List PV}(hc:cA cs)(f:aE→aE×aP)(hf:∀n∈c,PC g (n.t.pv::cs) (·=.aK [(f n.t).1.pv,(f n.t).2.pv])):PC 79 [sl aJ.pv c,st name,.fn g cs] (·=fF (gG c name f)):=by
 unfold gG;rcases E2 c name with⟨h1,h2⟩|⟨m,n,h1,h2,h3⟩
 ·rw[h2];have hct:=tX c name hl;rw[h1]at hct;rcases hc with rfl|⟨a,rfl⟩|⟨a,b,rfl⟩<;>
  ·exact al Tryz.func79<|af hct rfl<|ae.t (by decide)<|ah<|af (jI aG 16) rfl<|ab
 ·rw[h3];have hct:=tX c name hl;rw[h1]at hct;have hch:=CX c m n h2 hl hc f (hf n (aau h2));rw[h1];rcases hc with rfl|⟨a,rfl⟩|⟨a,b,rfl⟩<;>
  ·exact al Tryz.func79<|af hct rfl<|ae.f (by omega)<|aa<|af hch rfl<|ar<|ab
def iD(c:List aJ)(f:aE→aE×aP)(q:Nat):List aJ:=(c.take q).map (fun n=>⟨n.name,(f n.t).1⟩)++c.drop q
def kb(c:List aJ)(f:aE→aE×aP)(q:Nat):List cw:=(c.take q).map fun n=>⟨n.name,(f n.t).2⟩
theorem Pj{c:List aJ}{f:aE→aE×aP}{q:Nat}{n:aJ}(h:c[q]? = some n):iD c f (q+1)=(iD c f q).set q ⟨n.name,(f n.t).1⟩∧(iD c f q)[q]? = some n∧(iD c f q).length=c.length:=by
 obtain⟨hlt,rfl⟩:=aaq.1 h;have hlen:((c.take q).map fun n:aJ=>(⟨n.name,(f n.t).1⟩:aJ)).length=q:=by rw[aao,aax];omega
 unfold iD;rw[aaX hlt];refine⟨?_,?_,?_⟩
 ·rw[eC h,aaC,List.set_append_right _ _ (by omega),hlen,acn,abd];rfl
 ·rw[abf (by omega),hlen,acn];rfl
 ·rw[aap,hlen,aaL,aaO];omega
theorem ym(c:List aJ)(hl:c.length≤60000000){g:Nat}{cs:List PV}(hc:cA cs)(f:aE→aE×aP)(hf:∀n∈c,PC g (n.t.pv::cs) (·=.aK [(f n.t).1.pv,(f n.t).2.pv])):PC 76 [sl aJ.pv c,.fn g cs] (·=fF (j2 c f)):=by
 have hend:j2 c f=(iD c f c.length,kb c f c.length):=by
  unfold j2 iD kb;rw[aaM,abZ,abe]
 have hch:∀k n,c[k]? = some n→PC 157 [sl aJ.pv (iD c f k),i64 k,.fn g cs] (·=.aK [sl aJ.pv (iD c f (k+1)),cw.pv ⟨n.name,(f n.t).2⟩]):=fun k n hn=>by
  have hs:=Pj (f:=f) hn;rw[hs.1];exact CX (iD c f k) k n hs.2.1 (by rw[hs.2.2];omega) hc f (hf n (aau hn))
 rw[hend];rcases hc with rfl|⟨a,rfl⟩|⟨a,b,rfl⟩<;>
 ·refine al Tryz.func76<|iO.grow [(6,15,97)] ⟨rfl,trivial⟩<|mb c.length (.of (fun q=>(iD c f q,kb c f q)) (fun p=>[(0,sl aJ.pv p.1),(6,.aH 6 0 p.2.length)]) [1,10,11] (fun p=>[(6,.rows 15 (p.2.map cw.pv) true none 97)]) []) (fun _=>True) trivial ?_ (fun k hk hj=>?_) (fun hj=>?_)
  ·exact bY rfl (vR.bP _)
  ·obtain⟨n,hn⟩:=get_at hk;have hc1:=hch k n hn;have hr1:kb c f (k+1)=kb c f k++[⟨n.name,(f n.t).2⟩]:=by unfold kb;rw[eC hn,aaC];rfl
   have hrl:(kb c f k).length≤k:=by unfold kb;rw[aao,aax];omega
   obtain⟨D,hD⟩:∃D,iD c f k=D:=⟨_,rfl⟩;obtain⟨D2,hD2⟩:∃D,iD c f (k+1)=D:=⟨_,rfl⟩;obtain⟨R,hR⟩:∃R,kb c f k=R:=⟨_,rfl⟩;rw[hR]at hr1 hrl;rw[hD,hD2]at hc1;have hL:(fun q=>(iD c f q,kb c f q)) k=(D,R):=by rw[← hD,← hR]
   have hL2:(fun q=>(iD c f q,kb c f q)) (k+1)=(D2,R++[⟨n.name,(f n.t).2⟩]):=by rw[← hD2,← hr1]
   rw[bR hL];refine af hc1 rfl<|db.l (ak.mk (dS vR R ⟨n.name,(f n.t).2⟩ (by omega)) ?_);exact bA.of (sw 6 24) hL2 trivial rfl<|gS ⟨⟨rfl,rfl⟩,⟨by show _=some (PV.aH _ 0 (R++[_]).length);rw[aap];rfl,rfl⟩,trivial⟩ ⟨⟨BB.aO (by show _=some (aA.rows 15 ((R++[_]).map cw.pv) true none _);rw[aaC];rfl) (vR.bP _),rfl⟩,trivial⟩
  ·obtain⟨D,hD⟩:∃D,iD c f c.length=D:=⟨_,rfl⟩;obtain⟨R,hR⟩:∃R,kb c f c.length=R:=⟨_,rfl⟩;have hL:(fun q=>(iD c f q,kb c f q)) c.length=(D,R):=by rw[← hD,← hR]
   rw[bR hL,hD,hR];exact⟨R.length+100,_,_,.inl (aN rfl (aN (cT (l:=R) rfl rfl vR.br rfl rfl) rfl)),rfl⟩
abbrev mJ(t:aE)(o:aw):Prop:=PC 159 [t.pv,o.pv] (·=.aK [(t.do o).1.pv,(t.do o).2.pv])
theorem GL{t:aE}{o:aw}(h:mJ t o):PC 158 [t.pv,.ip o.pv.cells 0] (·=.aK [(t.do o).1.pv,(t.do o).2.pv]):=al Tryz.func158<|af h rfl<|ab
theorem wH(o:aw):PC 77 [o.pv] (·=.fn 158 [.ip o.pv.cells 0]):=al Tryz.func77<|ab
theorem G2(c:List aJ)(name:BA)(hl:c.length≤67108864)(o:aw)(h:∀n∈c,mJ n.t o):PC 79 [sl aJ.pv c,st name,.fn 158 [.ip o.pv.cells 0]] (·=fF (gG c name fun t=>t.do o)):=
 yd c name hl cA.one (fun t=>t.do o) fun n hn=>GL (h n hn)
theorem WY(n:aJ)(e:bV):PC 153 [n.pv,.ip e.pv.cells 0] (·=bo (!dL n.name e.aq)):=al Tryz.func153<|ae.is (dL n.name e.aq) rfl<|ab
theorem OA(c:List aJ)(e:bV)(hl:c.length≤60000000)(ht:e.aq.size≤1000000):PC 71 [sl aJ.pv c,e.pv] (·=fF (nl c e)):=by
 refine al Tryz.func71<|af (mm e.aq (by omega)) rfl ?_;unfold nl;cases cQ e.aq with
 |false=>
  exact ah<|af (jI e.aq 6) rfl<|ab
 |true=>
 refine aa<|af (tX c e.aq (by omega)) rfl ?_;dsimp only;refine ae.two (fun h1=>?_) (fun h1=>?_)
 ·rw[show decide (0≤gN c e.aq)=true from h1];exact ah<|af (jI e.aq 8) rfl<|ab
 rw[show decide (0≤gN c e.aq)=false from h1];refine aa ?_;dsimp only;have hml:((c.map aJ.pv).length:Int)=(c.length:Int):=by rw[aao]
 refine ae.two (fun h2=>?_) (fun h2=>?_)
 ·rw[hml]at h2;rw[h2];exact ah<|af (jI e.aq 9) rfl<|ab
 rw[hml]at h2;rw[h2];refine aa ?_;dsimp only;have hj:=QN e.key e.n;rcases hx:aE.new e.key e.n with⟨t,no⟩
 rw[hx]at hj;dsimp only;refine af hj rfl<|ae.two (fun h3=>?_) (fun h3=>?_);case refine_2=>
  rw[show decide (no=0)=false from h3];exact ah<|af (jI e.aq no) rfl<|ab
 rw[show decide (no=0)=true from h3];refine aa<|af (Co cA.one c (fun n=>!dL n.name e.aq) (by omega) fun n _=>WY n e) rfl ?_;have hlen:∀i,i≤c.length→c.length+1=(c.take i++(⟨e.aq,t⟩:aJ)::c.drop i).length:=fun i hi=>by rw[aap,aaL,aax,aaO];omega
 rcases tl (fun n:aJ=>!dL n.name e.aq) c 0 with⟨h6,h7⟩|⟨m,h6,h7,h8⟩
 ·have h6:idx (fun n:aJ=>!dL n.name e.aq) c 0=-1:=h6;rw[h6,show kS c e.aq=c.length from h7];refine ae.t (by decide)<|ah<|dy.bB [] (n:=200) (Ag c (by omega) _) rfl trivial ?_;have hml2:(c.map aJ.pv).length=c.length:=aao ..;have hins:∀nx,Nat.beq nx 41=false→LC 154 [.aH 41 0 c.length,i64 ((c.map aJ.pv).length:Nat),.sl false [aJ.pv ⟨e.aq,t⟩]] [(41,.rows 23 (c.map aJ.pv) true none 78)] nx fun r d=>r=.aH nx 0 (c.length+1)∧d=[(nx,some (.rows 23 ((c.take c.length++⟨e.aq,t⟩::c.drop c.length).map aJ.pv) true none 78)),(41,none)]:=by
   rw[hml2];exact JA c c.length ⟨e.aq,t⟩ (aas _) (by omega) 41
  exact dy.bB [41] (n:=200) (hins _ rfl) rfl ⟨rfl,trivial⟩<|ay (jI e.aq 0) rfl<|ar<|⟨(c.take c.length++(⟨e.aq,t⟩:aJ)::c.drop c.length).length+100,_,_,.inl (aN (cT (l:=c.take c.length++⟨e.aq,t⟩::c.drop c.length) rfl rfl jX.br (hlen c.length (aas _)) rfl) (aN rfl rfl)),rfl⟩
 ·have h6:idx (fun n:aJ=>!dL n.name e.aq) c 0=(m:Int):=h6.trans (by rw[aav]);rw[h6,show kS c e.aq=m from h7];refine ae.f (by omega)<|aa<|dy.bB [] (n:=200) (Ag c (by omega) _) rfl trivial<|dy.bB [38] (n:=200) (JA c m ⟨e.aq,t⟩ (by omega) (by omega) 38 _ rfl) rfl ⟨rfl,trivial⟩ ?_;exact ay (jI e.aq 0) rfl<|ar<|⟨(c.take m++(⟨e.aq,t⟩:aJ)::c.drop m).length+100,_,_,.inl (aN (cT (l:=c.take m++⟨e.aq,t⟩::c.drop m) rfl rfl jX.br (hlen m (by omega)) rfl) (aN rfl rfl)),rfl⟩
theorem Vf(c:List aJ)(e:bV)(hl:c.length≤60000000)(h:∀n∈c,mJ n.t e.o):PC 72 [sl aJ.pv c,e.pv] (·=fF (qb c e)):=by
 have h1:=G2 c e.aq (by omega) e.o h;have hct:=tX c e.aq (by omega);unfold qb;cases ha:decide (0≤gN c e.aq)with
 |false=>
  exact al Tryz.func72<|af hct rfl<|ae.is false ha<|aa<|ay (wH e.o) rfl<|ay h1 rfl<|ar<|ab
 |true=>
 cases hb:decide (e.o.kind<9)with
 |true=>
  have hw:within e.o.kind 9 12=false:=by
   unfold within;have:=aat hb;rw[aar (by omega)]
  rw[hw];exact al Tryz.func72<|af hct rfl<|ae.is true ha<|ae.is true hb<|ah<|af (jI e.aq 14) rfl<|ab
 |false=>
 have hw:within e.o.kind 9 12=!decide (12<e.o.kind):=by
  unfold within;have:=aaw hb;rw[aaB (by omega)];cases hk:decide (12<e.o.kind)with
  |true=>have:=aat hk;exact aar (by omega)
  |false=>have:=aaw hk;exact aaB (by omega)
 rw[hw];cases hk:decide (12<e.o.kind)with
 |true=>
  exact al Tryz.func72<|af hct rfl<|ae.is true ha<|ae.is false hb<|ae.is true hk<|ah<|af (jI e.aq 14) rfl<|ab
 |false=>
  exact al Tryz.func72<|af hct rfl<|ae.is true ha<|ae.is false hb<|ae.is false hk<|aa<|ay (wH e.o) rfl<|ay h1 rfl<|ar<|ab
theorem VM(c:List aJ)(e:bV)(q:rY)(hl:c.length≤60000000)(hq:PC 133 [st e.bytes] (·=ot q))(hk:∀n∈c,n.t.key.size≤1000000)(ht:∀k o,q=some (k,o)→k.aq.size≤1000000∧k.bn.length≤1000)(h:∀k o,q=some (k,o)→∀n∈c,mJ n.t o):PC 73 [sl aJ.pv c,e.pv] (·=fF (nf c q)):=by
 rcases q with _|⟨k,o⟩
 ·exact al Tryz.func73<|af hq rfl<|ah<|af (jI aG 2) rfl<|ab
 have⟨ht1,ht2⟩:=ht k o rfl;have hf:=wR c k.aq (by omega);have hdo:=G2 c k.aq (by omega) o (h k o rfl);unfold nf;dsimp only;rcases hx:ic c k.aq with⟨t,b⟩
 rw[hx]at hf;have htk:t.key.size≤1000000:=by
  unfold ic at hx;cases hy:c.find? (fun n=>seq n.name k.aq)with
  |none=>rw[hy]at hx;cases hx;exact aaF _
  |some n=>rw[hy]at hx;cases hx;exact hk n (aaW hy)
 cases b with
 |false=>
  exact al Tryz.func73<|af hq rfl<|aa<|af hf rfl<|ah<|af (jI aG 16) rfl<|ab
 |true=>
 dsimp only;have hc:=BJ t.key k htk ht1 ht2;have ha:=TC t.key k o t.s.round htk ht1 ht2;cases hck:k.check t.key with
 |false=>
  rw[hck]at hc;exact al Tryz.func73<|af hq rfl<|aa<|af hf rfl<|aa<|af hc rfl<|ah<|af (jI aG 13) rfl<|ab
 |true=>
 rw[hck]at hc;obtain⟨key,⟨size,h0,s0,h1,s1,down,b_,aQ⟩,s,file,gen⟩:=t;dsimp only at hc ha⊢;cases down with
 |true=>
  exact al Tryz.func73<|af hq rfl<|aa<|af hf rfl<|aa<|af hc rfl<|aa<|ah<|af (jI k.aq 12) rfl<|ab
 |false=>
 refine al Tryz.func73<|af hq rfl<|aa<|af hf rfl<|aa<|af hc rfl<|aa<|aa<|af ha rfl<|ae.two (fun h3=>?_) (fun h3=>?_)
 ·rw[show decide (gM key k o s.round=0)=true from h3];exact aa<|ay (wH o) rfl<|ay hdo rfl<|ar<|ab
 ·rw[show decide (gM key k o s.round=0)=false from h3];exact ah<|af (jI k.aq (gM key k o s.round)) rfl<|ab
abbrev Fy(g:Nat)(cs:List PV):PV:=.fn 162 [.ip [.fn g cs] 0]
theorem PA{g:Nat}{cs:List PV}(hc:cA cs):PC 82 [.fn g cs] (·=Fy g cs):=by
 rcases hc with rfl|⟨a,rfl⟩|⟨a,b,rfl⟩<;>
 ·exact al Tryz.func82<|ab
theorem WI(t:aE){g:Nat}{cs:List PV}(hc:cA cs){d:aS}(h:PC g (t.d.pv::cs) (·=d.pv)):PC 162 [t.pv,.ip [.fn g cs] 0] (·=.aK [({t with d:=d}:aE).pv,aP.z.pv]):=by
 rcases hc with rfl|⟨a,rfl⟩|⟨a,b,rfl⟩<;>
 ·exact al Tryz.func162<|af h rfl<|ab
abbrev VJ(k:Int):PV:=Fy 160 [.ip [i64 k] 0]
theorem H4(k:Int):PC 80 [i64 k] (·=VJ k):=al Tryz.func80<|af (PA (g:=160) (cs:=[.ip [i64 k] 0]) cA.one) rfl<|ab
theorem VX(d:aS)(h:d.Us)(k:Int):PC 160 [d.pv,.ip [i64 k] 0] (·=(d.gq k).pv):=al Tryz.func160<|af (td d h.sz k) rfl<|ab
abbrev pK(R:aE→aE×aP)(t:aE):Prop:=PC 86 [t.pv] (·=.aK [(R t).1.pv,(R t).2.pv])
structure jv(R:aE→aE×aP)(c:List aJ)(x:aU):Prop where
 len:c.length≤60000000
 fo:x.1.aq.size≤1000000
 opens:x.1.kind=4→PC 133 [st x.1.bytes] (·=ot x.2)
 keys:∀n∈c,n.t.key.size≤1000000
 tok:∀k o,x.2=some (k,o)→k.aq.size≤1000000∧k.bn.length≤1000
 UY:x.1.kind=4→∀k o,x.2=some (k,o)→∀n∈c,mJ n.t o
 RZ:x.1.kind=2→∀n∈c,mJ n.t x.1.o
 Ni:x.1.kind=3→∀n∈c,mJ n.t gI
 Fa:∀n∈c,n.t.d.Us
 p3:x.1.kind=7→PC 81 [sl aJ.pv c,x.1.pv] (·=fF (gG c x.1.aq fun t=>({t with d:=t.d.wj x.1.n x.1.aQ},aP.z)))
 CG:x.1.kind=8∨x.1.kind=9→∀n∈c,pK R n.t
abbrev Rk:PV:=.mp [.int .i64 1,.int .i64 2,.int .i64 4,.int .i64 5,.int .i64 3,.int .i64 6,.int .i64 7,.int .i64 8,.int .i64 9] [.fn 71 [],.fn 72 [],.fn 73 [],.fn 74 [],.fn 75 [],.fn 78 [],.fn 81 [],.fn 85 [],.fn 87 []]
theorem mY:PC 34 [] (·=Rk):=al Tryz.func34<|aF<|aF<|aF<|aF<|aF<|aF<|aF<|aF<|aF<|ab
theorem Qo(c:List aJ)(e:bV)(hl:c.length≤60000000)(h:∀n∈c,mJ n.t gI):PC 75 [sl aJ.pv c,e.pv] (·=fF (j2 c fun t=>t.do gI)):=al Tryz.func75<|af (wH gI) rfl<|af (ym c hl cA.one (fun t=>t.do gI) fun n hn=>GL (h n hn)) rfl<|ab
theorem Gd(c:List aJ)(k:Int)(h:∀n∈c,n.t.d.Us):∀n∈c,PC 162 (n.t.pv::[.ip [.fn 160 [.ip [i64 k] 0]] 0]) (·=.aK [({n.t with d:=n.t.d.gq k}:aE).pv,aP.z.pv]):=fun n hn=>WI n.t cA.one (VX n.t.d (h n hn) k)
theorem PE(c:List aJ)(e:bV)(hl:c.length≤60000000)(h:∀n∈c,n.t.d.Us):PC 78 [sl aJ.pv c,e.pv] (·=fF (gG c e.aq fun t=>({t with d:=t.d.gq e.aQ},aP.z))):=al Tryz.func78<|ay (H4 e.aQ) rfl<|ay (yd c e.aq (by omega) cA.one (fun t=>({t with d:=t.d.gq e.aQ},aP.z)) (Gd c e.aQ h)) rfl<|ar<|ab
theorem Od(c:List aJ)(e:bV)(hl:c.length≤60000000)(h:∀n∈c,n.t.d.Us):PC 74 [sl aJ.pv c,e.pv] (·=fF ((j2 c fun t=>({t with d:=t.d.gq e.aQ},aP.z)).1,[])):=al Tryz.func74<|af (H4 e.aQ) rfl<|af (ym c hl cA.one (fun t=>({t with d:=t.d.gq e.aQ},aP.z)) (Gd c e.aQ h)) rfl<|ab
theorem Zt{R:aE→aE×aP}(c:List aJ)(e:bV)(hl:c.length≤60000000)(h:∀n∈c,pK R n.t):PC 85 [sl aJ.pv c,e.pv] (·=fF (j2 c R)):=al Tryz.func85<|af (ym c hl cA.no R h) rfl<|ab
theorem Yb{R:aE→aE×aP}(c:List aJ)(e:bV)(hl:c.length≤60000000)(h:∀n∈c,pK R n.t):PC 87 [sl aJ.pv c,e.pv] (·=fF (gG c e.aq R)):=al Tryz.func87<|af (yd c e.aq (by omega) cA.no R h) rfl<|ab
theorem Xl{R:aE→aE×aP}{c:List aJ}{x:aU}(h:jv R c x)(hk:x.1.kind=1):PC 15 [sl aJ.pv c,x.1.pv] (·=fF (ed R c x.1 x.2)):=by
 have hc:=OA c x.1 h.len h.fo;obtain⟨⟨kind,aq,key,n,aQ,o,bytes⟩,q⟩:=x;dsimp only at hk hc⊢;subst hk;exact al Tryz.func15<|ay mY rfl<|aF<|cU.is (some (.fn 71 [])) rfl<|ar<|ae.is false rfl<|aa<|af hc rfl<|ab
theorem Om{R:aE→aE×aP}{c:List aJ}{x:aU}(h:jv R c x)(hk:x.1.kind=2):PC 15 [sl aJ.pv c,x.1.pv] (·=fF (ed R c x.1 x.2)):=by
 have hc:=Vf c x.1 h.len (h.RZ hk);obtain⟨⟨kind,aq,key,n,aQ,o,bytes⟩,q⟩:=x;dsimp only at hk hc⊢;subst hk;exact al Tryz.func15<|ay mY rfl<|aF<|cU.is (some (.fn 72 [])) rfl<|ar<|ae.is false rfl<|aa<|af hc rfl<|ab
theorem Xu{R:aE→aE×aP}{c:List aJ}{x:aU}(h:jv R c x)(hk:x.1.kind=3):PC 15 [sl aJ.pv c,x.1.pv] (·=fF (ed R c x.1 x.2)):=by
 have hc:=Qo c x.1 h.len (h.Ni hk);obtain⟨⟨kind,aq,key,n,aQ,o,bytes⟩,q⟩:=x;dsimp only at hk hc⊢;subst hk;exact al Tryz.func15<|ay mY rfl<|aF<|cU.is (some (.fn 75 [])) rfl<|ar<|ae.is false rfl<|aa<|af hc rfl<|ab
theorem ZJ{R:aE→aE×aP}{c:List aJ}{x:aU}(h:jv R c x)(hk:x.1.kind=4):PC 15 [sl aJ.pv c,x.1.pv] (·=fF (ed R c x.1 x.2)):=by
 have hc:=VM c x.1 x.2 h.len (h.opens hk) h.keys h.tok (h.UY hk);obtain⟨⟨kind,aq,key,n,aQ,o,bytes⟩,q⟩:=x;dsimp only at hk hc⊢;subst hk;exact al Tryz.func15<|ay mY rfl<|aF<|cU.is (some (.fn 73 [])) rfl<|ar<|ae.is false rfl<|aa<|af hc rfl<|ab
theorem Pc{R:aE→aE×aP}{c:List aJ}{x:aU}(h:jv R c x)(hk:x.1.kind=5):PC 15 [sl aJ.pv c,x.1.pv] (·=fF (ed R c x.1 x.2)):=by
 have hc:=Od c x.1 h.len h.Fa;obtain⟨⟨kind,aq,key,n,aQ,o,bytes⟩,q⟩:=x;dsimp only at hk hc⊢;subst hk;exact al Tryz.func15<|ay mY rfl<|aF<|cU.is (some (.fn 74 [])) rfl<|ar<|ae.is false rfl<|aa<|af hc rfl<|ab
theorem T4{R:aE→aE×aP}{c:List aJ}{x:aU}(h:jv R c x)(hk:x.1.kind=6):PC 15 [sl aJ.pv c,x.1.pv] (·=fF (ed R c x.1 x.2)):=by
 have hc:=PE c x.1 h.len h.Fa;obtain⟨⟨kind,aq,key,n,aQ,o,bytes⟩,q⟩:=x;dsimp only at hk hc⊢;subst hk;exact al Tryz.func15<|ay mY rfl<|aF<|cU.is (some (.fn 78 [])) rfl<|ar<|ae.is false rfl<|aa<|af hc rfl<|ab
theorem W1{R:aE→aE×aP}{c:List aJ}{x:aU}(h:jv R c x)(hk:x.1.kind=7):PC 15 [sl aJ.pv c,x.1.pv] (·=fF (ed R c x.1 x.2)):=by
 have hc:=h.p3 hk;obtain⟨⟨kind,aq,key,n,aQ,o,bytes⟩,q⟩:=x;dsimp only at hk hc⊢;subst hk;exact al Tryz.func15<|ay mY rfl<|aF<|cU.is (some (.fn 81 [])) rfl<|ar<|ae.is false rfl<|aa<|af hc rfl<|ab
theorem Se{R:aE→aE×aP}{c:List aJ}{x:aU}(h:jv R c x)(hk:x.1.kind=8):PC 15 [sl aJ.pv c,x.1.pv] (·=fF (ed R c x.1 x.2)):=by
 have hc:=Zt (R:=R) c x.1 h.len (h.CG (.inl hk));obtain⟨⟨kind,aq,key,n,aQ,o,bytes⟩,q⟩:=x;dsimp only at hk hc⊢;subst hk;exact al Tryz.func15<|ay mY rfl<|aF<|cU.is (some (.fn 85 [])) rfl<|ar<|ae.is false rfl<|aa<|af hc rfl<|ab
theorem QK{R:aE→aE×aP}{c:List aJ}{x:aU}(h:jv R c x)(hk:x.1.kind=9):PC 15 [sl aJ.pv c,x.1.pv] (·=fF (ed R c x.1 x.2)):=by
 have hc:=Yb (R:=R) c x.1 h.len (h.CG (.inr hk));obtain⟨⟨kind,aq,key,n,aQ,o,bytes⟩,q⟩:=x;dsimp only at hk hc⊢;subst hk;exact al Tryz.func15<|ay mY rfl<|aF<|cU.is (some (.fn 87 [])) rfl<|ar<|ae.is false rfl<|aa<|af hc rfl<|ab
theorem Pn{R:aE→aE×aP}{c:List aJ}{x:aU}(hk:x.1.kind≠1∧x.1.kind≠2∧x.1.kind≠3∧x.1.kind≠4∧x.1.kind≠5∧x.1.kind≠6∧x.1.kind≠7∧x.1.kind≠8∧x.1.kind≠9):PC 15 [sl aJ.pv c,x.1.pv] (·=fF (ed R c x.1 x.2)):=by
 obtain⟨⟨kind,aq,key,n,aQ,o,bytes⟩,q⟩:=x;dsimp only at hk⊢;obtain⟨k1,k2,k3,k4,k5,k6,k7,k8,k9⟩:=hk;have e:ed R c ⟨kind,aq,key,n,aQ,o,bytes⟩ q=(c,say aG 1):=by
  unfold ed;dsimp only;rw[aar k1,aar k2,aar k3,aar k4,aar k5,aar k6,aar k7,aar k8,aar k9]
 have hl:=Al (fun f:Nat=>PV.fn f []) kind [((1:Int),(71:Nat)),(2,72),(4,73),(5,74),(3,75),(6,78),(7,81),(8,85),(9,87)];have hn:lr [.int .i64 1,.int .i64 2,.int .i64 4,.int .i64 5,.int .i64 3,.int .i64 6,.int .i64 7,.int .i64 8,.int .i64 9] [.fn 71 [],.fn 72 [],.fn 73 [],.fn 74 [],.fn 75 [],.fn 78 [],.fn 81 [],.fn 85 [],.fn 87 []] (.int .i64 kind)=none:=by
  refine hl.trans ?_;simp[List.find?_cons,k1,k2,k3,k4,k5,k6,k7,k8,k9]
 rw[e];exact al Tryz.func15<|ay mY rfl<|aF<|cU.is none hn<|ar<|ae.is true rfl<|ah<|af (jI aG 1) rfl<|ab
theorem Vn{R:aE→aE×aP}{c:List aJ}{x:aU}(h:jv R c x):PC 15 [sl aJ.pv c,x.1.pv] (·=fF (ed R c x.1 x.2)):=by
 by_cases k1:x.1.kind=1
 ·exact Xl h k1
 by_cases k2:x.1.kind=2
 ·exact Om h k2
 by_cases k3:x.1.kind=3
 ·exact Xu h k3
 by_cases k4:x.1.kind=4
 ·exact ZJ h k4
 by_cases k5:x.1.kind=5
 ·exact Pc h k5
 by_cases k6:x.1.kind=6
 ·exact T4 h k6
 by_cases k7:x.1.kind=7
 ·exact W1 h k7
 by_cases k8:x.1.kind=8
 ·exact Se h k8
 by_cases k9:x.1.kind=9
 ·exact QK h k9
 exact Pn ⟨k1,k2,k3,k4,k5,k6,k7,k8,k9⟩
theorem rX:Lay (fun r:List cw=>sl cw.pv r) 1:=⟨fun _=>⟨rfl,rfl⟩,fun _=>rfl,fun _ _ _=>rfl⟩
theorem Wf{α:Type}(play:α→aU→α×List cw)(c:α)(l:List aU)(x:aU):iY play c (l++[x])=((play (iY play c l).1 x).1,(iY play c l).2++[(play (iY play c l).1 x).2]):=by rw[vn];rfl
def Wq:Nat→List aJ→PV
 |0,_=>.sl true []
 |_+1,c=>sl aJ.pv c
def qf(R:aE→aE×aP)(l:List aU)(q:Nat):Nat×List aJ×List (List cw):=(q,dc R [] (l.take q))
theorem zS{R:aE→aE×aP}(l:List aU)(hl:l.length≤60000000)(h:∀(q:Nat) (x:aU),l[q]? = some x→jv R (dc R [] (l.take q)).1 x):PC 13 [.sl false (l.map fun x=>x.1.pv)] (·=.aK [sl aJ.pv (dc R [] l).1,.sl false ((dc R [] l).2.map fun r=>sl cw.pv r)]):=by
 refine al Tryz.func13<|iO.grow [(5,1,54)] ⟨rfl,trivial⟩<|mb l.length (.of (qf R l) (fun p=>[(4,Wq p.1 p.2.1),(5,.aH 7 0 p.2.2.length)]) [10,11] (fun p=>[(7,.rows 1 (p.2.2.map fun r=>sl cw.pv r) true none 54)]) []) (fun _=>True) trivial ?_ (fun k hk hj=>?_) (fun hj=>?_)
 ·exact bY rfl (rX.bP _)
 ·obtain⟨x,hx⟩:=get_at hk;have hp:=Vn (h k x hx);have hn:qf R l (k+1)=(k+1,(ed R (dc R [] (l.take k)).1 x.1 x.2).1,(dc R [] (l.take k)).2++[(ed R (dc R [] (l.take k)).1 x.1 x.2).2]):=by
   unfold qf;rw[eC hx];show(k+1,iY _ [] (l.take k++[x]))=_
   rw[Wf]
  have hlen:(dc R [] (l.take k)).2.length=k:=by
   have key:∀(l:List aU) (c:List aJ),(dc R c l).2.length=l.length:=by
    intro l;induction l with
    |nil=>intro c;rfl
    |cons y l ih=>intro c;exact congrArg Nat.succ (ih _)
   rw[key,aax];omega
  rcases hL:dc R [] (l.take k)with⟨c,r⟩
  rw[hL]at hp hn hlen;dsimp only at hp hn hlen;have hL2:qf R l k=(k,c,r):=by unfold qf;rw[hL]
  rw[bR hL2];rcases hP:ed R c x.1 x.2 with⟨d,rs⟩
  rw[hP]at hp hn;dsimp only at hp hn;cases k with
  |zero=>
   obtain rfl:c=[]:=congrArg Prod.fst hL.symm;refine bx hx<|af hp rfl<|db.l (ak.mk (dS rX r rs (by omega)) ?_);exact bA.of (sw 7 25) hn trivial rfl<|gS ⟨⟨rfl,rfl⟩,⟨by show _=some (PV.aH _ 0 (r++[_]).length);rw[aap];rfl,rfl⟩,trivial⟩ ⟨⟨BB.aO (by show _=some (aA.rows 1 ((r++[_]).map _) true none _);rw[aaC];rfl) (rX.bP _),rfl⟩,trivial⟩
  |succ k=>
   refine bx hx<|af hp rfl<|db.l (ak.mk (dS rX r rs (by omega)) ?_);exact bA.of (sw 7 25) hn trivial rfl<|gS ⟨⟨rfl,rfl⟩,⟨by show _=some (PV.aH _ 0 (r++[_]).length);rw[aap];rfl,rfl⟩,trivial⟩ ⟨⟨BB.aO (by show _=some (aA.rows 1 ((r++[_]).map _) true none _);rw[aaC];rfl) (rX.bP _),rfl⟩,trivial⟩
 ·have ht:l.take l.length=l:=aaM;rcases hL:dc R [] l with⟨c,r⟩
  have hL2:qf R l l.length=(l.length,c,r):=by unfold qf;rw[ht,hL]
  rw[bR hL2];cases hll:l.length with
  |zero=>
   obtain rfl:l=[]:=abu hll;cases hL;exact ab
  |succ m=>
   exact⟨r.length+100,_,_,.inl (aN rfl (aN (cT (l:=r) rfl rfl rX.br rfl rfl) rfl)),rfl⟩
def lT(name:BA)(l:List (List cw)):List aP:=l.flatMap fun rs=>(rs.filter fun r=>seq r.aq name).map cw.a
def iW(name:BA)(l:List (List cw)):List BA:=match cQ name with
 |false=>[]
 |true=>(lT name l).map aP.put
def iG(x:aU):Bool:=decide (x.1.kind=1)
def jZ(R:aE→aE×aP)(l:List aU)(name:BA):BA×Bool:=match ic (dc R [] (l.filter iG)).1 name with
 |(t,ok)=>(t.key,ok)
def um(R:aE→aE×aP)(ahead:List aU)(x:aU)(name:BA):Bool:=match x.2 with
 |none=>false
 |some (k,_)=>match seq k.aq name with
  |false=>false
  |true=>match jZ R ahead name with
   |(_,false)=>false
   |(key,true)=>k.check key
def jq(R:aE→aE×aP)(name:BA)(ahead:List aU)(x:aU):Bool:=match decide (x.1.kind=4)with
 |false=>true
 |true=>um R ahead x name
def lq(p:List aU→aU→Bool)(ahead:List aU):List aU→List aU
 | []=>[]
 |x::l=>match p ahead x with
  |true=>x::lq p (ahead++[x]) l
  |false=>lq p (ahead++[x]) l
def pW(R:aE→aE×aP)(l:List aU)(name:BA):List aU:=lq (jq R name) [] l
def oneOf(k:Int):Bool:=decide (k=2)||(decide (k=6)||(decide (k=7)||decide (k=9)))
def AN(name:BA)(x:aU):Bool:=match seq x.1.aq name with
 |true=>true
 |false=>!oneOf x.1.kind
def sT(R:aE→aE×aP)(l:List aU)(name:BA):List aU:=(pW R l name).filter (AN name)
abbrev kw(n:UInt8):PV:=.at (.int .u8 ((n.toNat:Nat):Int))
abbrev bf.fY(x:bf):PV:=.agg [kw x.k,kw x.a,kw x.b,kw x.c,kw x.d]
abbrev bf.pv(x:bf):PV:=.agg [kw x.k,kw x.a,kw x.b,kw x.c,kw x.d,kw x.kind,kw x.t,kw x.n]
theorem y8(a b:Nat):(a:Int).tmod (b:Int)=((a%b:Nat):Int):=by rw[Int.tmod_eq_emod_of_nonneg (by omega)];omega
theorem Uu(a b:Nat):(a:Int).tdiv (b:Int)=((a / b:Nat):Int):=by rw[acp (by omega)];omega
theorem bE(n:UInt8):n.toNat<256:=n.toNat_lt
theorem j5(n:Nat)(h:n<18446744073709551616:=by omega):IntKind.u64.wrap (n:Int)=(((UInt64.ofNat n).toNat:Nat):Int):=by
 rw[mG h];exact yv h
theorem j9(n:Nat)(h:n≤4611686018427387904:=by omega):IntKind.i64.wrap (n:Int)=(n:Int):=wrap_i64 rfl (by omega)
theorem mH{l:List BA}{i:Nat}(h:i<l.length){k:PV→Prop}(hk:k (st (pick l i))):dC (l.map st) ((i:Nat):Int) k:=by
 obtain⟨s,hs⟩:=get_at h;have e:pick l i=s:=by unfold pick;rw[hs];rfl
 rw[e]at hk;exact bx hs hk
theorem y7:PC 7 [] (·=sl st cq):=al Tryz.func7<|ab
theorem dJ{a b:Nat}(hb:b≠0){k:Int→Prop}(hk:k ((a%b:Nat):Int)):ak (((b:Nat):Int)≠0) (bN ((a:Int).tmod (b:Int)) k):=⟨by omega,.intro _ (y8 a b) hk⟩
theorem xu{a b:Nat}(ha:a<256)(hb:b≠0){k:Int→Prop}(hk:k ((a / b:Nat):Int)):ak (((b:Nat):Int)≠0) (bN (IntKind.u8.wrap ((a:Int).tdiv (b:Int))) k):=⟨by omega,.intro _ (by
 rw[Uu]
 have:a / b≤a:=adv a b
 show((a / b:Nat):Int)%256=_
 generalize a / b=c at this⊢
 omega) hk⟩
theorem tW(x:bf):PC 63 [x.fY] (·=x.aM.pv):=by
 have ha:=bE x.a;have hb:=bE x.b;have hc:=bE x.c;have hd:=bE x.d;refine al Tryz.func63<|dJ (a:=x.a.toNat) (b:=4) (by decide)<|mH (l:=[sA,mA,sB,sW]) (i:=x.a.toNat%4) (by show _<4;omega) ?_;refine dJ (a:=x.b.toNat) (b:=5) (by decide)<|ax (j5 (x.b.toNat%5))<|xu (a:=x.b.toNat) (b:=5) hb (by decide)<|dJ (a:=x.b.toNat / 5) (b:=5) (by decide)<|ax (j5 (x.b.toNat / 5%5))<|xu (a:=x.b.toNat) (b:=25) hb (by decide)<|dJ (a:=x.b.toNat / 25) (b:=3) (by decide)<|ax (j5 (x.b.toNat / 25%3))<|dJ (a:=x.c.toNat) (b:=3) (by decide)<|ax (j9 (x.c.toNat%3))<|dH (1+x.c.toNat%3)<|xu (a:=x.c.toNat) (b:=3) hc (by decide)<|dJ (a:=x.c.toNat / 3) (b:=4) (by decide)<|ax (j9 (x.c.toNat / 3%4)) ?_;refine dJ (a:=x.d.toNat) (b:=5) (by decide)<|ax (j9 (x.d.toNat%5))<|dH (1+x.d.toNat%5)<|ar ?_;have hs:x.cR=match decide (200<x.d.toNat)with|true=>[⟨qy,decide (x.d.toNat%2=1),[sA]⟩]|false=>[]:=rfl
 have hj:x.aM=⟨pick [sA,mA,sB,sW] (x.a.toNat%4),⟨UInt64.ofNat (x.b.toNat%5),UInt64.ofNat (x.b.toNat / 5%5),0,UInt64.ofNat (x.b.toNat / 25%3)⟩,((1+x.c.toNat%3:Nat):Int),((x.c.toNat / 3%4:Nat):Int),((1+x.d.toNat%5:Nat):Int),x.cR⟩:=rfl;rw[hj];by_cases h2:200<x.d.toNat
 ·rw[hs,aaB h2];exact ae.t (show(200:Int)<((x.d.toNat:Nat):Int)by omega)<|ah<|dJ (a:=x.d.toNat) (b:=2) (by decide)<|ae.is (decide (x.d.toNat%2=1)) (abq.2 (by omega))<|ab
 ·rw[hs,aar h2];exact ae.f (show¬(200:Int)<((x.d.toNat:Nat):Int)by omega)<|aa<|ab
theorem wrap_u8{x:Int}{y:Nat}(h:x=(y:Int))(hb:y<256):IntKind.u8.wrap x=(y:Int):=by
 subst h;show(y:Int)%256=_
 omega
def gK(x:bf)(k:Nat)(hk:x.k.toNat%20=k)(post:PV→Prop):{Q:Prop//Q→PC 27 [x.fY] post}:=⟨_,fun q=>by
 have hb:=bE x.b
 have hc:=bE x.c
 refine al Tryz.func27<|dJ (a:=x.b.toNat) (b:=4) (by decide)<|mH (l:=[rQ,sM,DY,FV]) (i:=x.b.toNat%4) (acM _ (by decide)) ?_
 refine dJ (a:=x.a.toNat) (b:=5) (by decide)<|mH (l:=[sA,mA,sB,sW,sX]) (i:=x.a.toNat%5) (acM _ (by decide)) ?_
 refine dJ (a:=x.c.toNat) (b:=24) (by decide)<|ax (j5 (x.c.toNat%24) (Nat.lt_trans (acM _ (by decide)) (by decide))) ?_
 exact cj<|bN.intro (k:Int) ((y8 x.k.toNat 20).trans (by rw[hk])) q⟩
theorem MJ(x:bf)(hk:x.k.toNat%20=0):PC 27 [x.fY] (·=(x.fr 0).pv):=by
 have ha:=bE x.a;have hb:=bE x.b;have hc:=bE x.c;exact(gK x 0 hk _).2<|ae.t (show(0:Int)=0 by rfl)<|ah<|ah<|af (tW x) rfl<|ab
theorem U3(x:bf)(hk:x.k.toNat%20=1):PC 27 [x.fY] (·=(x.fr 1).pv):=by
 have ha:=bE x.a;have hb:=bE x.b;have hc:=bE x.c;exact(gK x 1 hk _).2<|ao<|aa<|ae.t (show(1:Int)=1 by rfl)<|ah<|ah<|af (tW x) rfl<|ab
theorem Tn(x:bf)(hk:x.k.toNat%20=2):PC 27 [x.fY] (·=(x.fr 2).pv):=by
 have ha:=bE x.a;have hb:=bE x.b;have hc:=bE x.c;exact(gK x 2 hk _).2<|ao<|aa<|ao<|aa<|ae.t (show(2:Int)=2 by rfl)<|ah<|ah<|af (tW x) rfl<|ab
theorem Z4(x:bf)(hk:x.k.toNat%20=3):PC 27 [x.fY] (·=(x.fr 3).pv):=by
 have ha:=bE x.a;have hb:=bE x.b;have hc:=bE x.c;exact(gK x 3 hk _).2<|ao<|aa<|ao<|aa<|ao<|aa<|ae.t (show(3:Int)=3 by rfl)<|ah<|ah<|af (tW x) rfl<|ab
theorem Pg(x:bf)(hk:x.k.toNat%20=4):PC 27 [x.fY] (·=(x.fr 4).pv):=by
 have ha:=bE x.a;have hb:=bE x.b;have hc:=bE x.c;exact(gK x 4 hk _).2<|ao<|aa<|ao<|aa<|ao<|aa<|ao<|aa<|ae.t (show(4:Int)=4 by rfl)<|ah<|af (tW x) rfl<|ab
theorem RR(x:bf)(hk:x.k.toNat%20=5):PC 27 [x.fY] (·=(x.fr 5).pv):=by
 have ha:=bE x.a;have hb:=bE x.b;have hc:=bE x.c;refine(gK x 5 hk _).2<|ao<|aa<|ao<|aa<|ao<|aa<|ao<|aa<|ao<|aa<|ae.t (show(5:Int)=5 by rfl)<|ah<|dJ (a:=x.a.toNat) (b:=12) (by decide) ?_;exact ax (j5 (x.a.toNat%12))<|ab
theorem PZ(x:bf)(hk:x.k.toNat%20=6):PC 27 [x.fY] (·=(x.fr 6).pv):=by
 have ha:=bE x.a;have hb:=bE x.b;have hc:=bE x.c;refine(gK x 6 hk _).2<|ao<|aa<|ao<|aa<|ao<|aa<|ao<|aa<|ao<|aa<|ao<|aa<|ae.t (show(6:Int)=6 by rfl) ?_;exact ah<|ab
theorem Zh(x:bf)(hk:x.k.toNat%20=7):PC 27 [x.fY] (·=(x.fr 7).pv):=by
 have ha:=bE x.a;have hb:=bE x.b;have hc:=bE x.c;refine(gK x 7 hk _).2<|ao<|aa<|ao<|aa<|ao<|aa<|ao<|aa<|ao<|aa<|ao<|aa<|ao ?_;exact aa<|ae.t (show(7:Int)=7 by rfl)<|ah<|dJ (a:=x.a.toNat) (b:=14) (by decide)<|ax (j5 (x.a.toNat%14))<|ab
theorem Oe(x:bf)(hk:x.k.toNat%20=8):PC 27 [x.fY] (·=(x.fr 8).pv):=by
 have ha:=bE x.a;have hb:=bE x.b;have hc:=bE x.c;refine(gK x 8 hk _).2<|ao<|aa<|ao<|aa<|ao<|aa<|ao<|aa<|ao<|aa<|ao<|aa<|ao ?_;exact aa<|ao<|aa<|ae.t (show(8:Int)=8 by rfl)<|ah<|ax (j5 x.a.toNat)<|ab
theorem TY(x:bf)(hk:x.k.toNat%20=9):PC 27 [x.fY] (·=(x.fr 9).pv):=by
 have ha:=bE x.a;have hb:=bE x.b;have hc:=bE x.c;refine(gK x 9 hk _).2<|ao<|aa<|ao<|aa<|ao<|aa<|ao<|aa<|ao<|aa<|ao<|aa<|ao ?_;exact aa<|ao<|aa<|ao<|aa<|ae.t (show(9:Int)=9 by rfl)<|ah<|dJ (a:=x.a.toNat) (b:=40) (by decide)<|ax (j5 (x.a.toNat%40))<|ab
theorem RH(x:bf)(hk:x.k.toNat%20=10):PC 27 [x.fY] (·=(x.fr 10).pv):=by
 have ha:=bE x.a;have hb:=bE x.b;have hc:=bE x.c;refine(gK x 10 hk _).2<|ao<|aa<|ao<|aa<|ao<|aa<|ao<|aa<|ao<|aa<|ao<|aa<|ao ?_;refine aa<|ao<|aa<|ao<|aa<|ao<|aa<|ae.t (show(10:Int)=10 by rfl)<|ah<|dJ (a:=x.b.toNat) (b:=2) (by decide)<|mH (l:=[aG,x.path]) (i:=x.b.toNat%2) (by show _<2;omega) ?_;exact ab
theorem Nk(x:bf)(hk:x.k.toNat%20=11):PC 27 [x.fY] (·=(x.fr 11).pv):=by
 have ha:=bE x.a;have hb:=bE x.b;have hc:=bE x.c;refine(gK x 11 hk _).2<|ao<|aa<|ao<|aa<|ao<|aa<|ao<|aa<|ao<|aa<|ao<|aa<|ao ?_;exact aa<|ao<|aa<|ao<|aa<|ao<|aa<|ao<|aa<|ae.t (show(11:Int)=11 by rfl)<|ah<|ab
theorem SK(x:bf)(hk:x.k.toNat%20=12):PC 27 [x.fY] (·=(x.fr 12).pv):=by
 have ha:=bE x.a;have hb:=bE x.b;have hc:=bE x.c;refine(gK x 12 hk _).2<|ao<|aa<|ao<|aa<|ao<|aa<|ao<|aa<|ao<|aa<|ao<|aa<|ao ?_;refine aa<|ao<|aa<|ao<|aa<|ao<|aa<|ao<|aa<|ao<|aa<|ae.t (show(12:Int)=12 by rfl)<|ah<|dJ (a:=x.c.toNat) (b:=20) (by decide) ?_;exact bN.intro ((20+x.c.toNat%20:Nat):Int) (wrap_u8 (by omega) (by omega))<|ax (j5 (20+x.c.toNat%20))<|ab
theorem Zc(x:bf)(hk:x.k.toNat%20=13):PC 27 [x.fY] (·=(x.fr 13).pv):=by
 have ha:=bE x.a;have hb:=bE x.b;have hc:=bE x.c;refine(gK x 13 hk _).2<|ao<|aa<|ao<|aa<|ao<|aa<|ao<|aa<|ao<|aa<|ao<|aa<|ao ?_;refine aa<|ao<|aa<|ao<|aa<|ao<|aa<|ao<|aa<|ao<|aa<|ao<|aa<|ae.t (show(13:Int)=13 by rfl) ?_;refine ah<|ah ?_;have hl:x.labels=match decide (0<x.c.toNat%3)with|true=>[⟨qy,pick [sA,sB] (x.c.toNat%2)⟩]|false=>[]:=rfl
 have ho:x.fr 13={aw.z with kind:=10,path:=x.node,v:=⟨UInt64.ofNat (2+x.c.toNat%6),9,9,9⟩,labels:=x.labels}:=rfl;rw[ho];refine dJ (a:=x.c.toNat) (b:=3) (by decide) ?_;by_cases h3:0<x.c.toNat%3
 ·rw[hl,aaB h3];refine ae.t (show(0:Int)<((x.c.toNat%3:Nat):Int)by omega)<|ah<|dJ (a:=x.c.toNat) (b:=2) (by decide)<|mH (l:=[sA,sB]) (i:=x.c.toNat%2) (by show _<2;omega) ?_;exact dJ (a:=x.c.toNat) (b:=6) (by decide)<|bN.intro ((2+x.c.toNat%6:Nat):Int) (wrap_u8 (by omega) (by omega))<|ax (j5 (2+x.c.toNat%6))<|ab
 ·rw[hl,aar h3];exact ae.f (show¬(0:Int)<((x.c.toNat%3:Nat):Int)by omega)<|aa<|dJ (a:=x.c.toNat) (b:=6) (by decide)<|bN.intro ((2+x.c.toNat%6:Nat):Int) (wrap_u8 (by omega) (by omega))<|ax (j5 (2+x.c.toNat%6))<|ab
theorem VO(x:bf)(hk:x.k.toNat%20=14):PC 27 [x.fY] (·=(x.fr 14).pv):=by
 have ha:=bE x.a;have hb:=bE x.b;have hc:=bE x.c;refine(gK x 14 hk _).2<|ao<|aa<|ao<|aa<|ao<|aa<|ao<|aa<|ao<|aa<|ao<|aa<|ao ?_;refine aa<|ao<|aa<|ao<|aa<|ao<|aa<|ao<|aa<|ao<|aa<|ao<|aa<|ao ?_;refine aa<|ae.t (show(14:Int)=14 by rfl)<|ah ?_;have hl:x.labels=match decide (0<x.c.toNat%3)with|true=>[⟨qy,pick [sA,sB] (x.c.toNat%2)⟩]|false=>[]:=rfl
 have ho:x.fr 14={aw.z with kind:=10,path:=x.node,v:=⟨UInt64.ofNat (2+x.c.toNat%6),9,9,9⟩,labels:=x.labels}:=rfl;rw[ho];refine dJ (a:=x.c.toNat) (b:=3) (by decide) ?_;by_cases h3:0<x.c.toNat%3
 ·rw[hl,aaB h3];refine ae.t (show(0:Int)<((x.c.toNat%3:Nat):Int)by omega)<|ah<|dJ (a:=x.c.toNat) (b:=2) (by decide)<|mH (l:=[sA,sB]) (i:=x.c.toNat%2) (by show _<2;omega) ?_;exact dJ (a:=x.c.toNat) (b:=6) (by decide)<|bN.intro ((2+x.c.toNat%6:Nat):Int) (wrap_u8 (by omega) (by omega))<|ax (j5 (2+x.c.toNat%6))<|ab
 ·rw[hl,aar h3];exact ae.f (show¬(0:Int)<((x.c.toNat%3:Nat):Int)by omega)<|aa<|dJ (a:=x.c.toNat) (b:=6) (by decide)<|bN.intro ((2+x.c.toNat%6:Nat):Int) (wrap_u8 (by omega) (by omega))<|ax (j5 (2+x.c.toNat%6))<|ab
theorem Xe(x:bf)(hk:x.k.toNat%20=15):PC 27 [x.fY] (·=(x.fr 15).pv):=by
 have ha:=bE x.a;have hb:=bE x.b;have hc:=bE x.c;refine(gK x 15 hk _).2<|ao<|aa<|ao<|aa<|ao<|aa<|ao<|aa<|ao<|aa<|ao<|aa<|ao ?_;refine aa<|ao<|aa<|ao<|aa<|ao<|aa<|ao<|aa<|ao<|aa<|ao<|aa<|ao ?_;exact aa<|ao<|aa<|ae.t (show(15:Int)=15 by rfl)<|ah<|ab
theorem ZK(x:bf)(hk:x.k.toNat%20=16):PC 27 [x.fY] (·=(x.fr 16).pv):=by
 have ha:=bE x.a;have hb:=bE x.b;have hc:=bE x.c;refine(gK x 16 hk _).2<|ao<|aa<|ao<|aa<|ao<|aa<|ao<|aa<|ao<|aa<|ao<|aa<|ao ?_;refine aa<|ao<|aa<|ao<|aa<|ao<|aa<|ao<|aa<|ao<|aa<|ao<|aa<|ao ?_;exact aa<|ao<|aa<|ao<|aa<|ae.t (show(16:Int)=16 by rfl)<|ah<|ab
theorem Zn(x:bf)(k:Nat)(hk:x.k.toNat%20=k)(hg:17≤k):PC 27 [x.fY] (·=gI.pv):=by
 have ha:=bE x.a;have hb:=bE x.b;have hc:=bE x.c;refine(gK x k hk _).2<|ae.f (show¬(k:Int)=0 by omega)<|aa<|ae.f (show¬(k:Int)=1 by omega)<|aa<|ae.f (show¬(k:Int)=2 by omega)<|aa<|ae.f (show¬(k:Int)=3 by omega)<|aa<|ae.f (show¬(k:Int)=4 by omega)<|aa<|ae.f (show¬(k:Int)=5 by omega)<|aa<|ae.f (show¬(k:Int)=6 by omega) ?_;refine aa<|ae.f (show¬(k:Int)=7 by omega)<|aa<|ae.f (show¬(k:Int)=8 by omega)<|aa<|ae.f (show¬(k:Int)=9 by omega)<|aa<|ae.f (show¬(k:Int)=10 by omega)<|aa<|ae.f (show¬(k:Int)=11 by omega)<|aa<|ae.f (show¬(k:Int)=12 by omega)<|aa<|ae.f (show¬(k:Int)=13 by omega) ?_;exact aa<|ae.f (show¬(k:Int)=14 by omega)<|aa<|ae.f (show¬(k:Int)=15 by omega)<|aa<|ae.f (show¬(k:Int)=16 by omega)<|aa<|ab
theorem YD(x:bf):PC 27 [x.fY] (·=x.op.pv):=by
 unfold bf.op;obtain⟨k,hk⟩:∃k,x.k.toNat%20=k:=⟨_,rfl⟩;rw[hk];by_cases hg:17≤k
 ·have e:x.fr k=gI:=by
   unfold bf.fr;rw[aar (by omega),aar (by omega),aar (by omega),aar (by omega),aar (by omega),aar (by omega),aar (by omega),aar (by omega),aar (by omega),aar (by omega),aar (by omega),aar (by omega)]
  rw[e];exact Zn x k hk hg
 ·have hh:k=0∨k=1∨k=2∨k=3∨k=4∨k=5∨k=6∨k=7∨k=8∨k=9∨k=10∨k=11∨k=12∨k=13∨k=14∨k=15∨k=16:=by omega
  rcases hh with rfl|rfl|rfl|rfl|rfl|rfl|rfl|rfl|rfl|rfl|rfl|rfl|rfl|rfl|rfl|rfl|rfl
  ·exact MJ x hk
  ·exact U3 x hk
  ·exact Tn x hk
  ·exact Z4 x hk
  ·exact Pg x hk
  ·exact RR x hk
  ·exact PZ x hk
  ·exact Zh x hk
  ·exact Oe x hk
  ·exact TY x hk
  ·exact RH x hk
  ·exact Nk x hk
  ·exact SK x hk
  ·exact Zc x hk
  ·exact VO x hk
  ·exact Xe x hk
  ·exact ZK x hk
abbrev bX(x:aU):PV:=x.1.pv
theorem eG:Lay bX 24:=⟨fun _=>⟨rfl,rfl⟩,fun _=>rfl,fun _ _ _=>rfl⟩
def eS(p:Nat→aU→Bool):Nat→List aU→List aU
 |_,[]=>[]
 |k,x::l=>match p k x with
  |true=>x::eS p (k+1) l
  |false=>eS p (k+1) l
theorem Et(p:Nat→aU→Bool)(k:Nat)(x:aU)(l:List aU):eS p k (x::l)=match p k x with|true=>x::eS p (k+1) l|false=>eS p (k+1) l:=rfl
theorem GP(p:Nat→aU→Bool):∀(l m:List aU) (k:Nat),eS p k (l++m)=eS p k l++eS p (k+l.length) m
 | [],m,k=>rfl
 |x::l,m,k=>by
  have ih:=GP p l m (k+1)
  rw[aca,Et,Et,ih,aaL,show k+1+l.length=k+(l.length+1)by omega]
  cases p k x<;>rfl
theorem Aw(q:aU→Bool):∀(l:List aU) (k:Nat),eS (fun _ x=>q x) k l=l.filter q
 | [],_=>rfl
 |x::l,k=>by
  unfold eS
  rw[Aw q l (k+1),acL]
  cases q x<;>rfl
theorem A'(p:Nat→aU→Bool):∀(l:List aU) (k:Nat),(eS p k l).length≤l.length
 | [],_=>aas _
 |x::l,k=>by
  have ih:=A' p l (k+1)
  unfold eS
  cases p k x with
  |true=>exact Nat.succ_le_succ ih
  |false=>exact adJ ih
theorem Ac(q:List aU→aU→Bool):∀(l ahead:List aU),lq q ahead l=eS (fun k x=>q ((ahead++l).take k) x) ahead.length l
 | [],_=>rfl
 |x::l,ahead=>by
  have ih:=Ac q l (ahead++[x])
  rw[abd,aap]at ih
  unfold lq eS
  rw[ih,List.take_left]
  rfl
theorem AR(l:List aU)(p:Nat→aU→Bool)(hl:l.length≤60000000){g:Nat}{cs:List PV}(hc:cA cs)(hp:∀k x,l[k]? = some x→PC g (i64 (k:Nat)::bX x::cs) (·=bo (p k x))):PC 23 [.sl false (l.map bX),.fn g cs] (·=.sl false ((eS p 0 l).map bX)):=by
 have hnx:∀k x,l[k]? = some x→eS p 0 (l.take (k+1))=match p k x with|true=>eS p 0 (l.take k)++[x]|false=>eS p 0 (l.take k):=fun k x hx=>by
  obtain⟨hlt,_⟩:=aaq.1 hx;rw[eC hx,GP,aax,abU (by omega),aav];unfold eS;cases p k x with
  |true=>rfl
  |false=>exact abe _
 have hln:∀k,(eS p 0 (l.take k)).length≤l.length:=fun k=>aaJ (A' p _ 0) (by rw[aax];omega)
 rcases hc with rfl|⟨a,rfl⟩|⟨a,b,rfl⟩<;>
 ·refine al Tryz.func23<|iO.grow [(5,24,40)] ⟨rfl,trivial⟩<|mb l.length (.of (fun q=>eS p 0 (l.take q)) (fun r=>[(5,.aH 5 0 r.length)]) [1,8,9] (fun r=>[(5,.rows 24 (r.map bX) true none 40)]) []) (fun _=>True) trivial ?_ (fun k hk hj=>?_) (fun hj=>?_)
  ·exact bY rfl (eG.bP _)
  ·obtain⟨x,hx⟩:=get_at hk;have hn:=hnx k x hx;have hlk:=hln k;have hpx:=hp k x hx;generalize hL:eS p 0 (l.take k)=r at hn hlk;rw[bR hL];refine bx hx<|af hpx rfl ?_;cases hb:p k x with
   |true=>
    rw[hb]at hn;refine ah<|db.l (ak.mk (dS eG r x (by omega)) ?_);exact bA.of (sw 5 20) hn trivial rfl<|gS ⟨⟨by rw[aap];rfl,rfl⟩,trivial⟩ ⟨⟨BB.aO (by rw[aaC];rfl) (eG.bP _),rfl⟩,trivial⟩
   |false=>
    rw[hb]at hn;exact aa<|bA.of id hn trivial rfl<|bY rfl (eG.bP _)
  ·have hh:eS p 0 l=eS p 0 (l.take l.length):=by rw[aaM]
   rw[hh];generalize hL:eS p 0 (l.take l.length)=r;rw[bR hL];exact⟨r.length+100,_,_,.inl (aN (cT (l:=r) rfl rfl eG.br rfl rfl) rfl),rfl⟩
theorem V0(k:Nat)(x:aU):PC 203 [i64 (k:Nat),bX x] (·=bo (iG x)):=al Tryz.func203<|ae.is (iG x) rfl<|ab
def wh(R:aE→aE×aP)(l:List aU):Prop:=∀(q:Nat) (x:aU),(l.filter iG)[q]? = some x→jv R (dc R [] ((l.filter iG).take q)).1 x
theorem z8(c:List aJ)(name:BA)(f:aE→aE×aP):(gG c name f).1.length=c.length:=by
 unfold gG;cases c.find? (fun n=>seq n.name name)with
 |none=>rfl
 |some n=>exact aaY ..
theorem QP(R:aE→aE×aP)(c:List aJ)(x:aU):(ed R c x.1 x.2).1.length≤c.length+1:=by
 obtain⟨e,q⟩:=x;dsimp only;unfold ed;cases decide (e.kind=1)with
 |true=>
  show(nl c e).1.length≤_
  unfold nl;cases cQ e.aq with
  |false=>exact acD _
  |true=>
  dsimp only;cases decide (0≤gN c e.aq)with
  |true=>exact acD _
  |false=>
  dsimp only;cases decide (8≤(c.length:Int))with
  |true=>exact acD _
  |false=>
  dsimp only;rcases aE.new e.key e.n with⟨t,no⟩
  dsimp only;cases decide (no=0)with
  |false=>exact acD _
  |true=>
   show(c.take _++_::c.drop _).length≤_
   rw[aap,aaL,aax,aaO];omega
 |false=>
 dsimp only;cases decide (e.kind=2)with
 |true=>
  show(qb c e).1.length≤_
  unfold qb;cases decide (0≤gN c e.aq)&&!within e.o.kind 9 12 with
  |true=>exact acD _
  |false=>exact adJ (abF (z8 _ _ _))
 |false=>
 dsimp only;have each:∀f:aE→aE×aP,(j2 c f).1.length≤c.length+1:=fun f=>adJ (abF (aao ..))
 have one:∀(name:BA) (f:aE→aE×aP),(gG c name f).1.length≤c.length+1:=fun name f=>adJ (abF (z8 _ _ _))
 cases decide (e.kind=3)with
 |true=>exact each _
 |false=>
 dsimp only;cases decide (e.kind=4)with
 |true=>
  show(nf c q).1.length≤_
  rcases q with _|⟨k,o⟩
  ·exact acD _
  unfold nf;dsimp only;rcases ic c k.aq with⟨t,b⟩
  cases b with
  |false=>exact acD _
  |true=>
  dsimp only;cases k.check t.key with
  |false=>exact acD _
  |true=>
  dsimp only;cases t.d.down with
  |true=>exact acD _
  |false=>
  dsimp only;cases decide (gM t.key k o t.s.round=0)with
  |false=>exact acD _
  |true=>exact one _ _
 |false=>
 dsimp only;cases decide (e.kind=5)with
 |true=>exact each fun t=>({t with d:=t.d.gq e.aQ},aP.z)
 |false=>
 dsimp only;cases decide (e.kind=6)with
 |true=>exact one _ _
 |false=>
 dsimp only;cases decide (e.kind=7)with
 |true=>exact one _ _
 |false=>
 dsimp only;cases decide (e.kind=8)with
 |true=>exact each _
 |false=>
 dsimp only;cases decide (e.kind=9)with
 |true=>exact one _ _
 |false=>exact acD _
theorem IJ(R:aE→aE×aP):∀(l:List aU) (c:List aJ),(dc R c l).1.length≤c.length+l.length
 | [],c=>aas _
 |x::l,c=>by
  have h1:=IJ R l (ed R c x.1 x.2).1
  have h2:(ed R c x.1 x.2).1.length≤c.length+1:=QP R c x
  show(dc R (ed R c x.1 x.2).1 l).1.length≤_
  rw[aaL];omega
theorem Pp{R:aE→aE×aP}(l:List aU)(name:BA)(hl:l.length≤1000000)(h:wh R l):PC 134 [.sl false (l.map bX),st name] (·=.aK [st (jZ R l name).1,bo (jZ R l name).2]):=by
 have hfl:(l.filter iG).length≤l.length:=abp _ _;have hk:=AR l (fun _ x=>iG x) (by omega) cA.no fun k x _=>V0 k x
 rw[Aw]at hk;have hr:=zS (R:=R) (l.filter iG) (by omega) h;have hcl:=IJ R (l.filter iG) [];have hf:=wR (dc R [] (l.filter iG)).1 name (by have:([]:List aJ).length=0:=rfl;omega);unfold jZ;rcases hx:ic (dc R [] (l.filter iG)).1 name with⟨t,ok⟩
 rw[hx]at hf;exact al Tryz.func134<|af hk rfl<|a_.by (n:=200) hr rfl<|af hf rfl<|ab
theorem TR{R:aE→aE×aP}(l:List aU)(x:aU)(name:BA)(hl:l.length≤1000000)(h:wh R l)(hq:PC 133 [st x.1.bytes] (·=ot x.2))(ht:∀k o,x.2=some (k,o)→k.aq.size≤1000000∧k.bn.length≤1000)(hks:(jZ R l name).1.size≤1000000):PC 61 [.sl false (l.map bX),bX x,st name] (·=bo (um R l x name)):=by
 have hky:=Pp l name hl h;obtain⟨e,q⟩:=x;dsimp only at hq ht;unfold um;rcases q with _|⟨k,o⟩
 ·exact al Tryz.func61<|af hq rfl<|ah<|ab
 have⟨ht1,ht2⟩:=ht k o rfl;dsimp only;cases hs:seq k.aq name with
 |false=>
  exact al Tryz.func61<|af hq rfl<|ae.is false hs<|ah<|ab
 |true=>
 dsimp only;rcases hx:jZ R l name with⟨key,ok⟩
 rw[hx]at hky hks;cases ok with
 |false=>
  exact al Tryz.func61<|af hq rfl<|ae.is true hs<|aa<|af hky rfl<|ab
 |true=>
  exact al Tryz.func61<|af hq rfl<|ae.is true hs<|aa<|af hky rfl<|af (BJ key k hks ht1 ht2) rfl<|ab
theorem WQ(l:List Int)(x:Int)(hl:l.length≤67108864):PC 62 [sl (fun n:Int=>i64 n) l,i64 x] (·=i64 (idx (fun y=>decide (x=y)) l 0)):=by
 refine al Tryz.func62<|cW l.length ⟨fun _=>[],[0,1,7],fun _=>[],[]⟩ (fun q=>idx (fun y=>decide (x=y)) l 0=idx (fun y=>decide (x=y)) (l.drop q) q) rfl ?_ (fun q hq hj=>?_) (fun hj=>?_)
 ·exact bC
 ·obtain⟨y,hy⟩:∃y,l[q]? = some y:=⟨_,aay hq⟩;have hd:=qa (fun y=>decide (x=y)) hy;refine bx hy<|ae.is (decide (x=y)) ?_ ?_
  ·rfl
  cases hpx:decide (x=y)with
  |true=>
   rw[hpx]at hd;refine ah ?_;rw[hj,hd];exact ab
  |false=>
   rw[hpx]at hd;exact aa<|bA.is id (hj.trans hd) rfl<|bC
 ·rw[hj,aaR (aas _)];exact ab
theorem Sf(l:List Int)(x:Int)(hl:l.length≤67108864):PC 26 [sl (fun n:Int=>i64 n) l,i64 x] (·=bo (l.any fun y=>decide (x=y))):=al Tryz.func26<|af (WQ l x hl) rfl<|ae.is (l.any fun y=>decide (x=y)) (pe (fun y=>decide (x=y)) l 0)<|ab
structure w6(R:aE→aE×aP)(l:List aU)(name:BA):Prop where
 opens:∀x∈l,x.1.kind=4→PC 133 [st x.1.bytes] (·=ot x.2)
 tok:∀x∈l,∀k o,x.2=some (k,o)→k.aq.size≤1000000∧k.bn.length≤1000
 dV:∀q,wh R (l.take q)
 key:∀q,(jZ R (l.take q) name).1.size≤1000000
theorem Qr{R:aE→aE×aP}(l:List aU)(name:BA)(hl:l.length≤1000000)(h:w6 R l name)(k:Nat)(x:aU)(hx:l[k]? = some x):PC 60 [i64 (k:Nat),bX x,.ip [.sl false (l.map bX)] 0,.ip [st name] 0] (·=bo (jq R name (l.take k) x)):=by
 obtain⟨hlt,_⟩:=aaq.1 hx;have hxm:=aau hx;unfold jq;cases h4:decide (x.1.kind=4)with
 |false=>
  exact al Tryz.func60<|ae.is false h4<|ar<|ab
 |true=>
  have ha:=TR (l.take k) x name (by rw[aax];omega) (h.dV k) (h.opens x hxm (aat h4)) (h.tok x hxm) (h.key k);rw[acB]at ha;refine al Tryz.func60<|ae.is true h4<|ak.mk (eG.rows l).k<|ak.mk (show(0:Int)≤((k:Nat):Int)∧((k:Nat):Int)≤(((l.map bX).length:Nat):Int)by rw[aao];omega) ?_;exact ay ha rfl<|ar<|ab
theorem Zx{R:aE→aE×aP}(l:List aU)(name:BA)(hl:l.length≤1000000)(h:w6 R l name):PC 24 [.sl false (l.map bX),st name] (·=.sl false ((pW R l name).map bX)):=by
 have hk:=AR l (fun k x=>jq R name (l.take k) x) (by omega) cA.two fun k x hx=>Qr l name hl h k x hx
 have e:pW R l name=eS (fun k x=>jq R name (l.take k) x) 0 l:=Ac (jq R name) l [];rw[e];exact al Tryz.func24<|af hk rfl<|ab
theorem YL(R:aE→aE×aP)(l:List aU)(name:BA):(pW R l name).length≤l.length:=by
 have e:pW R l name=eS (fun k x=>jq R name (l.take k) x) 0 l:=Ac (jq R name) l [];rw[e];exact A' _ _ _
theorem OH(k:Int):([2,6,7,9]:List Int).any (fun y=>decide (k=y))=oneOf k:=by
 unfold oneOf;simp only[List.any_cons,List.any_nil,Bool.or_false]
structure vW(w y:World)(kd:Int)(fo name:ByteArray)(b o:Nat):Prop where
 c0:y.cell? ⟨w.heap.size,0,none⟩=some (.int .i64 kd)
 c1:y.cell? ⟨w.heap.size,1,none⟩=some (.string fo)
 cc:y.cell? ⟨b,o,none⟩=some (.string name)
 l:fU y
 bl:Below w.heap.size w y
 lt:w.heap.size<y.heap.size
 lb:b<y.heap.size
theorem vW.below{w y z:World}{kd:Int}{fo name:ByteArray}{b o:Nat}(h:vW w y kd fo name b o)(hb:Below y.heap.size y z):vW w z kd fo name b o:=
 ⟨(hb.cell (p:=⟨w.heap.size,0,none⟩) h.lt).trans h.c0,(hb.cell (p:=⟨w.heap.size,1,none⟩) h.lt).trans h.c1,(hb.cell (p:=⟨b,o,none⟩) h.lb).trans h.cc,h.l.below hb,h.bl.trans (hb.mono h.bl.size),aaS h.lt hb.size,aaS h.lb hb.size⟩
theorem Zr(i kd:Int)(fo name:ByteArray)(b o:Nat)(a1 a2 a3 a4 a5 a6 a7 a8 a9 a10 a11 a12 a13 a14 a15 a16 a17 a18 a19 a20 a21 a22:Value)(w:World)(hL:fU w)(hc:w.cell? ⟨b,o,none⟩=some (.string name))(hb:b<w.heap.size)(r:Bool)(hr:Hid (r=match seq fo name with|true=>true|false=>!oneOf kd)):
 Calls Tryz.prog 25 #[.int .i64 i,.agg #[.int .i64 kd,.string fo,a1,a2,a3,a4,a5,a6,a7,a8,a9,a10,a11,a12,a13,a14,a15,a16,a17,a18,a19,a20,a21,a22],.pointer (some ⟨b,o,none⟩)] w fun e w'=>e=.returned (.bool r)∧Below w.heap.size w w':=by
 have hm:(0,([2,6,7,9]:List Int).map (Value.int .i64))∈gE:=by unfold gE;simp
 have ht:=hL.lL _ hm
 have hlt:=hL.lt _ hm
 have HC:∀u,fU u→Calls Tryz.prog 26 #[.slice (some ⟨0,0,none⟩) 4 4,.int .i64 kd] u fun e w'=>e=.returned (.bool (oneOf kd))∧Below u.heap.size u w':=fun u hu=>by
  have hp:=(Sf [2,6,7,9] kd (by decide)).2 u (fun b _=>b=0) [.slice (some ⟨0,0,none⟩) 4 4,.int .i64 kd] hu (fun b _ h=>by rw[h];exact hu.lt _ hm) ⟨_,_,rfl,⟨([2,6,7,9]:List Int).map (Value.int .i64),⟨_,_,rfl,⟨rfl,rfl⟩,_,_,rfl,⟨rfl,rfl⟩,_,_,rfl,⟨rfl,rfl⟩,_,_,rfl,⟨rfl,rfl⟩,rfl⟩,some ⟨0,0,none⟩,4,rfl,aas _,fun h=>(by cases h),.inr ⟨0,0,1,rfl,fun x hx=>by obtain⟨y,_,rfl⟩:=abc.1 hx;rfl,fun i x hi=>⟨rfl,by rw[aav];exact hu.lL _ hm i x hi⟩⟩⟩,_,_,rfl,⟨rfl,rfl⟩,rfl⟩
  refine hp.mono ?_
  rintro e w' ⟨r,v,rfl,rfl,⟨rfl,_⟩,hbl⟩
  rw[OH]
  exact⟨rfl,hbl⟩
 have HC:=Lib.hid HC
 go_enter Tryz.func25,Tryz.ntmps25
 go_upto_region 1 with fail
 have cI:Below w.heap.size w (w.alloc (.cells #[.int .i64 kd,.string fo,a1,a2,a3,a4,a5,a6,a7,a8,a9,a10,a11,a12,a13,a14,a15,a16,a17,a18,a19,a20,a21,a22] 40)).drew:=((Below.refl _ _).alloc (aas _) _).drew
 have c0:(w.alloc (.cells #[.int .i64 kd,.string fo,a1,a2,a3,a4,a5,a6,a7,a8,a9,a10,a11,a12,a13,a14,a15,a16,a17,a18,a19,a20,a21,a22] 40)).drew.cell? ⟨w.heap.size,0,none⟩=some (.int .i64 kd):=by show(w.alloc _).cell? _=_;rw[World.cell?_alloc_mark];rfl
 have c1:(w.alloc (.cells #[.int .i64 kd,.string fo,a1,a2,a3,a4,a5,a6,a7,a8,a9,a10,a11,a12,a13,a14,a15,a16,a17,a18,a19,a20,a21,a22] 40)).drew.cell? ⟨w.heap.size,1,none⟩=some (.string fo):=by show(w.alloc _).cell? _=_;rw[World.cell?_alloc_mark];rfl
 have cc:(w.alloc (.cells #[.int .i64 kd,.string fo,a1,a2,a3,a4,a5,a6,a7,a8,a9,a10,a11,a12,a13,a14,a15,a16,a17,a18,a19,a20,a21,a22] 40)).drew.cell? ⟨b,o,none⟩=some (.string name):=(cI.cell (p:=⟨b,o,none⟩) hb).trans hc
 have hlt2:w.heap.size<(w.alloc (.cells #[.int .i64 kd,.string fo,a1,a2,a3,a4,a5,a6,a7,a8,a9,a10,a11,a12,a13,a14,a15,a16,a17,a18,a19,a20,a21,a22] 40)).drew.heap.size:=by simp
 have HK:Hid (vW w (w.alloc (.cells #[.int .i64 kd,.string fo,a1,a2,a3,a4,a5,a6,a7,a8,a9,a10,a11,a12,a13,a14,a15,a16,a17,a18,a19,a20,a21,a22] 40)).drew kd fo name b o):=Lib.hid ⟨c0,c1,cc,hL.below cI,cI,hlt2,aaS hb cI.size⟩
 clear c0 c1 cc cI hlt2 hc hL ht hlt
 generalize w.alloc (.cells #[.int .i64 kd,.string fo,a1,a2,a3,a4,a5,a6,a7,a8,a9,a10,a11,a12,a13,a14,a15,a16,a17,a18,a19,a20,a21,a22] 40)=x at HK⊢
 by_cases hn:fo=name
 ·subst hn
  have hr2:r=true:=by rw[hr.out,jJ.2 rfl]
  have hr2:=Lib.hid hr2
  clear hr
  have c0:=HK.out.c0
  have c1:=HK.out.c1
  have cc:=HK.out.cc
  go_region
  all_goals (go_wp2_with fail;go_ret;exact⟨jj hr2.out.symm,HK.out.bl⟩)
 ·have hs:seq fo name=false:=by
   cases h:seq fo name with
   |false=>rfl
   |true=>exact absurd (jJ.1 h) hn
  have hde:(fo.toList==name.toList)=false:=by rw[Lib.toList_data,Lib.toList_data];exact hs
  have hr2:r=!oneOf kd:=by rw[hr.out,hs]
  generalize hb9:oneOf kd=b9 at HC hr2
  have hr2:=Lib.hid hr2
  clear hr hb9 hs
  go_region_held3 (fun y=>y.cell? ⟨w.heap.size,0,none⟩=some (.int .i64 kd)∧y.cell? ⟨w.heap.size,1,none⟩=some (.string fo)∧y.cell? ⟨b,o,none⟩=some (.string name)) (exact⟨HK.out.c0,HK.out.c1,HK.out.cc⟩)
   ((first
     |(go_at_call 26;((with_reducible refine(HC.out _ HK.out.l).mono ?_);rintro e u ⟨rfl,hbu⟩;have HKn:=Lib.hid (HK.out.below hbu);clear HK hbu;have HK:=HKn;clear HKn))))
  all_goals (go_wp2_with fail;go_ret;exact⟨jj hr2.out.symm,HK.out.bl⟩)
theorem OZ(k:Nat)(x:aU)(name:BA):PC 25 [i64 (k:Nat),bX x,.ip [st name] 0] (·=bo (AN name x)):=by
 refine⟨enters_of Tryz.func25 rfl rfl,fun w Z vs hg hz hv=>?_⟩;obtain⟨v0,_,rfl,⟨rfl,_⟩,v,_,rfl,⟨us,rfl,hus⟩,p,_,rfl,⟨b,o,ws,rfl,⟨w4,_,rfl,⟨rfl,_⟩,h04⟩,hc4⟩,h1⟩:=hv;cases h1;cases h04;obtain⟨u0,_,rfl,⟨rfl,_⟩,u1,_,rfl,⟨rfl,_⟩,hus⟩:=hus;obtain⟨a1,_,rfl,_,hus⟩:=hus;obtain⟨a2,_,rfl,_,hus⟩:=hus;obtain⟨a3,_,rfl,_,hus⟩:=hus;obtain⟨a4,_,rfl,_,hus⟩:=hus;obtain⟨a5,_,rfl,_,hus⟩:=hus;obtain⟨a6,_,rfl,_,hus⟩:=hus;obtain⟨a7,_,rfl,_,hus⟩:=hus;obtain⟨a8,_,rfl,_,hus⟩:=hus;obtain⟨a9,_,rfl,_,hus⟩:=hus;obtain⟨a10,_,rfl,_,hus⟩:=hus;obtain⟨a11,_,rfl,_,hus⟩:=hus;obtain⟨a12,_,rfl,_,hus⟩:=hus;obtain⟨a13,_,rfl,_,hus⟩:=hus;obtain⟨a14,_,rfl,_,hus⟩:=hus;obtain⟨a15,_,rfl,_,hus⟩:=hus;obtain⟨a16,_,rfl,_,hus⟩:=hus;obtain⟨a17,_,rfl,_,hus⟩:=hus;obtain⟨a18,_,rfl,_,hus⟩:=hus;obtain⟨a19,_,rfl,_,hus⟩:=hus;obtain⟨a20,_,rfl,_,hus⟩:=hus;obtain⟨a21,_,rfl,_,hus⟩:=hus;obtain⟨a22,_,rfl,_,hus⟩:=hus;cases hus;have c4:=hc4 0 _ rfl;refine(Zr _ x.1.kind x.1.aq name b (o+0) a1 a2 a3 a4 a5 a6 a7 a8 a9 a10 a11 a12 a13 a14 a15 a16 a17 a18 a19 a20 a21 a22 w hg c4.2 (hz _ _ c4.1) _ (Lib.hid rfl)).mono ?_;rintro e w' ⟨rfl,hb⟩;exact⟨_,_,rfl,rfl,⟨rfl,rfl⟩,hb⟩
theorem UR{R:aE→aE×aP}(l:List aU)(name:BA)(hl:l.length≤1000000)(h:w6 R l name):PC 9 [.sl false (l.map bX),st name] (·=.sl false ((sT R l name).map bX)):=by
 have hm:=Zx l name hl h;have hk:=AR (pW R l name) (fun _ x=>AN name x) (by have:=YL R l name;omega) (cA.one (a:=[st name])) fun k x _=>OZ k x name
 rw[Aw]at hk;exact al Tryz.func9<|af hm rfl<|af hk rfl<|ab
theorem U1(a b:List BA)(ha:a.length≤1000000):PC 11 [sl st a,sl st b] (·=bo (eQ seq a b)):=by
 refine al Tryz.func11<|ae.two (fun he=>?_) (fun he=>?_);rotate_left
 ·have he:a.length≠b.length:=fun e=>by
   have h:=aaw he;rw[aao,aao]at h;omega
  refine ah ?_;rw[ug he];exact ab
 have he:a.length=b.length:=by
  have h:=aat he;rw[aao,aao]at h;omega
 refine aa<|cv.inv (ι:={q:Nat//q≤a.length∧eQ seq a b=eQ seq (a.drop q) (b.drop q)}) ⟨fun p=>[(5,i64 p.1)],[0,1],fun _=>[],[]⟩ (fun p=>a.length-p.1) ⟨0,aaF _,rfl⟩ ?_ ?_
 ·exact bC
 rintro⟨q,hq,hj⟩;refine ae.two (fun h1=>?_) (fun h1=>?_)
 ·have h1:q<a.length:=by
   have h1:((q:Nat):Int)<((a.map st).length:Nat):=aat h1;rw[aao]at h1;omega
  refine ah ?_;obtain⟨x,hx⟩:∃x,a[q]? = some x:=get_at h1;obtain⟨y,hy⟩:∃y,b[q]? = some y:=get_at (by omega);have hd:=xo seq hx hy;refine bx hx<|bx hy<|ae.is (seq x y) rfl<|ar ?_;cases hpx:seq x y with
  |false=>
   rw[hpx]at hd;exact ah<|⟨200,_,_,.inl rfl,(show bo false=bo (eQ seq a b)by rw[hj,hd])⟩
  |true=>
   rw[hpx]at hd;refine aa<|ax (cO q)<|⟨⟨q+1,h1,hj.trans hd⟩,id,?_,?_⟩
   ·show a.length-(q+1)<a.length-q;omega
   exact bC
 ·have h1:¬q<a.length:=fun h=>by
   have h1:¬((q:Nat):Int)<((a.map st).length:Nat):=aaw h1;rw[aao]at h1;omega
  exact aa<|⟨200,_,_,.inl rfl,(show bo true=bo (eQ seq a b)by rw[hj,aaR (by omega),aaR (by omega)];rfl)⟩
theorem ZV(c:bS):c.put.size≤20:=by
 unfold bS.put;rw[aI];have h1:=bL (av c.kind);have h2:=bL c.n;omega
theorem L6{t:bD}(h1:t.aq.size≤32)(h2:t.bn.length≤8)(h3:t.sig.size≤32):t.put.size≤1000:=by
 unfold bD.put;cases t.may with
 |false=>show aG.size≤_;rw[uc];omega
 |true=>
  show t.bytes.size≤_
  unfold bD.bytes;rw[aI];have h4:=d_ t.aq;have h5:=bL (av (t.bn.length:Nat));have h6:=jg (f:=dT) (B:=20) (l:=t.bn) (s:=bz t.aq++an (av (t.bn.length:Nat))) fun s c _=>by
   show(s++c.put).size≤_
   rw[aI];have:=ZV c;omega
  rw[aI]at h6;generalize t.bn.length=n at h2 h5 h6⊢;have:20*n≤20*8:=Nat.mul_le_mul_left _ h2;omega
theorem l8{t:bD}{o:aw}(h1:t.aq.size≤32)(h2:t.bn.length≤8)(h3:t.sig.size≤32)(ho:Small o):PC 29 [t.pv,o.pv] (·=st (kr t o)):=
 Po t o (by omega) (by omega) (by omega) ho.sz (by have:=L6 h1 h2 h3;omega) (by have:=tz ho;omega)
theorem jO(i:Nat):(pick cq i).size≤2:=pR (by decide) _
theorem lg(i:Nat):(cG++pick cq i).size≤5:=by
 rw[aI];have:=jO i;have:cG.size=3:=rfl;omega
theorem fu(i:Nat):cG.size+(pick cq i).size≤5:=by
 have:=lg i;rw[aI]at this;exact this
theorem mz(key aq:BA)(hk:key.size≤1000)(hs:aq.size≤32):∃t:bD,t=bD.new key aq∧PC 30 [st key,st aq] (·=t.pv)∧t.aq.size≤32∧t.bn.length=0∧t.sig.size≤32:=
 ⟨bD.new key aq,rfl,Em key aq (by omega) (by omega),hs,rfl,by show(Mc.jc key aq).size≤_;rw[Mc.qx];omega⟩
def fc(x:bf)(loss:Bool)(k:Nat)(hk:x.kind.toNat%24=k){r1:UInt64}{r2:Bool}(hnd:PC 28 [x.op.pv] (·=.aK [pu r1,bo r2]))(post:PV→Prop):{Q:Prop//Q→PC 10 [x.pv,bo loss] post}:=⟨_,fun q=>by
 refine al Tryz.func10<|ay y7 rfl<|dJ (a:=x.t.toNat) (b:=3) (by decide)<|mH (l:=cq) (i:=x.t.toNat%3) (acM _ (by decide)) ?_
 exact ar<|af (YD x) rfl<|af hnd rfl<|cj<|bN.intro (k:Int) ((y8 x.kind.toNat 24).trans (by rw[hk])) q⟩
theorem YJ(x:bf)(loss:Bool)(k:Nat)(hk:x.kind.toNat%24=k)(h4:k<4):PC 10 [x.pv,bo loss] (·=(x.di loss k).1.pv):=by
 have ee:x.di loss k=({bV.z with kind:=3},none):=by unfold bf.di;rw[aaB h4]
 rw[ee];have ht:=bE x.t;have hn:=bE x.n;have hnd:=gg x.op;exact(fc x loss k hk (hnd) _).2<|ae.t (show(k:Int)<4 by omega)<|ah<|ab
theorem RA(x:bf)(hk:x.kind.toNat%24=4):PC 10 [x.pv,bo true] (·=(x.di true 4).1.pv):=by
 have ht:=bE x.t;have hn:=bE x.n;have hnd:=gg x.op;exact(fc x true 4 hk (hnd) _).2<|ao<|aa<|cH<|ah<|dJ (a:=x.n.toNat) (b:=9) (by decide)<|ax (j9 (x.n.toNat%9))<|ax (j9 x.c.toNat (by have:=bE x.c;omega))<|ab
theorem PJ(x:bf)(hk:x.kind.toNat%24=5):PC 10 [x.pv,bo true] (·=(x.di true 5).1.pv):=by
 have ht:=bE x.t;have hn:=bE x.n;have hnd:=gg x.op;exact(fc x true 5 hk (hnd) _).2<|ao<|aa<|ao<|aa<|cH<|ah<|ax (j9 x.c.toNat (by have:=bE x.c;omega))<|ab
theorem Vb(x:bf)(hk:x.kind.toNat%24=6):PC 10 [x.pv,bo true] (·=(x.di true 6).1.pv):=by
 have ht:=bE x.t;have hn:=bE x.n;have hnd:=gg x.op;exact(fc x true 6 hk (hnd) _).2<|ao<|aa<|ao<|aa<|ao<|aa<|cH<|ah<|ax (j9 x.c.toNat (by have:=bE x.c;omega))<|ab
theorem Zb(x:bf)(hk:x.kind.toNat%24=7):PC 10 [x.pv,bo true] (·=(x.di true 7).1.pv):=by
 have ht:=bE x.t;have hn:=bE x.n;have hnd:=gg x.op;refine(fc x true 7 hk (hnd) _).2<|ao<|aa<|ao<|aa<|ao<|aa<|ao<|aa<|cH<|ah<|dJ (a:=x.n.toNat) (b:=2) (by decide)<|ax (j9 (x.n.toNat%2))<|dH (8+x.n.toNat%2) ?_;exact ab
theorem Xv(x:bf)(hk:x.kind.toNat%24=8):PC 10 [x.pv,bo true] (·=(x.di true 8).1.pv):=by
 have ht:=bE x.t;have hn:=bE x.n;have hnd:=gg x.op;refine(fc x true 8 hk (hnd) _).2<|ao<|aa<|ao<|aa<|ao<|aa<|ao<|aa<|cH<|ah<|dJ (a:=x.n.toNat) (b:=2) (by decide)<|ax (j9 (x.n.toNat%2))<|dH (8+x.n.toNat%2) ?_;exact ab
theorem Qh(x:bf)(hk:x.kind.toNat%24=9):PC 10 [x.pv,bo true] (·=(x.di true 9).1.pv):=by
 have ht:=bE x.t;have hn:=bE x.n;have hnd:=gg x.op;refine(fc x true 9 hk (hnd) _).2<|ao<|aa<|ao<|aa<|ao<|aa<|ao<|aa<|cH<|ah<|dJ (a:=x.n.toNat) (b:=2) (by decide)<|ax (j9 (x.n.toNat%2))<|dH (8+x.n.toNat%2) ?_;exact ab
theorem P7(x:bf)(loss:Bool)(hk:x.kind.toNat%24=10):PC 10 [x.pv,bo loss] (·=(x.di loss 10).1.pv):=by
 have ht:=bE x.t;have hn:=bE x.n;have hnd:=gg x.op;refine(fc x loss 10 hk (hnd) _).2<|ao<|aa<|ao<|aa<|ao<|aa<|ao<|aa<|ao<|aa<|cH<|ah<|dJ (a:=x.n.toNat) (b:=4) (by decide) ?_;refine mH (l:=[sA,sD,uW,jU]) (i:=x.n.toNat%4) (by show _<4;omega) ?_;exact ab
theorem Ti(x:bf)(loss:Bool)(hk:x.kind.toNat%24=11):PC 10 [x.pv,bo loss] (·=(x.di loss 11).1.pv):=by
 have ht:=bE x.t;have hn:=bE x.n;have hsm:=jG x;have hnd:=gg x.op;obtain⟨t,e1,hN,g1,g2,g3⟩:=mz (cG++x.name) (pick cq (x.n.toNat%3)) (by have:=lg (x.t.toNat%3);show(cG++pick cq (x.t.toNat%3)).size≤_;omega) (by have:=jO (x.n.toNat%3);omega);have hG:=l8 g1 (by omega) g3 hsm;have ee:x.di loss 11=dx t x.op:=by rw[e1];rfl
 rw[ee];refine(fc x loss 11 hk (hnd) _).2<|ao<|aa<|ao<|aa<|ao<|aa<|ao<|aa<|ao<|aa<|ao<|aa<|cH ?_;refine ah<|ak.mk (bZ (a:=cG) (b:=pick cq (x.t.toNat%3)) (by have:=fu (x.t.toNat%3);omega) (by have:=fu (x.t.toNat%3);omega))<|ay y7 rfl<|dJ (a:=x.n.toNat) (b:=3) (by decide)<|mH (l:=cq) (i:=x.n.toNat%3) (by show _<3;omega) ?_;exact ay hN rfl<|ay hG rfl<|ar<|ab
theorem NO(x:bf)(loss:Bool)(hk:x.kind.toNat%24=12):PC 10 [x.pv,bo loss] (·=(x.di loss 12).1.pv):=by
 have ht:=bE x.t;have hn:=bE x.n;have hsm:=jG x;have hnd:=gg x.op;obtain⟨t,e1,hN,g1,g2,g3⟩:=mz (cG++x.name) x.name (by have:=lg (x.t.toNat%3);show(cG++pick cq (x.t.toNat%3)).size≤_;omega) (by have:=jO (x.t.toNat%3);show(pick cq (x.t.toNat%3)).size≤_;omega);have hW:=X6 t ⟨((1+x.n.toNat%2:Nat):Int),UInt64.ofNat (x.n.toNat / 2%9)⟩ (by omega) (by omega);have ee:x.di loss 12=dx (t.narrow ⟨((1+x.n.toNat%2:Nat):Int),UInt64.ofNat (x.n.toNat / 2%9)⟩) x.op:=by rw[e1];rfl
 have hG:=l8 (t:=t.narrow ⟨((1+x.n.toNat%2:Nat):Int),UInt64.ofNat (x.n.toNat / 2%9)⟩) (o:=x.op) g1 (by show(t.bn++[_]).length≤8;rw[aap,g2];exact(by decide:0+1≤8)) (by show(Mc.jc t.sig _).size≤32;rw[Mc.qx];omega) hsm;rw[ee];refine(fc x loss 12 hk (hnd) _).2<|ao<|aa<|ao<|aa<|ao<|aa<|ao<|aa<|ao<|aa<|ao<|aa<|ao ?_;refine aa<|cH<|ah<|ak.mk (bZ (a:=cG) (b:=pick cq (x.t.toNat%3)) (by have:=fu (x.t.toNat%3);omega) (by have:=fu (x.t.toNat%3);omega))<|ay hN rfl<|dJ (a:=x.n.toNat) (b:=2) (by decide)<|ax (j9 (x.n.toNat%2))<|dH (1+x.n.toNat%2)<|xu (a:=x.n.toNat) (b:=2) hn (by decide)<|dJ (a:=x.n.toNat / 2) (b:=9) (by decide)<|ax (j5 (x.n.toNat / 2%9))<|ay hW rfl<|ay hG rfl<|ar ?_;exact ab
theorem Dx(a b:UInt8):bytesOf [((a.toNat:Nat):Int),((b.toNat:Nat):Int)]=⟨#[a,b]⟩:=by
 have e:∀a:UInt8,UInt8.ofNat (Int.toNat ((a.toNat:Nat):Int))=a:=fun a=>by rw[abk];exact UInt8.ofNat_toNat
 unfold bytesOf;simp only[aaZ,List.map_nil,e]
theorem U'(x:bf)(hk:x.kind.toNat%24=13):PC 10 [x.pv,bo true] (·=(x.di true 13).1.pv):=by
 have ht:=bE x.t;have hn:=bE x.n;have hnd:=gg x.op;have ee:x.di true 13=({bV.z with kind:=((x.n.toNat%12:Nat):Int),aq:=x.name,o:=x.op,bytes:=bytesOf [((x.n.toNat:Nat):Int),((x.t.toNat:Nat):Int)]},none):=by rw[Dx];rfl
 rw[ee];refine(fc x true 13 hk (hnd) _).2<|ao<|aa<|ao<|aa<|ao<|aa<|ao<|aa<|ao<|aa<|ao<|aa<|ao ?_;exact aa<|ao<|aa<|cH<|ah<|dJ (a:=x.n.toNat) (b:=12) (by decide)<|ax (j9 (x.n.toNat%12))<|aa<|ab
theorem Vv(x:bf)(hk:x.kind.toNat%24=13):PC 10 [x.pv,bo false] (·=(x.di false 13).1.pv):=by
 have ht:=bE x.t;have hn:=bE x.n;have hnd:=gg x.op;refine(fc x false 13 hk (hnd) _).2<|ao<|aa<|ao<|aa<|ao<|aa<|ao<|aa<|ao<|aa<|ao<|aa<|ao ?_;refine aa<|ao<|aa<|cH<|ah<|dJ (a:=x.n.toNat) (b:=12) (by decide)<|ax (j9 (x.n.toNat%12)) ?_;obtain⟨m,hm⟩:∃m,x.n.toNat%12=m:=⟨_,rfl⟩;have ee:x.di false 13=({bV.z with kind:=lz false m,aq:=x.name,o:=x.op,bytes:=bytesOf [((x.n.toNat:Nat):Int),((x.t.toNat:Nat):Int)]},none):=by rw[← hm,Dx];rfl
 rw[ee,hm];by_cases h5:5≤m
 ·refine ae.t (show(5:Int)≤(m:Int)by omega) ?_;by_cases h7:m≤7
  ·have e7:lz false m=0:=by unfold lz;rw[aaB h5,aaB h7];rfl
   rw[e7];exact ae.t (show(m:Int)≤7 by omega)<|ah<|ab
  ·have e7:lz false m=(m:Int):=by unfold lz;rw[aaB h5,aar h7];rfl
   rw[e7];exact ae.f (show¬(m:Int)≤7 by omega)<|aa<|ab
 ·have e7:lz false m=(m:Int):=by unfold lz;rw[aar h5];rfl
  rw[e7];exact ae.f (show¬(5:Int)≤(m:Int)by omega)<|aa<|ab
theorem UJ(x:bf)(hk:x.kind.toNat%24=4):PC 10 [x.pv,bo false] (·=(x.di false 4).1.pv):=by
 have ht:=bE x.t;have hn:=bE x.n;have hsm:=jG x;have hnd:=gg x.op;rcases hx:dn x.op with⟨r,_|_⟩
 ·have ee:x.di false 4=({bV.z with kind:=2,aq:=x.name,o:=x.op},none):=by show(match(dn x.op).2 with|false=>(({bV.z with kind:=2,aq:=x.name,o:=x.op},none):aU)|true=>dx (dK x.name) x.op)=_;rw[hx]
  rw[ee];rw[hx]at hnd;refine(fc x false 4 hk (hnd) _).2<|ao<|aa<|cH<|aa<|ao<|aa<|ao<|aa<|cH<|aa<|ao<|aa<|ao ?_;exact aa<|ao<|aa<|ao<|aa<|ah<|ab
 ·obtain⟨t,e1,hN,g1,g2,g3⟩:=mz (cG++x.name) x.name (by have:=lg (x.t.toNat%3);show(cG++pick cq (x.t.toNat%3)).size≤_;omega) (by have:=jO (x.t.toNat%3);show(pick cq (x.t.toNat%3)).size≤_;omega);have hG:=l8 g1 (by omega) g3 hsm;have ee:x.di false 4=dx t x.op:=by rw[e1];show(match(dn x.op).2 with|false=>(({bV.z with kind:=2,aq:=x.name,o:=x.op},none):aU)|true=>dx (dK x.name) x.op)=_;rw[hx];rfl
  rw[ee];rw[hx]at hnd;refine(fc x false 4 hk (hnd) _).2<|ao<|aa<|cH<|aa<|ao<|aa<|ao<|aa<|cH<|aa<|ao<|aa<|ao ?_;exact aa<|ao<|aa<|ao<|aa<|aa<|ak.mk (bZ (a:=cG) (b:=pick cq (x.t.toNat%3)) (by have:=fu (x.t.toNat%3);omega) (by have:=fu (x.t.toNat%3);omega))<|ay hN rfl<|ay hG rfl<|ar<|ab
theorem ZY(x:bf)(hk:x.kind.toNat%24=5):PC 10 [x.pv,bo false] (·=(x.di false 5).1.pv):=by
 have ht:=bE x.t;have hn:=bE x.n;have hsm:=jG x;have hnd:=gg x.op;rcases hx:dn x.op with⟨r,_|_⟩
 ·have ee:x.di false 5=({bV.z with kind:=2,aq:=x.name,o:=x.op},none):=by show(match(dn x.op).2 with|false=>(({bV.z with kind:=2,aq:=x.name,o:=x.op},none):aU)|true=>dx (dK x.name) x.op)=_;rw[hx]
  rw[ee];rw[hx]at hnd;refine(fc x false 5 hk (hnd) _).2<|ao<|aa<|ao<|aa<|cH<|aa<|ao<|aa<|cH<|aa<|ao<|aa<|ao ?_;exact aa<|ao<|aa<|ao<|aa<|ah<|ab
 ·obtain⟨t,e1,hN,g1,g2,g3⟩:=mz (cG++x.name) x.name (by have:=lg (x.t.toNat%3);show(cG++pick cq (x.t.toNat%3)).size≤_;omega) (by have:=jO (x.t.toNat%3);show(pick cq (x.t.toNat%3)).size≤_;omega);have hG:=l8 g1 (by omega) g3 hsm;have ee:x.di false 5=dx t x.op:=by rw[e1];show(match(dn x.op).2 with|false=>(({bV.z with kind:=2,aq:=x.name,o:=x.op},none):aU)|true=>dx (dK x.name) x.op)=_;rw[hx];rfl
  rw[ee];rw[hx]at hnd;refine(fc x false 5 hk (hnd) _).2<|ao<|aa<|ao<|aa<|cH<|aa<|ao<|aa<|cH<|aa<|ao<|aa<|ao ?_;exact aa<|ao<|aa<|ao<|aa<|aa<|ak.mk (bZ (a:=cG) (b:=pick cq (x.t.toNat%3)) (by have:=fu (x.t.toNat%3);omega) (by have:=fu (x.t.toNat%3);omega))<|ay hN rfl<|ay hG rfl<|ar<|ab
theorem Ot(x:bf)(hk:x.kind.toNat%24=6):PC 10 [x.pv,bo false] (·=(x.di false 6).1.pv):=by
 have ht:=bE x.t;have hn:=bE x.n;have hsm:=jG x;have hnd:=gg x.op;rcases hx:dn x.op with⟨r,_|_⟩
 ·have ee:x.di false 6=({bV.z with kind:=2,aq:=x.name,o:=x.op},none):=by show(match(dn x.op).2 with|false=>(({bV.z with kind:=2,aq:=x.name,o:=x.op},none):aU)|true=>dx (dK x.name) x.op)=_;rw[hx]
  rw[ee];rw[hx]at hnd;refine(fc x false 6 hk (hnd) _).2<|ao<|aa<|ao<|aa<|ao<|aa<|cH<|aa<|cH<|aa<|ao<|aa<|ao ?_;exact aa<|ao<|aa<|ao<|aa<|ah<|ab
 ·obtain⟨t,e1,hN,g1,g2,g3⟩:=mz (cG++x.name) x.name (by have:=lg (x.t.toNat%3);show(cG++pick cq (x.t.toNat%3)).size≤_;omega) (by have:=jO (x.t.toNat%3);show(pick cq (x.t.toNat%3)).size≤_;omega);have hG:=l8 g1 (by omega) g3 hsm;have ee:x.di false 6=dx t x.op:=by rw[e1];show(match(dn x.op).2 with|false=>(({bV.z with kind:=2,aq:=x.name,o:=x.op},none):aU)|true=>dx (dK x.name) x.op)=_;rw[hx];rfl
  rw[ee];rw[hx]at hnd;refine(fc x false 6 hk (hnd) _).2<|ao<|aa<|ao<|aa<|ao<|aa<|cH<|aa<|cH<|aa<|ao<|aa<|ao ?_;exact aa<|ao<|aa<|ao<|aa<|aa<|ak.mk (bZ (a:=cG) (b:=pick cq (x.t.toNat%3)) (by have:=fu (x.t.toNat%3);omega) (by have:=fu (x.t.toNat%3);omega))<|ay hN rfl<|ay hG rfl<|ar<|ab
theorem Za(x:bf)(hk:x.kind.toNat%24=7):PC 10 [x.pv,bo false] (·=(x.di false 7).1.pv):=by
 have ht:=bE x.t;have hn:=bE x.n;have hsm:=jG x;have hnd:=gg x.op;rcases hx:dn x.op with⟨r,_|_⟩
 ·have ee:x.di false 7=({bV.z with kind:=2,aq:=x.name,o:=x.op},none):=by show(match(dn x.op).2 with|false=>(({bV.z with kind:=2,aq:=x.name,o:=x.op},none):aU)|true=>dx (dK x.name) x.op)=_;rw[hx]
  rw[ee];rw[hx]at hnd;refine(fc x false 7 hk (hnd) _).2<|ao<|aa<|ao<|aa<|ao<|aa<|ao<|aa<|cH<|aa<|ao<|aa<|ao ?_;exact aa<|ao<|aa<|ao<|aa<|ah<|ab
 ·obtain⟨t,e1,hN,g1,g2,g3⟩:=mz (cG++x.name) x.name (by have:=lg (x.t.toNat%3);show(cG++pick cq (x.t.toNat%3)).size≤_;omega) (by have:=jO (x.t.toNat%3);show(pick cq (x.t.toNat%3)).size≤_;omega);have hG:=l8 g1 (by omega) g3 hsm;have ee:x.di false 7=dx t x.op:=by rw[e1];show(match(dn x.op).2 with|false=>(({bV.z with kind:=2,aq:=x.name,o:=x.op},none):aU)|true=>dx (dK x.name) x.op)=_;rw[hx];rfl
  rw[ee];rw[hx]at hnd;refine(fc x false 7 hk (hnd) _).2<|ao<|aa<|ao<|aa<|ao<|aa<|ao<|aa<|cH<|aa<|ao<|aa<|ao ?_;exact aa<|ao<|aa<|ao<|aa<|aa<|ak.mk (bZ (a:=cG) (b:=pick cq (x.t.toNat%3)) (by have:=fu (x.t.toNat%3);omega) (by have:=fu (x.t.toNat%3);omega))<|ay hN rfl<|ay hG rfl<|ar<|ab
theorem VL(x:bf)(hk:x.kind.toNat%24=8):PC 10 [x.pv,bo false] (·=(x.di false 8).1.pv):=by
 have ht:=bE x.t;have hn:=bE x.n;have hsm:=jG x;have hnd:=gg x.op;rcases hx:dn x.op with⟨r,_|_⟩
 ·have ee:x.di false 8=({bV.z with kind:=2,aq:=x.name,o:=x.op},none):=by show(match(dn x.op).2 with|false=>(({bV.z with kind:=2,aq:=x.name,o:=x.op},none):aU)|true=>dx (dK x.name) x.op)=_;rw[hx]
  rw[ee];rw[hx]at hnd;refine(fc x false 8 hk (hnd) _).2<|ao<|aa<|ao<|aa<|ao<|aa<|ao<|aa<|cH<|aa<|ao<|aa<|ao ?_;exact aa<|ao<|aa<|ao<|aa<|ah<|ab
 ·obtain⟨t,e1,hN,g1,g2,g3⟩:=mz (cG++x.name) x.name (by have:=lg (x.t.toNat%3);show(cG++pick cq (x.t.toNat%3)).size≤_;omega) (by have:=jO (x.t.toNat%3);show(pick cq (x.t.toNat%3)).size≤_;omega);have hG:=l8 g1 (by omega) g3 hsm;have ee:x.di false 8=dx t x.op:=by rw[e1];show(match(dn x.op).2 with|false=>(({bV.z with kind:=2,aq:=x.name,o:=x.op},none):aU)|true=>dx (dK x.name) x.op)=_;rw[hx];rfl
  rw[ee];rw[hx]at hnd;refine(fc x false 8 hk (hnd) _).2<|ao<|aa<|ao<|aa<|ao<|aa<|ao<|aa<|cH<|aa<|ao<|aa<|ao ?_;exact aa<|ao<|aa<|ao<|aa<|aa<|ak.mk (bZ (a:=cG) (b:=pick cq (x.t.toNat%3)) (by have:=fu (x.t.toNat%3);omega) (by have:=fu (x.t.toNat%3);omega))<|ay hN rfl<|ay hG rfl<|ar<|ab
theorem QQ(x:bf)(hk:x.kind.toNat%24=9):PC 10 [x.pv,bo false] (·=(x.di false 9).1.pv):=by
 have ht:=bE x.t;have hn:=bE x.n;have hsm:=jG x;have hnd:=gg x.op;rcases hx:dn x.op with⟨r,_|_⟩
 ·have ee:x.di false 9=({bV.z with kind:=2,aq:=x.name,o:=x.op},none):=by show(match(dn x.op).2 with|false=>(({bV.z with kind:=2,aq:=x.name,o:=x.op},none):aU)|true=>dx (dK x.name) x.op)=_;rw[hx]
  rw[ee];rw[hx]at hnd;refine(fc x false 9 hk (hnd) _).2<|ao<|aa<|ao<|aa<|ao<|aa<|ao<|aa<|cH<|aa<|ao<|aa<|ao ?_;exact aa<|ao<|aa<|ao<|aa<|ah<|ab
 ·obtain⟨t,e1,hN,g1,g2,g3⟩:=mz (cG++x.name) x.name (by have:=lg (x.t.toNat%3);show(cG++pick cq (x.t.toNat%3)).size≤_;omega) (by have:=jO (x.t.toNat%3);show(pick cq (x.t.toNat%3)).size≤_;omega);have hG:=l8 g1 (by omega) g3 hsm;have ee:x.di false 9=dx t x.op:=by rw[e1];show(match(dn x.op).2 with|false=>(({bV.z with kind:=2,aq:=x.name,o:=x.op},none):aU)|true=>dx (dK x.name) x.op)=_;rw[hx];rfl
  rw[ee];rw[hx]at hnd;refine(fc x false 9 hk (hnd) _).2<|ao<|aa<|ao<|aa<|ao<|aa<|ao<|aa<|cH<|aa<|ao<|aa<|ao ?_;exact aa<|ao<|aa<|ao<|aa<|aa<|ak.mk (bZ (a:=cG) (b:=pick cq (x.t.toNat%3)) (by have:=fu (x.t.toNat%3);omega) (by have:=fu (x.t.toNat%3);omega))<|ay hN rfl<|ay hG rfl<|ar<|ab
theorem O5(x:bf)(loss:Bool)(k:Nat)(hk:x.kind.toNat%24=k)(h4:14≤k):PC 10 [x.pv,bo loss] (·=(x.di loss k).1.pv):=by
 have ht:=bE x.t;have hn:=bE x.n;have hsm:=jG x;have hnd:=gg x.op;rcases hx:dn x.op with⟨r,_|_⟩
 ·have ee:x.di loss k=({bV.z with kind:=2,aq:=x.name,o:=x.op},none):=by unfold bf.di;rw[aar (by omega),aar (by omega),aar (by omega),aar (by omega),aar (by omega),aar (by omega),aar (by omega),aar (by omega),aar (by omega)];show(match(dn x.op).2 with|false=>(({bV.z with kind:=2,aq:=x.name,o:=x.op},none):aU)|true=>dx (dK x.name) x.op)=_;rw[hx]
  rw[ee];rw[hx]at hnd;refine(fc x loss k hk (hnd) _).2<|ae.f (show¬(k:Int)<4 by omega)<|aa<|ae.f (show¬(k:Int)=4 by omega)<|aa<|ae.f (show¬(k:Int)=5 by omega)<|aa<|ae.f (show¬(k:Int)=6 by omega)<|aa<|ae.f (show¬(k:Int)<10 by omega)<|aa<|ae.f (show¬(k:Int)=10 by omega)<|aa<|ae.f (show¬(k:Int)=11 by omega) ?_;exact aa<|ae.f (show¬(k:Int)=12 by omega)<|aa<|ae.f (show¬(k:Int)=13 by omega)<|aa<|ah<|ab
 ·obtain⟨t,e1,hN,g1,g2,g3⟩:=mz (cG++x.name) x.name (by have:=lg (x.t.toNat%3);show(cG++pick cq (x.t.toNat%3)).size≤_;omega) (by have:=jO (x.t.toNat%3);show(pick cq (x.t.toNat%3)).size≤_;omega);have hG:=l8 g1 (by omega) g3 hsm;have ee:x.di loss k=dx t x.op:=by rw[e1];unfold bf.di;rw[aar (by omega),aar (by omega),aar (by omega),aar (by omega),aar (by omega),aar (by omega),aar (by omega),aar (by omega),aar (by omega)];show(match(dn x.op).2 with|false=>(({bV.z with kind:=2,aq:=x.name,o:=x.op},none):aU)|true=>dx (dK x.name) x.op)=_;rw[hx];rfl
  rw[ee];rw[hx]at hnd;refine(fc x loss k hk (hnd) _).2<|ae.f (show¬(k:Int)<4 by omega)<|aa<|ae.f (show¬(k:Int)=4 by omega)<|aa<|ae.f (show¬(k:Int)=5 by omega)<|aa<|ae.f (show¬(k:Int)=6 by omega)<|aa<|ae.f (show¬(k:Int)<10 by omega)<|aa<|ae.f (show¬(k:Int)=10 by omega)<|aa<|ae.f (show¬(k:Int)=11 by omega) ?_;exact aa<|ae.f (show¬(k:Int)=12 by omega)<|aa<|ae.f (show¬(k:Int)=13 by omega)<|aa<|aa<|ak.mk (bZ (a:=cG) (b:=pick cq (x.t.toNat%3)) (by have:=fu (x.t.toNat%3);omega) (by have:=fu (x.t.toNat%3);omega))<|ay hN rfl<|ay hG rfl<|ar<|ab
theorem ZS(x:bf)(loss:Bool):PC 10 [x.pv,bo loss] (·=(x.dV loss).1.pv):=by
 unfold bf.dV;obtain⟨k,hk⟩:∃k,x.kind.toNat%24=k:=⟨_,rfl⟩;rw[hk];by_cases h4:k<4
 ·exact YJ x loss k hk h4
 by_cases h14:14≤k
 ·exact O5 x loss k hk h14
 have hh:k=4∨k=5∨k=6∨k=7∨k=8∨k=9∨k=10∨k=11∨k=12∨k=13:=by omega
 rcases hh with rfl|rfl|rfl|rfl|rfl|rfl|rfl|rfl|rfl|rfl
 ·cases loss with
  |true=>exact RA x hk
  |false=>exact UJ x hk
 ·cases loss with
  |true=>exact PJ x hk
  |false=>exact ZY x hk
 ·cases loss with
  |true=>exact Vb x hk
  |false=>exact Ot x hk
 ·cases loss with
  |true=>exact Zb x hk
  |false=>exact Za x hk
 ·cases loss with
  |true=>exact Xv x hk
  |false=>exact VL x hk
 ·cases loss with
  |true=>exact Qh x hk
  |false=>exact QQ x hk
 ·exact P7 x loss hk
 ·exact Ti x loss hk
 ·exact NO x loss hk
 ·cases loss with
  |true=>exact U' x hk
  |false=>exact Vv x hk
theorem Q6{α:Type}{f:α→PV}{k:Nat}(h:Lay f k)(l:List α)(x:α)(hl:l.length<67108864):mj (l.map f) [f x] k∧([f x]=[]→l.map f=[]):=⟨(dS h l x hl).1,fun h=>by cases h⟩
theorem uw:Lay aw.pv 18:=⟨fun _=>⟨rfl,rfl⟩,fun _=>rfl,fun _ _ _=>rfl⟩
theorem S_:PC 33 [] (·=sl aw.pv iL):=by
 refine al Tryz.func33<|cv.roll 4<|cH<|ah<|dC.intro (st sA) rfl (by decide)<|ak.mk (Q6 uw [{aw.z with kind:=9,v:=⟨30,30,30,30⟩}] (jD sA) (by decide))<|da 1<|cH<|ah<|dC.intro (st mA) rfl (by decide)<|db.l (ak.mk (dS uw [{aw.z with kind:=9,v:=⟨30,30,30,30⟩},jD sA] (jD mA) (by decide)) ?_);refine da 2<|cH<|ah<|dC.intro (st sB) rfl (by decide)<|db.l (ak.mk (dS uw [{aw.z with kind:=9,v:=⟨30,30,30,30⟩},jD sA,jD mA] (jD sB) (by decide)) ?_);refine da 3<|ao<|aa<|cv.roll 3<|cH<|ah<|dC.intro (st rQ) rfl (by decide)<|da 0<|da 4<|da 4<|db.l (ak.mk (dS uw [{aw.z with kind:=9,v:=⟨30,30,30,30⟩},jD sA,jD mA,jD sB] (ul rQ 4) (by decide)) ?_);refine da 1<|cH<|ah<|dC.intro (st sM) rfl (by decide)<|da 2<|da 6<|da 6<|db.l (ak.mk (dS uw [{aw.z with kind:=9,v:=⟨30,30,30,30⟩},jD sA,jD mA,jD sB,ul rQ 4] (ul sM 6) (by decide)) ?_);exact da 2<|ao<|aa<|ab
theorem SE(i:Nat)(o:aw)(ho:Small o):PC 19 [st (pick cq i),o.pv] (·=(dx (dK (pick cq i)) o).1.pv):=by
 obtain⟨t,e1,hN,g1,g2,g3⟩:=mz (cG++pick cq i) (pick cq i) (by have:=lg i;omega) (by have:=jO i;omega);have hG:=l8 g1 (by omega) g3 ho;have ee:dx (dK (pick cq i)) o=dx t o:=by rw[e1];rfl
 rw[ee];exact al Tryz.func19<|ak.mk (bZ (a:=cG) (b:=pick cq i) (by have:=fu i;omega) (by have:=fu i;omega))<|ay hN rfl<|ay hG rfl<|ar<|ab
def Gy(size:Int)(name:BA):aU:=({bV.z with kind:=1,aq:=name,key:=cG++name,n:=size},none)
def oY(size:Int)(q:Nat):List aU:=((cq.take q).map (lZ size)).flatten
def kq(size:Int)(q:Nat)(name:BA)(p:Nat):List aU:=oY size q++Gy size name::(iL.take p).map (ju name)
theorem L_(size:Int){q:Nat}(h:q≤3):(oY size q).length≤21:=by
 have hh:q=0∨q=1∨q=2∨q=3:=by omega
 rcases hh with rfl|rfl|rfl|rfl
 ·exact(by decide:0≤21)
 ·exact(by decide:7≤21)
 ·exact(by decide:14≤21)
 ·exact(by decide:21≤21)
theorem S1(size:Int){q:Nat}(h:q≤3)(name:BA)(p:Nat):(kq size q name p).length≤40:=by
 have:=L_ size h;unfold kq;rw[aap,aaL,aao,aax];have:iL.length=6:=rfl;omega
theorem Mq(size:Int)(q:Nat)(name:BA){p:Nat}{o:aw}(h:iL[p]? = some o):kq size q name (p+1)=kq size q name p++[ju name o]:=by
 unfold kq;rw[adD,h,aaC,abd];rfl
theorem QV(size:Int){q:Nat}(h:q<3):oY size (q+1)=kq size q (pick cq q) 6:=by
 have hh:q=0∨q=1∨q=2:=by omega
 rcases hh with rfl|rfl|rfl
 ·rfl
 ·rfl
 ·rfl
theorem BL{x:aU}{L M:List aU}(h:M=L++[x]):some (aA.rows 24 (L.map bX++[bX x]) true none 40)=some (.rows 24 (M.map bX) true none 40):=by rw[h,aaC];rfl
theorem GO(size:Int)(nx:Nat):LC 14 [i64 size] [] nx fun r d=>r=.aH nx 0 21∧d=[(nx,some (.rows 24 ((opened size).map bX) true none 40))]:=by
 refine eK (js:=[]) (bs:=[]) (args:=[i64 size]) Tryz.func14 rfl rfl rfl rfl trivial rfl<|cv.grow [(3,24,40)] _ (ι:={q:Nat//q≤3}) ⟨fun q=>[(4,i64 q.1),(3,.aH 3 0 (oY size q.1).length)],[0],fun q=>[(3,.rows 24 ((oY size q.1).map bX) true none 40)],[]⟩ (fun q=>3-q.1) ⟨0,aaF _⟩ rfl ⟨rfl,trivial⟩ ?_ ?_
 ·exact bY rfl (eG.bP _)
 rintro⟨q,hq⟩;have hlen:=L_ size hq;refine ae.two (fun h1=>?_) (fun h1=>?_)
 ·have h1:q<3:=by have:=aat h1;dsimp only at this;omega
  obtain⟨t,e1,hN,g1,g2,g3⟩:=mz (cG++pick cq q) (pick cq q) (by have:=lg q;omega) (by have:=jO q;omega);refine ah<|af y7 rfl<|mH (l:=cq) (i:=q) h1<|ak.mk (bZ (a:=cG) (b:=pick cq q) (by have:=fu q;omega) (by have:=fu q;omega))<|db.l (ak.mk (dS eG (oY size q) (Gy size (pick cq q)) (by omega)) ?_);refine af S_ rfl ?_;have hin:=S1 size hq (pick cq q);refine cv.inv (ι:={p:Nat//p≤6}) ⟨fun p=>[(7,i64 p.1),(3,.aH 18 0 (kq size q (pick cq q) p.1).length)],[0,4,5,6],fun p=>[(18,.rows 24 ((kq size q (pick cq q) p.1).map bX) true none 40)],[]⟩ (fun p=>6-p.1) ⟨0,aaF _⟩ ?_ ?_
  ·exact gS ⟨⟨rfl,rfl⟩,⟨(by show some (PV.aH 18 0 ((oY size q).length+1))=some (PV.aH 18 0 (kq size q (pick cq q) 0).length);unfold kq;rw[aap];rfl),rfl⟩,trivial⟩ ⟨⟨BB.aO (by unfold kq;rw[aaC];rfl) (eG.bP _),rfl⟩,trivial⟩
  rintro⟨p,hp⟩;have hlp:=hin p;refine ae.two (fun h2=>?_) (fun h2=>?_)
  ·have h2:p<6:=by
    have h2:((p:Nat):Int)<((iL.map aw.pv).length:Nat):=aat h2;have:(iL.map aw.pv).length=6:=rfl;omega
   obtain⟨o,ho⟩:∃o,iL[p]? = some o:=get_at h2;have hnx:=Mq size q (pick cq q) ho;have hsm:=Be (aau ho);have hG:=l8 g1 (by omega) g3 hsm;refine ah<|bx ho<|bx ho<|ae.is (decide (o.kind=3)) rfl ?_;cases hk:decide (o.kind=3)with
   |true=>
    have ee:ju (pick cq q) o=dx t o:=by unfold ju;rw[hk,e1];rfl
    rw[ee]at hnx;refine ah<|ak.mk (bZ (a:=cG) (b:=pick cq q) (by have:=fu q;omega) (by have:=fu q;omega))<|ay hN rfl<|bx ho<|ay hG rfl<|ar<|db.l (ak.mk (dS eG (kq size q (pick cq q) p) (dx t o) (by omega)) ?_);refine ax (cO p)<|⟨⟨p+1,h2⟩,sw 18 55,?_,?_⟩
    ·show 6-(p+1)<6-p;omega
    exact gS ⟨⟨rfl,rfl⟩,⟨(by show some _=some _;rw[hnx,aap];rfl),rfl⟩,trivial⟩ ⟨⟨BB.aO (BL hnx) (eG.bP _),rfl⟩,trivial⟩
   |false=>
    have ee:ju (pick cq q) o=({bV.z with kind:=2,aq:=pick cq q,o:=o},none):=by unfold ju;rw[hk]
    rw[ee]at hnx;refine aa<|db.l (ak.mk (dS eG (kq size q (pick cq q) p) ({bV.z with kind:=2,aq:=pick cq q,o:=o},none) (by omega)) ?_);refine ax (cO p)<|⟨⟨p+1,h2⟩,sw 18 44,?_,?_⟩
    ·show 6-(p+1)<6-p;omega
    exact gS ⟨⟨rfl,rfl⟩,⟨(by show some _=some _;rw[hnx,aap];rfl),rfl⟩,trivial⟩ ⟨⟨BB.aO (BL hnx) (eG.bP _),rfl⟩,trivial⟩
  ·have h2:p=6:=by
    have h2:¬((p:Nat):Int)<((iL.map aw.pv).length:Nat):=aaw h2;have:(iL.map aw.pv).length=6:=rfl;omega
   subst h2;have hnx:=QV size h1;refine aa<|ax (cO q)<|⟨⟨q+1,h1⟩,sw 3 18,?_,?_⟩
   ·show 3-(q+1)<3-q;omega
   exact gS ⟨⟨rfl,rfl⟩,⟨(by show some _=some _;rw[hnx];rfl),rfl⟩,trivial⟩ ⟨⟨BB.aO (congrArg (fun L:List aU=>some (aA.rows 24 (L.map bX) true none 40)) hnx.symm) (eG.bP _),rfl⟩,trivial⟩
 ·have h1:q=3:=by have:=aaw h1;dsimp only at this;omega
  subst h1;refine aa<|du<|dW.mk ⟨[(3,nx)],200,_,_,rfl,rfl,rfl,⟨dz.mk ⟨_,rfl,eG.bP _,.inl rfl⟩,trivial⟩,?_,rfl⟩;simp[fI,PV.wk,PV.rn,kJ,lk,oY,lZ,iL]
def l_(l:List bf)(loss:Bool)(size:Int)(q:Nat):List aU:=opened size++(l.take q).map (bf.dV loss)
theorem T5(l:List bf)(loss:Bool)(size:Int){q:Nat}{x:bf}(h:l[q]? = some x):l_ l loss size (q+1)=l_ l loss size q++[x.dV loss]:=by
 unfold l_;rw[adD,h,aaC,abd];rfl
theorem Yi(l:List bf)(loss:Bool)(size:Int){q:Nat}(h:q≤40):(l_ l loss size q).length≤61:=by
 unfold l_;rw[aap,AW,aao,aax];omega
theorem Rw{l:List bf}{loss:Bool}{size:Int}{q:Nat}(h:q≤40)(he:q=40∨l.length≤q):lH l loss size=l_ l loss size q:=by
 unfold lH l_;rcases he with rfl|he
 ·rfl
 ·rw[aaQ he,aaQ (by omega)]
theorem XQ(l:List bf)(hl:l.length≤9223372036854775807)(loss:Bool)(size:Int)(nx:Nat):LC 8 [sl bf.pv l,bo loss,i64 size] [] nx fun r d=>r=.aH nx 0 (lH l loss size).length∧d=[(nx,some (.rows 24 ((lH l loss size).map bX) true none 40))]:=by
 have hml:(l.map bf.pv).length=l.length:=aao ..;refine eK (js:=[]) (bs:=[]) (args:=[sl bf.pv l,bo loss,i64 size]) Tryz.func8 rfl rfl rfl rfl trivial rfl<|a_.bB [] (n:=200) (GO size _) rfl trivial<|cv.inv (ι:={q:Nat//q≤40∧q≤l.length}) ⟨fun q=>[(8,i64 q.1),(7,.aH 2 0 (l_ l loss size q.1).length)],[0,1],fun q=>[(2,.rows 24 ((l_ l loss size q.1).map bX) true none 40)],[]⟩ (fun q=>40-q.1) ⟨0,aaF _,aaF _⟩ ?_ ?_
 ·exact bY rfl (eG.bP _)
 rintro⟨q,hq,hql⟩;have hlen:=Yi l loss size hq;have hen:=fun he=>Rw (l:=l) (loss:=loss) (size:=size) hq he
 refine ae.two (fun h1=>?_) (fun h1=>?_)
 ·have h1:q<l.length:=by
   have h1:((q:Nat):Int)<((l.map bf.pv).length:Nat):=aat h1;omega
  obtain⟨x,hx⟩:∃x,l[q]? = some x:=get_at h1;have hn:=T5 l loss size hx;have he:=ZS x loss;by_cases h40:q<40
  ·refine ae.t (show((q:Nat):Int)<40 by omega)<|ah<|bx hx<|af he rfl<|db.l (ak.mk (dS eG (l_ l loss size q) (x.dV loss) (by omega)) ?_);refine ax (cO q)<|⟨⟨q+1,h40,h1⟩,sw 2 21,by show 40-(q+1)<40-q;omega,?_⟩;exact gS ⟨⟨rfl,rfl⟩,⟨(by show some _=some (PV.aH _ 0 (l_ l loss size (q+1)).length);rw[hn,aap];rfl),rfl⟩,trivial⟩ ⟨⟨BB.aO (BL hn) (eG.bP _),rfl⟩,trivial⟩
  ·refine ae.f (show¬((q:Nat):Int)<40 by omega) ?_;rw[hen (.inl (by omega))];refine aa<|du<|dW.mk ⟨[(2,nx)],200,_,_,rfl,rfl,rfl,⟨dz.mk ⟨_,rfl,eG.bP _,.inl rfl⟩,trivial⟩,?_,rfl⟩;simp[fI,PV.wk,PV.rn,kJ,lk]
 ·have h1:l.length≤q:=by
   have h1:¬((q:Nat):Int)<((l.map bf.pv).length:Nat):=aaw h1;omega
  rw[hen (.inr h1)];refine aa<|du<|dW.mk ⟨[(2,nx)],200,_,_,rfl,rfl,rfl,⟨dz.mk ⟨_,rfl,eG.bP _,.inl rfl⟩,trivial⟩,?_,rfl⟩;simp[fI,PV.wk,PV.rn,kJ,lk]
end
section
open Go.RowKit Go.ChangeMaps
structure Iter(w:World)(r B:Nat)(es:Array MapEntry)(cl:Nat)(done:List MapEntry):Prop where
 m:w.heap[B]? = some (.map es cl)
 it:w.heap[r]? = some (.mapIter (some B) cl (done.map (·.born)).toArray cl)
 mem:∀e∈done,e∈es.toList
 nd:(done.map (·.born)).Nodup
 rW:gY es cl
theorem gY.lt{es:Array MapEntry}{cl:Nat}(h:gY es cl):∀x∈es.toList,x.born<cl:=fun x hx=>by
 obtain⟨i,hi⟩:=abJ hx
 rw[aaU]at hi
 rw[h.2 i x hi,h.1]
 exact(aaP.1 hi).1
theorem gY.nd{es:Array MapEntry}{cl:Nat}(h:gY es cl):(es.toList.map (·.born)).Nodup:=by
 have:es.toList.map (·.born)=List.range es.size:=by
  refine acG fun i=>?_
  rw[aaT,aaU];cases e:es[i]? with
  |none=>
   have:=Array.getElem?_eq_none_iff.1 e;rw[acT (by rw[List.length_range];exact this)];rfl
  |some x=>
   have hi:=(aaP.1 e).1;rw[List.getElem?_range hi];exact congrArg some (h.2 i x e)
 rw[this];exact List.nodup_range
theorem Js{α β:Type}{f:α→β}{l:List α}(h:(l.map f).Nodup):l.Nodup:=(List.pairwise_map.1 h).imp fun h e=>h (by rw[e])
theorem ZI(w:World)(r:Nat)(o:Obj):w.grownBy (setBlock w r o) (some r):=by
 refine⟨rfl,rfl,rfl,by simp[setBlock],fun i hi hne=>?_⟩;show(w.heap.setIfInBounds r o)[i]? = _
 rw[ace];split
 ·rename_i e;subst e;exact absurd rfl hne
 ·rfl
theorem Iter.next{P:Program}{w:World}{r B:Nat}{es:Array MapEntry}{cl:Nat}{done:List MapEntry}(h:Iter w r B es cl done)(ty:TypeId):
 (done.Perm es.toList∧(Instr.next (.pointer (some ⟨r,0,none⟩)) false ty).run P w=.ok (.tuple #[.bool false]) w)∨
 ∃e w',e∈es.toList∧(Instr.next (.pointer (some ⟨r,0,none⟩)) false ty).run P w=.ok (.tuple #[.bool true,e.key,e.val]) w'∧Iter w' r B es cl (done++[e])∧w.grownBy w' (some r)∧w'.heap.size=w.heap.size∧(leftOf es ((done++[e]).map (·.born)).toArray).size<(leftOf es (done.map (·.born)).toArray).size:=by
 have hne:r≠B:=by
  intro e
  have:=h.it
  rw[e,h.m]at this
  cases this
 have hseen:∀y,(done.map (·.born)).toArray.contains y=true→∃d∈done,d.born=y:=fun y hy=>by
  have:=Array.contains_iff_mem.1 hy
  simpa using this
 rcases run_next_at (P:=P) w ty r B cl cl _ es cl h.it h.m h.rW.lt (aas _)with⟨h0,hrun⟩|⟨e,he,w1,hw1,hrun⟩
 ·refine .inl ⟨?_,hrun⟩
  refine(List.perm_ext_iff_of_nodup (Js h.nd) (Js h.rW.nd)).2 fun a=>⟨h.mem a,fun ha=>?_⟩
  obtain⟨d,hd,hb⟩:=hseen _ (all_seen es _ h0 a ha)
  rw[← born_inj h.rW.nd (h.mem d hd) ha hb]
  exact hd
 ·obtain⟨hem,hes⟩:=mem_left he
  have hnot:∀d∈done,d.born≠e.born:=fun d hd hb=>by
   have:(done.map (·.born)).toArray.contains e.born=true:=Array.contains_iff_mem.2 (by simp;exact⟨d,hd,hb⟩)
   rw[hes]at this;cases this
  have hr1:w1.heap=w.heap:=by rcases hw1 with rfl|rfl<;>rfl
  have hg1:w.grownBy w1 none:=by rcases hw1 with rfl|rfl<;>exact⟨rfl,rfl,rfl,aas _,fun _ _ _=>rfl⟩
  have hlt:r<w1.heap.size:=by rw[hr1];exact(aaP.1 h.it).1
  have hgr:=ZI w1 r (.mapIter (some B) cl ((done.map (·.born)).toArray.push e.born) cl)
  have hnd:((done++[e]).map (·.born)).Nodup:=by
   rw[aaC]
   refine List.nodup_append.2 ⟨h.nd,by simp,fun a ha b hb e2=>?_⟩
   obtain⟨d,hd,e3⟩:=abc.1 ha
   simp at hb
   exact hnot d hd (by rw[e3,e2,hb])
  have hmem:∀x∈done++[e],x∈es.toList:=fun x hx=>by
   rcases aaN.1 hx with hx|hx
   ·exact h.mem x hx
   ·rw[aaD.1 hx];exact hem
  have hlen:=left_shrinks es _ e he
  have hpu:(done.map (·.born)).toArray.push e.born=((done++[e]).map (·.born)).toArray:=by simp
  rw[hpu]at hlen hrun hgr
  refine .inr ⟨e,_,hem,hrun,⟨?_,?_,hmem,hnd,h.rW⟩,⟨hgr.os.trans hg1.os,hgr.tape.trans hg1.tape,hgr.output.trans hg1.output,aaJ hg1.size hgr.size,fun i hi hn=>(hgr.block i (by rw[hr1];exact hi) hn).trans (by rw[hr1])⟩,by simp[setBlock,hr1],hlen⟩
  ·refine(hgr.block B (by rw[hr1];exact(aaP.1 h.m).1) (fun e=>hne (by cases e;rfl))).trans ?_
   rw[hr1];exact h.m
  ·show(w1.heap.setIfInBounds r _)[r]? = _
   rw[ace]
   simp[hlt]
theorem Iter.start{P:Program}{w:World}{B:Nat}{es:Array MapEntry}{cl:Nat}(t k e:TypeId)(ht:P.underlying t=some (.map k e))(hb:w.heap[B]? = some (.map es cl))(hm:gY es cl):
 (Instr.range t (.map (some B))).run P w=.ok (.pointer (some ⟨w.heap.size,0,none⟩)) (w.alloc (.mapIter (some B) cl #[] cl))∧Iter (w.alloc (.mapIter (some B) cl #[] cl)) w.heap.size B es cl []:=
 ⟨run_range_map w t k e B es cl ht hb,((MapKept.heap_alloc w _).2 B (aaP.1 hb).1).trans hb,(MapKept.heap_alloc w _).1,fun _ h=>(by cases h),acY,hm⟩
theorem Iter.entry{P:Program}{w:World}{r B:Nat}{es:Array MapEntry}{cl:Nat}{done:List MapEntry}{e:MapEntry}(h:Iter w r B es cl (done++[e])):(Instr.entry (.pointer (some ⟨r,0,none⟩))).run P w=.ok (.tuple #[e.key,e.val]) w:=by
 have hb:((done++[e]).map (·.born)).toArray.back? = some e.born:=by simp
 have hf:es.find? (fun x=>x.born==e.born)=some e:=by
  have hm:e∈es.toList:=h.mem e (by simp);cases hx:es.find? (fun x=>x.born==e.born)with
  |none=>
   have:=Array.find?_eq_none.1 hx e (by simpa using hm);simp at this
  |some x=>
   have h1:=Array.find?_some hx;have h2:=Array.mem_of_find?_eq_some hx;have h3:=born_inj (x:=x) (e:=e) h.rW.nd (by simpa using h2) hm (by simpa using h1);rw[h3]
 simp[Instr.entry,getObj,Sem.run,h.it,h.m,hb,hf,Result.andThen]
theorem Iter.left_eq{w:World}{r B:Nat}{es:Array MapEntry}{cl:Nat}{done:List MapEntry}(h:Iter w r B es cl done):w.rangeLeft B r=(leftOf es (done.map (·.born)).toArray).size:=by simp only[World.rangeLeft,h.m,h.it]
theorem Iter.walk{w:World}{r B:Nat}{es:Array MapEntry}{cl:Nat}{done:List MapEntry}(h:Iter w r B es cl done):∃o:Obj,w.heap[r]? = some o∧o.isWalk=true:=⟨_,h.it,rfl⟩
theorem Iter.keeps{w w':World}{r B:Nat}{es:Array MapEntry}{cl:Nat}{done:List MapEntry}(h:Iter w r B es cl done)(hk:KeepsWalks w w'):Iter w' r B es cl done:=⟨hk.same B _ h.m rfl,hk.same r _ h.it rfl,h.mem,h.nd,h.rW⟩
section
variable {F:Fence}{n:Nat}{P:Program}(w:World){ops:Array Oper}{rest:List Oper}{o:Oper}{a:Act}{Q:Exit→Act→World→Prop}
theorem I9(hg:o.guard=none)(m:Operand)(t k e:TypeId)(hop:o.op=Op.range t m)(ht:P.underlying t=some (.map k e))(B:Nat)(es:Array MapEntry)(cl:Nat)(hm:a.eval m=.map (some B))(hb:w.heap[B]? = some (.map es cl))(hmk:gY es cl)
 (hK:Iter (w.alloc (.mapIter (some B) cl #[] cl)) w.heap.size B es cl []→wpListIn F n P ops Q rest (a.put o.dst (.pointer (some ⟨w.heap.size,0,none⟩))) (w.alloc (.mapIter (some B) cl #[] cl))):wpListIn F n P ops Q (o::rest) a w:=by
 refine wpListIn_plain hg fun K' hK'=>?_
 obtain⟨hrun,hit⟩:=Iter.start (P:=P) t k e ht hb hmk
 unfold Oper.wpIn
 refine⟨by simp[Oper.about,hop],?_⟩
 rw[Oper.semAt_plain F _ _ (by rw[hop];intro c hc';cases hc')]
 simp[execOp,hop,hm,hrun,Result.andThen]
 exact hK' _ _ (hK hit)
theorem LM(hg:o.guard=none)(it:Operand)(hop:o.op=Op.next it false){r B:Nat}{es:Array MapEntry}{cl:Nat}{done:List MapEntry}(hit:a.eval it=.pointer (some ⟨r,0,none⟩))(h:Iter w r B es cl done)
 (hDone:done.Perm es.toList→wpListIn F n P ops Q rest (a.put o.dst (.tuple #[.bool false])) w)
 (hMore:∀(e:MapEntry) (w':World),e∈es.toList→Iter w' r B es cl (done++[e])→w.grownBy w' (some r)→(leftOf es ((done++[e]).map (·.born)).toArray).size<(leftOf es (done.map (·.born)).toArray).size→(Instr.entry (.pointer (some ⟨r,0,none⟩))).run P w'=.ok (.tuple #[e.key,e.val]) w'→wpListIn F n P ops Q rest (a.put o.dst (.tuple #[.bool true,e.key,e.val])) w'):
 wpListIn F n P ops Q (o::rest) a w:=by
 refine wpListIn_plain hg fun K' hK'=>?_
 unfold Oper.wpIn
 refine⟨by simp[Oper.about,hop],?_⟩
 rw[Oper.semAt_plain F _ _ (by rw[hop];intro c hc';cases hc')]
 rcases h.next (P:=P) o.type with⟨hd,hrun⟩|⟨e,w',he,hrun,hi,hgr,_,hlt⟩
 ·simp[execOp,hop,hit,hrun,Result.andThen]
  exact hK' _ _ (hDone hd)
 ·simp[execOp,hop,hit,hrun,Result.andThen]
  exact hK' _ _ (hMore e w' he hi hgr hlt hi.entry)
end
end
section
open Go.RowKit
abbrev uV(x:UInt64):Value:=.int .u64 (x.toNat:Int)
theorem xI(x y:UInt64):fS (uV x) (uV y)=some (decide (x=y)):=by
 show some (decide ((x.toNat:Int)=(y.toNat:Int)))=_
 congr 1;refine abq.2 ⟨fun h=>acZ.1 (Int.ofNat.inj h),fun h=>by rw[h]⟩
theorem oK(ks:List UInt64)(x:UInt64):ql (ks.map uV) (uV x):=fun k hk=>by
 obtain⟨y,_,rfl⟩:=abc.1 hk
 rw[xI]
 exact fun h=>by cases h
theorem BP(f:UInt64→PV)(x:UInt64):∀ks:List UInt64,lr (ks.map uV) (ks.map f) (uV x)=match decide (x∈ks)with|true=>some (f x)|false=>none
 | []=>rfl
 |k::ks=>by
  show(match fS (uV x) (uV k)with|some true=>some (f k)|_=>lr (ks.map uV) (ks.map f) (uV x))=_
  rw[xI,BP f x ks]
  by_cases h:x=k
  ·subst h
   rw[aaB rfl,aaB aaA]
  ·rw[aar h,show decide (x∈k::ks)=decide (x∈ks)from abq.2 ⟨fun hm=>(aaI.1 hm).resolve_left h,aaz _⟩]
def j3(ks:List UInt64)(x:UInt64):List UInt64:=match decide (x∈ks)with|true=>ks|false=>ks++[x]
theorem xZ(x:UInt64):∀ks:List UInt64,kL (ks.map uV) (uV x)=(j3 ks x).map uV
 | []=>rfl
 |k::ks=>by
  show(match fS (uV x) (uV k)with|some true=>uV x::ks.map uV|_=>uV k::kL (ks.map uV) (uV x))=_
  rw[xI,xZ x ks]
  unfold j3
  by_cases h:x=k
  ·subst h
   rw[aaB rfl,aaB aaA]
   rfl
  ·rw[aar h,show decide (x∈k::ks)=decide (x∈ks)from abq.2 ⟨fun hm=>(aaI.1 hm).resolve_left h,aaz _⟩]
   cases decide (x∈ks)<;>rfl
def eW{α:Type}(f:UInt64→α)(x:UInt64)(p:α):UInt64→α:=fun k=>match decide (k=x)with|true=>p|false=>f k
theorem wV{α:Type}(f:UInt64→α)(x:UInt64)(p:α):eW f x p x=p:=by unfold eW;rw[aaB rfl]
theorem rh{α:Type}(f:UInt64→α){x k:UInt64}(p:α)(h:k≠x):eW f x p k=f k:=by unfold eW;rw[aar h]
theorem IQ{ks:List UInt64}(h:ks.Nodup)(x:UInt64):(j3 ks x).Nodup:=by
 unfold j3;cases hx:decide (x∈ks)with
 |true=>exact h
 |false=>
  refine List.nodup_append.2 ⟨h,by simp,fun a ha b hb e=>?_⟩;rw[aaD.1 hb]at e;exact aaw hx (e▸ha)
theorem Bu(f:UInt64→PV)(x:UInt64)(p:PV):∀ks:List UInt64,ks.Nodup→me (ks.map uV) (ks.map f) (uV x) p=(j3 ks x).map (eW f x p)
 | [],_=>by show[p]=[eW f x p x];rw[wV]
 |k::ks,hn=>by
  show(match fS (uV x) (uV k)with|some true=>p::ks.map f|_=>f k::me (ks.map uV) (ks.map f) (uV x) p)=_
  have hn2:=(adg.1 hn)
  rw[xI,Bu f x p ks hn2.2]
  unfold j3
  by_cases h:x=k
  ·subst h
   rw[aaB rfl,aaB aaA]
   show p::ks.map f=eW f x p x::ks.map (eW f x p)
   rw[wV]
   congr 1
   refine acb fun y hy=>(rh f p ?_).symm
   exact fun e=>hn2.1 (e▸hy)
  ·rw[aar h,show decide (x∈k::ks)=decide (x∈ks)from abq.2 ⟨fun hm=>(aaI.1 hm).resolve_left h,aaz _⟩]
   have hk:eW f x p k=f k:=rh f p fun e=>h e.symm
   cases decide (x∈ks)with
   |true=>show f k::_=eW f x p k::_;rw[hk]
   |false=>show f k::(ks++[x]).map (eW f x p)=eW f x p k::(ks++[x]).map (eW f x p);rw[hk]
end
section
open Go.RowKit Go.Shelf
attribute [local go_sem] Oper.semAt_some
theorem perm_keys{K ys:List UInt64}(h:(ys.map uV).Perm (K.map uV)):ys.Perm K:=by
 have:=h.map (fun v:Value=>match v with|.int _ x=>UInt64.ofNat x.toNat|_=>0);have e:∀l:List UInt64,(l.map uV).map (fun v:Value=>match v with|.int _ x=>UInt64.ofNat x.toNat|_=>0)=l:=fun l=>by
  rw[abX];conv=>rhs;rw[← List.map_id l]
  refine acb fun x _=>?_
  show UInt64.ofNat ((x.toNat:Int)).toNat=x
  rw[abk];exact UInt64.ofNat_toNat
 rwa [e,e]at this
theorem qp{w:World}{a:Addr}{v:Value}(h:w.cell? a=some v):a.block<w.heap.size:=by
 obtain⟨o,h,_⟩:=cells_of_cell h;exact(aaP.1 h).1
theorem R3(l Bm o B:Nat)(es:Array MapEntry)(cl:Nat)(K:List UInt64)(hK:es.toList.map (·.key)=K.map uV)(hmk:gY es cl)(J Jx:List UInt64→World→Prop)
 (hY:∀pre x W,J pre W→pre.length<K.length→YieldAt Fence.wide (1-1) Tryz.prog l #[uV x] W fun e W'=>(e=.returned (.bool true)∧J (pre++[x]) W'∧KeepsWalks W W')∨(e=.returned (.bool false)∧Jx (pre++[x]) W'))
 (W:World) (hJ:AbidesFrom W.heap.size J) (hc:W.cell? ⟨Bm,o,none⟩=some (.map (some B))) (hB:W.heap[B]? = some (.map es cl)) (h0:J [] W):
 CallsIn Fence.wide 1 Tryz.prog 412 #[.func (.yield l) #[] #[],.pointer (some ⟨Bm,o,none⟩)] W fun e W'=>(∃v,e=.returned v)∧((∃ys,ys.Perm K∧J ys W')∨∃pre:List UInt64,True∧Jx pre W'):=by
 refine callsIn_of_wp Tryz.func412 rfl trivial ?_ rfl
 simp only[Tryz.ntmps412,abv,aaL,abQ,Nat.reduceAdd,Nat.reduceSub,Array.replicate_succ,Array.replicate_zero,List.push_toArray,List.append_toArray,aci,aca]
 gi_wp2_with (first
  |(gi_at_range;refine I9 _ rfl _ 219 _ _ rfl Tryz.underlying219 B es cl rfl hB hmk ?_;intro hit0)
  |gi_in)
 go_frame
 gi_loopw [3] (fun _ wr=>∃(done:List MapEntry) (pre:List UInt64),Iter wr W.heap.size B es cl done∧done.length+(leftOf es (done.map (·.born)).toArray).size≤es.size∧done.map (·.key)=pre.map uV∧J pre wr)
  (fun _ wr=>wr.rangeLeft B W.heap.size)
 case atStart=>
  exact⟨[],[],hit0,by show 0+(es.filter _).size≤es.size;rw[aav];exact Array.size_filter_le,rfl,hJ [] W _ none h0 (World.grownBy_alloc W _ none) (fun r e=>by cases e)⟩
 case round=>
  obtain⟨done,pre,hit,hlen,hpre,hJs⟩:=hrel
  gi_wp2_with (first
   |(gi_at_next;refine LM _ rfl _ rfl rfl hit ?_ ?_)
   |gi_in)
  ·intro hd
   gi_wp2
   go_end0
   refine⟨⟨_,rfl⟩,.inl ⟨pre,perm_keys ?_,hJs⟩⟩
   rw[← hpre,← hK]
   exact hd.map _
  ·intro e w2 he hit2 hg2 hlt hen
   obtain⟨x,hx⟩:∃x,e.key=uV x:=by
    have:e.key∈K.map uV:=by rw[← hK];exact abC (by simpa using he)
    obtain⟨x,_,h⟩:=abc.1 this
    exact⟨x,h.symm⟩
   have hsz:es.size=K.length:=by rw[← aaK,← aao (f:=(·.key)),hK,aao]
   have hpl:pre.length=done.length:=by rw[← aao (f:=uV),← hpre,aao]
   have hJ2:J pre w2:=hJ pre wr w2 (some W.heap.size) hJs hg2 (fun r e=>by cases e;exact⟨aas _,hit.walk⟩)
   obtain⟨fn,tmps,assign,body,hy,hR⟩:=hY pre x w2 hJ2 (by omega)
   obtain⟨ek,ev,eb⟩:=e
   dsimp only at hx hen
   subst hx
   gi_wp2
   refine hR.mono ?_
   rintro e W3 (⟨rfl,hJ3,hk3⟩|⟨rfl,hJx3⟩)
   ·gi_wp2
    have hit3:=hit2.keeps hk3
    go_roundw
    case rel=>exact⟨_,pre++[x],hit3,by simp at hlt⊢;omega,by rw[aaC,aaC,hpre];rfl,hJ3⟩
    case measure=>rw[hit3.left_eq,hit.left_eq];simpa using hlt
   ·gi_wp2
    exact bodyPost_ret (results_none rfl _ _ _) rfl<|⟨⟨_,rfl⟩,.inr ⟨_,trivial,hJx3⟩⟩
theorem Y9(Bm o B:Nat)(es:Array MapEntry)(cl:Nat)(K:List UInt64)(hK:es.toList.map (·.key)=K.map uV)(hmk:gY es cl)(w:World)(hc:w.cell? ⟨Bm,o,none⟩=some (.map (some B)))(hB:w.heap[B]? = some (.map es cl)):
 SeqStopsK Fence.wide 1 Tryz.prog 412 #[.pointer (some ⟨Bm,o,none⟩)] (fun x=>#[uV x]) KeepsWalks (fun ys=>ys.Perm K) (fun _=>True) K.length w:=fun l J Jx W hW hJ _ hY h0=>
 R3 l Bm o B es cl K hK hmk J Jx hY W hJ ((hW.cell (p:=⟨Bm,o,none⟩) (qp hc)).trans hc) ((hW.block B (aaP.1 hB).1).trans hB) h0
end
end Go.Proofs.YtbnonpbnhenkfaaGreatDoor
