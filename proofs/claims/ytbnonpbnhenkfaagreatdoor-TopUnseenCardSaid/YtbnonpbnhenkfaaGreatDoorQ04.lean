/- Part 4 of the proof; the last part says what is proved. -/
import Derived.Test.YtbnonpbnhenkfaaGreatDoorQ03
import Derived.Shelf.Bits.Mul64
import Derived.Shelf.Spec.BitsCarry
import Derived.Lib.Overlaps
import Derived.Lib.SplitLaws
import Derived.Lib.Join
import Derived.OwnWalk
import Derived.Laws.OwnMore
import Derived.Laws.BitsAllLaws
import Derived.Handy
import Derived.Deep.Cut
set_option linter.all false
set_option maxRecDepth 1000000
set_option maxHeartbeats 8000000
namespace Go.Proofs.YtbnonpbnhenkfaaGreatDoor
section
open Go.RowKit Go.Proofs.Tryz
abbrev GT:World->Prop:=jz
abbrev PC(f:FuncId)(args:List PV)(post:PV->Prop):Prop:=kS prog GT f args post
theorem aao{f:FuncId}{fn:Func}{args:List PV}{post:PV->Prop}(a:prog.funcs[f]? = some fn)(c:(fn.name== "runtime.NumGoroutine")=false)(h:zm prog GT tt fn args post):PC f args post:=
 match hb:fn.body with
 |some _=>akj cz cM (λh hb=>jz.below h hb) a (enters_of a c hb) h
 |none=>by unfold zm at h;rw[hb]at h;exact h.elim
abbrev bo(b:Bool):PV:=.at (.bool b)
abbrev i64(n:Int):PV:=.at (.int .i64 n)
abbrev u64(n:Nat):PV:=.at (.int .u64 n)
abbrev st(s:ByteArray):PV:=.at (.string s)
theorem wrap_i64{x y:Int}(h:x=y)(hb:-9223372036854775808<=y/\y<=9223372036854775807):IntKind.i64.wrap x=y:=by
 subst h;rw[IntKind.wrap_i64];omega
theorem yR{α:Type}(f:α->PV):∀(l:List α) (i:Nat) (x:α),l[i]? = some x->PV.cR (l.map f) i=some (f x)
 | [],i,x,h=>by simp at h
 |a::l,0,x,h=>by simp at h;subst h;rfl
 |a::l,i+1,x,h=>yR f l i x (by simpa using h)
def cJ{α:Type}(p:α->Bool):List α->Int->Int
 | [],_=>-1
 |x::l,i=>match p x with|true=>i|false=>cJ p l (i+1)
theorem vP{α:Type}(p:α->Bool){l:List α}{i:Nat}{x:α}(h:l[i]? = some x):cJ p (l.drop i) i=match p x with|true=>(i:Int)|false=>cJ p (l.drop (i+1)) (i+1:Nat):=by
 obtain⟨a,rfl⟩:=c9.1 h;rw[o8 a];rfl
theorem bG{α:Type}{f:α->PV}{l:List α}{i:Nat}{x:α}{k:PV->Prop}(h:l[i]? = some x)(a:k (f x)):fF (l.map f) (i:Int) k:=
 .intro (f x) (by rw[x8];exact yR f l i x h) (C7 i) a
abbrev CB(b b' r1 r2:Nat)(o1 o2 o3:Oper)(c:Nat)(body:Code):Code:=
 .seq (.region r1 #[o1] false) (.seq (.cond (.tmp c) .skip (.exit b)) (.seq (.block b' body) (.region r2 #[o2,o3] false)))
structure EB(o1 o2 o3:Oper)(c i t u:Nat):Prop where
 o1:o1.op=.binOp .lss 3 (.tmp i) (.tmp t) 3/\o1.dst=some c/\o1.guard=none
 o2:o2.op=.binOp .add 3 (.tmp i) (.const (.int .i64 1)) 3/\o2.dst=some u/\o2.guard=none
 o3:o3.op=.move (.tmp u)/\o3.dst=some i/\o3.guard=none
section
variable {P:Program}{G:World→Prop}{T:TT}{M n:Nat}
def dM.on(I:dM Nat)(i:Nat):dM Nat:=⟨λq=>(i,i64 q)::I.eG q,I.gd,I.dE,I.bx⟩
def pz(I:dM Nat)(s:AS)(i c q:Nat)(b:Bool):AS:=⟨da ((I.on i).st s q).bD c (some (bo b)),((I.on i).st s q).hp⟩
structure ck(M nx:Nat)(I:dM Nat)(J:Nat->Prop)(s:AS)(i u q:Nat)(s':AS):Prop where
 j:J (q+1)
 h:s'.bD i=some (i64 q)
 b:∃ρ,ga M nx ρ I s (q+1) ⟨da (da s'.bD u (some (i64 (q+1:Nat)))) i (some (i64 (q+1:Nat))),s'.hp⟩
theorem ck.is{M nx:Nat}{I:dM Nat}{J:Nat->Prop}{s:AS}{i u q:Nat}{s':AS}(ρ:Nat->Nat)(a:J (q+1))(h:s'.bD i=some (i64 q))(hb:ga M nx ρ I s (q+1) ⟨da (da s'.bD u (some (i64 (q+1:Nat)))) i (some (i64 (q+1:Nat))),s'.hp⟩):ck M nx I J s i u q s':=⟨a,h,ρ,hb⟩
theorem ga.on{nx:Nat}{ρ:Nat->Nat}{I:dM Nat}{s s':AS}{q i:Nat}(h:ga M nx ρ I s q s')(hi:s'.bD i=some (i64 q)):ga M nx ρ (I.on i) s q s':=
 ⟨⟨⟨hi,rr⟩,h.eG⟩,h.gd,h.dE,h.bx,h.fix,h.dL,h.inj⟩
def lY(M nx:Nat)(s:AS)(body:Nat->AS->(Ex->Nat->AS->Prop)->Prop)(k:Ex->Nat->AS->Prop):Prop:=
 ∃(ι:Type) (I:dM ι) (μ:ι->Nat) (a:ι),ga M nx id I s a s/\∀i,body nx (I.st s i) λex m' s'=>match ex with
  |.normal=>∃i' ρ,μ i'<μ i/\ga M nx ρ I s i' s'
  |.ret=>k .ret m' s'
  |.exit j=>k (.exit j) m' s'
theorem lY.node{nx:Nat}{s:AS}{body:Nat->AS->(Ex->Nat->AS->Prop)->Prop}{k:Ex->Nat->AS->Prop}(h:lY M nx s body k):cV M nx s body k:=by
 obtain⟨ι,I,μ,c,h0,a⟩:=h;exact cV.bA I μ c h0 a
theorem lY.k_(a:List (Nat×Nat×TypeId)){nx:Nat}{s:AS}{body:Nat->AS->(Ex->Nat->AS->Prop)->Prop}{k:Ex->Nat->AS->Prop}(hv:dJ (λx:Nat×Nat×TypeId=>s.bD x.1=some (.sl true [])) a)(h:lY M (nx+a.length) (jq s nx a) body k):cV M nx s body k:=by
 obtain⟨ι,I,μ,d,h0,c⟩:=h;exact cV.k_ a _ I μ d rr hv h0 c
theorem Af{b b' r1 r2:Nat}{o1 o2 o3:Oper}{c i t u:Nat}{body:Code}{nx:Nat}{s:AS}{k:Ex->Nat->AS->Prop}(F:EB o1 o2 o3 c i t u)(N:Nat)(R:N<=4611686018427387904)(I:dM Nat)(J:Nat->Prop)
 (H:cW t I.gd=true) (x:s.bD t=some (i64 N)) (y:∀q,lk (I.eG q) t=none) (z:Nat.beq t i=false/\Nat.beq i u=false/\Nat.ble (c+1) n=true/\Nat.ble (i+1) n=true/\Nat.ble (u+1) n=true)
 (hi:s.bD i=some (i64 0)) (K:J 0) (h0:ga M nx id I s 0 s)
 (hb:∀q,q<N->J q->vc P G T M n body (nx+1) (pz I s i c q true) λex m s'=>match ex with
   |.normal=>ck M nx I J s i u q s'
   |.ret=>k .ret m s'
   |.exit j=>match Nat.beq j b' with
    |true=>ck M nx I J s i u q s'
    |false=>k (.exit j) m s')
 (L:J N->k (.exit b) (nx+1) (pz I s i c N false)):lY M nx s (λnx s k=>vc P G T M n (CB b b' r1 r2 o1 o2 o3 c body) nx s k) k:=by
 obtain⟨d1,S,t1,X,U,g1⟩:=o1
 obtain⟨d2,W,t2,E,a2,g2⟩:=o2
 obtain⟨d3,p3,t3,D,a3,g3⟩:=o3
 obtain⟨⟨e1,e2,e3⟩,⟨e4,e5,e6⟩,e7,e8,e9⟩:=F
 dsimp only at e1 e2 e3 e4 e5 e6 e7 e8 e9
 subst e1 e2 e3 e4 e5 e6 e7 e8 e9
 obtain⟨O,V,n3,n4,Q⟩:=z
 have g:∀q,((I.on i).st s q).bD t=some (i64 N):=λq=>by
  show(match lk ((i,i64 q)::I.eG q) t with|some p=>some p|none=>match cW t I.gd with|true=>s.bD t|false=>none)=_
  unfold lk
  rw[O]
  dsimp only
  rw[y q,H,x]
 have o:∀q,((I.on i).st s q).bD i=some (i64 q):=λq=>by
  show(match lk ((i,i64 q)::I.eG q) i with|some p=>some p|none=>match cW i I.gd with|true=>s.bD i|false=>none)=_
  unfold lk
  rw[I6]
 refine⟨{q:Nat//q<=N/\J q},⟨λq=>(I.on i).eG q.1,I.gd,λq=>I.dE q.1,I.bx⟩,λq=>N-q.1,⟨0,j9 _,K⟩,?_,?_⟩
 ·have:=h0.on hi
  exact⟨this.eG,this.gd,this.dE,this.bx,this.fix,this.dL,this.inj⟩
 ·rintro⟨q,hq,d⟩
  have A:dM.st (⟨λq=>(I.on i).eG q.1,I.gd,λq=>I.dE q.1,I.bx⟩:dM {q:Nat//q<=N/\J q}) s ⟨q,hq,d⟩=(I.on i).st s q:=rfl
  rw[A]
  show act T nx (.binOp .lss 3 (.tmp i) (.tmp t) 3) ((I.on i).st s q).ev ((I.on i).st s q).hp _
  unfold act
  have f:gj ((I.on i).st s q).ev (Op.binOp .lss 3 (.tmp i) (.tmp t) 3).operands.toList=some [i64 q,i64 N]:=by
   show gj ((I.on i).st s q).ev [.tmp i,.tmp t]=_
   simp only[gj,AS.ev,kJ,g,o]
  rw[f]
  refine⟨decide ((q:Int)<N),rr,?_⟩
  simp only[bT,Tr.wp]
  unfold qN
  dsimp only
  rw[n3]
  dsimp only
  have r:∀b,AS.ev (pz I s i c q b) (.tmp c)=some (bo b):=λb=>fc _ _ _
  show(match AS.ev (pz I s i c q (decide ((q:Int)<N))) (.tmp c)with|some (.at (.bool t))=>gQ t _ _|_=>False)
  rw[r]
  refine⟨λh=>?_,λh=>?_⟩
  ·rw[h]
   have v:q<N:=by have:=j5 h;omega
   have step:∀m s',ck M nx I J s i u q s'->oW P G T n [⟨some u,.binOp .add 3 (.tmp i) (.const (.int .i64 1)) 3,t2,E,a2,none⟩,⟨some i,.move (.tmp u),t3,D,a3,none⟩] [⟨some u,.binOp .add 3 (.tmp i) (.const (.int .i64 1)) 3,t2,E,a2,none⟩,⟨some i,.move (.tmp u),t3,D,a3,none⟩] m s' λm s'=>∃(i':{q:Nat//q<=N/\J q}) (ρ:Nat->Nat),N-i'.1<N-q/\ga M nx ρ (⟨λq=>(I.on i).eG q.1,I.gd,λq=>I.dE q.1,I.bx⟩:dM {q:Nat//q<=N/\J q}) s i' s':=by
    rintro m s' ⟨B,h1,ρ,h2⟩
    show act T m (.binOp .add 3 (.tmp i) (.const (.int .i64 1)) 3) s'.ev s'.hp _
    unfold act
    have f:gj s'.ev (Op.binOp .add 3 (.tmp i) (.const (.int .i64 1)) 3).operands.toList=some [i64 q,i64 1]:=by
     show gj s'.ev [.tmp i,.const (.int .i64 1)]=_
     simp only[gj,AS.ev,kJ,h1];rfl
    rw[f]
    refine⟨(q+1:Nat),wrap_i64 om om,?_⟩
    simp only[Tr.wp]
    unfold qN
    dsimp only
    rw[Q]
    show act T (m+1) (.move (.tmp u)) _ _ _
    unfold act
    have w:gj (kJ (da s'.bD u (some (i64 (q+1:Nat))))) (Op.move (.tmp u)).operands.toList=some [i64 (q+1:Nat)]:=by
     show gj _ [.tmp u]=_
     simp only[gj,kJ,fc]
    rw[w]
    simp only[tr,Tr.wp]
    unfold qN
    dsimp only
    rw[n4]
    have:=h2.on (i:=i) (fc _ _ _)
    exact⟨⟨q+1,v,B⟩,ρ,by show N-(q+1)<N-q;omega,this.eG,this.gd,this.dE,this.bx,this.fix,this.dL,this.inj⟩
   have C:=hb q v d
   refine vi body C λex m s' a=>?_
   cases ex with
   |normal=>exact step m s' a
   |ret=>exact a
   |exit j=>
    dsimp only at a⊢
    cases e:Nat.beq j b'
    case true=>rw[e]at a;exact step m s' a
    rw[e]at a
    dsimp only at a⊢
    exact a
  ·rw[h]
   have:q=N:=by have:=j4 h;omega
   subst this
   exact L d
theorem iC{b b' r1 r2:Nat}{o1 o2 o3:Oper}{c i t u:Nat}{body:Code}{nx:Nat}{s:AS}{k:Ex->Nat->AS->Prop}(f:EB o1 o2 o3 c i t u)(N:Nat)(g:N<=4611686018427387904)(I:dM Nat)(J:Nat->Prop)
 (h:cW t I.gd=true) (a:s.bD t=some (i64 N)) (d:∀q,lk (I.eG q) t=none) (e:Nat.beq t i=false/\Nat.beq i u=false/\Nat.ble (c+1) n=true/\Nat.ble (i+1) n=true/\Nat.ble (u+1) n=true)
 (hi:s.bD i=some (i64 0)) (o:J 0) (h0:ga M nx id I s 0 s)
 (hb:∀q,q<N->J q->vc P G T M n body (nx+1) (pz I s i c q true) λex m s'=>match ex with
   |.normal=>ck M nx I J s i u q s'
   |.ret=>k .ret m s'
   |.exit j=>match Nat.beq j b' with
    |true=>ck M nx I J s i u q s'
    |false=>k (.exit j) m s')
 (p:J N->k (.exit b) (nx+1) (pz I s i c N false)):cV M nx s (λnx s k=>vc P G T M n (CB b b' r1 r2 o1 o2 o3 c body) nx s k) k:=(Af f N g I J h a d e hi o h0 hb p).node
end
abbrev LC(f:FuncId)(args:List PV)(bs:List (Nat×aI))(nx:Nat)(post:PV->cU->Prop):Prop:=HC prog GT f args bs nx post
theorem fX{f:FuncId}{fn:Func}{args:List PV}{bs:List aI}{js:List Nat}{nx:Nat}{post:PV->cU->Prop}(j:prog.funcs[f]? = some fn)(k:(fn.name== "runtime.NumGoroutine")=false)(c:gr js=true)(d:cW nx js=false)(a:js.length=bs.length)(e:dJ (λb:aI=>b.own=true/\b.dP) bs)(g:PV.lq js.length args=true)
 (h:se prog GT tt fn args bs js nx post):LC f (PV.ja (λi=>(PV.cR js i).getD 0) args) (js.zip bs) nx post:=
 match hb:fn.body with
 |some _=>afP cz cM j (enters_of j k hb) c d a e g h
 |none=>by unfold se at h;rw[hb]at h;exact h.elim
theorem wL.all{n:Nat}{k:Bool->Prop}(h:∀b,(b=true->n=0)->k b):wL n k:=⟨λ_=>h false (λh=>by cases h),λe b=>h b λ_=>e⟩
theorem aoq{α:Type}{f:α->PV}{k:Nat}(h:∀x,(f x).cells.length=k/\PV.oV (f x).cells=true)(l:List α):pj (l.map f) k:=λr a=>by
 obtain⟨x,_,rfl⟩:=y9.1 a
 exact h x
theorem a_{X:List Nat}{n:Nat}{hp:Nat->Option aI}{p r:PV}{a rs:List PV}{l l':List Nat}(h1:bL X n hp p=some (r,l))(h2:eH X n hp a=some (rs,l')):eH X (n+1) hp (p::a)=some (r::rs,l++l'):=by unfold eH;rw[h1,h2]
theorem ke{X:List Nat}{n:Nat}{hp:Nat->Option aI}{cs rs:List PV}{l:List Nat}(h:eH X n hp cs=some (rs,l)):bL X (n+1) hp (.agg cs)=some (.agg rs,l):=by unfold bL;dsimp only;rw[h]
theorem AL{α:Type}{f:α->PV}{hp:Nat->Option aI}{m:Nat}(a:∀x n,bL [] (n+m) hp (f x)=some (f x,[])):∀(l:List α) (n:Nat),eH [] (l.length+(n+m+1)) hp (l.map f)=some (l.map f,[])
 | [],n=>by show eH [] (0+(n+m)+1) hp []=_;rfl
 |x::l,n=>by
  have h1:=a x (l.length+(n+1))
  have h2:=AL a l n
  have e:(x::l).length+(n+m+1)=(l.length+(n+m+1))+1:=by rw[w6];omega
  rw[e,w9]
  refine a_ (l:=[]) (l':=[]) ?_ h2
  rw[show l.length+(n+m+1)=l.length+(n+1)+m by omega]
  exact h1
theorem OM{α:Type}(l:List α):PV.sub l 0 l.length=l:=(Dc l l.length).trans (s9)
theorem dC{X:List Nat}{α:Type}{f:α->PV}{hp:Nat->Option aI}{j k:Nat}{wr:Bool}{o:Option Nat}{e:TypeId}{l:List α}{rs:List PV}(d:hp j=some (.rows k rs wr o e))(c:rs=l.map f)(g:∀x n hp,bL [] (n+40) hp (f x)=some (f x,[])){n len:Nat}(a:len=l.length)(m:cW j X=false):
 bL X (l.length+(n+42)) hp (.aS j 0 len)=some (.sl false (l.map f),[j]):=by
 subst c a
 have h:=AL (hp:=hp) (λx n=>g x n hp) l n
 rw[show l.length+(n+42)=(l.length+(n+40+1))+1 by omega]
 unfold bL
 simp only[m,d,j7,c8,Nat.ble_self_eq_true]
 rw[show PV.sub (l.map f) 0 l.length=l.map f by rw[show l.length=(l.map f).length by rw[c8]];exact OM _,h]
def kq(t:TypeId):PV:=match tt t with|some te=>te.zero|none=>.any
theorem tT{X:List Nat}{α:Type}{f:α->PV}{hp:Nat->Option aI}{j k:Nat}{wr:Bool}{o:Option Nat}{e:TypeId}{l:List α}{rs:List PV}(d:hp j=some (.rows k rs wr o e)){n len:Nat}(a:PV.sub rs 0 len=l.map f)(c:len<=rs.length)(g:∀x n hp,bL [] (n+40) hp (f x)=some (f x,[]))(m:cW j X=false):
 bL X (l.length+(n+42)) hp (.aS j 0 len)=some (.sl false (l.map f),[j]):=by
 have h:=AL (hp:=hp) (λx n=>g x n hp) l n
 rw[show l.length+(n+42)=(l.length+(n+40+1))+1 by omega]
 unfold bL
 simp only[m,d,j7,a,h,Nat.ble_eq_true_of_le c]
theorem pj.k{l:List PV}{k:Nat}(h:pj l k):uN l k:=λr a=>(h r a).1
theorem ab{t:Bool}{A B:Prop}(b:B)(h:t=false:=by exact rr):gQ t A B:=gQ.f h b
theorem an{t:Bool}{A B:Prop}(a:A)(h:t=true:=by exact rr):gQ t A B:=gQ.t h a
theorem ah{Q:Prop}(h:Q:=by exact⟨200,_,_,.inl rr,rr⟩):Q:=h
theorem az{A B:Prop}(b:B)(h:A:=by exact rr):A/\B:=⟨h,b⟩
theorem aE{x:Bool}{k:Bool->Prop}(q:k false)(h:x=false:=by exact rr):aj x k:=⟨false,h,q⟩
theorem dQ{x:Bool}{k:Bool->Prop}(q:k true)(h:x=true:=by exact rr):aj x k:=⟨true,h,q⟩
theorem c_{b k:Prop}(q:k)(h:b:=by decide):aq b k:=⟨h,q⟩
theorem uM{b k:Prop}(q:k)(h:b:=by omega):aq b k:=⟨h,q⟩
theorem xw{b k:Prop}(q:k)(h:b:=by exact rr):aq b k:=⟨h,q⟩
theorem eL{x:Int}{k:Int->Prop}(y:Int)(q:k y)(h:x=y:=by exact rr):cj x k:=⟨y,h,q⟩
theorem jX{x:Int}{k:Int->Prop}(q:k x):cj x k:=⟨x,rr,q⟩
theorem aF{x y:Int}{k:Int->Prop}(h:x=y)(q:k y):cj x k:=⟨y,h,q⟩
theorem jg{x:Int}{k:Int->Prop}(n:Nat)(q:k (n:Int))(h:x=(n:Int):=by exact wrap_i64 om om):cj x k:=⟨n,h,q⟩
theorem ak{P:Program}{G:World->Prop}{hp:Nat->Option aI}{nx:Nat}{f:FuncId}{args rs:List PV}{l:List Nat}{k:PV->cU->Prop}{r:PV}(h:kS P G f rs (·=r))(a:eH [] 200 hp args=some (rs,l))(c:k r (qS hp l r)):bu P G hp nx f args k:=bu.by h a c
theorem aJ{P:Program}{G:World->Prop}{hp:Nat->Option aI}{nx:Nat}{f:FuncId}{args rs:List PV}{l:List Nat}{k:PV->cU->List Nat->Prop}{r:PV}(h:kS P G f rs (·=r))(a:eH [] 200 hp args=some (rs,l))(c:k r (qS hp l r) l):fi P G hp nx f args k:=fi.by h a c
theorem aw{f:FuncId}{fn:Func}{args:List PV}{post:PV->Prop}(a:prog.funcs[f]? = some fn)(h:zm prog GT tt fn args post)(c:(fn.name== "runtime.NumGoroutine")=false:=by exact rr):PC f args post:=aao a c h
theorem ey{T:TT}{fn:Func}{js:List Nat}{nx:Nat}{post:PV->cU->Prop}{m:Nat}{s:AS}(k:lG T (jq s m []) fn.results.toList λvs=>fw js nx (jq s m []).hp vs post):sV T fn js nx post m s:=⟨[],trivial,k⟩
section
variable {js:List Nat}{nx:Nat}{hp:Nat→Option aI}{vs rs:List PV}{l:List Nat}{post:PV→cU→Prop}{b:aI}
theorem kY(x:Nat×Nat)(h:eH [x.1] 200 hp vs=some (rs,l))(e:fx hp l x.1=some b)(c:b.dP)(k:post (PV.rn (oK [x]) (jy (rs.map PV.wk))) ([x].map (λx=>(x.2,rF (fx hp l) x.1))++js.map λj=>(j,none)))(i:PV.cR js x.1=some x.2:=by exact rr):fw js nx hp vs post:=⟨[x],200,_,_,h,rr,rr,⟨fk.mk ⟨_,e,c,.inr i⟩,trivial⟩,k⟩
theorem Ph(x:Nat×Nat)(h:eH [x.1] 200 hp vs=some (rs,l))(e:fx hp l x.1=some b)(c:b.dP)(k:post (PV.rn (oK [x]) (jy (rs.map PV.wk))) ([x].map (λx=>(x.2,rF (fx hp l) x.1))++js.map λj=>(j,none)))(i:x.2=nx:=by exact rr):fw js nx hp vs post:=⟨[x],200,_,_,h,rr,rr,⟨fk.mk ⟨_,e,c,.inl i⟩,trivial⟩,k⟩
end
section
variable {ι:Type}{M nx:Nat}{ρ:Nat→Nat}{I:dM ι}{s:AS}{i:ι}{s':AS}
theorem bP{Q:Prop}(h:Q:=by exact⟨by repeat (first|exact trivial|refine⟨⟨rfl,rfl⟩,?_⟩|refine⟨⟨_,rfl,rfl,rfl⟩,?_⟩|refine⟨⟨BB.rn rfl rfl,rfl⟩,?_⟩|refine⟨⟨_,rfl,BB.rn rfl rfl,rfl⟩,?_⟩),by repeat (first|exact trivial|refine⟨⟨rfl,rfl⟩,?_⟩|refine⟨⟨_,rfl,rfl,rfl⟩,?_⟩|refine⟨⟨BB.rn rfl rfl,rfl⟩,?_⟩|refine⟨⟨_,rfl,BB.rn rfl rfl,rfl⟩,?_⟩),by repeat (first|exact trivial|refine⟨⟨rfl,rfl⟩,?_⟩|refine⟨⟨_,rfl,rfl,rfl⟩,?_⟩|refine⟨⟨BB.rn rfl rfl,rfl⟩,?_⟩|refine⟨⟨_,rfl,BB.rn rfl rfl,rfl⟩,?_⟩),by repeat (first|exact trivial|refine⟨⟨rfl,rfl⟩,?_⟩|refine⟨⟨_,rfl,rfl,rfl⟩,?_⟩|refine⟨⟨BB.rn rfl rfl,rfl⟩,?_⟩|refine⟨⟨_,rfl,BB.rn rfl rfl,rfl⟩,?_⟩),rfl,rfl,rfl⟩):Q:=h
theorem jn(u:dJ (λx:Nat×PV=>s'.bD x.1=some (x.2.rn ρ)/\x.2.lt nx=true) (I.eG i))(p:dJ (λx:Nat×aI=>BB nx ρ x.2 (s'.hp (ρ x.1))/\Nat.ble (x.1+1) nx=true) (I.dE i))(m:dJ (λt=>∃p,s.bD t=some p/\s'.bD t=some (p.rn ρ)/\p.lt nx=true) I.gd:=by repeat (first|exact trivial|refine⟨⟨rfl,rfl⟩,?_⟩|refine⟨⟨_,rfl,rfl,rfl⟩,?_⟩|refine⟨⟨BB.rn rfl rfl,rfl⟩,?_⟩|refine⟨⟨_,rfl,BB.rn rfl rfl,rfl⟩,?_⟩))(e:dJ (λj=>∃b,s.hp j=some b/\BB nx ρ b (s'.hp (ρ j))/\Nat.ble (j+1) nx=true) I.bx:=by repeat (first|exact trivial|refine⟨⟨rfl,rfl⟩,?_⟩|refine⟨⟨_,rfl,rfl,rfl⟩,?_⟩|refine⟨⟨BB.rn rfl rfl,rfl⟩,?_⟩|refine⟨⟨_,rfl,BB.rn rfl rfl,rfl⟩,?_⟩))(x:sW ρ M=true:=by exact rfl)(y:Nat.ble M nx=true:=by exact rfl)(z:gr (((I.dE i).map (·.1)++I.bx).map ρ)=true:=by exact rfl):ga M nx ρ I s i s':=⟨u,m,p,e,x,y,z⟩
theorem Cu(p:dJ (λx:Nat×aI=>BB nx ρ x.2 (s'.hp (ρ x.1))/\Nat.ble (x.1+1) nx=true) (I.dE i))(e:dJ (λj=>∃b,s.hp j=some b/\BB nx ρ b (s'.hp (ρ j))/\Nat.ble (j+1) nx=true) I.bx)(u:dJ (λx:Nat×PV=>s'.bD x.1=some (x.2.rn ρ)/\x.2.lt nx=true) (I.eG i):=by repeat (first|exact trivial|refine⟨⟨rfl,rfl⟩,?_⟩|refine⟨⟨_,rfl,rfl,rfl⟩,?_⟩|refine⟨⟨BB.rn rfl rfl,rfl⟩,?_⟩|refine⟨⟨_,rfl,BB.rn rfl rfl,rfl⟩,?_⟩))(m:dJ (λt=>∃p,s.bD t=some p/\s'.bD t=some (p.rn ρ)/\p.lt nx=true) I.gd:=by repeat (first|exact trivial|refine⟨⟨rfl,rfl⟩,?_⟩|refine⟨⟨_,rfl,rfl,rfl⟩,?_⟩|refine⟨⟨BB.rn rfl rfl,rfl⟩,?_⟩|refine⟨⟨_,rfl,BB.rn rfl rfl,rfl⟩,?_⟩))(x:sW ρ M=true:=by exact rfl)(y:Nat.ble M nx=true:=by exact rfl)(z:gr (((I.dE i).map (·.1)++I.bx).map ρ)=true:=by exact rfl):ga M nx ρ I s i s':=⟨u,m,p,e,x,y,z⟩
theorem eB(p:dJ (λx:Nat×aI=>BB nx ρ x.2 (s'.hp (ρ x.1))/\Nat.ble (x.1+1) nx=true) (I.dE i))(e:dJ (λj=>∃b,s.hp j=some b/\BB nx ρ b (s'.hp (ρ j))/\Nat.ble (j+1) nx=true) I.bx:=by repeat (first|exact trivial|refine⟨⟨rfl,rfl⟩,?_⟩|refine⟨⟨_,rfl,rfl,rfl⟩,?_⟩|refine⟨⟨BB.rn rfl rfl,rfl⟩,?_⟩|refine⟨⟨_,rfl,BB.rn rfl rfl,rfl⟩,?_⟩))(u:dJ (λx:Nat×PV=>s'.bD x.1=some (x.2.rn ρ)/\x.2.lt nx=true) (I.eG i):=by repeat (first|exact trivial|refine⟨⟨rfl,rfl⟩,?_⟩|refine⟨⟨_,rfl,rfl,rfl⟩,?_⟩|refine⟨⟨BB.rn rfl rfl,rfl⟩,?_⟩|refine⟨⟨_,rfl,BB.rn rfl rfl,rfl⟩,?_⟩))(m:dJ (λt=>∃p,s.bD t=some p/\s'.bD t=some (p.rn ρ)/\p.lt nx=true) I.gd:=by repeat (first|exact trivial|refine⟨⟨rfl,rfl⟩,?_⟩|refine⟨⟨_,rfl,rfl,rfl⟩,?_⟩|refine⟨⟨BB.rn rfl rfl,rfl⟩,?_⟩|refine⟨⟨_,rfl,BB.rn rfl rfl,rfl⟩,?_⟩))(x:sW ρ M=true:=by exact rfl)(y:Nat.ble M nx=true:=by exact rfl)(z:gr (((I.dE i).map (·.1)++I.bx).map ρ)=true:=by exact rfl):ga M nx ρ I s i s':=⟨u,m,p,e,x,y,z⟩
theorem gM(e:dJ (λj=>∃b,s.hp j=some b/\BB nx ρ b (s'.hp (ρ j))/\Nat.ble (j+1) nx=true) I.bx)(p:dJ (λx:Nat×aI=>BB nx ρ x.2 (s'.hp (ρ x.1))/\Nat.ble (x.1+1) nx=true) (I.dE i):=by repeat (first|exact trivial|refine⟨⟨rfl,rfl⟩,?_⟩|refine⟨⟨_,rfl,rfl,rfl⟩,?_⟩|refine⟨⟨BB.rn rfl rfl,rfl⟩,?_⟩|refine⟨⟨_,rfl,BB.rn rfl rfl,rfl⟩,?_⟩))(u:dJ (λx:Nat×PV=>s'.bD x.1=some (x.2.rn ρ)/\x.2.lt nx=true) (I.eG i):=by repeat (first|exact trivial|refine⟨⟨rfl,rfl⟩,?_⟩|refine⟨⟨_,rfl,rfl,rfl⟩,?_⟩|refine⟨⟨BB.rn rfl rfl,rfl⟩,?_⟩|refine⟨⟨_,rfl,BB.rn rfl rfl,rfl⟩,?_⟩))(m:dJ (λt=>∃p,s.bD t=some p/\s'.bD t=some (p.rn ρ)/\p.lt nx=true) I.gd:=by repeat (first|exact trivial|refine⟨⟨rfl,rfl⟩,?_⟩|refine⟨⟨_,rfl,rfl,rfl⟩,?_⟩|refine⟨⟨BB.rn rfl rfl,rfl⟩,?_⟩|refine⟨⟨_,rfl,BB.rn rfl rfl,rfl⟩,?_⟩))(x:sW ρ M=true:=by exact rfl)(y:Nat.ble M nx=true:=by exact rfl)(z:gr (((I.dE i).map (·.1)++I.bx).map ρ)=true:=by exact rfl):ga M nx ρ I s i s':=⟨u,m,p,e,x,y,z⟩
theorem cS{j:Nat}{b:aI}(g:I.dE i=[(j,b)])(c:b.dP)(p:s'.hp (ρ j)=some b:=by exact rfl)(q:Nat.ble (j+1) nx=true:=by exact rfl)(e:dJ (λj=>∃b,s.hp j=some b/\BB nx ρ b (s'.hp (ρ j))/\Nat.ble (j+1) nx=true) I.bx:=by repeat (first|exact trivial|refine⟨⟨rfl,rfl⟩,?_⟩|refine⟨⟨_,rfl,rfl,rfl⟩,?_⟩|refine⟨⟨BB.rn rfl rfl,rfl⟩,?_⟩|refine⟨⟨_,rfl,BB.rn rfl rfl,rfl⟩,?_⟩))(u:dJ (λx:Nat×PV=>s'.bD x.1=some (x.2.rn ρ)/\x.2.lt nx=true) (I.eG i):=by repeat (first|exact trivial|refine⟨⟨rfl,rfl⟩,?_⟩|refine⟨⟨_,rfl,rfl,rfl⟩,?_⟩|refine⟨⟨BB.rn rfl rfl,rfl⟩,?_⟩|refine⟨⟨_,rfl,BB.rn rfl rfl,rfl⟩,?_⟩))(m:dJ (λt=>∃p,s.bD t=some p/\s'.bD t=some (p.rn ρ)/\p.lt nx=true) I.gd:=by repeat (first|exact trivial|refine⟨⟨rfl,rfl⟩,?_⟩|refine⟨⟨_,rfl,rfl,rfl⟩,?_⟩|refine⟨⟨BB.rn rfl rfl,rfl⟩,?_⟩|refine⟨⟨_,rfl,BB.rn rfl rfl,rfl⟩,?_⟩))(x:sW ρ M=true:=by exact rfl)(y:Nat.ble M nx=true:=by exact rfl)(z:gr (((I.dE i).map (·.1)++I.bx).map ρ)=true:=by exact rfl):ga M nx ρ I s i s':=⟨u,m,g▸⟨⟨BB.br p c,q⟩,trivial⟩,e,x,y,z⟩
end
section
variable {P:Program}{G:World→Prop}{T:TT}{M n:Nat}
theorem vu{b b' r1 r2:Nat}{o1 o2 o3:Oper}{c i t u:Nat}{body:Code}{nx:Nat}{s:AS}{k:Ex→Nat→AS→Prop}(N:Nat)(I:dM Nat)(J:Nat→Prop)
 (hj:J 0) (h0:ga M nx id I s 0 s)
 (hb:∀q,q<N→J q→vc P G T M n body (nx+1) (pz I s i c q true) fun ex m s'=>match ex with
   |.normal=>ck M nx I J s i u q s'
   |.ret=>k .ret m s'
   |.exit j=>match Nat.beq j b' with
    |true=>ck M nx I J s i u q s'
    |false=>k (.exit j) m s')
 (he:J N→k (.exit b) (nx+1) (pz I s i c N false))
 (ho:EB o1 o2 o3 c i t u:=by exact⟨⟨rfl,rfl,rfl⟩,⟨rfl,rfl,rfl⟩,rfl,rfl,rfl⟩) (ht2:s.bD t=some (i64 N):=by first|exact rfl|(show some _=_;rw[c8])) (hN:N≤4611686018427387904:=by omega)
 (ht:cW t I.gd=true:=by exact rfl) (hti:∀q,lk (I.eG q) t=none:=by exact fun _=>rfl) (hne:Nat.beq t i=false∧Nat.beq i u=false∧Nat.ble (c+1) n=true∧Nat.ble (i+1) n=true∧Nat.ble (u+1) n=true:=by exact⟨rfl,rfl,rfl,rfl,rfl⟩)
 (hi:s.bD i=some (i64 0):=by exact rfl):lY M nx s (fun nx s k=>vc P G T M n (CB b b' r1 r2 o1 o2 o3 c body) nx s k) k:=Af ho N hN I J ht ht2 hti hne hi hj h0 hb he
theorem iV{b b' r1 r2:Nat}{o1 o2 o3:Oper}{c i t u:Nat}{body:Code}{nx:Nat}{s:AS}{k:Ex→Nat→AS→Prop}(N:Nat)(I:dM Nat)(J:Nat→Prop)
 (hj:J 0) (h0:ga M nx id I s 0 s)
 (hb:∀q,q<N→J q→vc P G T M n body (nx+1) (pz I s i c q true) fun ex m s'=>match ex with
   |.normal=>ck M nx I J s i u q s'
   |.ret=>k .ret m s'
   |.exit j=>match Nat.beq j b' with
    |true=>ck M nx I J s i u q s'
    |false=>k (.exit j) m s')
 (he:J N→k (.exit b) (nx+1) (pz I s i c N false))
 (ho:EB o1 o2 o3 c i t u:=by exact⟨⟨rfl,rfl,rfl⟩,⟨rfl,rfl,rfl⟩,rfl,rfl,rfl⟩) (ht2:s.bD t=some (i64 N):=by first|exact rfl|(show some _=_;rw[c8])) (hN:N≤4611686018427387904:=by omega)
 (ht:cW t I.gd=true:=by exact rfl) (hti:∀q,lk (I.eG q) t=none:=by exact fun _=>rfl) (hne:Nat.beq t i=false∧Nat.beq i u=false∧Nat.ble (c+1) n=true∧Nat.ble (i+1) n=true∧Nat.ble (u+1) n=true:=by exact⟨rfl,rfl,rfl,rfl,rfl⟩)
 (hi:s.bD i=some (i64 0):=by exact rfl):cV M nx s (fun nx s k=>vc P G T M n (CB b b' r1 r2 o1 o2 o3 c body) nx s k) k:=(vu N I J hj h0 hb he ho ht2 hN ht hti hne hi).node
end
theorem fE{a b:Nat}(h:decide ((a:Int)<(b:Int))=true):a<b:=B1.1 (j5 h)
theorem tl{a b:Nat}(h:decide ((a:Int)<=(b:Int))=true):a<=b:=E8.1 (j5 h)
theorem jN{a b:Nat}(h:decide ((a:Int)<(b:Int))=false):¬a<b:=λe=>j4 h (B1.2 e)
mutual
def val:PV->Value
 |.at v=>v
 |.agg cs=>.agg (bJ cs).toArray
 |.aU cs=>.tuple (bJ cs).toArray
 |_=>undef
def bJ:List PV->List Value
 | []=>[]
 |p::l=>val p::bJ l
end
mutual
def vO:PV->Bool
 |.at v=>v.oneCell'
 |.agg cs=>sM cs
 |.aU cs=>sM cs
 |_=>false
def sM:List PV->Bool
 | []=>true
 |p::l=>match vO p with|true=>sM l|false=>false
end
mutual
theorem aeA:∀(p:PV) {c:RC} {v:Value},vO p=true->bW p c v->v=val p
 |.at _,_,_,_,r=>r.1
 |.agg cs,_,_,h,r=>by obtain⟨vs,e,r⟩:=r;rw[e,xq cs h r];rfl
 |.aU cs,_,_,h,r=>by obtain⟨vs,e,r⟩:=r;rw[e,xq cs h r];rfl
 |.any,_,_,h,_|.sl _ _,_,_,h,_|.lp _ _ _,_,_,h,_|.le _ _ _,_,_,h,_|.aS _ _ _,_,_,h,_|.gJ _ _,_,_,h,_|.ip _ _,_,_,h,_|.fn _ _,_,_,h,_|.fm _ _,_,_,h,_|.mv _ _,_,_,h,_|.mp _ _,_,_,h,_|.iL _,_,_,h,_=>by cases h
theorem xq:∀(a:List PV) {c:RC} {vs:List Value},sM a=true->aM a c vs->vs=bJ a
 | [],_,_,_,r=>r
 |p::a,_,_,h,r=>by
  obtain⟨v,b,e,r1,r2⟩:=r
  unfold sM at h
  cases hp:vO p
  ·rw[hp]at h;cases h
  rw[hp]at h;rw[e,aeA p hp r1,xq a h r2];rfl
end
mutual
theorem JI:∀(p:PV) (c:RC),vO p=true->bW p c (val p)
 |.at _,_,h=>⟨rr,h⟩
 |.agg cs,c,h=>⟨_,rr,Ki cs c h⟩
 |.aU cs,c,h=>⟨_,rr,Ki cs c h⟩
 |.any,_,h|.sl _ _,_,h|.lp _ _ _,_,h|.le _ _ _,_,h|.aS _ _ _,_,h|.gJ _ _,_,h|.ip _ _,_,h|.fn _ _,_,h|.fm _ _,_,h|.mv _ _,_,h|.mp _ _,_,h|.iL _,_,h=>by cases h
theorem Ki:∀(a:List PV) (c:RC),sM a=true->aM a c (bJ a)
 | [],_,_=>rfl
 |p::a,c,h=>by
  unfold sM at h
  cases hp:vO p
  ·rw[hp]at h;cases h
  rw[hp]at h;exact⟨_,_,rr,JI p c hp,Ki a c h⟩
end
theorem qx{f:FuncId}{fn:Func}{args:List PV}{r:PV}(b:prog.funcs[f]? = some fn)(d:(fn.name== "runtime.NumGoroutine")=false)(hb:fn.body.isSome=true)(g:sM args=true)(i:vO r=true)
 (h:∀w,Calls prog f (bJ args).toArray w λe w'=>e=.returned (val r)/\Below w.heap.size w w'):PC f args (·=r):=by
 obtain⟨c,j⟩:=K3.1 hb
 refine⟨enters_of b d j,λw Z vs _ _ hv=>?_⟩
 rw[xq args g hv]
 refine(h w).mono ?_
 rintro e w' ⟨rfl,a⟩
 exact⟨r,_,rr,rr,JI r _ i,a⟩
theorem BK{w w':World}{p:Prop}(h:p/\w=w'):p/\Below w.heap.size w w':=⟨h.1,h.2▸Below.refl _ _⟩
theorem kS.eq{P:Program}{G:World->Prop}{f:FuncId}{args:List PV}{r r':PV}(h:kS P G f args (·=r))(e:r=r'):kS P G f args (·=r'):=e▸h
theorem kS.imp{P:Program}{G:World->Prop}{f:FuncId}{args:List PV}{p q:PV->Prop}(h:kS P G f args p)(hp:∀r,p r->q r):kS P G f args q:=
 ⟨h.1,λw Z vs a b c=>(h.2 w Z vs a b c).mono λ_ _ ⟨r,v,h1,h2,d⟩=>⟨r,v,h1,hp r h2,d⟩⟩
end
end Go.Proofs.YtbnonpbnhenkfaaGreatDoor
section
namespace Go.Proofs.YtbnonpbnhenkfaaGreatDoor
open Go.RowKit Go.Proofs.Tryz
namespace Wi
def add(a b:Nat):Nat×Bool:=if a+b<18446744073709551616 then(a+b,true)else(0,false)
def sub(a b:Nat):Nat×Bool:=if b<=a then(a-b,true)else(0,false)
def mul(a b:Nat):Nat×Bool:=if a*b<18446744073709551616 then(a*b,true)else(0,false)
def aN(r:Nat×Bool):Value:=.tuple #[.int .u64 (r.1:Int),.bool r.2]
end Wi
def adT(x y:Nat)(w:World):(callFunc 164 #[.int .u64 (x:Int),.int .u64 (y:Int),.int .u64 0]).run prog w=
 .ok (.value (.tuple #[.int .u64 (((x:Int)+(y:Int)+0)%18446744073709551616),.int .u64 (((x:Int)+(y:Int)+0) / 18446744073709551616)])) w:=by
 rw[run_callFunc_extern func164 (by kernel_rfl) (by kernel_rfl) (by kernel_rfl) (e:=add64Entry) (by kernel_rfl),run_add64 x y 0 om om om om]
 rfl
def abj(x y:Nat)(w:World):(callFunc 237 #[.int .u64 (x:Int),.int .u64 (y:Int),.int .u64 0]).run prog w=
 .ok (.value (.tuple #[.int .u64 (((x+18446744073709551616-y-0)%18446744073709551616:Nat):Int),.int .u64 ((if x<y+0 then 1 else 0:Nat):Int)])) w:=by
 rw[run_callFunc_extern func237 (by kernel_rfl) (by kernel_rfl) (by kernel_rfl) (e:=Proofs.sub64Entry) (by kernel_rfl)]
 have:=Proofs.run_sub64 (P:=prog) x y 0 om w
 rw[show((0:Nat):Int)=(0:Int)from rfl]at this
 rw[this]
 rfl
def aje(a b:Nat)(w:World)(g:a<18446744073709551616)(hb:b<18446744073709551616):
 Calls prog 89 #[.int .u64 (a:Int),.int .u64 (b:Int)] w λe w'=>e=.returned (Wi.aN (Wi.add a b))/\w=w':=by
 have d:=λw=>adT a b w
 by_cases h:a+b<18446744073709551616
 ·have f:=Lib.hid (show Wi.add a b=(a+b,true)from z7 h)
  rw[show((a:Int)+(b:Int)+0)%18446744073709551616=((a+b:Nat):Int)from by omega,show((a:Int)+(b:Int)+0) / 18446744073709551616=0 from by omega]at d
  generalize a+b=c at d f
  clear h g hb
  go_enter func89,ntmps89
  go_wp2_with fail
  go_ret2
  exact⟨by rw[f.out];rfl,rr⟩
 ·have f:=Lib.hid (show Wi.add a b=(0,false)from y8 h)
  obtain⟨c,i⟩:∃c:Nat,((a:Int)+(b:Int)+0)%18446744073709551616=(c:Int):=⟨(a+b)%18446744073709551616,om⟩
  rw[i,show((a:Int)+(b:Int)+0) / 18446744073709551616=1 from by omega]at d
  clear h g hb i
  go_enter func89,ntmps89
  go_wp2_with fail
  go_ret2
  exact⟨by rw[f.out];rfl,rr⟩
def aca(a b:Nat)(w:World)(g:a<18446744073709551616)(hb:b<18446744073709551616):
 Calls prog 168 #[.int .u64 (a:Int),.int .u64 (b:Int)] w λe w'=>e=.returned (Wi.aN (Wi.sub a b))/\w=w':=by
 have d:=λw=>abj a b w
 by_cases h:b<=a
 ·have f:=Lib.hid (show Wi.sub a b=(a-b,true)from z7 h)
  rw[show(a+18446744073709551616-b-0)%18446744073709551616=a-b from by omega,y8 om]at d
  rw[show((0:Nat):Int)=(0:Int)from rfl]at d
  generalize a-b=c at d f
  clear h g hb
  go_enter func168,ntmps168
  go_wp2_with fail
  go_ret2
  exact⟨by rw[f.out];rfl,rr⟩
 ·have f:=Lib.hid (show Wi.sub a b=(0,false)from y8 h)
  rw[z7 om]at d
  generalize(a+18446744073709551616-b-0)%18446744073709551616=c at d
  rw[show((1:Nat):Int)=(1:Int)from rfl]at d
  clear h g hb
  go_enter func168,ntmps168
  go_wp2_with fail
  go_ret2
  exact⟨by rw[f.out];rfl,rr⟩
def anJ(x y:Nat)(i:x<18446744073709551616)(j:y<18446744073709551616)(w:World):
 Calls prog 309 #[.int .u64 (x:Int),.int .u64 (y:Int)] w λe w'=>e=.returned (.tuple #[.int .u64 ((x*y / 18446744073709551616:Nat):Int),.int .u64 ((x*y%18446744073709551616:Nat):Int)])/\w=w':=by
 obtain⟨l,k,m,c⟩:=Lib.mul64_hi x y i j
 have q:=Lib.half_mul_le (a:=x / 4294967296) (b:=y / 4294967296) om om
 have p:=Lib.half_mul_le (a:=x / 4294967296) (b:=y%4294967296) om om
 have o:=Lib.half_mul_le (a:=x%4294967296) (b:=y / 4294967296) om om
 have f:x / 4294967296*(y / 4294967296)<18446744073709551616:=om
 have g:x / 4294967296*(y%4294967296)<18446744073709551616:=om
 have h:x%4294967296*(y / 4294967296)<18446744073709551616:=om
 have d:x / 4294967296*(y / 4294967296)+(x / 4294967296*(y%4294967296)+x%4294967296*(y%4294967296) / 4294967296) / 4294967296<18446744073709551616:=om
 have n:x / 4294967296*(y / 4294967296)+(x / 4294967296*(y%4294967296)+x%4294967296*(y%4294967296) / 4294967296) / 4294967296+((x / 4294967296*(y%4294967296)+x%4294967296*(y%4294967296) / 4294967296)%4294967296+x%4294967296*(y / 4294967296)) / 4294967296<18446744073709551616:=om
 go_enter func309,ntmps309
 go_wp2
 simp only[Mul64.maskN x i,Mul64.maskN y j,Mul64.divN,Mul64.mulN,Mul64.addN,Mul64.wrapN _ l,Mul64.wrapN _ g,Mul64.wrapN _ k,Mul64.maskN _ k,Mul64.wrapN _ h,Mul64.wrapN _ m,Mul64.wrapN _ f,Mul64.wrapN _ d,Mul64.wrapN _ n,Mul64.wrapM (x*y)]
 rw[c]
 go_ret2
 exact⟨rr,rr⟩
def anE(a b:Nat)(w:World)(i:a<18446744073709551616)(hb:b<18446744073709551616):
 Calls prog 260 #[.int .u64 (a:Int),.int .u64 (b:Int)] w λe w'=>e=.returned (Wi.aN (Wi.mul a b))/\w=w':=by
 have d:=λw=>anJ a b i hb w
 by_cases h:a*b<18446744073709551616
 ·have g:=Lib.hid (show Wi.mul a b=(a*b,true)from z7 h)
  rw[Nat.div_eq_of_lt h,D1 h]at d
  rw[show((0:Nat):Int)=(0:Int)from rfl]at d
  generalize a*b=c at d g
  have f:=Lib.hid d
  clear h i hb d
  go_enter func260,ntmps260
  go_wp2_with fail
  refine(f.out _).mono ?_
  rintro e w1 ⟨rfl,rfl⟩
  go_wp2_with fail
  go_ret2
  exact⟨by rw[g.out];rfl,rr⟩
 ·have g:=Lib.hid (show Wi.mul a b=(0,false)from y8 h)
  have hq:1<=a*b / 18446744073709551616:=by
   rw[Nat.le_div_iff_mul_le (by decide)];omega
  generalize a*b / 18446744073709551616=q at d hq
  generalize a*b%18446744073709551616=c at d
  have j:¬((q:Int)=0):=om
  have f:=Lib.hid d
  clear h i hb d hq
  go_enter func260,ntmps260
  go_wp2_with fail
  refine(f.out _).mono ?_
  rintro e w1 ⟨rfl,rfl⟩
  have k:((q:Int) != 0)=true:=by simpa using j
  go_wp2_with fail
  go_ret2
  exact⟨by rw[g.out];rfl,rr⟩
end Go.Proofs.YtbnonpbnhenkfaaGreatDoor
end
namespace Go.Proofs.YtbnonpbnhenkfaaGreatDoor
section
open Go.RowKit Go.Proofs.Tryz
abbrev pu(n:UInt64):PV:=.at (.int .u64 (n.toNat:Nat))
def tM(n:UInt64):n.toNat<18446744073709551616:=n.toNat_lt
theorem qC{x:Nat}(h:x<18446744073709551616):(UInt64.ofNat x).toNat=x:=by rw[UInt64.toNat_ofNat'];omega
def sH(a b:UInt64):UInt64×Bool:=if a.toNat+b.toNat<18446744073709551616 then(UInt64.ofNat (a.toNat+b.toNat),true)else(0,false)
def tv(a b:UInt64):UInt64×Bool:=if b.toNat<=a.toNat then(UInt64.ofNat (a.toNat-b.toNat),true)else(0,false)
def uf(a b:UInt64):UInt64×Bool:=if a.toNat*b.toNat<18446744073709551616 then(UInt64.ofNat (a.toNat*b.toNat),true)else(0,false)
abbrev u2(r:UInt64×Bool):PV:=.aU [pu r.1,bo r.2]
def agV(a b:UInt64):PC 89 [pu a,pu b] (·=u2 (sH a b)):=by
 refine qx func89 rr rr rr rr λw=>(aje a.toNat b.toNat w (tM a) (tM b)).mono λe w' h=>⟨?_,(BK h).2⟩
 rw[h.1];unfold Wi.add sH;split
 ·rename_i c;show Ending.returned (.tuple #[.int .u64 (_:Nat),_])=.returned (.tuple #[.int .u64 (_:Nat),_]);rw[qC c];rfl
 ·rfl
def aa5(a b:UInt64):PC 168 [pu a,pu b] (·=u2 (tv a b)):=by
 refine qx func168 rr rr rr rr λw=>(aca a.toNat b.toNat w (tM a) (tM b)).mono λe w' h=>⟨?_,(BK h).2⟩
 rw[h.1];unfold Wi.sub tv;split
 ·show Ending.returned (.tuple #[.int .u64 (_:Nat),_])=.returned (.tuple #[.int .u64 (_:Nat),_]);rw[qC (by have:=tM a;omega)];rfl
 ·rfl
def agF(a b:UInt64):PC 260 [pu a,pu b] (·=u2 (uf a b)):=by
 refine qx func260 rr rr rr rr λw=>(anE a.toNat b.toNat w (tM a) (tM b)).mono λe w' h=>⟨?_,(BK h).2⟩
 rw[h.1];unfold Wi.mul uf;split
 ·rename_i c;show Ending.returned (.tuple #[.int .u64 (_:Nat),_])=.returned (.tuple #[.int .u64 (_:Nat),_]);rw[qC c];rfl
 ·rfl
structure V4 where
 a:UInt64
 b:UInt64
 c:UInt64
 d:UInt64
abbrev V4.cells(v:V4):List PV:=[pu v.a,pu v.b,pu v.c,pu v.d]
abbrev V4.pv(v:V4):PV:=.agg v.cells
def V4.z:V4:=⟨0,0,0,0⟩
def V4.sa(f:UInt64->UInt64->UInt64×Bool)(x y:V4):V4×Bool:=
 match f x.a y.a with
 |(_,false)=>(.z,false)
 |(a,true)=>match f x.b y.b with
  |(_,false)=>(.z,false)
  |(b,true)=>match f x.c y.c with
   |(_,false)=>(.z,false)
   |(c,true)=>match f x.d y.d with
    |(_,false)=>(.z,false)
    |(d,true)=>(⟨a,b,c,d⟩,true)
abbrev v2(r:V4×Bool):PV:=.aU [r.1.pv,bo r.2]
def HY{g:Nat}{cs:List PV}(e:cs=[]\/∃l,cs=[.ip l 0])(f:UInt64->UInt64->UInt64×Bool)(x y:V4)(h:∀a b,PC g ([pu a,pu b]++cs) (·=u2 (f a b))):PC 88 [x.pv,y.pv,.fn g cs] (·=v2 (V4.sa f x y)):=by
 rcases e with rfl|⟨l,rfl⟩<;>
 ·refine aw func88<|cV.nI 5 ?_;unfold V4.sa;refine aj.t (by decide)<|an<|c_<|c_<|ak (h x.a y.a) rr ?_;rcases f x.a y.a with⟨a,_|_⟩
  ·exact an<|ah
  refine ab<|c_<|eL 1<|aj.t (by decide)<|an<|c_<|c_<|ak (h x.b y.b) rr ?_;rcases f x.b y.b with⟨b,_|_⟩
  ·exact an<|ah
  refine ab<|c_<|eL 2<|aj.t (by decide)<|an<|c_<|c_<|ak (h x.c y.c) rr ?_;rcases f x.c y.c with⟨c,_|_⟩
  ·exact an<|ah
  refine ab<|c_<|eL 3<|aj.t (by decide)<|an<|c_<|c_<|ak (h x.d y.d) rr ?_;rcases f x.d y.d with⟨d,_|_⟩
  ·exact an<|ah
  exact ab<|c_<|eL 4<|aj.f (by decide)<|ab<|ah
def V4.add(x y:V4):V4×Bool:=V4.sa sH x y
def V4.sub(x y:V4):V4×Bool:=V4.sa tv x y
def V4.AU(x:V4)(n:UInt64):V4×Bool:=V4.sa (λx _=>uf x n) x .z
def V4.db(x y:V4):Bool:=(y.sub x).2
def uX(x y:V4):PC 36 [x.pv,y.pv] (·=v2 (x.add y)):=aw func36<|ak (HY (.inl rr) sH x y agV) rfl<|ah
def Ct(x y:V4):PC 93 [x.pv,y.pv] (·=v2 (x.sub y)):=aw func93<|ak (HY (.inl rr) tv x y aa5) rfl<|ah
def alw(a b n:UInt64):PC 259 [pu a,pu b,.ip [pu n] 0] (·=u2 (uf a n)):=aw func259<|ak (agF a n) rfl<|ah
def anz(x:V4)(n:UInt64):PC 199 [x.pv,pu n] (·=v2 (x.AU n)):=aw func199<|ak (HY (.inr ⟨_,rr⟩) (λx _=>uf x n) x .z (λa b=>alw a b n)) rfl<|ah
def uY(x y:V4):PC 38 [x.pv,y.pv] (·=bo (x.db y)):=aw func38<|ak (Ct y x) rfl<|ah
end
section
open Go.RowKit
abbrev BA:=ByteArray
abbrev sl{α:Type}(f:α->PV)(l:List α):PV:=.sl false (l.map f)
structure cC where
 k:BA
 v:BA
def cC.pv(p:cC):PV:=.agg [st p.k,st p.v]
structure bX where
 key:BA
 no:Bool
 bJ:List BA
def bX.pv(t:bX):PV:=.agg [st t.key,bo t.no,sl st t.bJ]
structure bM where
 aa:BA
 cT:V4
 count:Int
 bC:Int
 dF:Int
 dv:List bX
abbrev bM.cells(x:bM):List PV:=[st x.aa,pu x.cT.a,pu x.cT.b,pu x.cT.c,pu x.cT.d,i64 x.count,i64 x.bC,i64 x.dF,sl bX.pv x.dv]
def bM.pv(x:bM):PV:=.agg x.cells
structure aB where
 aa:BA
 bI:V4
 b_:V4
def aB.pv(e:aB):PV:=.agg [st e.aa,pu e.bI.a,pu e.bI.b,pu e.bI.c,pu e.bI.d,pu e.b_.a,pu e.b_.b,pu e.b_.c,pu e.b_.d]
structure bR where
 name:BA
 cap:V4
 ao:List cC
 up:Bool
def bR.pv(n:bR):PV:=.agg [st n.name,pu n.cap.a,pu n.cap.b,pu n.cap.c,pu n.cap.d,sl cC.pv n.ao,bo n.up]
structure dt where
 aZ:UInt64
 node:BA
 v:V4
def dt.pv(x:dt):PV:=.agg [pu x.aZ,st x.node,pu x.v.a,pu x.v.b,pu x.v.c,pu x.v.d]
structure bf where
 al:List bR
 places:List dt
def bf.pv(p:bf):PV:=.agg [sl bR.pv p.al,sl dt.pv p.places]
structure dc where
 node:BA
 free:V4
 ao:List cC
def dc.pv(s:dc):PV:=.agg [st s.node,pu s.free.a,pu s.free.b,pu s.free.c,pu s.free.d,sl cC.pv s.ao]
structure QE where
 id:UInt64
 bC:Int
def QE.pv(e:QE):PV:=.agg [pu e.id,i64 e.bC]
structure ax where
 id:UInt64
 x:bM
 bB:Bool
 left:Int
def ax.pv(j:ax):PV:=.agg [pu j.id,st j.x.aa,pu j.x.cT.a,pu j.x.cT.b,pu j.x.cT.c,pu j.x.cT.d,i64 j.x.count,i64 j.x.bC,i64 j.x.dF,sl bX.pv j.x.dv,bo j.bB,i64 j.left]
structure cZ where
 round:UInt64
 id:UInt64
 kind:Int
def cZ.pv(n:cZ):PV:=.agg [pu n.round,pu n.id,i64 n.kind]
structure fY where
 first:UInt64
 l:List cZ
def fY.pv(x:fY):PV:=.agg [pu x.first,sl cZ.pv x.l]
structure af where
 round:UInt64
 next:UInt64
 ar:bf
 aH:List aB
 ae:List ax
 bg:List QE
 dX:fY
 dy:fY
abbrev af.cells(s:af):List PV:=[pu s.round,pu s.next,sl bR.pv s.ar.al,sl dt.pv s.ar.places,sl aB.pv s.aH,sl ax.pv s.ae,sl QE.pv s.bg,pu s.dX.first,sl cZ.pv s.dX.l,pu s.dy.first,sl cZ.pv s.dy.l]
def af.pv(s:af):PV:=.agg s.cells
structure aC where
 kind:Int
 id:UInt64
 n:UInt64
 aa:BA
 v:V4
 x:bM
 ao:List cC
def aC.pv(o:aC):PV:=.agg [i64 o.kind,pu o.id,pu o.n,st o.aa,pu o.v.a,pu o.v.b,pu o.v.c,pu o.v.d,st o.x.aa,pu o.x.cT.a,pu o.x.cT.b,pu o.x.cT.c,pu o.x.cT.d,i64 o.x.count,i64 o.x.bC,i64 o.x.dF,sl bX.pv o.x.dv,sl cC.pv o.ao]
structure bn where
 e:Int
 id:UInt64
 n:UInt64
 lX:Int
 v:V4
 u:V4
 al:List BA
 gx:List cZ
def bn.pv(a:bn):PV:=.agg [i64 a.e,pu a.id,pu a.n,i64 a.lX,pu a.v.a,pu a.v.b,pu a.v.c,pu a.v.d,pu a.u.a,pu a.u.b,pu a.u.c,pu a.u.d,sl st a.al,sl cZ.pv a.gx]
structure iE{α:Type}(f:α->PV)(k:Nat):Prop where
 size:∀x,(f x).cells.length=k/\PV.oV (f x).cells=true
 br:∀x,(f x).br=true
 bL:∀x n hp,bL [] (n+40) hp (f x)=some (f x,[])
def iE.rows{α:Type}{f:α->PV}{k:Nat}(h:iE f k)(l:List α):pj (l.map f) k:=aoq h.size l
def iE.cf{α:Type}{f:α->PV}{k:Nat}(h:iE f k)(l:List α):dP (l.map f):=Xt h.br l
def gC:iE st 1:=⟨λ_=>⟨rr,rr⟩,λ_=>rfl,λ_ _ _=>rfl⟩
def kH:iE (λn:UInt64=>pu n) 1:=⟨λ_=>⟨rr,rr⟩,λ_=>rfl,λ_ _ _=>rfl⟩
def AA:iE cC.pv 2:=⟨λ_=>⟨rr,rr⟩,λ_=>rfl,λ_ _ _=>rfl⟩
def uZ:iE bX.pv 3:=⟨λ_=>⟨rr,rr⟩,λ_=>rfl,λ_ _ _=>rfl⟩
def iF:iE aB.pv 9:=⟨λ_=>⟨rr,rr⟩,λ_=>rfl,λ_ _ _=>rfl⟩
def rZ:iE bR.pv 7:=⟨λ_=>⟨rr,rr⟩,λ_=>rfl,λ_ _ _=>rfl⟩
def nE:iE dt.pv 6:=⟨λ_=>⟨rr,rr⟩,λ_=>rfl,λ_ _ _=>rfl⟩
def p_:iE dc.pv 6:=⟨λ_=>⟨rr,rr⟩,λ_=>rfl,λ_ _ _=>rfl⟩
def rh:iE QE.pv 2:=⟨λ_=>⟨rr,rr⟩,λ_=>rfl,λ_ _ _=>rfl⟩
def fz:iE ax.pv 12:=⟨λ_=>⟨rr,rr⟩,λ_=>rfl,λ_ _ _=>rfl⟩
def nu:iE cZ.pv 3:=⟨λ_=>⟨rr,rr⟩,λ_=>rfl,λ_ _ _=>rfl⟩
end
section
open Go.RowKit Go.Proofs.Tryz
structure kL{α:Type}(f:α->PV)(k e:Nat):Prop where
 L:iE f k
abbrev kL.pv{α:Type}{f:α->PV}{k e:Nat}(_:kL f k e):α->PV:=f
abbrev kL.k{α:Type}{f:α->PV}{k e:Nat}(_:kL f k e):Nat:=k
abbrev kL.e{α:Type}{f:α->PV}{k e:Nat}(_:kL f k e):Nat:=e
abbrev dx(cs:List PV):Prop:=cs=[]\/(∃a,cs=[.ip a 0])\/∃a b,cs=[.ip a 0,.ip b 0]
def dx.no:dx []:=.inl rr
def dx.one{a:List PV}:dx [.ip a 0]:=.inr (.inl ⟨a,rr⟩)
def dx.aN{a b:List PV}:dx [.ip a 0,.ip b 0]:=.inr (.inr ⟨a,b,rr⟩)
theorem vp{α:Type}(p:α->Bool):∀(l:List α) (i:Nat),decide ((0:Int)<=cJ p l i)=l.any p
 | [],i=>rfl
 |x::l,i=>by
  unfold cJ
  rw[List.any_cons]
  cases p x
  case true=>simp_all
  exact vp p l (i+1)
abbrev gX(F:FuncId){α:Type}(f:α->PV)(k e:Nat):Prop:=∀{g:Nat} {cs:List PV} (a:dx cs) (l:List α) (p:α->Bool) (b:l.length<=67108864) (hp:∀x∈l,PC g (f x::cs) (·=bo (p x))),PC F [.sl false (l.map f),.fn g cs] (·=i64 (cJ p l 0))
theorem gX.fI{F:FuncId}{fn:Func}{α:Type}{f:α→PV}{k e:Nat}(Q:kL f k e)(hF:Tryz.prog.funcs[F]? = some fn)
 (h:kL f k e→Tryz.prog.funcs[F]? = some fn→gX F f k e:=by
   intro Q hF g cs hc l p hl hp
   rcases hc with rfl|⟨a,rfl⟩|⟨a,b,rfl⟩<;>
   ·refine aw hF<|iV l.length ⟨fun _=>[],[0,1,7],fun _=>[],[]⟩ (fun q=>cJ p l 0=cJ p (l.drop q) q) rfl ?_ (fun q hq hj=>?_) (fun hj=>?_)
    ·exact bP
    ·obtain⟨x,hx⟩:∃x,l[q]? = some x:=⟨_,j8 hq⟩
     have hd:=vP p hx
     refine bG hx<|ak (hp x (i7 hx)) rfl ?_
     cases hpx:p x with
     |true=>
      rw[hpx]at hd
      refine an ?_
      rw[hj,hd]
      exact ah
     |false=>
      rw[hpx]at hd
      exact ab<|ck.is id (hj.trans hd) rfl<|bP
    ·rw[hj,r9 (j2 _)]
     exact ah):gX F f k e:=h Q hF
def EK:gX 114 ax.pv 12 90:=gX.fI (e:=90) ⟨fz⟩ func114
def G_:gX 131 aB.pv 9 130:=gX.fI (e:=130) ⟨iF⟩ func131
def adk:gX 172 aB.pv 9 130:=gX.fI (e:=130) ⟨iF⟩ func172
def am1:gX 165 bX.pv 3 183:=gX.fI (e:=183) ⟨uZ⟩ func165
def ahL:gX 235 cC.pv 2 160:=gX.fI (e:=160) ⟨AA⟩ func235
def SI:gX 188 bR.pv 7 124:=gX.fI (e:=124) ⟨rZ⟩ func188
def L':gX 190 dt.pv 6 99:=gX.fI (e:=99) ⟨nE⟩ func190
def anY:gX 351 dc.pv 6 351:=gX.fI (e:=351) ⟨p_⟩ func351
def ahV:gX 192 QE.pv 2 137:=gX.fI (e:=137) ⟨rh⟩ func192
def amx:gX 258 st 1 9:=gX.fI (e:=9) ⟨gC⟩ func258
abbrev qT(F:FuncId){α:Type}(f:α->PV)(k e:Nat):Prop:=∀{g:Nat} {cs:List PV} (a:dx cs) (l:List α) (p:α->Bool) (b:l.length<=67108864) (hp:∀x∈l,PC g (f x::cs) (·=bo (p x))),PC F [.sl false (l.map f),.fn g cs] (·=bo (l.any p))
theorem qT.fI{F F0:FuncId}{fn:Func}{α:Type}{f:α→PV}{k e:Nat}(Q:kL f k e)(hF:Tryz.prog.funcs[F]? = some fn)(h0:gX F0 f k e)
 (h:kL f k e→Tryz.prog.funcs[F]? = some fn→(gX F0 f k e)→qT F f k e:=by
   intro Q hF hI g cs hc l p hl hp
   have h:=hI hc l p hl hp
   rcases hc with rfl|⟨a,rfl⟩|⟨a,b,rfl⟩<;>
   ·exact aw hF<|bu.is h<|aj.is (l.any p) (vp p l 0)<|ah):qT F f k e:=h Q hF h0
def ND:qT 57 aB.pv 9 130:=qT.fI (e:=130) ⟨iF⟩ func57 G_
def QY:qT 90 bX.pv 3 183:=qT.fI (e:=183) ⟨uZ⟩ func90 am1
def afM:qT 120 dt.pv 6 99:=qT.fI (e:=99) ⟨nE⟩ func120 L'
def Fv:qT 196 st 1 9:=qT.fI (e:=9) ⟨gC⟩ func196 amx
abbrev kz(F:FuncId){α:Type}(f:α->PV)(k e:Nat):Prop:=∀(l:List α) (a:l.length<=67108864) (nx:Nat),LC F [.sl false (l.map f)] [] nx λr d=>r=.aS nx 0 l.length/\d=[(nx,some (.rows k (l.map f) true none e))]
theorem kz.fI{F:FuncId}{fn:Func}{α:Type}{f:α→PV}{k e:Nat}(Q:kL f k e)(hF:Tryz.prog.funcs[F]? = some fn)
 (h:kL f k e→Tryz.prog.funcs[F]? = some fn→kz F f k e:=by
   intro Q hF l hl nx
   refine fX (js:=[]) (bs:=[]) (args:=[.sl false (l.map Q.pv)]) hF rfl rfl rfl rfl trivial rfl<|wL.all fun b hb=>?_
   refine aj.aN (fun h=>?_) (fun h=>?_)
   ·have hl0:l=[]:=B0 (by simpa using hb h)
    subst hl0
    refine an<|sV.mk ⟨[(2,Q.k,Q.e)],⟨rfl,trivial⟩,?_⟩
    exact Ph (4,nx) rfl rfl (Q.L.cf [])<|az rfl
   ·refine ab<|aq.mk ⟨⟨by simpa using hl,fun _ h=>(by cases h),Q.L.rows l⟩,fun _=>rfl⟩ ?_
    refine ey<|fw.mk ⟨[(5,nx)],200,_,_,rfl,rfl,rfl,⟨fk.mk ⟨_,rfl,Q.L.cf l,.inl rfl⟩,trivial⟩,?_,rfl⟩
    simp[jy,PV.wk,PV.rn,oK,lk]):kz F f k e:=h Q hF
theorem PZ:kz 47 (λn:UInt64=>pu n) 1 30:=kz.fI ⟨kH⟩ func47
def x_:kz 105 ax.pv 12 90:=kz.fI ⟨fz⟩ func105
def Ao:kz 177 aB.pv 9 130:=kz.fI ⟨iF⟩ func177
def amM:kz 246 aB.pv 9 130:=kz.fI ⟨iF⟩ func246
def al5:kz 250 QE.pv 2 137:=kz.fI ⟨rh⟩ func250
def agt:kz 297 dc.pv 6 351:=kz.fI ⟨p_⟩ func297
def Wy:kz 354 dt.pv 6 99:=kz.fI ⟨nE⟩ func354
def Gz:kz 394 bR.pv 7 124:=kz.fI ⟨rZ⟩ func394
theorem uq{α:Type}:∀(l:List α) (lo n:Nat),PV.sub l lo n=(l.drop lo).take n
 |l,lo,0=>by cases l<;>rfl
 | [],lo,n+1=>by simp[PV.sub]
 |a::l,0,n+1=>by rw[J9,G8];show a::PV.sub l 0 n=_;rw[uq l 0 n,J9]
 |a::l,lo+1,n+1=>by rw[N7,<-uq l lo (n+1)];rfl
def xB{rs:List PV}{k:Nat}(h:pj rs k)(lo n:Nat):pj (PV.sub rs lo n) k:=λr a=>by
 rw[uq]at a
 exact h r (B3 (u6 a))
def Ez{rs ns:List PV}{lo:Nat}(h:lo+ns.length<=rs.length):(fo rs lo ns).length=rs.length:=by
 unfold fo;simp only[i6,l8,w7];omega
def Mr{α:Type}{l:List α}{lo n:Nat}(h:lo+n<=l.length):(PV.sub l lo n).length=n:=by rw[uq,l8,w7];omega
def akO{α:Type}(f:α->PV)(l:List α)(i:Nat)(z:PV)(hi:i<l.length):fo (fo (l.map f) i (PV.sub (l.map f) (i+1) (l.length-(i+1)))) (l.length-1) [z]=(l.eraseIdx i).map f++[z]:=by
 have b:(l.map f).length=l.length:=c8 ..;have h1:fo (l.map f) i (PV.sub (l.map f) (i+1) (l.length-(i+1)))=(l.map f).take i++(l.map f).drop (i+1)++(l.map f).drop (l.length-1):=by
  unfold fo;rw[Mr om,uq,u5 (l:=List.drop _ _) (by rw[w7];omega)];congr 2;omega
 rw[h1];unfold fo;have h2:((l.map f).take i++(l.map f).drop (i+1)).length=l.length-1:=by
  simp only[i6,l8,w7];omega
 have a:(l.eraseIdx i).map f=(l.map f).take i++(l.map f).drop (i+1):=by rw[I5,l6,K6,P2]
 rw[a];generalize(l.map f).take i++(l.map f).drop (i+1)=A at h2;rw[D9 om,u5 (l:=A) om,F8 (by rw[i6,h2,w7,w6,B9];omega),A2]
abbrev vT(F:FuncId){α:Type}(f:α->PV)(k e:Nat):Prop:=∀(l:List α) (i:Nat) (hi:i<l.length) (b:l.length<=67108864) (j nx:Nat) (a:Nat.beq nx j=false),LC F [.aS j 0 l.length,i64 i,i64 (i+1:Nat)] [(j,.rows k (l.map f) true none e)] nx λr d=>r=.aS nx 0 (l.length-1)/\d=[(nx,some (.rows k ((l.eraseIdx i).map f++[kq e]) true none e)),(j,none)]
theorem vT.fI{F:FuncId}{fn:Func}{α:Type}{f:α→PV}{k e:Nat}(Q:kL f k e)(hF:Tryz.prog.funcs[F]? = some fn)
 (h:kL f k e→Tryz.prog.funcs[F]? = some fn→vT F f k e:=by
   intro Q hF l i hi hl j nx hne
   refine fX (js:=[j]) (bs:=[.rows Q.k (l.map Q.pv) true none Q.e]) (args:=[.aS 0 0 l.length,i64 i,i64 (i+1:Nat)]) hF rfl rfl ?_ rfl ⟨⟨rfl,Q.L.cf l⟩,trivial⟩ rfl ?_
   ·unfold cW;rw[hne];rfl
   refine aq.mk ⟨by omega,by omega,by omega,by omega⟩ ?_
   refine aj.f (by omega)<|ab<|aq.mk ⟨by omega,by omega⟩ ?_
   have e2:(l.map Q.pv).length=l.length:=c8 ..
   have e3:=Mr (l:=l.map Q.pv) (lo:=i+1) (n:=l.length-(i+1)) (by omega)
   have e4:=(Ez (rs:=l.map Q.pv) (ns:=PV.sub (l.map Q.pv) (i+1) (l.length-(i+1))) (lo:=i) (by omega)).trans e2
   have e5:=akO Q.pv l i (kq Q.e) hi
   have e6:l.length-(l.length-1)=1:=by omega
   have fin:dP ((l.eraseIdx i).map Q.pv++[kq Q.e]):=by
    intro r hr
    rcases s8.1 hr with hr|hr
    ·exact Q.L.cf _ r hr
    ·rw[o6.1 hr];rfl
   have e7:∀m,m=l.length-1→fo (fo (l.map Q.pv) i (PV.sub (l.map Q.pv) (i+1) (l.length-(i+1)))) (0+m) (List.replicate (l.length-m) (kq Q.e))=(l.eraseIdx i).map Q.pv++[kq Q.e]:=by
    rintro m rfl
    rw[e6,j7];exact e5
   by_cases h1:i=0
   ·subst h1
    refine dS.r<|aq.mk ⟨rfl,hi⟩<|aq.mk ⟨by omega,by omega⟩ ?_
    refine aq.mk ⟨.inl rfl,by omega,by omega⟩ ?_
    refine aq.mk (xB (Q.L.rows l) _ _) ?_
    by_cases h0:l.length=1
    ·refine dS.r<|uM<|az<|c_<|aq.mk ⟨by omega,by omega,E8.2 (F2 e4.symm)⟩ ?_
     refine aq.mk ?_ ?_
     ·show 0+0+(l.length-0)≤_
      exact F2 (by rw[j7,j7,L7];exact e4.symm)
     refine ey<|fw.mk ⟨[(0,nx)],200,_,_,rfl,rfl,rfl,⟨fk.mk ⟨_,rfl,?_,.inl rfl⟩,trivial⟩,?_,?_⟩
     ·exact(e7 0 (by omega)).symm▸fin
     ·show PV.aS nx (0+0) (0-0)=_
      rw[h0]
     ·exact congrArg (fun x=>[(nx,some (aI.rows Q.k x true none _)),(j,none)]) (e7 0 (by omega))
    ·refine dS.l<|az<|dS.r<|aq.mk ⟨?_,by decide⟩ ?_
     ·show 0<0+(l.length-1);omega
     refine aq.mk ⟨C7 _,?_,E8.2 (F2 e4.symm)⟩ ?_
     ·show((0+(l.length-1):Nat):Int)≤l.length;omega
     refine aq.mk ?_ ?_
     ·show 0+(0+(l.length-1))+(l.length-(0+(l.length-1)))≤_
      refine F2 (Eq.trans ?_ e4.symm)
      omega
     refine ey<|fw.mk ⟨[(0,nx)],200,_,_,rfl,rfl,rfl,⟨fk.mk ⟨_,rfl,?_,.inl rfl⟩,trivial⟩,?_,?_⟩
     ·exact(e7 (0+(l.length-1)) (by omega)).symm▸fin
     ·show PV.aS nx 0 (0+(l.length-1))=_
      rw[j7]
     ·exact congrArg (fun x=>[(nx,some (aI.rows Q.k x true none _)),(j,none)]) (e7 (0+(l.length-1)) (by omega))
   ·refine dS.l<|aq.mk ⟨by omega,by omega⟩ ?_
    refine aq.mk ⟨.inr (Nat.pos_of_ne_zero h1),?_,?_⟩ ?_
    ·show 0+i+(l.length-(i+1))≤_;omega
    ·show 0+(i+1)+(l.length-(i+1))≤_;omega
    refine aq.mk (xB (Q.L.rows l) _ _)<|dS.l<|az<|dS.r<|aq.mk ⟨?_,by decide⟩ ?_
    ·show 0<i+(l.length-(i+1));omega
    have e8:fo (l.map Q.pv) (0+i) (PV.sub (l.map Q.pv) (0+(i+1)) (l.length-(i+1)))=fo (l.map Q.pv) i (PV.sub (l.map Q.pv) (i+1) (l.length-(i+1))):=by rw[j7,j7]
    have e9:=(congrArg List.length e8).trans e4
    refine aq.mk ⟨C7 _,?_,E8.2 (F2 e9.symm)⟩ ?_
    ·show((i+(l.length-(i+1)):Nat):Int)≤l.length;omega
    refine aq.mk ?_ ?_
    ·show 0+(i+(l.length-(i+1)))+(l.length-(i+(l.length-(i+1))))≤_
     refine F2 (Eq.trans ?_ e9.symm)
     omega
    have e10:fo (fo (l.map Q.pv) (0+i) (PV.sub (l.map Q.pv) (0+(i+1)) (l.length-(i+1)))) (0+(i+(l.length-(i+1)))) (List.replicate (l.length-(i+(l.length-(i+1)))) (kq Q.e))=(l.eraseIdx i).map Q.pv++[kq Q.e]:=by
     rw[e8];exact e7 _ (by omega)
    refine ey<|fw.mk ⟨[(0,nx)],200,_,_,rfl,rfl,rfl,⟨fk.mk ⟨_,rfl,?_,.inl rfl⟩,trivial⟩,?_,?_⟩
    ·exact e10.symm▸fin
    ·show PV.aS nx 0 (i+(l.length-(i+1)))=_
     congr 1;omega
    ·exact congrArg (fun x=>[(nx,some (aI.rows Q.k x true none _)),(j,none)]) e10):vT F f k e:=h Q hF
def OP:vT 389 ax.pv 12 90:=vT.fI ⟨fz⟩ func389
def adQ:vT 48 (λn:UInt64=>pu n) 1 30:=vT.fI ⟨kH⟩ func48
def Rj{α:Type}(p:α->Bool):∀(l:List α) (i:Nat),cJ p l i=-1->l.filter (λx=>!p x)=l
 | [],_,_=>rfl
 |x::l,i,h=>by
  unfold cJ at h
  cases hp:p x
  case true=>rw[hp]at h;dsimp only at h;omega
  rw[hp]at h;rw[P3 (by rw[hp];rfl),Rj p l (i+1) h]
def Su{α:Type}(p:α->Bool):∀(l:List α) (i:Nat),cJ p l i≠-1->∃m,cJ p l i=((i+m:Nat):Int)/\m<l.length/\(l.take (m+1)).filter (λx=>!p x)=l.take m
 | [],_,h=>(h rr).elim
 |x::l,i,h=>by
  unfold cJ at h⊢
  cases hp:p x
  case true=>exact⟨0,rr,Nat.zero_lt_succ _,by rw[G8,P4 (by rw[hp];decide)];rfl⟩
  rw[hp]at h
  obtain⟨m,h1,h2,a⟩:=Su p l (i+1) h
  refine⟨m+1,?_,M5 h2,?_⟩
  ·show cJ p l (i+1:Nat)=_
   rw[h1];congr 1;omega
  ·rw[G8,P3 (by rw[hp];rfl),a,G8]
theorem qA{α:Type}(f:α->PV):∀(l:List α) (i:Nat) (x:α),PV.eO (l.map f) i (f x)=(l.set i x).map f
 | [],i,_=>by cases i<;>rfl
 |a::l,0,x=>rfl
 |a::l,i+1,x=>congrArg (f a::·) (qA f l i x)
structure oS{α:Type}(p:α->Bool)(l:List α) where
 i:Nat
 q:Nat
 L:List α
 hq:q<=l.length
 hi:i<q
 len:L.length=l.length
 left:L.take i=(l.take q).filter λx=>!p x
 right:L.drop q=l.drop q
def oS.at{α:Type}{p:α->Bool}{l:List α}(s:oS p l)(h:s.q<l.length):∃x,l[s.q]? = some x/\s.L[s.q]? = some x:=by
 refine⟨l[s.q],j8 h,?_⟩;have:(s.L.drop s.q)[0]? = (l.drop s.q)[0]?:=by rw[s.right]
 rw[E7,E7,D0]at this;rw[this];exact j8 h
def oS.no{α:Type}{p:α->Bool}{l:List α}(s:oS p l){x:α}(a:l[s.q]? = some x)(hp:p x=true):oS p l:=
 ⟨s.i,s.q+1,s.L,(c9.1 a).1,Nat.lt_succ_of_lt s.hi,s.len,by
  rw[O8,a,D6,s.left]
  simp[hp],by
  have:=congrArg (List.drop 1) s.right
  rwa [K0,K0]at this⟩
def oS.Gk{α:Type}{p:α->Bool}{l:List α}(s:oS p l){x:α}(b:l[s.q]? = some x)(hp:p x=false):oS p l:=
 ⟨s.i+1,s.q+1,s.L.set s.i x,(c9.1 b).1,M5 s.hi,by rw[x9];exact s.len,by
  have a:s.i<s.L.length:=by have:=s.hq;have:=s.hi;have:=s.len;omega
  rw[O8,O8,b,D6,<-s.left,List.take_set_of_le (j2 _)]
  simp[hp,a],by
  have:=congrArg (List.drop 1) s.right
  rw[K0,K0]at this
  rw[List.drop_set_of_lt (by have:=s.hi;omega)]
  exact this⟩
def oS.end{α:Type}{p:α->Bool}{l:List α}(s:oS p l)(h:¬s.q<l.length):s.L.take s.i=l.filter λx=>!p x:=by rw[s.left,u5 om]
def aaJ{α:Type}(f:α->PV){p:α->Bool}{l:List α}(s:oS p l)(z:PV)(h:¬s.q<l.length):fo (s.L.map f) s.i (List.replicate (l.length-s.i) z)=(l.filter λx=>!p x).map f++List.replicate (l.length-(l.filter λx=>!p x).length) z:=by
 have a:=s.len;have hi:=s.hi;have hq:=s.hq;have h1:(l.filter λx=>!p x).length=s.i:=by rw[<-s.end h,l8];omega
 unfold fo;rw[h1,F8 (by rw[c8,A1];omega),A2,<-K6,s.end h]
abbrev sN(F:FuncId){α:Type}(f:α->PV)(k e:Nat):Prop:=∀{g:Nat} {a:List PV} (l:List α) (p:α->Bool) (c:l.length<=67108864) (hp:∀x∈l,PC g [f x,.ip a 0] (·=bo (p x))) (j nx:Nat) (b:Nat.beq nx j=false),LC F [.aS j 0 l.length,.fn g [.ip a 0]] [(j,.rows k (l.map f) true none e)] nx λr d=>r=.aS nx 0 (l.filter λx=>!p x).length/\d=[(nx,some (.rows k ((l.filter λx=>!p x).map f++List.replicate (l.length-(l.filter λx=>!p x).length) (kq e)) true none e)),(j,none)]
theorem sN.fI{F F0:FuncId}{fn:Func}{α:Type}{f:α→PV}{k e:Nat}(Q:kL f k e)(hF:Tryz.prog.funcs[F]? = some fn)(h0:gX F0 f k e)
 (h:kL f k e→Tryz.prog.funcs[F]? = some fn→(gX F0 f k e)→sN F f k e:=by
   intro Q hF hI g a l p hl hp j nx hne
   have hix:=hI dx.one l p hl hp
   have e7:∀s:oS p l,¬s.q<l.length→fo (s.L.map Q.pv) s.i (List.replicate (l.length-s.i) (kq Q.e))=(l.filter fun x=>!p x).map Q.pv++List.replicate (l.length-(l.filter fun x=>!p x).length) (kq Q.e):=fun s h=>aaJ Q.pv s _ h
   have fin:dP ((l.filter fun x=>!p x).map Q.pv++List.replicate (l.length-(l.filter fun x=>!p x).length) (kq Q.e)):=by
    intro r hr
    rcases s8.1 hr with hr|hr
    ·exact Q.L.cf _ r hr
    ·rw[D5 hr];rfl
   ·refine fX (js:=[j]) (bs:=[.rows Q.k (l.map Q.pv) true none Q.e]) (args:=[.aS 0 0 l.length,.fn g [.ip a 0]]) hF rfl rfl ?_ rfl ⟨⟨rfl,Q.L.cf l⟩,trivial⟩ rfl ?_
    ·unfold cW;rw[hne];rfl
    refine bu.by (n:=l.length+100) hix (a_ (dC rfl rfl Q.L.bL rfl rfl) rfl) ?_
    by_cases hi:cJ p l 0=-1
    ·have hf:=Rj p l 0 hi
     refine aj.t hi<|an<|ey<|fw.mk ⟨[(0,nx)],200,_,_,rfl,rfl,rfl,⟨fk.mk ⟨_,rfl,Q.L.cf l,.inl rfl⟩,trivial⟩,?_,?_⟩
     ·rw[hf];rfl
     ·exact congrArg (fun x=>[(nx,some (aI.rows Q.k x true none _)),(j,none)]) (by rw[hf,G0,List.replicate_zero,A2])
    ·obtain⟨m,h1,h2,h3⟩:=Su p l 0 hi
     have h1:cJ p l 0=(m:Int):=h1.trans (by rw[j7])
     refine aj.f hi<|ab<|jg (m+1)<|cV.bA (ι:=oS p l) ⟨fun s=>[(5,i64 s.i),(6,i64 s.q)],[0,1],fun s=>[(0,.rows Q.k (s.L.map Q.pv) true none Q.e)],[]⟩ (fun s=>l.length-s.q) ⟨m,m+1,l,h2,D8 m,rfl,h3.symm,rfl⟩ ?_ ?_
     ·exact jn ⟨⟨by rw[← h1];rfl,rfl⟩,⟨rfl,rfl⟩,trivial⟩ ⟨⟨BB.br rfl (Q.L.cf _),rfl⟩,trivial⟩
     intro s
     refine aj.aN (fun hlt=>?_) (fun hlt=>?_)
     ·have hlt:s.q<l.length:=fE hlt
      refine an ?_
      obtain⟨x,hx,hx2⟩:=s.at hlt
      refine aq.mk ⟨by omega,by omega⟩ ?_
      refine bG (i:=0+s.q) (by rw[j7];exact hx2)<|ak (hp x (i7 hx)) rfl ?_
      cases hpx:p x with
      |true=>
       refine ab<|jg (s.q+1)<|⟨s.no hx hpx,id,?_,?_⟩
       ·show l.length-(s.q+1)<l.length-s.q;omega
       exact cS rfl (Q.L.cf _)
      |false=>
       refine an ?_
       have hsi:=s.hi
       have hsl:=s.len
       obtain⟨y,hy⟩:∃y,s.L[s.i]? = some y:=⟨_,j8 (by omega)⟩
       refine aq.mk ⟨by omega,by omega⟩ ?_
       refine bG (i:=0+s.i) (by rw[j7];exact hy)<|jg (s.i+1)<|jg (s.q+1)<|⟨s.Gk hx hpx,id,?_,?_⟩
       ·show l.length-(s.q+1)<l.length-s.q;omega
       have hr:PV.eO (s.L.map Q.pv) (0+s.i) (Q.pv x)=(s.L.set s.i x).map Q.pv:=by rw[j7];exact qA Q.pv s.L s.i x
       exact eB ⟨⟨BB.br (congrArg (fun r=>some (aI.rows Q.k r true none _)) hr) (Q.L.cf _),rfl⟩,trivial⟩
     ·have hlt:¬s.q<l.length:=fun h=>j4 hlt (B1.2 h)
      refine ab ?_
      have hsi:=s.hi
      have hsq:=s.hq
      have hsl:(s.L.map Q.pv).length=l.length:=(c8 ..).trans s.len
      refine aq.mk ⟨by omega,by omega⟩ ?_
      refine aq.mk ?_ ?_
      ·show 0+s.i+(l.length-s.i)≤_;omega
      refine aq.mk ⟨by omega,by omega⟩ ?_
      refine dS.l ?_
      have e8:fo (s.L.map Q.pv) (0+s.i) (List.replicate (l.length-s.i) (kq Q.e))=_:=(by rw[j7]:fo (s.L.map Q.pv) (0+s.i) (List.replicate (l.length-s.i) (kq Q.e))=fo (s.L.map Q.pv) s.i (List.replicate (l.length-s.i) (kq Q.e))).trans (e7 s hlt)
      have e9:(l.filter fun x=>!p x).length=s.i:=by rw[← s.end hlt,l8];have:=s.len;omega
      refine ey<|fw.mk ⟨[(0,nx)],200,_,_,rfl,rfl,rfl,⟨fk.mk ⟨_,rfl,?_,.inl rfl⟩,trivial⟩,?_,?_⟩
      ·exact e8.symm▸fin
      ·rw[e9];rfl
      ·exact congrArg (fun x=>[(nx,some (aI.rows Q.k x true none _)),(j,none)]) e8):sN F f k e:=h Q hF h0
def ZG:sN 104 ax.pv 12 90:=sN.fI ⟨fz⟩ func104 EK
def ad3:sN 296 dc.pv 6 351:=sN.fI ⟨p_⟩ func296 anY
def agf:sN 353 dt.pv 6 99:=sN.fI ⟨nE⟩ func353 L'
def ank{P:Program}(w:World)(tS tR e:TypeId)(s:P.underlying tS=some (.slice e))(size:Nat)(u:(Go.sizeOf e).run P w=.ok size w)(a b:Option Addr)(i ca lb cb:Nat)
 (h:i=0\/lb=0\/size=0\/∃x y k g j c,a=some x/\b=some y/\x.block≠y.block/\w.shape? x.block=some (k,g+1)/\w.shape? y.block=some (j,c)/\w.frozen? y=false/\w.frozen? {block:=y.block,off:=c}=false):
 (Extern.SlicesOverlaps.overlaps #[tS,tS] #[tR] #[.slice a i ca,.slice b lb cb]).run P w=.ok (.bool false) w:=by
 change Sem.run P (α:=Value) (do
  let some t:=(#[tS,tS]:Array TypeId)[0]?|stuck "slices.overlaps: no parameter types"
  let .slice elem <-underlying t|stuck "slices.overlaps: slice type expected"
  let size <-sizeOf elem
  match a,b with
  |some a,some b=>
   if i=0\/lb=0\/size=0 then pure (Value.bool false)
   else if a.block != b.block&&(<-frozen a)&&(<-frozen b)then unsupported .addressObserved
   else do
    if a.block != b.block then do
     noView a;noView b
     if <-mayBeOne a b then return Value.bool ((<-choose (.extern "sameAddr.stringBytes" 2))==1)
    pure (Value.bool (a.block==b.block&&a.off<b.off+lb*size&&b.off<a.off+i*size))
  |_,_=>pure (Value.bool false)) w=_
 by_cases h0:i=0\/lb=0\/size=0
 ·cases a<;>cases b<;>simp[run_underlying s,u,h0]
 ·obtain⟨x,y,k,g,j,c,rfl,rfl,d,l,m,n,o⟩:∃x y k g j c,a=some x/\b=some y/\x.block≠y.block/\w.shape? x.block=some (k,g+1)/\w.shape? y.block=some (j,c)/\w.frozen? y=false/\w.frozen? {block:=y.block,off:=c}=false:=by
   rcases h with h|h|h|h
   ·exact(h0 (.inl h)).elim
   ·exact(h0 (.inr (.inl h))).elim
   ·exact(h0 (.inr (.inr h))).elim
   ·exact h
  have p:(x.block != y.block)=true:=by simpa using d
  have f:(x.block==y.block)=false:=by simpa using d
  cases q:w.frozen? x<;>cases r:w.frozen? {block:=x.block,off:=g+1}<;>
   simp[run_underlying s,u,h0,p,f,frozen,noView,viewAt,mayBeOne,stringish,shape,Sem.run,l,m,q,n,o,r]
def yN{f:FuncId}{fn:Func}{tS tR e:TypeId}{ti te:TI}(T:prog.funcs[f]? = some fn)(g:(fn.name== "runtime.NumGoroutine")=false)(hb:fn.body.isNone=true)(t:Extern.findNext fn=none)(U:Extern.find fn=some (Extern.SlicesOverlaps.overlaps #[tS,tS] #[tR]))
 (e1:tt tS=some ti) (V:ti.kd=.sl e) (e2:tt e=some te) {c:Bool} {rows:List PV} {j lo len k:Nat} {rs:List PV} {R:Option Nat} {L:TypeId} (z:te.size=k) (A:uN rows k):XC prog f [.sl c rows,.aS j lo len] [(j,.rows k rs true R L)] (bo false):=by
 refine⟨fun{S F hp rc vs} M C hv=>?_⟩
 have N:hp j=some (.rows k rs true R L):=C.1
 obtain⟨x,J,rfl,r1,y,vs'',rfl,r2,rfl⟩:=hv
 have D:=cz tS ti e1
 obtain⟨d,W,_,l⟩:=D.de
 rw[V]at l
 obtain rfl:=l
 have E:=(cz e te e2).size rc.w
 refine⟨.bool false,?_,rr,rr⟩
 rw[run_callFunc_extern T g hb t U]
 obtain⟨us,q1,a,cap,rfl,q2,q3,K⟩:=r1
 have key:∀(b:Option Addr) (lb i:Nat),(us.length=0\/lb=0\/te.size=0\/∃x y tA kA tB kB,a=some x/\b=some y/\x.block≠y.block/\rc.w.shape? x.block=some (tA,kA+1)/\rc.w.shape? y.block=some (tB,kB)/\rc.w.frozen? y=false/\rc.w.frozen? {block:=y.block,off:=kB}=false)->
  ((Extern.SlicesOverlaps.overlaps #[tS,tS] #[tR] [Value.slice a us.length cap,.slice b lb i].toArray).run prog rc.w).andThen (λv w'=>Result.ok (Next.value v) w')=Result.ok (Next.value (Value.bool false)) rc.w:=by
  intro b lb i h
  have:=ank (P:=prog) rc.w tS tR e W te.size E a b us.length cap lb i h
  rw[show[Value.slice a us.length cap,.slice b lb i].toArray=#[Value.slice a us.length cap,.slice b lb i]from rr,this]
  rfl
 rcases r2 with⟨rfl,b,rfl⟩|⟨B,m,i,aK,e6,f6,n,rfl,g1,g2,g3,g4⟩
 ·exact key _ _ _ (.inr (.inl rr))
 ·refine key _ _ _ ?_
  by_cases h0:us=[]
  ·exact .inl (by rw[h0];rfl)
  by_cases h1:te.size=0
  ·exact .inr (.inr (.inl h1))
  refine .inr (.inr (.inr ?_))
  rcases K with K|⟨b,off,k',rfl,q5,q6⟩
  ·exact(h0 K).elim
  have G:∀u∈us,u.cells.size=te.size:=λu O=>by rw[z];exact q1.tK A u O
  obtain⟨u,O⟩:=List.exists_mem_of_ne_nil _ h0
  have p:0<(bV us).length:=by
   rw[jF G]
   exact Nat.mul_pos (N6.2 h0) (Nat.pos_of_ne_zero h1)
  obtain⟨z1,z2⟩:=q6 0 _ (j8 p)
  obtain⟨rfl,r,J,s,b4,b5,b6,b9,b10⟩:=sq M N n
  have H:∀o,¬rc.Z B o:=by
   rcases M.dK j _ N with⟨_,_,X⟩|⟨B',_,_,h1,_,_,_,_,_,Y,_⟩
   ·rw[X]at n;cases n
   ·rw[h1]at n;cases n;exact Y rr
  have I:b≠B:=by rintro rfl;exact H _ z1
  rw[fe]at s
  obtain⟨cs,t7,f7,q⟩:∃cs t7 f7,rc.w.heap[b]? = some (.cells cs t7 f7)/\cs[off+0]?≠none:=by
   unfold World.cell? at z2
   split at z2
   ·rename_i cs t7 f7 hh
    refine⟨cs,t7,f7,hh,?_⟩
    intro t
    simp only[Option.isSome_none,O4,if_false]at z2
    rw[t]at z2;cases z2
   ·cases z2
  have Q:cs.size≠0:=by
   intro h
   exact q.2 (by simp[h])
  refine⟨_,_,t7,cs.size-1,L,r.size,rr,rr,I,?_,?_,?_,?_⟩
  ·simp only[World.shape?,q.1];congr 2;omega
  ·simp[World.shape?,s]
  ·simp[World.frozen?,s]
  ·simp[World.frozen?,s]
def Qg{α:Type}(f:α->PV)(l:List α)(i:Nat)(x:α):(l.take i++x::l.drop i).map f=(l.map f).take i++f x::(l.map f).drop i:=by rw[l6,w9,K6,P2]
def Cz{α:Type}(f:α->PV)(l:List α)(i:Nat)(x:α)(z:PV)(hi:i<l.length){a q b u c lo m v:Nat}(e:a=i)(hq:q=l.length+1-i)(hb:b=i)(g:1<=u)(h:c=i+1)(d:lo=i)(j:m=l.length-i)(hv:m<=v):
 fo (fo ((l.map f).take a++List.replicate q z) b ([f x].take u)) c ((PV.sub (l.map f) lo m).take v)=(l.take i++x::l.drop i).map f:=by
 subst e hq hb h d j
 have k:(l.map f).length=l.length:=c8 ..
 rw[Qg,uq]
 generalize l.map f=r at k
 rw[u5 (l:=[f x]) (by rw[C0];exact g),u5 (l:=List.drop _ _) (by rw[w7];omega),u5 (l:=List.drop _ _) (by rw[w7];omega)]
 unfold fo
 have h1:(r.take lo).length=lo:=by rw[l8];omega
 rw[D9 (l₁:=r.take lo) om,u5 (l:=r.take lo) om]
 rw[D9 (by rw[i6,h1,C0];exact j2 _),u5 (by rw[i6,h1,C0];exact j2 _)]
 rw[F8 (l:=_++List.drop _ _) (by simp only[i6,l8,w7,A1,C0];omega),A2,A7]
 rfl
def CE{α:Type}(f:α->PV)(l:List α)(i:Nat)(x:α)(hi:i<l.length){b u c lo m v:Nat}(hb:b=i)(d:1<=u)(e:c=i+1)(a:lo=i)(g:m=l.length-i)(hv:m<=v):fo (fo (l.map f) c ((PV.sub (l.map f) lo m).take v)) b ([f x].take u)=(l.take i++x::l.drop i).map f:=by
 subst hb e a g;have h:(l.map f).length=l.length:=c8 ..;rw[Qg,uq];generalize l.map f=r at h;rw[u5 (l:=[f x]) (by rw[C0];exact d),u5 (l:=List.drop _ _) (by rw[w7];omega),u5 (l:=List.drop _ _) (by rw[w7];omega)];unfold fo;have h1:(r.take (lo+1)).length=lo+1:=by rw[l8];omega
 rw[F8 (l:=r) (i:=lo+1+(r.drop lo).length) (by rw[w7];omega),A2];rw[D9 om,List.take_take,E9 om,M6 (by rw[h1,C0];exact j2 _),F8 (by rw[h1,C0];exact j2 _),D4,A7];rfl
abbrev qm(F:FuncId){α:Type}(f:α->PV)(k e:Nat):Prop:=∀(l:List α) (i:Nat) (x:α) (hi:i<=l.length) (b:l.length<67108864) (j nx:Nat) (a:Nat.beq nx j=false),LC F [.aS j 0 l.length,i64 i,.sl false [f x]] [(j,.rows k (l.map f) true none e)] nx λr d=>r=.aS nx 0 (l.length+1)/\d=[(nx,some (.rows k ((l.take i++x::l.drop i).map f) true none e)),(j,none)]
theorem qm.fI{F F0:FuncId}{fn:Func}{α:Type}{f:α→PV}{k e:Nat}(Q:kL f k e)(hF:Tryz.prog.funcs[F]? = some fn)(h0:∀(x:α) {lo len:Nat} {rs:List PV} {cp:Option Nat} {ee:TypeId},XC Tryz.prog F0 [.sl false [f x],.aS 0 lo len] [(0,.rows k rs true cp ee)] (bo false))
 (h:kL f k e→Tryz.prog.funcs[F]? = some fn→(∀(x:α) {lo len:Nat} {rs:List PV} {cp:Option Nat} {ee:TypeId},XC Tryz.prog F0 [.sl false [f x],.aS 0 lo len] [(0,.rows k rs true cp ee)] (bo false))→qm F f k e:=by
   intro Q hF hO l i x hi hl j nx hne
   have hov:=@hO x
   have hx1:pj [Q.pv x] Q.k:=Q.L.rows [x]
   refine fX (js:=[j]) (bs:=[_]) (args:=[.aS 0 0 l.length,i64 i,.sl false [Q.pv x]]) hF rfl rfl ?_ rfl ⟨⟨rfl,Q.L.cf l⟩,trivial⟩ rfl ?_
   ·unfold cW;rw[hne];rfl
   have e2:(l.map Q.pv).length=l.length:=c8 ..
   dsimp only[kL.pv]at e2
   refine aq.mk ⟨by omega,by omega⟩ ?_
   refine aj.f (by show¬((1:Int)=0);decide)<|ab<|aj.aN (fun he=>?_) (fun he=>?_)
   ·have he:i=l.length:=by have:=j5 he;omega
    refine an<|dS.l (aq.mk ⟨⟨by rw[e2];show l.length+1≤_;omega,(Q.L.rows l).k,hx1⟩,e2.symm⟩ ?_)
    refine ey<|fw.mk ⟨[(18,nx)],200,_,_,rfl,rfl,rfl,⟨fk.mk ⟨_,rfl,?_,.inl rfl⟩,trivial⟩,?_,?_⟩
    ·exact(by rw[he,s9,F7,l6];rfl:l.map Q.pv++[Q.pv x]=(l.take i++x::l.drop i).map Q.pv)▸Q.L.cf _
    ·rfl
    ·exact congrArg (fun x=>[(nx,some (aI.rows Q.k x true none _)),(j,none)]) (by rw[he,s9,F7,l6];rfl:l.map Q.pv++[Q.pv x]=(l.take i++x::l.drop i).map Q.pv)
   ·have he:i<l.length:=by have:=j4 he;omega
    refine ab<|cj.intro ((l.length+1:Nat):Int) (wrap_i64 (by show(l.length:Int)+1=_;omega) (by omega))<|uM<|JH.mk fun c hc=>?_
    refine aj.aN (fun hg=>?_) (fun hg=>?_)
    ·have hg:c<l.length+1:=by have:=j5 hg;omega
     refine an<|uM<|aq.mk ⟨by omega,by omega⟩ ?_
     refine cj.intro ((l.length+1:Nat):Int) (wrap_i64 (by show(l.length:Int)+1=_;omega) (by omega))<|jg (l.length+1-i)<|aq.mk ⟨by omega,by omega,by omega,by omega⟩ ?_
     refine aq.mk ⟨by omega,?_⟩ ?_
     ·show(i:Int)≤((i-0+(l.length+1-i):Nat):Int);omega
     refine aq.mk ⟨hx1,?_⟩ ?_
     ·rw[i6,l8,A1];omega
     refine jX<|cj.intro ((i+1:Nat):Int) (wrap_i64 (by show(i:Int)+1=_;omega) (by omega))<|aq.mk ⟨by omega,?_⟩ ?_
     ·show((i+1:Nat):Int)≤((i-0+(l.length+1-i):Nat):Int);omega
     refine aq.mk ⟨by omega,by omega⟩ ?_
     refine aq.mk ?_ ?_
     ·show Nat.min (l.length-i) _≤(List.map _ l).length-(0+i)
      exact r8 (N3 _ _) (by omega)
     refine aq.mk ⟨xB (Q.L.rows l) _ _,?_⟩ ?_
     ·rw[Ez]
      ·rw[i6,l8,A1]
       show 0+(i+1)≤min (i-0) (List.map _ l).length+(l.length+1-i);omega
      ·rw[i6,l8,A1,l8,C0]
       show 0+i+min _ 1≤min (i-0) (List.map _ l).length+(l.length+1-i);omega
     refine jX<|az<|ey<|fw.mk ⟨[(30,nx)],200,_,_,rfl,rfl,rfl,⟨fk.mk ⟨_,rfl,?_,.inl rfl⟩,trivial⟩,?_,?_⟩
     ·exact(Cz Q.pv l i x _ he rfl rfl (j7 _) (by show 1≤i-0+(l.length+1-i)-i;omega) (j7 _) (j7 _) (E9 (by show l.length-i≤i-0+(l.length+1-i)-(i+1);omega)) (F1 _ _)).symm▸Q.L.cf _
     ·show PV.aS nx 0 (i-0+(l.length+1-i))=_
      congr 1;omega
     ·exact congrArg (fun x=>[(nx,some (aI.rows Q.k x true none _)),(j,none)]) (Cz Q.pv l i x _ he rfl rfl (j7 _) (by show 1≤i-0+(l.length+1-i)-i;omega) (j7 _) (j7 _) (E9 (by show l.length-i≤i-0+(l.length+1-i)-(i+1);omega)) (F1 _ _))
    ·have hg:l.length+1≤c:=by have:=j4 hg;omega
     refine ab<|cj.intro ((l.length+1:Nat):Int) (wrap_i64 (by show(l.length:Int)+1=_;omega) (by omega))<|uM<|aq.mk ⟨by omega,by omega⟩ ?_
     refine cj.intro ((i+1:Nat):Int) (wrap_i64 (by show(i:Int)+1=_;omega) (by omega))<|aq.mk ⟨by omega,?_⟩ ?_
     ·show((i+1:Nat):Int)≤((l.length+1-0:Nat):Int);omega
     refine bu.ext [0] (n:=200) hov rfl ⟨rfl,trivial⟩<|an<|cj.intro ((i+1:Nat):Int) (wrap_i64 (by show(i:Int)+1=_;omega) (by omega))<|aq.mk ⟨by omega,?_⟩ ?_
     ·show((i+1:Nat):Int)≤((l.length+1-0:Nat):Int);omega
     refine aq.mk ⟨by omega,?_⟩ ?_
     ·show(i:Int)≤((l.length+1-0:Nat):Int);omega
     have hm:Nat.min (l.length+1-0-i) (l.length+1-0-(i+1))=l.length-i:=(Nat.min_eq_right (by omega)).trans (by omega)
     have hb:0+0+i=i:=by omega
     have hc1:0+0+(i+1)=i+1:=by omega
     refine aq.mk ?_ ?_
     ·exact r8 (F2 hm) (by rw[e2];show l.length-i≤l.length-(0+0+i);omega)
     refine aq.mk ⟨xB (Q.L.rows l) _ _,?_⟩ ?_
     ·show 0+0+(i+1)≤_;omega
     refine jX<|az<|aq.mk ⟨by omega,?_⟩ ?_
     ·show(i:Int)≤((l.length+1-0:Nat):Int);omega
     refine aq.mk ⟨hx1,?_⟩ ?_
     ·unfold fo
      rw[i6,i6,l8]
      show 0+0+i≤min (0+0+(i+1)) (List.map _ l).length+_+_;omega
     refine jX<|ey<|fw.mk ⟨[(0,nx)],200,_,_,rfl,rfl,rfl,⟨fk.mk ⟨_,rfl,?_,.inl rfl⟩,trivial⟩,?_,?_⟩
     ·exact(CE Q.pv l i x he hb (by show 1≤l.length+1-0-i;omega) hc1 hb hm (by show Nat.min _ _≤_;exact F1 _ _)).symm▸Q.L.cf _
     ·rfl
     ·exact congrArg (fun x=>[(nx,some (aI.rows Q.k x true none _)),(j,none)]) (CE Q.pv l i x he hb (by show 1≤l.length+1-0-i;omega) hc1 hb hm (by show Nat.min _ _≤_;exact F1 _ _))):qm F f k e:=h Q hF h0
def acX:qm 249 QE.pv 2 137:=qm.fI ⟨rh⟩ func249 λx {_ _ _ _ _}=>yN (tS:=69) (tR:=4) (e:=137) func303 (by kernel_rfl) (by kernel_rfl) (by kernel_rfl) (by kernel_rfl) rr rr rr rr (λr a=>by rw[o6.1 a];rfl)
theorem En:qm 391 aB.pv 9 130:=qm.fI ⟨iF⟩ func391 λx {_ _ _ _ _}=>yN (tS:=67) (tR:=4) (e:=130) func406 (by kernel_rfl) (by kernel_rfl) (by kernel_rfl) (by kernel_rfl) rr rr rr rr (λr a=>by rw[o6.1 a];rfl)
theorem Qd:qm 393 bR.pv 7 124:=qm.fI ⟨rZ⟩ func393 λx {_ _ _ _ _}=>yN (tS:=63) (tR:=4) (e:=124) func408 (by kernel_rfl) (by kernel_rfl) (by kernel_rfl) (by kernel_rfl) rr rr rr rr (λr a=>by rw[o6.1 a];rfl)
def am7:qm 255 st 1 9:=qm.fI ⟨gC⟩ func255 λx {_ _ _ _ _}=>yN (tS:=25) (tR:=4) (e:=9) func307 (by kernel_rfl) (by kernel_rfl) (by kernel_rfl) (by kernel_rfl) rr rr rr rr (λr a=>by rw[o6.1 a];rfl)
def aeQ(l:List ax):PC 387 [sl ax.pv l] (·=.sl true (l.map ax.pv)):=by
 refine aw func387<|aq.mk (fz.rows l).k<|aq.mk ⟨om,rr,om⟩ ?_;exact⟨200,_,[],.inr ⟨rr,rr⟩,congrArg (PV.sl true) (s9)⟩
def acL(l:List cZ):PC 305 [sl cZ.pv l] (·=.sl true (l.map cZ.pv)):=by
 refine aw func305<|aq.mk (nu.rows l).k<|aq.mk ⟨om,rr,om⟩ ?_;exact⟨200,_,[],.inr ⟨rr,rr⟩,congrArg (PV.sl true) (s9)⟩
def QE.same(a b:QE):Bool:=decide (a.id=b.id)&&decide (a.bC=b.bC)
theorem qG(a b:UInt64):decide ((a.toNat:Int)=(b.toNat:Int))=decide (a=b):=by
 rw[Bool.eq_iff_iff,H8,H8];constructor
 ·intro h;exact F6.1 (Int.ofNat.inj h)
 ·rintro rfl;rfl
def acu(l:List QE)(x:QE)(e:l.length<=67108864):PC 198 [sl QE.pv l,x.pv] (·=i64 (cJ (λy=>x.same y) l 0)):=by
 refine aw func198<|iV l.length ⟨λ_=>[],[0,3,7],λ_=>[],[0]⟩ (λq=>cJ (λy=>x.same y) l 0=cJ (λy=>x.same y) (l.drop q) q) rr ?_ (λq hq b=>?_) (λb=>?_)
 ·exact gM ⟨⟨_,rr,BB.br rr (rh.cf [x]),rr⟩,trivial⟩
 ·obtain⟨y,d⟩:∃y,l[q]? = some y:=⟨_,j8 hq⟩;have c:=vP (λy=>x.same y) d;refine bG d<|aj.is (x.same y) ?_ ?_
  ·show(decide ((x.id.toNat:Int)=(y.id.toNat:Int))&&(decide (x.bC=y.bC)&&true))=_
   rw[qG,Bool.and_true];rfl
  refine az ?_;cases a:x.same y
  case true=>
   rw[a]at c;refine an ?_;rw[b,c];exact ah
  rw[a]at c;exact ab<|ck.is id (b.trans c) rfl<|gM ⟨⟨_,rr,BB.br rr (rh.cf [x]),rr⟩,trivial⟩
 ·rw[b,r9 (j2 _)];exact ah
def abE(l:List QE)(x:QE)(a:l.length<=67108864):PC 130 [sl QE.pv l,x.pv] (·=bo (l.any λy=>x.same y)):=aw func130<|ak (acu l x a) rfl<|aj.is (l.any λy=>x.same y) (vp (λy=>x.same y) l 0)<|ah
def Zi(l:List BA)(x:BA)(e:l.length<=67108864):PC 169 [sl st l,st x] (·=i64 (cJ (λy=>seq x y) l 0)):=by
 refine aw func169<|iV l.length ⟨λ_=>[],[0,1,7],λ_=>[],[]⟩ (λq=>cJ (λy=>seq x y) l 0=cJ (λy=>seq x y) (l.drop q) q) rr ?_ (λq hq b=>?_) (λb=>?_)
 ·exact bP
 ·obtain⟨y,d⟩:∃y,l[q]? = some y:=⟨_,j8 hq⟩;have c:=vP (λy=>seq x y) d;refine bG d<|aj.is (seq x y) ?_ ?_
  ·rfl
  cases a:seq x y
  case true=>
   rw[a]at c;refine an ?_;rw[b,c];exact ah
  rw[a]at c;exact ab<|ck.is id (b.trans c) rfl<|bP
 ·rw[b,r9 (j2 _)];exact ah
def ajF(l:List BA)(x:BA)(a:l.length<=67108864):PC 94 [sl st l,st x] (·=bo (l.any λy=>seq x y)):=aw func94<|ak (Zi l x a) rfl<|aj.is (l.any λy=>seq x y) (vp (λy=>seq x y) l 0)<|ah
def ia{α:Type}(f:α->α->Bool):List α->List α->Bool
 | [],[]=>true
 |x::l,y::m=>match f x y with|true=>ia f l m|false=>false
 |_,_=>false
def Au{α:Type}{f:α->α->Bool}:∀{l m:List α},l.length≠m.length->ia f l m=false
 | [],[],h=>(h rr).elim
 | [],_::_,_=>rfl
 |_::_,[],_=>rfl
 |x::l,y::m,h=>by
  unfold ia
  cases f x y
  case true=>exact Au (l:=l) (m:=m) λe=>h (congrArg Nat.succ e)
  rfl
def EE{α:Type}(f:α->α->Bool){l m:List α}{q:Nat}{x y:α}(a:l[q]? = some x)(b:m[q]? = some y):ia f (l.drop q) (m.drop q)=match f x y with|true=>ia f (l.drop (q+1)) (m.drop (q+1))|false=>false:=by
 obtain⟨h1,rfl⟩:=c9.1 a;obtain⟨h2,rfl⟩:=c9.1 b;rw[o8 h1,o8 h2];rfl
def cC.same(a b:cC):Bool:=seq a.k b.k&&seq a.v b.v
def akF(l m:List cC)(g:l.length<=67108864):PC 269 [sl cC.pv l,sl cC.pv m] (·=bo (ia cC.same l m)):=by
 refine aw func269<|aj.aN (λa=>?_) (λa=>?_)
 ·have a:l.length=m.length:=by
   have h:=j5 a;rw[c8,c8]at h;omega
  refine ab<|iV l.length ⟨λ_=>[],[0,1,12],λ_=>[],[]⟩ (λq=>ia cC.same l m=ia cC.same (l.drop q) (m.drop q)) rr ?_ (λq hq c=>?_) (λc=>?_)
  ·exact bP
  ·obtain⟨x,e⟩:∃x,l[q]? = some x:=⟨_,j8 hq⟩;obtain⟨y,f⟩:∃y,m[q]? = some y:=⟨_,j8 om⟩;have d:=EE cC.same e f;refine bG e<|bG f<|aj.is (cC.same x y) ?_ ?_
   ·show(seq x.k y.k&&(seq x.v y.v&&true))=_
    rw[Bool.and_true];rfl
   refine az ?_;cases b:cC.same x y
   ·rw[b]at d;refine an ?_;rw[c,d];exact ah
   rw[b]at d;exact ab<|ck.is id (c.trans d) rfl<|bP
  ·rw[c,r9 (j2 _),r9 (F2 a.symm)];exact ah
 ·have a:l.length≠m.length:=by
   have h:=j4 a;rw[c8,c8]at h;omega
  refine an ?_;rw[Au a];exact ah
def agi(l m:List BA)(g:l.length<=67108864):PC 385 [sl st l,sl st m] (·=bo (ia seq l m)):=by
 refine aw func385<|aj.aN (λa=>?_) (λa=>?_)
 ·have a:l.length=m.length:=by
   have h:=j5 a;rw[c8,c8]at h;omega
  refine ab<|iV l.length ⟨λ_=>[],[0,1,12],λ_=>[],[]⟩ (λq=>ia seq l m=ia seq (l.drop q) (m.drop q)) rr ?_ (λq hq c=>?_) (λc=>?_)
  ·exact bP
  ·obtain⟨x,e⟩:∃x,l[q]? = some x:=⟨_,j8 hq⟩;obtain⟨y,f⟩:∃y,m[q]? = some y:=⟨_,j8 om⟩;have d:=EE seq e f;refine bG e<|bG f<|aj.is (seq x y) ?_ ?_
   ·rfl
   refine az ?_;cases b:seq x y
   ·rw[b]at d;refine an ?_;rw[c,d];exact ah
   rw[b]at d;exact ab<|ck.is id (c.trans d) rfl<|bP
  ·rw[c,r9 (j2 _),r9 (F2 a.symm)];exact ah
 ·have a:l.length≠m.length:=by
   have h:=j4 a;rw[c8,c8]at h;omega
  refine an ?_;rw[Au a];exact ah
def QE.dm(a b:QE):Bool:=decide (b.bC<a.bC)||(decide (a.bC=b.bC)&&decide (a.id.toNat<b.id.toNat))
def WG(a b:QE):PC 127 [a.pv,b.pv] (·=bo (a.dm b)):=by
 refine aw func127 ?_;unfold QE.dm;refine aj.aN (λh1=>?_) (λh1=>?_)<;>simp only[h1,Bool.true_or,Bool.false_or]
 ·exact ah
 ·refine aj.aN (λh2=>?_) (λh2=>?_)<;>simp only[h2,Bool.true_and,Bool.false_and]
  ·exact aj.is (decide (a.id.toNat<b.id.toNat)) (C3.2 B1)<|ah
  ·exact ah
def QE.wv(e:QE):Bool:=decide (e.bC<0)||decide (9<e.bC)
def Sn(e:QE):PC 125 [e.pv] (·=bo e.wv):=by
 refine aw func125 ?_;unfold QE.wv;refine aj.aN (λh1=>?_) (λh1=>?_)<;>simp only[h1,Bool.true_or,Bool.false_or]
 ·exact ah
 ·exact aj.is _ rfl<|ah
def abD(e:QE)(id:UInt64):PC 193 [e.pv,.ip [pu id] 0] (·=bo (decide (e.id=id))):=aw func193<|aj.is (decide (e.id=id)) (qG e.id id)<|ah
def pA(q:List QE)(id:UInt64):Int:=cJ (λe=>decide (e.id=id)) q 0
def Da(q:List QE)(id:UInt64)(a:q.length<=67108864):PC 126 [sl QE.pv q,pu id] (·=i64 (pA q id)):=aw func126<|ak (ahV dx.one q (λe=>decide (e.id=id)) a λe _=>abD e id) rfl<|ah
def lF(e:QE)(q:List QE):Nat:=q.findIdx λx=>e.dm x
def aku{α:Type}(p:α->Bool){l:List α}{i:Nat}{x:α}(h:l[i]? = some x):i+(l.drop i).findIdx p=match p x with|true=>i|false=>i+1+(l.drop (i+1)).findIdx p:=by
 obtain⟨a,rfl⟩:=c9.1 h;rw[o8 a,List.findIdx_cons];cases p l[i]
 case true=>rfl
 simp;omega
def Zx(q:List QE)(e:QE)(g:q.length<=67108864):PC 251 [.agg [.fn 127 []],sl QE.pv q,e.pv] (·=i64 (lF e q:Nat)):=by
 refine aw func251<|iV q.length ⟨λ_=>[],[1,3,5,9,10],λ_=>[],[0,1]⟩ (λk=>lF e q=k+(q.drop k).findIdx λx=>e.dm x) ?_ ?_ (λk f b=>?_) (λb=>?_)
 ·exact(j7 _).symm
 ·exact bP
 ·obtain⟨x,d⟩:∃x,q[k]? = some x:=⟨_,j8 f⟩;have c:=aku (λx=>e.dm x) d;refine bG d<|ak (WG e x) rr ?_;cases a:e.dm x
  case true=>
   rw[a]at c;refine an ?_;rw[b,c];exact ah
  rw[a]at c;exact ab<|ck.is id (b.trans c) rfl<|bP
 ·rw[b,r9 (j2 _)];refine⟨200,_,_,.inl rr,?_⟩;show i64 ((q.map QE.pv).length:Nat)=_
  rw[c8];rfl
def Xj(e:QE)(q:List QE):lF e q<=q.length:=List.findIdx_le_length
def pO(q:List QE)(e:QE):List QE:=q.take (lF e q)++e::q.drop (lF e q)
theorem Df(q:List QE)(e:QE):(pO q e).length=q.length+1:=by
 unfold pO;have:=Xj e q;rw[i6,w6,l8,w7];omega
def fq(q:List QE)(e:QE):List QE×Int:=
 match e.wv with
 |true=>(q,1)
 |false=>match decide (0<=pA q e.id)with
  |true=>(q,8)
  |false=>match decide (32<=(q.length:Int))with
   |true=>(q,9)
   |false=>(pO q e,0)
abbrev Vp(r:List QE×Int):PV:=.aU [sl QE.pv r.1,i64 r.2]
def ET(q:List QE)(e:QE)(a:q.length<=60000000):PC 181 [sl QE.pv q,e.pv] (·=Vp (fq q e)):=by
 refine aw func181 ?_;unfold fq;refine ak (Sn e) rr ?_;cases b:e.wv
 case true=>
  exact an<|ah
 refine ab<|ak (Da q e.id om) rfl<|aj.aN (λh1=>?_) (λh1=>?_)
 ·rw[h1];exact an<|ah
 rw[h1];refine ab ?_;have hq:(q.map QE.pv).length=q.length:=c8 ..;refine aj.aN (λh2=>?_) (λh2=>?_)
 ·rw[hq]at h2;rw[h2];exact an<|ah
 rw[hq]at h2;rw[h2];exact ab<|fi.bH [] (n:=200) (al5 q om _) rr trivial<|aJ (Zx q e om) rfl<|fi.bH [17] (n:=200) (acX q (lF e q) e (Xj e q) om 17 _ rr) rr ⟨rr,trivial⟩<|az<|⟨(pO q e).length+100,_,_,.inl (a_ (dC (l:=pO q e) rr rr rh.bL (Df q e).symm rr) rr),rr⟩
def RG{α:Type}(p:α->Bool):∀(l:List α) (i:Nat),cJ p l i=-1\/∃m:Nat,cJ p l i=((i+m:Nat):Int)/\m<l.length
 | [],_=>.inl rr
 |x::l,i=>by
  unfold cJ
  cases p x
  case true=>exact .inr ⟨0,rr,Nat.zero_lt_succ _⟩
  rcases RG p l (i+1)with h|⟨m,h1,h2⟩
  ·exact .inl h
  ·exact .inr ⟨m+1,by show cJ p l (i+1:Nat)=_;rw[h1];congr 1;omega,M5 h2⟩
def jA(q:List QE)(id:UInt64):List QE×Bool:=
 match decide (pA q id<0)with
 |true=>(q,false)
 |false=>(q.eraseIdx (pA q id).toNat,true)
def ahw{α:Type}(f:α->PV)(l:List α)(z:PV){k n m a u b v c:Nat}(j:k<l.length)(o:n+1=l.length)(d:a=k)(p:a<=u)(hb:b=k)(e:c=k+1)(g:m=l.length-(k+1))(hv:m<=v):
 fo (fo (List.replicate n z) 0 ((((l.map f).drop 0).take a).take u)) b ((((l.map f).drop c).take m).take v)=(l.eraseIdx k).map f:=by
 subst d hb e g
 have h:(l.map f).length=l.length:=c8 ..
 have i:(l.eraseIdx b).map f=(l.map f).take b++(l.map f).drop (b+1):=by rw[I5,l6,K6,P2]
 rw[i]
 generalize l.map f=r at h
 have h1:(r.take b).length=b:=by rw[l8];omega
 rw[J9,u5 (l:=r.take b) om,u5 (l:=List.drop _ _) (by rw[w7];omega),u5 (l:=List.drop _ _) (by rw[w7];omega)]
 unfold fo
 rw[List.take_zero,D4,D9 om,u5 (l:=r.take b) om,F8 (l:=_++_) (by simp only[i6,l8,w7,A1];omega),A2]
def Nv(q:List QE)(id:UInt64)(g:q.length<=60000000):PC 388 [sl QE.pv q,pu id] (·=.aU [sl QE.pv (jA q id).1,bo (jA q id).2]):=by
 refine aw func388 ?_;unfold jA;refine ak (Da q id om) rfl<|aj.aN (λh1=>?_) (λh1=>?_)
 ·rw[h1];exact an<|ah
 rw[h1];refine ab ?_;have h1:=j4 h1;obtain⟨k,c,a⟩:∃k:Nat,pA q id=(k:Int)/\k<q.length:=by
  rcases RG (λe=>decide (e.id=id)) q 0 with h|⟨m,h2,d⟩
  ·exact(h1 (by unfold pA;rw[show cJ (λe=>decide (e.id=id)) q 0=-1 from h];decide)).elim
  ·exact⟨m,h2.trans (by rw[j7]),d⟩
 have hq:(q.map QE.pv).length=q.length:=c8 ..;rw[c];refine cj.intro ((q.length-1:Nat):Int) (wrap_i64 (by rw[hq];omega) om)<|aq.mk ⟨om,rr,om⟩ ?_;refine aq.mk (rh.rows q).k<|aq.mk ⟨om,om⟩ ?_;refine aq.mk ⟨λr b=>rh.rows q r (B3 (u6 b)),j9 _⟩<|jX<|aq.mk ⟨om,by show(k:Int)<=((q.length-1:Nat):Int);omega⟩ ?_;refine jg (k+1)<|aq.mk (rh.rows q).k<|aq.mk ⟨om,by rw[hq];omega⟩ ?_;refine aq.mk ⟨λr b=>rh.rows q r (B3 (u6 b)),?_⟩ ?_
 ·rw[Ez]
  ·rw[A1];show 0+k<=q.length-1;omega
  ·rw[A1,l8,l8];show 0+min _ (min (k-0) _)<=q.length-1;omega
 refine jX<|az ?_;have f:(q.eraseIdx k).length=q.length-1:=by rw[List.length_eraseIdx,z7 a]
 refine⟨(q.eraseIdx k).length+100,_,_,.inl (a_ (dC (l:=q.eraseIdx k) rr (ahw QE.pv q _ a (show q.length-1+1=q.length by omega) rr (by show k-0<=q.length-1;omega) (j7 k) rr (by show(q.map QE.pv).length-(k+1)=_;rw[hq]) (by show(q.map QE.pv).length-(k+1)<=q.length-1-k;rw[hq];omega)) rh.bL f.symm rr) rr),rr⟩
def kV{α:Type}(p:α->Bool):∀(l:List α) (i:Nat),(cJ p l i=-1/\l.find? p=none)\/∃(m:Nat) (x:α),cJ p l i=((i+m:Nat):Int)/\l[m]? = some x/\l.find? p=some x
 | [],_=>.inl ⟨rr,rr⟩
 |x::l,i=>by
  unfold cJ
  rw[List.find?_cons]
  cases p x
  case true=>exact .inr ⟨0,x,rr,rr,rr⟩
  rcases kV p l (i+1)with⟨h1,h2⟩|⟨m,y,h1,h2,a⟩
  ·exact .inl ⟨h1,h2⟩
  ·exact .inr ⟨m+1,y,by show cJ p l (i+1:Nat)=_;rw[h1];congr 1;omega,h2,a⟩
def yv(l:List cC)(key:BA):BA×Bool:=match l.find? (λp=>seq p.k key)with
 |some p=>(p.v,true)
 |none=>(⟨#[]⟩,false)
def aoI(p:cC)(key:BA):PC 236 [p.pv,.ip [st key] 0] (·=bo (seq p.k key)):=aw func236<|aj.is _ rfl<|ah
def aaW(l:List cC)(key:BA)(a:l.length<=67108864):PC 166 [sl cC.pv l,st key] (·=.aU [st (yv l key).1,bo (yv l key).2]):=by
 refine aw func166<|ak (ahL dx.one l (λp=>seq p.k key) a λp _=>aoI p key) rr ?_;unfold yv;rcases kV (λp=>seq p.k key) l 0 with⟨h1,h2⟩|⟨m,x,h1,h2,b⟩
 ·have h1:cJ (λp=>seq p.k key) l 0=-1:=h1;refine aj.t (by rw[h1];decide)<|an ?_;rw[h2];exact ah
 ·have h1:cJ (λp=>seq p.k key) l 0=(m:Int):=h1.trans (by rw[j7]);rw[h1];refine aj.f om<|ab<|bG h2 ?_;rw[b];exact ah
def aG(n:Int):UInt64:=UInt64.ofNat (n%18446744073709551616).toNat
theorem lN(n:Int):IntKind.u64.wrap n=((aG n).toNat:Nat):=by
 unfold aG;rw[qC om];show n%18446744073709551616=_
 omega
def bM.total(x:bM):V4×Bool:=x.cT.AU (aG x.count)
def zt(x:bM):PC 132 [x.pv] (·=v2 x.total):=aw func132<|aF (lN x.count)<|ak (anz x.cT (aG x.count)) rfl<|ah
end
section
open Go.RowKit
def uJ(ok:Nat->Bool):Nat->Nat->Bool
 |_,0=>true
 |k,m+1=>match ok k with|true=>uJ ok (k+1) m|false=>false
abbrev aA:BA:=⟨#[]⟩
abbrev d_(s:BA):Bool:=Wd.right s
abbrev iG:BA:=⟨#[47]⟩
def jE(s:BA):List BA:=Lib.splitB iG 0 (Lib.countB s iG) s
def ez(s:BA):List BA:=match decide (3<((jE s).length:Int))with
 |true=>[]
 |false=>match(jE s).any λn=>!d_ n with
  |true=>[]
  |false=>jE s
def lR(l:List BA):BA:=⟨(Lib.join (l.map (·.data.toList)) [47]).toArray⟩
def jC(s:BA):List BA:=(List.range (ez s).length).map λk=>lR ((ez s).take (k+1))
def pg(a b:BA):Bool:=(jC b).any λy=>seq a y
def tc(l:List cC)(k:Nat):Bool:=match l[k]? with
 |none=>true
 |some p=>match d_ p.k with
  |false=>false
  |true=>match d_ p.v with
   |false=>false
   |true=>match k with
    |0=>true
    |j+1=>match l[j]? with
     |none=>true
     |some q=>!(dG p.k q.k||seq p.k q.k)
def iy(l:List cC):Bool:=match uJ (tc l) 0 l.length with
 |true=>decide ((l.length:Int)<=8)
 |false=>false
def uD(l:List BA)(k:Nat):Bool:=match l[k]? with
 |none=>true
 |some p=>match d_ p with
  |false=>false
  |true=>match k with
   |0=>true
   |j+1=>match l[j]? with
    |none=>true
    |some q=>!(dG p q||seq p q)
def bX.right(t:bX):Bool:=match uJ (uD t.bJ) 0 t.bJ.length with
 |true=>match d_ t.key with
  |true=>decide ((t.bJ.length:Int)<=4)
  |false=>false
 |false=>false
def mD(l:List bX):Bool:=match decide ((l.length:Int)<=4)with
 |true=>!l.any λt=>!t.right
 |false=>false
def bX.okV(t:bX)(v:BA):Bool:=match t.bJ with
 | []=>true
 |_=>t.bJ.any λy=>seq v y
def bX.holds(t:bX)(ao:List cC):Bool:=match(yv ao t.key).2 with
 |true=>!(t.okV (yv ao t.key).1==t.no)
 |false=>!(false==t.no)
def qX(l:List bX)(ao:List cC):Bool:=!l.any λt=>!t.holds ao
def fJ(n least most:Int):Bool:=match decide (least<=n)with|true=>decide (n<=most)|false=>false
def bM.check(x:bM):Int:=match pg x.aa x.aa with
 |false=>6
 |true=>match fJ x.count 1 8 with
  |false=>1
  |true=>match fJ x.bC 0 9 with
   |false=>1
   |true=>match fJ x.dF 1 100 with
    |false=>1
    |true=>match mD x.dv with
     |false=>2
     |true=>match x.total.2 with
      |false=>5
      |true=>0
def fu(t:List aB)(aa:BA):Int:=cJ (λe:aB=>seq e.aa aa) t 0
def aB.z:aB:=⟨aA,V4.z,V4.z⟩
def cO(t:List aB)(aa:BA):aB×Bool:=match t.find? (λe=>seq e.aa aa)with
 |some e=>(e,true)
 |none=>(aB.z,false)
def gT(aa:BA):List BA:=aA::jC aa
def named(aa:BA):Bool:=match seq aa aA with|true=>true|false=>pg aa aa
def jv(aa:BA):BA:=((gT aa)[(gT aa).length-2]?).getD aA
def aB.jP(v:V4)(e:aB):aB×Int:=match e.b_.add v with
 |(_,false)=>(e,5)
 |(n,true)=>match n.db e.bI with
  |false=>(e,10)
  |true=>({e with b_:=n},0)
def aB.nn(v:V4)(e:aB):aB×Int:=match e.b_.sub v with
 |(_,false)=>(e,15)
 |(n,true)=>({e with b_:=n},0)
def mF(t:List aB)(act:aB->aB×Int):List BA->List aB->List aB×Int
 | [],out=>(out,0)
 |p::l,out=>match act (cO t p).1 with
  |(e,n)=>match decide (n=0)with
   |true=>mF t act l (out.set (fu t p).toNat e)
   |false=>(t,n)
def jJ(t:List aB)(aa:BA)(act:aB->aB×Int):List aB×Int:=match named aa with
 |false=>(t,6)
 |true=>match(gT aa).any λp=>decide (fu t p<0)with
  |true=>(t,7)
  |false=>mF t act (gT aa) t
def jw(t:List aB)(aa:BA)(v:V4):List aB×Int:=jJ t aa (aB.jP v)
def wo(t:List aB)(aa:BA)(v:V4):List aB×Int:=jJ t aa (aB.nn v)
def uv(t:List aB)(aa:BA)(v:V4):Bool:=decide ((jw (t.map λe=>{e with b_:=V4.z}) aa v).2=0)
def mr(t:List aB)(aa:BA):Nat:=t.findIdx λe=>!dG e.aa aa
def gg(t:List aB)(aa:BA)(bI:V4):List aB×Int:=match named aa with
 |false=>(t,6)
 |true=>match !seq aa aA&&decide (fu t (jv aa)<0)with
  |true=>(t,7)
  |false=>match decide (fu t aa<0)with
   |true=>match decide (16<=(t.length:Int))with
    |true=>(t,9)
    |false=>(t.take (mr t aa)++⟨aa,bI,V4.z⟩::t.drop (mr t aa),0)
   |false=>match(cO t aa).1.b_.db bI with
    |false=>(t,10)
    |true=>(t.set (fu t aa).toNat {(cO t aa).1 with bI:=bI},0)
def bf.at(p:bf)(name:BA):Int:=cJ (λn:bR=>seq n.name name) p.al 0
def bR.z:bR:=⟨aA,V4.z,[],false⟩
def bf.find(p:bf)(name:BA):bR×Bool:=match p.al.find? (λn=>seq n.name name)with
 |some n=>(n,true)
 |none=>(bR.z,false)
def kv(name:BA)(r:V4×Bool)(x:dt):V4×Bool:=match r.2 with
 |false=>r
 |true=>match seq x.node name with
  |false=>r
  |true=>r.1.sub x.v
def bf.free(p:bf)(name:BA):V4×Bool:=
 match p.places.foldl (kv name) ((p.find name).1.cap,(p.find name).2)with
 |(v,true)=>(v,true)
 |(_,false)=>(V4.z,false)
def bf.room(p:bf)(name:BA)(v:V4):Int:=match(p.find name).2 with
 |false=>7
 |true=>match(p.find name).1.up with
  |false=>12
  |true=>match(p.free name).2 with
   |false=>11
   |true=>match v.db (p.free name).1 with
    |false=>11
    |true=>0
def iS(aZ:UInt64)(v:V4):List BA->bf->bf×Int
 | [],q=>(q,0)
 |n::l,q=>match decide (q.room n v=0)with
  |true=>iS aZ v l ⟨q.al,q.places++[⟨aZ,n,v⟩]⟩
  |false=>(q,q.room n v)
def bf.gB(p:bf)(aZ:UInt64)(al:List BA)(v:V4):bf×Int:=match decide ((iS aZ v al p).2=0)with
 |true=>iS aZ v al p
 |false=>(p,(iS aZ v al p).2)
def bf.drop(p:bf)(aZ:UInt64):bf:=⟨p.al,p.places.filter λx=>!decide (x.aZ=aZ)⟩
def bf.of(p:bf)(aZ:UInt64):List BA:=(p.places.filter λx=>decide (x.aZ=aZ)).map dt.node
def bf.bare(p:bf):bf:=⟨p.al,[]⟩
def qL(p:bf)(n:bR):Option dc:=match(p.free n.name).2 with
 |false=>none
 |true=>match n.up with
  |false=>none
  |true=>some ⟨n.name,(p.free n.name).1,n.ao⟩
def bf.mw(p:bf):List dc:=p.al.filterMap (qL p)
def bf.turn(p:bf)(name:BA)(up:Bool):bf×Int:=match decide (p.at name<0)with
 |true=>(p,7)
 |false=>match(p.find name).1.up==up with
  |true=>(p,15)
  |false=>(⟨p.al.set (p.at name).toNat {(p.find name).1 with up:=up},p.places⟩,0)
def uh(l:List bR)(name:BA):Nat:=l.findIdx λo=>!dG o.name name
def bf.add(p:bf)(n:bR):bf×Int:=match d_ n.name with
 |false=>(p,6)
 |true=>match iy n.ao with
  |false=>(p,2)
  |true=>match decide (0<=p.at n.name)with
   |true=>(p,8)
   |false=>match decide (16<=(p.al.length:Int))with
    |true=>(p,9)
    |false=>(⟨p.al.take (uh p.al n.name)++{n with up:=true}::p.al.drop (uh p.al n.name),p.places⟩,0)
def mT(l:List dc)(x:List bX):List dc:=l.filter λs=>qX x s.ao
def mz(a b:UInt64):Int:=if a.toNat<b.toNat then -1 else if b.toNat<a.toNat then 1 else 0
def V4.mQ(x y:V4):Int:=if mz x.a y.a=0 then(if mz x.b y.b=0 then(if mz x.c y.c=0 then mz x.d y.d else mz x.c y.c)else mz x.b y.b)else mz x.a y.a
structure tu where
 cm:Nat
 left:V4
 ok:Bool
def wD(d:V4)(k:Nat)(s:dc)(r:tu):tu:=match s.free.sub d with
 |(_,false)=>r
 |(v,true)=>match r.ok with
  |false=>⟨k,v,true⟩
  |true=>match decide (v.mQ r.left<0)with
   |true=>⟨k,v,true⟩
   |false=>r
def mu(d:V4):List dc->Nat->tu->tu
 | [],_,r=>r
 |s::l,k,r=>mu d l (k+1) (wD d k s r)
def gl(l:List dc)(d:V4):tu:=mu d l 0 ⟨0,V4.z,false⟩
def dc.z:dc:=⟨aA,V4.z,[]⟩
def mX(d:V4):Nat->List dc->List BA->List BA×Bool
 |0,_,out=>(out,true)
 |n+1,l,out=>match(gl l d).ok with
  |false=>([],false)
  |true=>mX d n (l.set (gl l d).cm {(l[(gl l d).cm]?).getD dc.z with free:=(gl l d).left}) (out++[((l[(gl l d).cm]?).getD dc.z).node])
def li(l:List dc)(x:List bX)(d:V4)(count:Int):List BA×Bool:=match decide (8<count)with
 |true=>([],false)
 |false=>mX d (max count 0).toNat (mT l x) []
def eK(l:List ax)(id:UInt64):Int:=cJ (λj:ax=>decide (j.id=id)) l 0
def bM.z:bM:=⟨aA,V4.z,0,0,0,[]⟩
def ax.z:ax:=⟨0,bM.z,false,0⟩
def bK(l:List ax)(id:UInt64):ax×Bool:=match l.find? (λj=>decide (j.id=id))with
 |some j=>(j,true)
 |none=>(ax.z,false)
def lT(x:fY)(n:cZ):fY:=match decide (32<((x.l.length+1:Nat):Int))with
 |true=>⟨x.first+1,(x.l++[n]).drop 1⟩
 |false=>⟨x.first,x.l++[n]⟩
def there(t:List aB)(aa:BA):Bool:=!(jC aa++[aA]).any λp=>!(cO t p).2
def af.jt(s:af)(id:UInt64)(kind:Int):af:={s with dX:=lT s.dX ⟨s.round,id,kind⟩}
def af.fv(s:af)(x:bM):af×UInt64×Int:=match decide (x.check=0)with
 |false=>(s,0,x.check)
 |true=>match there s.aH x.aa with
  |false=>(s,0,7)
  |true=>match decide (32<=(s.ae.length:Int))with
   |true=>(s,0,9)
   |false=>match decide (s.next=18446744073709551615)with
    |true=>(s,0,9)
    |false=>match decide ((fq s.bg ⟨s.next,x.bC⟩).2=0)with
     |false=>(s,0,(fq s.bg ⟨s.next,x.bC⟩).2)
     |true=>(({s with bg:=(fq s.bg ⟨s.next,x.bC⟩).1,ae:=s.ae++[⟨s.next,x,false,0⟩],next:=s.next+1}:af).jt s.next 1,s.next,0)
def af.with(s:af)(k:Nat)(j:ax):af:={s with ae:=s.ae.set k j}
def af.begin(s:af)(id:UInt64)(al:List BA):af×Int:=match decide (eK s.ae id<0)with
 |true=>(s,7)
 |false=>let j:=(bK s.ae id).1
  match j.bB with
  |true=>(s,15)
  |false=>match decide ((al.length:Int)=j.x.count)with
   |false=>(s,1)
   |true=>match j.x.total with
    |(_,false)=>(s,5)
    |(v,true)=>match jw s.aH j.x.aa v with
     |(t,e)=>match decide (e=0)with
      |false=>(s,e)
      |true=>match s.ar.gB id al j.x.cT with
       |(p,e)=>match decide (e=0)with
        |false=>(s,e)
        |true=>((({s with aH:=t,ar:=p,bg:=(jA s.bg id).1}:af).with (eK s.ae id).toNat {j with bB:=true,left:=j.x.dF}).jt id 2,0)
def af.du(s:af)(j:ax):af:=match j.x.total with
 |(v,true)=>{s with aH:=(wo s.aH j.x.aa v).1,ar:=s.ar.drop j.id}
 |(_,false)=>{s with ar:=s.ar.drop j.id}
def af.stop(s:af)(id:UInt64)(kind:Int):af×Int:=match decide (eK s.ae id<0)with
 |true=>(s,7)
 |false=>let j:=(bK s.ae id).1
  match j.bB with
  |false=>(s,15)
  |true=>((({s.du j with bg:=(fq (s.du j).bg ⟨id,j.x.bC⟩).1}:af).with (eK s.ae id).toNat {j with bB:=false,left:=0}).jt id kind,0)
def af.fh(s:af)(id:UInt64)(kind:Int):af×Int:=match decide (eK s.ae id<0)with
 |true=>(s,7)
 |false=>let j:=(bK s.ae id).1
  match j.bB with
  |true=>(({s.du j with ae:=(s.du j).ae.eraseIdx (eK s.ae id).toNat}:af).jt id kind,0)
  |false=>(({s with bg:=(jA s.bg id).1,ae:=s.ae.eraseIdx (eK s.ae id).toNat}:af).jt id kind,0)
def waits(s:af)(id:UInt64):ax×Bool:=match(bK s.ae id).2 with
 |true=>((bK s.ae id).1,!(bK s.ae id).1.bB)
 |false=>((bK s.ae id).1,false)
def tJ(s:af)(id:UInt64)(of:bf)(lets:BA->V4->Bool):List BA×Bool:=match(waits s id).2 with
 |false=>([],false)
 |true=>let j:=(waits s id).1
  match j.x.total.2 with
  |false=>([],false)
  |true=>match(li of.mw j.x.dv j.x.cT j.x.count).2 with
   |false=>([],false)
   |true=>match lets j.x.aa j.x.total.1 with
    |false=>([],false)
    |true=>((li of.mw j.x.dv j.x.cT j.x.count).1,true)
def db(s:af)(id:UInt64):List BA×Bool:=tJ s id s.ar fun aa v=>decide ((jw s.aH aa v).2=0)
def nU(s:af)(id:UInt64):Bool:=(tJ s id s.ar.bare fun aa v=>uv s.aH aa v).2
def ax.nh(a b:ax):Bool:=decide (a.x.bC<b.x.bC)||(decide (a.x.bC=b.x.bC)&&decide (b.id.toNat<a.id.toNat))
section
variable {α:Type}(lt:α→α→Bool)
def swp(L:List α)(i j:Nat):List α:=match L[i]?,L[j]? with
 |some x,some y=>(L.set i y).set j x
 |_,_=>L
def fM(L:List α)(i j:Nat):Bool:=match L[i]?,L[j]? with
 |some x,some y=>lt x y
 |_,_=>false
def kO(a:Nat):Nat->List α->List α
 |0,L=>L
 |j+1,L=>match decide (a<j+1)with
  |false=>L
  |true=>match fM lt L (j+1) j with
   |false=>L
   |true=>kO a j (swp L (j+1) j)
def rP(a:Nat):Nat->Nat->List α->List α
 |0,_,L=>L
 |m+1,i,L=>rP a m (i+1) (kO lt a i L)
def lL(a b:Nat)(L:List α):List α:=rP lt a (b-(a+1)) (a+1) L
def kU:Nat->Nat->Nat->List α->List α
 |0,_,_,L=>L
 |n+1,a,b,L=>kU n (a+1) (b+1) (swp L a b)
def oN:Nat->Nat->Nat->Nat->List α->List α
 |0,_,_,_,L=>L
 |f+1,i,j,m,L=>match decide (i=j)with
  |true=>kU i (m-i) m L
  |false=>match decide (j<i)with
   |true=>oN f (i-j) j m (kU j (m-i) m L)
   |false=>oN f i (j-i) m (kU i (m-i) (m+j-i) L)
def lU(a m b:Nat)(L:List α):List α:=oN (b-a) (m-a) (b-m) m L
def gK(p:Nat->Bool):Nat->Nat->Nat->Nat
 |0,i,_=>i
 |f+1,i,j=>match decide (i<j)with
  |false=>i
  |true=>match p ((i+j) / 2)with
   |true=>gK p f ((i+j) / 2+1) j
   |false=>gK p f i ((i+j) / 2)
def oz:Nat->Nat->List α->List α
 |0,_,L=>L
 |n+1,k,L=>oz n (k+1) (swp L k (k+1))
def oT:Nat->Nat->List α->List α
 |0,_,L=>L
 |n+1,k,L=>oT n (k-1) (swp L k (k-1))
def gI:Nat->Nat->Nat->Nat->List α->List α
 |0,_,_,_,L=>L
 |f+1,a,m,b,L=>match decide (m-a=1)with
  |true=>oz (gK (λh=>fM lt L h a) (b-m) m b-1-a) a L
  |false=>match decide (b-m=1)with
   |true=>oT (m-gK (λh=>!fM lt L m h) (m-a) a m) m L
   |false=>
    let mid:=(a+b) / 2
    let n:=mid+m
    let start0:=match decide (mid<m)with|true=>n-b|false=>a
    let r:=match decide (mid<m)with|true=>mid|false=>m
    let start:=gK (λc=>!fM lt L (n-1-c) c) (r-start0) start0 r
    let fh:=n-start
    let L1:=match decide (start<m),decide (m<fh)with|true,true=>lU start m fh L|_,_=>L
    let L2:=match decide (a<start),decide (start<mid)with|true,true=>gI f a start mid L1|_,_=>L1
    match decide (mid<fh),decide (fh<b)with|true,true=>gI f mid fh b L2|_,_=>L2
def lH(L:List α):List α:=match decide (20<=L.length)with
 |false=>lL lt 0 L.length L
 |true=>match decide (20<L.length)with
  |false=>lL lt 20 L.length (lL lt 0 20 L)
  |true=>gI lt L.length 0 20 L.length (lL lt 20 L.length (lL lt 0 20 L))
end
def oA(j o:ax):Bool:=match o.bB with|false=>false|true=>decide (o.x.bC<j.x.bC)
def nf(s:af)(id:UInt64):List UInt64:=match(bK s.ae id).2 with
 |false=>[]
 |true=>(lH ax.nh (s.ae.filter (oA (bK s.ae id).1))).map ax.id
def eu(s:af)(l:List UInt64):af:=l.foldl (λs id=>(s.stop id 5).1) s
section
variable (tr:List UInt64→List BA×Bool)
def re(all:List UInt64):Nat->Nat->Option (List UInt64×List BA)
 |0,_=>none
 |m+1,n=>match tr (all.take n)with
  |(al,true)=>some (all.take n,al)
  |(_,false)=>re all m (n+1)
def jD:Nat->Nat->List UInt64->List BA->List UInt64×List BA
 |0,_,l,al=>(l,al)
 |m+1,k,l,al=>match decide (k<l.length)with
  |false=>(l,al)
  |true=>match tr (l.eraseIdx k)with
   |(spare,true)=>jD m k (l.eraseIdx k) spare
   |(_,false)=>jD m (k+1) l al
end
structure Vic where
 l:List UInt64
 al:List BA
 ok:Bool
def eR(s:af)(id:UInt64):Vic:=
 let tr:=λl=>db (eu s l) id
 match re tr (nf s id) ((nf s id).length+1) 0 with
 |none=>⟨[],[],false⟩
 |some (l,al)=>⟨(jD tr l.length 0 l al).1,(jD tr l.length 0 l al).2,true⟩
def jh(s:af):List UInt64:=(s.ae.filter ax.bB).map ax.id
def fS(s:af)(id:UInt64):af:=match decide (eK s.ae id<0)with
 |true=>s
 |false=>
  let j:=(bK s.ae id).1
  let t:af:={s with ae:=s.ae.set (eK s.ae id).toNat {j with left:=j.left-1}}
  match decide (j.left-1<=0)with
  |true=>(t.fh id 3).1
  |false=>t
def af.count(s:af):af:=(jh s).foldl fS {s with round:=s.round+1}
structure Nx where
 id:UInt64
 cm:Nat
 ok:Bool
def qP(s:af):List QE->Nat->Nx
 | [],_=>⟨0,0,false⟩
 |e::l,k=>match nU s e.id with
  |true=>⟨e.id,k,true⟩
  |false=>qP s l (k+1)
def dD(s:af)(behind:Nat):Nx:=qP s (s.bg.drop behind) behind
structure fB where
 s:af
 cm:Nat
def fB.next(t:fB):fB×Bool:=match(dD t.s t.cm).ok with
 |false=>(t,false)
 |true=>match(eR t.s (dD t.s t.cm).id).ok with
  |false=>(t,false)
  |true=>
   let s:=eu t.s (eR t.s (dD t.s t.cm).id).l
   match s.begin (dD t.s t.cm).id (eR t.s (dD t.s t.cm).id).al with
   |(u,e)=>match decide (e=0)with
    |true=>(⟨u,(dD t.s t.cm).cm⟩,true)
    |false=>(⟨s,t.cm⟩,false)
def jH:Nat->fB->fB
 |0,t=>t
 |n+1,t=>match t.next with
  |(u,true)=>jH n u
  |(u,false)=>u
def af.kX(s:af):af:=(jH 128 ⟨s,0⟩).s
def af.oI(s:af):af:=s.count.kX
end
end Go.Proofs.YtbnonpbnhenkfaaGreatDoor
section
namespace Go.Proofs.YtbnonpbnhenkfaaGreatDoor
open Go.RowKit
namespace Wi
def oF:Nat->Nat->List UInt8
 |0,u=>[UInt8.ofNat u]
 |k+1,u=>if u<128 then[UInt8.ofNat u]else UInt8.ofNat (u%128+128)::oF k (u / 128)
def put(u:Nat):List UInt8:=oF 9 u
def dZ:Nat->List UInt8->Option (Nat×Nat)
 |0,_=>none
 |_+1,[]=>none
 |k+1,b::r=>if b.toNat<128 then some (b.toNat,1)else(dZ k r).map λp=>(b.toNat-128+128*p.1,p.2+1)
def FW{n:Nat}(h:n<256):(UInt8.ofNat n).toNat=n:=by simp;omega
def Ze(k:Nat):∀u,1<=(oF k u).length/\(oF k u).length<=k+1:=by
 induction k with
 |zero=>intro u;simp[oF]
 |succ k ih=>
  intro u;unfold oF;split
  ·simp
  ·have:=ih (u / 128);simp;omega
def agA(k:Nat):∀(u:Nat) (t:List UInt8),u<128^(k+1)->dZ (k+1) (oF k u++t)=some (u,(oF k u).length):=by
 induction k with
 |zero=>
  intro u t a;have b:u<128:=by simpa using a
  simp only[oF,E4,D4,dZ];rw[FW om,z7 b];rfl
 |succ k d=>
  intro u t a;unfold oF;split
  ·rename_i h;simp only[E4,D4,dZ];rw[FW om,z7 h];rfl
  ·rename_i h;have c:u / 128<128^(k+1):=by
    rw[Nat.pow_succ]at a;exact Nat.div_lt_of_lt_mul (by rw[L9];exact a)
   rw[E4,dZ,FW om,y8 om,d _ t c];simp only[E3,w6];congr 2;omega
def Rv:(18446744073709551616:Nat)<128^(9+1):=by decide
def aj3{u:Nat}(a:u<18446744073709551616)(t:List UInt8):dZ 10 (put u++t)=some (u,(put u).length):=
 agA 9 u t (Nat.lt_trans a Rv)
theorem w_(u:Nat):1<=(put u).length/\(put u).length<=10:=Ze 9 u
def pD(t:List UInt8):Option (Nat×Nat):=match dZ 10 t with
 |none=>none
 |some (v,c)=>if put (v%18446744073709551616)=t.take c then some (v%18446744073709551616,c)else none
def afc{k:Nat}:∀{t:List UInt8} {p:Nat×Nat},dZ k t=some p->1<=p.2/\p.2<=t.length/\p.2<=k:=by
 induction k with
 |zero=>intro t p h;simp[dZ]at h
 |succ k ih=>
  intro t p h;cases t with
  |nil=>simp[dZ]at h
  |cons b r=>
   unfold dZ at h;split at h
   ·cases h;simp
   ·simp only[H4]at h;obtain⟨q,hq,rfl⟩:=h;have:=ih hq;simp;omega
theorem akm{u:Nat}(a:u<18446744073709551616)(t:List UInt8):pD (put u++t)=some (u,(put u).length):=by
 unfold pD;rw[aj3 a t];simp only;rw[D1 a,List.take_left',z7 rfl];rfl
def ajA{t:List UInt8}{u c:Nat}(h:pD t=some (u,c)):u<18446744073709551616/\c=(put u).length/\t=put u++t.drop c/\t.take c=put u:=by
 unfold pD at h;split at h
 ·cases h
 ·rename_i v c' b;split at h
  ·rename_i a;obtain⟨e1,e2⟩:=I3 (z8 h);subst e1;subst e2;have d:=afc b;have e:c'=(put (v%18446744073709551616)).length:=by
    rw[a,l8];have:=d.2.1;simp only at this;omega
   refine⟨G3 _ (by decide),e,?_,a.symm⟩;rw[a,A5]
  ·cases h
def dL:List UInt8->Nat
 | []=>0
 |b::r=>b.toNat-128+128*dL r
def abU(l:List UInt8)(b:UInt8):dL (l++[b])=dL l+128^l.length*(b.toNat-128):=by
 induction l with
 |nil=>simp[dL]
 |cons a r c=>
  simp only[E4,dL,c,w6,Nat.pow_succ];rw[Nat.mul_add,<-Nat.mul_assoc,L9 128 (128^r.length)];omega
def Rx(l:List UInt8):dL l<128^l.length:=by
 induction l with
 |nil=>simp[dL]
 |cons a r ih=>
  have:=F4 a;simp only[dL,w6,Nat.pow_succ];omega
def WE{k:Nat}:∀{l:List UInt8} (r:List UInt8),(∀b∈l,128<=b.toNat)->l.length<=k->dZ k (l++r)=(dZ (k-l.length) r).map λp=>(dL l+128^l.length*p.1,p.2+l.length):=by
 induction k with
 |zero=>
  intro l r _ a;obtain rfl:l=[]:=B5.1 om;simp[dZ]
 |succ k e=>
  intro l r c a;cases l with
  |nil=>simp[dL]
  |cons b l=>
   have hb:=c b (by simp);rw[E4,dZ,y8 om,e r (λx d=>c x (by simp[d])) (by simpa using a)];simp only[w6,Option.map_map,dL];rw[show k+1-(l.length+1)=k-l.length by omega];refine congrArg (λg=>Option.map g (dZ (k-l.length) r)) (funext λp=>?_);simp only[Function.comp,N0];refine⟨?_,om⟩;rw[Nat.pow_succ];generalize 128^l.length=P;rw[Nat.mul_add,show P*128*p.1=128*(P*p.1)from by rw[L9 P 128,Nat.mul_assoc]];omega
end Wi
end Go.Proofs.YtbnonpbnhenkfaaGreatDoor
end
namespace Go.Proofs.YtbnonpbnhenkfaaGreatDoor
section
open Go.RowKit Go.Proofs.Tryz
def Tryz.BZ:(Tryz.prog.info? 5).map (λi=>(i.zero,i.size,i.bytes))=some (some (.int .u8 0),1,1):=by kernel_rfl
def lh(l:List UInt8):List Value:=l.map λb=>.int .u8 (b.toNat:Int)
def ah4{w:World}{bZ e n:Nat}{v:Value}{xs:List Value}(h:w.ownsRow bZ e 1 v n xs)(a:0<n):∃g cap,v=.slice (some ⟨g,0,none⟩) n cap:=by
 obtain⟨_,⟨_,h0⟩|⟨g,cap,_,rfl,_⟩⟩:=h
 ·omega
 ·exact⟨g,cap,rr⟩
def UR{w:World}{bZ:Nat}{v:Value}{l:List UInt8}(h:w.ownsRow bZ 5 1 v l.length (lh l))(a:0<l.length):
 (convert 116 9 v).run prog w=.ok (.string ⟨l.toArray⟩) w:=by
 obtain⟨g,cap,rfl⟩:=ah4 h a
 have key:=run_convert_bytes_arg (P:=prog) w 116 5 underlying116 underlying5 g 0 l.length cap (l.map λb=>(b.toNat:Int)) (by simp) (λi hi=>by
  have e:(⟨g,0+i,none⟩:Addr)=⟨g,i,none⟩:=by rw[j7]
  rw[e,h.cellAt i om]
  simp[lh,hi]) 9 underlying9
 rw[key]
 have e2:strOfNums (l.map λb=>(b.toNat:Int))=⟨l.toArray⟩:=by
  apply K9
  apply M7.1
  rw[strOfNums_data,F3]
  simp[Function.comp_def]
 rw[e2]
def afT{n:Nat}(h:n<256):(UInt8.ofNat n).toNat=n:=by simp;omega
def WC(l:List UInt8)(x:Nat)(a:x<256):lh l++[.int .u8 (x:Int)]=lh (l++[UInt8.ofNat x]):=by
 unfold lh;rw[l6,List.map_singleton,afT a]
def ag4:(List.range 256).all (λy=>y ||| 128==y%128+128)=true:=by kernel_rfl
def ahH(y:Nat)(h:y<256):y ||| 128=y%128+128:=by
 have:=A3.1 ag4 y (J0.2 h);simpa using this
def ajX(x c:Nat)(a:x%128+128=c):bits .or .u8 ((x:Int)%256) 128=(c:Int):=by
 rw[<-a,show(x:Int)%256=((x%256:Nat):Int)from by omega];have h:=u8_or_nat (x%256) 128 (G3 _ om) om;rw[ahH _ (G3 _ om),Nat.mod_mod_of_dvd _ om]at h;exact h
structure tG(u:Nat)(l:List UInt8)(x:Nat):Prop where
 le:l.length<=9
 x64:x<18446744073709551616
 lt:x<128^(10-l.length)
 all:Wi.put u=l++Wi.oF (9-l.length) x
def tG.start{u:Nat}(a:u<18446744073709551616):tG u [] u:=⟨by simp,a,Nat.lt_trans a Wi.Rv,rr⟩
theorem tG.next{u x:Nat}{l:List UInt8}(h:tG u l x)(c:128<=x):tG u (l++[UInt8.ofNat (x%128+128)]) (x / 128)/\l.length<=8:=by
 have a:l.length<=8:=by
  rcases Nat.lt_or_ge 8 l.length with h1|h1
  ·have:=h.lt;have h2:=h.le;rw[show 10-l.length=1 by omega]at this;simp at this;omega
  ·exact h1
 obtain⟨m,b⟩:∃m,9-l.length=m+1:=⟨8-l.length,om⟩;refine⟨⟨by simp;omega,by have:=h.x64;omega,?_,?_⟩,a⟩
 ·have:=h.lt;rw[show 10-l.length=(m+1)+1 by omega,Nat.pow_succ]at this;rw[i6,C0,show 10-(l.length+1)=m+1 by omega];exact Nat.div_lt_of_lt_mul (by rw[L9];exact this)
 ·rw[h.all,b,Wi.oF,y8 om,i6,C0,show 9-(l.length+1)=m by omega];simp
def tG.done{u x:Nat}{l:List UInt8}(h:tG u l x)(a:x<128):Wi.put u=l++[UInt8.ofNat x]:=by
 rw[h.all];cases 9-l.length with
 |zero=>rfl
 |succ m=>rw[Wi.oF,z7 a]
theorem JG(u:Nat)(w:World)(hu:u<18446744073709551616):
 Calls Tryz.prog 138 #[.int .u64 (u:Int)] w fun e w'=>e=.returned (.string ⟨(Wi.put u).toArray⟩)∧Below w.heap.size w w':=by
 obtain⟨i0,hi,hz0,hz1,hz2⟩:=info_parts Tryz.BZ
 have HP0:=Lib.hid (tG.start hu)
 clear hu
 go_enter Tryz.func138,Tryz.ntmps138
 go_wp2_with fail
 go_loopw [0,3] (fun s0 v wr=>∃(l:List UInt8) (x:Nat),s0=.int .u64 (x:Int)∧tG u l x∧wr.ownsRow w.heap.size 5 1 v l.length (lh l)∧Below w.heap.size w wr) (fun s0 _ _=>(intOf s0).toNat)
 case atStart=>exact⟨[],u,rfl,HP0.out,World.ownsRow_nil _ _ _ _,Below.refl _ _⟩
 case round=>
  clear HP0
  obtain⟨l,x,rfl,hP,hown,hbel⟩:=hrel
  by_cases hx:128≤x
  ·have hx':(128:Int)≤(x:Int):=by omega
   obtain⟨c,hc⟩:∃c,x%128+128=c:=⟨_,rfl⟩
   have hor:=ajX x c hc
   have hc256:c<256:=by omega
   obtain⟨hP2,hle⟩:=hP.next hx
   rw[hc]at hP2
   have HP2:=Lib.hid hP2;clear hP2 hP hc
   have hws:=hbel.size
   go_wp2_with (at_builtin;refine wpList_append_own _ rfl _ _ 116 rfl w.heap.size 5 i0 (.int .u8 0) 1 1 Tryz.underlying116 hi hz0 hz1 hz2 rfl (by decide) _ _ _ rfl (hown.alloc _) ⟨wr.heap.size,0,none⟩ 1 1 [.int .u8 (c:Int)] rfl rfl ?c1 ?c2 ?c3 ?c4 ?c5 ?_)
   case c1=>
    intro j u hj
    match j,hj with
    |0,hj=>simp at hj;subst hj;simp[Addr.add]
   case c2=>intro u hu;simp at hu;subst hu;rfl
   case c3=>unfold maxLen;omega
   case c4=>omega
   case c5=>simp;omega
   ·intro v' w1 hown' hgrow _
    have hb1:Below w.heap.size w w1:=(hbel.alloc hws (.cells #[.int .u8 (c:Int)] 5)).grown hgrow (by simp;omega) (fun j e=>(hown.lt j e).1)
    rw[WC l c hc256]at hown'
    have HO:=Lib.hid hown'
    have HB:=Lib.hid hb1
    clear hown' hgrow hb1 hor hown hbel hws
    go_wp2_with fail
    go_roundw
    case rel=>exact⟨l++[UInt8.ofNat c],x / 128,by go_num,HP2.out,by simpa using HO.out,HB.out⟩
    case measure=>simp[intOf];omega
  ·have hx':¬(128:Int)≤(x:Int):=by omega
   have hd:=hP.done (by omega)
   have hmod:(x:Int)%256=(x:Int):=by omega
   have hx256:x<256:=by omega
   have hle:=hP.le
   have HD:=Lib.hid hd;clear hd hP
   have hws:=hbel.size
   go_wp2_with (at_builtin;refine wpList_append_own _ rfl _ _ 116 rfl w.heap.size 5 i0 (.int .u8 0) 1 1 Tryz.underlying116 hi hz0 hz1 hz2 rfl (by decide) _ _ _ rfl (hown.alloc _) ⟨wr.heap.size,0,none⟩ 1 1 [.int .u8 (x:Int)] rfl rfl ?d1 ?d2 ?d3 ?d4 ?d5 ?_)
   case d2=>rfl
   case d3=>unfold maxLen;omega
   case d4=>omega
   case d5=>first|omega|(simp;omega)
   ·intro v' w1 hown' hgrow _
    have hb1:Below w.heap.size w w1:=(hbel.alloc hws (.cells #[.int .u8 (x:Int)] 5)).grown hgrow (by simp;omega) (fun j e=>(hown.lt j e).1)
    rw[WC l x hx256]at hown'
    have kc:=UR (l:=l++[UInt8.ofNat x]) (by simpa using hown') (by simp)
    have HB:=Lib.hid hb1
    clear hown' hgrow hb1 hown hbel hws
    go_wp2_with fail
    go_ret
    exact⟨vV (by rw[HD.out]),HB.out⟩
def Wi.Ig(t:ByteArray):ByteArray:=⟨(Wi.put t.size).toArray⟩++t
def aky(t:ByteArray)(w:World)(d:t.size<=9007199254740992):
 Calls prog 137 #[.string t] w λe w'=>e=.returned (.string (Wi.Ig t))/\Below w.heap.size w w':=by
 have hp:=(Wi.w_ t.size).2
 have a:=Lib.hid (λw=>JG t.size w om)
 have b:=Lib.hid (show Wi.Ig t=⟨(Wi.put t.size).toArray⟩++t from rr)
 obtain⟨q,hq⟩:∃q,(⟨(Wi.put t.size).toArray⟩:ByteArray)=q:=⟨_,rfl⟩
 have c:q.size<=10:=by rw[<-hq];show(Wi.put t.size).toArray.size<=10;simpa using hp
 rw[hq]at a b
 clear hq hp
 go_enter func137,ntmps137
 go_wp2_with fail
 refine(a.out _).mono ?_
 rintro e w1 ⟨rfl,hb⟩
 go_wp2_with fail
 go_ret
 exact⟨vV (by rw[b.out]),hb⟩
end
end Go.Proofs.YtbnonpbnhenkfaaGreatDoor
section
namespace Go.Proofs.YtbnonpbnhenkfaaGreatDoor
namespace Fr
def za(r:Nat):Nat:=(r / 2) ^^^ (3988292384*(r%2))
def bits(r:Nat):Nat->Nat
 |0=>r
 |k+1=>za (bits r k)
def step(r b:Nat):Nat:=bits (r ^^^ b) 8
def run(r:Nat)(l:List UInt8):Nat:=l.foldl (λr b=>step r b.toNat) r
def sum(l:List UInt8):Nat:=4294967295 ^^^ run 4294967295 l
def aon(r:Nat)(h:r<4294967296):za r<4294967296:=by
 unfold za;have h1:r%2<2:=G3 _ om;have h2:r / 2<2^32:=om
 have a:3988292384*(r%2)<2^32:=om
 exact J2 h2 a
def LO(r:Nat)(h:r<4294967296)(k:Nat):bits r k<4294967296:=by
 induction k with
 |zero=>exact h
 |succ k ih=>exact aon _ ih
def akP(r b:Nat)(h:r<4294967296)(hb:b<256):step r b<4294967296:=
 LO _ (J2 (n:=32) h om) 8
def Vo(l:List UInt8):∀r,r<4294967296->run r l<4294967296:=by
 induction l with
 |nil=>intro r h;exact h
 |cons b l ih=>intro r h;exact ih _ (akP _ _ h b.toNat_lt)
def acd(r:Nat)(l:List UInt8)(b:UInt8):run r (l++[b])=step (run r l) b.toNat:=by grind [run]
def ah2(l:List UInt8):sum l<4294967296:=
 J2 (n:=32) om (Vo l _ om)
def lU(x k:Nat):Nat:=(x*2^(k%32)%4294967296) ||| (x / 2^(32-k%32))
def iA(n:Nat):List UInt8:=[UInt8.ofNat (n / 16777216),UInt8.ofNat (n / 65536),UInt8.ofNat (n / 256),UInt8.ofNat n]
def put(l:List UInt8):List UInt8:=if 65536<l.length then[]else iA l.length++iA (sum l)++l
theorem uB(n:Nat):(iA n).length=4:=rfl
theorem yj(l:List UInt8)(h:l.length<=65536):(put l).length=l.length+8:=by grind [put,uB]
def TF(l:List UInt8):(put l).length<=65544:=by grind [yj,put]
def num(l:List UInt8):Nat:=(l.take 4).foldl (λn b=>n*256+b.toNat) 0
def next(s:List UInt8)(k:Nat):Option (List UInt8):=
 if s.length<k+8 then none
 else if 65536<num (s.drop k)\/s.length<k+8+num (s.drop k)then none
 else if(put ((s.drop (k+8)).take (num (s.drop k)))).isPrefixOf (s.drop k)then some ((s.drop (k+8)).take (num (s.drop k)))
 else none
def cA(s:List UInt8):Nat->Nat->List (List UInt8×Nat)
 |0,_=>[]
 |f+1,k=>match next s k with
  |none=>[]
  |some b=>(b,k+8+b.length)::cA s f (k+8+b.length)
def all(s:List UInt8)(k:Nat):List (List UInt8×Nat):=cA s s.length k
end Fr
end Go.Proofs.YtbnonpbnhenkfaaGreatDoor
end
namespace Go.Proofs.YtbnonpbnhenkfaaGreatDoor
section
open Go.RowKit Go.Proofs.Tryz
def agQ(a:Nat):a &&& 31=a%32:=Nat.and_two_pow_sub_one_eq_mod a 5
def ahl(n:Nat)(h1:1<=n)(h2:n<=31):bits .and .u64 (IntKind.u64.wrap (-(n:Int))) 31=((32-n:Nat):Int):=by
 rw[show IntKind.u64.wrap (-(n:Int))=((18446744073709551616-n:Nat):Int)from by rw[IntKind.wrap_u64];omega];have h:=u64_and_nat (18446744073709551616-n) 31 om om;rw[agQ,show(18446744073709551616-n)%32=32-n by omega]at h;exact h
def ZU(x n:Nat)(a:x<4294967296):bits .or .u32 ((x:Int)*2^(32-n)%4294967296) ((x:Int) / 2^n)=((Sh.fN x n:Nat):Int):=by
 have h1:((x:Int)*2^(32-n)%4294967296)=((x*2^(32-n)%4294967296:Nat):Int):=by
  rw[Int.natCast_emod,N9,K8];rfl
 have h2:((x:Int) / 2^n)=((x / 2^n:Nat):Int):=by
  rw[Int.natCast_ediv,K8];rfl
 have b:x / 2^n<=x:=N4 _ _;rw[h1,h2,u32_or_nat _ _ (G3 _ om) om];rfl
def rD(x n:Nat)(w:World)(c:x<4294967296)(h1:1<=n)(h2:n<=31):
 Calls prog 273 #[.int .u32 (x:Int),.int .i64 (n:Int)] w λe w'=>e=.returned (.int .u32 (Sh.fN x n:Nat))/\w=w':=by
 have a:=ahl n h1 h2
 obtain⟨m,b⟩:∃m,32-n=m:=⟨_,rfl⟩
 have H:=Lib.hid (ZU x n c)
 rw[b]at a H
 have i:(1:Int)<=(n:Int):=om
 have d:(n:Int)<=31:=om
 have f:(32:Int)-(m:Int)=(n:Int):=om
 have g:(0:Int)<=(m:Int):=om
 have h:(m:Int)<=31:=om
 clear b
 go_enter func273,ntmps273
 go_wp2
 go_ret
 exact⟨CO H.out,rr⟩
end
section
open Go.RowKit
def Row(w:World)(b:Nat)(l:List Value):Prop:=∀j v,l[j]? = some v->w.cell? ⟨b,j,none⟩=some v/\w.frozen? ⟨b,j,none⟩=false
theorem Row.below{w w':World}{b B:Nat}{l:List Value}(h:Row w b l)(hb:Below B w w')(a:b<B):Row w' b l:=λj v e=>
 ⟨(hb.cell (p:=⟨b,j,none⟩) a).trans (h j v e).1,(hb.frozen (p:=⟨b,j,none⟩) a).trans (h j v e).2⟩
theorem Row.new(w:World)(l:List Value)(t:TypeId):Row (w.alloc (.cells l.toArray t)) w.heap.size l:=λj v e=>by
 refine⟨?_,?_⟩
 ·rw[World.cell?_alloc_mark];simpa using e
 ·obtain⟨a,_⟩:=c9.1 e
  rw[World.frozen?_alloc_mark];simp
def Row.at{w:World}{b:Nat}{aK:Array Value}{l:List Value}{t:TypeId}(hb:w.heap.size=b)(a:aK.toList=l):Row (w.alloc (.cells aK t)) b l:=by
 subst hb;subst a;exact Row.new w aK.toList t
def Row.alloc{w:World}{b:Nat}{l:List Value}(h:Row w b l)(a:b<w.heap.size)(o:Obj):Row (w.alloc o) b l:=h.below ((Below.refl _ _).alloc (j2 _) o) a
def Row.drew{w:World}{b:Nat}{l:List Value}(h:Row w b l):Row w.drew b l:=h
def Row.set{w:World}{b:Nat}{l:List Value}(h:Row w b l)(k:Nat)(v:Value)(c:k<l.length):Row (w.setCell ⟨b,k,none⟩ v) b (l.set k v):=λj x e=>by
 refine⟨?_,?_⟩
 ·by_cases a:k=j
  ·subst a
   rw[World.cell?_setCell_same' _ _ _ (by rw[(h k _ (j8 c)).1];rfl)]
   rw[H5 c]at e;exact e
  ·rw[World.cell?_setCell_other _ _ _ _ (by intro e';cases e';exact a rr)]
   rw[List.getElem?_set_ne a]at e
   exact(h j x e).1
 ·rw[World.frozen?_setCell]
  obtain⟨d,_⟩:=c9.1 e
  rw[x9]at d
  exact(h j _ (j8 d)).2
def Row.fj{w:World}{b c k:Nat}{l:List Value}(h:Row w b l)(v:Value)(a:c≠b):Row (w.setCell ⟨c,k,none⟩ v) b l:=λj x e=>
 ⟨by rw[World.cell?_setCell_other _ _ _ _ (by intro e';cases e';exact a rr)];exact(h j x e).1,by rw[World.frozen?_setCell];exact(h j x e).2⟩
def Row.aN{w:World}{b:Nat}{a0 a1:Value}(h:Row w b [a0,a1]):
 w.cell? ⟨b,0,none⟩=some a0/\w.cell? ⟨b,1,none⟩=some a1/\w.frozen? ⟨b,0,none⟩=false/\w.frozen? ⟨b,1,none⟩=false:=
 ⟨(h 0 _ rr).1,(h 1 _ rr).1,(h 0 _ rr).2,(h 1 _ rr).2⟩
def Row.adM{w:World}{b:Nat}{a0 c a2 a3 a4 a5 a a7:Value}(h:Row w b [a0,c,a2,a3,a4,a5,a,a7]):
 w.cell? ⟨b,0,none⟩=some a0/\w.cell? ⟨b,1,none⟩=some c/\w.cell? ⟨b,2,none⟩=some a2/\w.cell? ⟨b,3,none⟩=some a3/\w.cell? ⟨b,4,none⟩=some a4/\w.cell? ⟨b,5,none⟩=some a5/\w.cell? ⟨b,6,none⟩=some a/\w.cell? ⟨b,7,none⟩=some a7/\
 w.frozen? ⟨b,0,none⟩=false/\w.frozen? ⟨b,1,none⟩=false/\w.frozen? ⟨b,2,none⟩=false/\w.frozen? ⟨b,3,none⟩=false/\w.frozen? ⟨b,4,none⟩=false/\w.frozen? ⟨b,5,none⟩=false/\w.frozen? ⟨b,6,none⟩=false/\w.frozen? ⟨b,7,none⟩=false:=
 ⟨(h 0 _ rr).1,(h 1 _ rr).1,(h 2 _ rr).1,(h 3 _ rr).1,(h 4 _ rr).1,(h 5 _ rr).1,(h 6 _ rr).1,(h 7 _ rr).1,(h 0 _ rr).2,(h 1 _ rr).2,(h 2 _ rr).2,(h 3 _ rr).2,(h 4 _ rr).2,(h 5 _ rr).2,(h 6 _ rr).2,(h 7 _ rr).2⟩
def oD(w:World)(b:Nat)(v0 v1 v2 v3 v4 v5 v6 v7:Value):World:=
 (((((((w.setCell ⟨b,0,none⟩ v0).setCell ⟨b,1,none⟩ v1).setCell ⟨b,2,none⟩ v2).setCell ⟨b,3,none⟩ v3).setCell ⟨b,4,none⟩ v4).setCell ⟨b,5,none⟩ v5).setCell ⟨b,6,none⟩ v6).setCell ⟨b,7,none⟩ v7
def Row.oD{w:World}{b:Nat}{a0 c a2 a3 a4 a5 a a7:Value}(h:Row w b [a0,c,a2,a3,a4,a5,a,a7])(v0 v1 v2 v3 v4 v5 v6 v7:Value):Row (oD w b v0 v1 v2 v3 v4 v5 v6 v7) b [v0,v1,v2,v3,v4,v5,v6,v7]:=
 (((((((h.set 0 v0 (by simp)).set 1 v1 (by simp)).set 2 v2 (by simp)).set 3 v3 (by simp)).set 4 v4 (by simp)).set 5 v5 (by simp)).set 6 v6 (by simp)).set 7 v7 (by simp)
def Row.PE{w:World}{b c:Nat}{l:List Value}(h:Row w b l)(v0 v1 v2 v3 v4 v5 v6 v7:Value)(a:c≠b):Row (Proofs.YtbnonpbnhenkfaaGreatDoor.oD w c v0 v1 v2 v3 v4 v5 v6 v7) b l:=
 (((((((h.fj v0 a).fj v1 a).fj v2 a).fj v3 a).fj v4 a).fj v5 a).fj v6 a).fj v7 a
def Below.oD{B:Nat}{w w':World}{b:Nat}(h:Below B w w')(hb:B<=b)(v0 v1 v2 v3 v4 v5 v6 v7:Value):Below B w (Proofs.YtbnonpbnhenkfaaGreatDoor.oD w' b v0 v1 v2 v3 v4 v5 v6 v7):=
 (((((((h.setCell (p:=⟨b,0,none⟩) hb v0).setCell (p:=⟨b,1,none⟩) hb v1).setCell (p:=⟨b,2,none⟩) hb v2).setCell (p:=⟨b,3,none⟩) hb v3).setCell (p:=⟨b,4,none⟩) hb v4).setCell (p:=⟨b,5,none⟩) hb v5).setCell (p:=⟨b,6,none⟩) hb v6).setCell (p:=⟨b,7,none⟩) hb v7
end
end Go.Proofs.YtbnonpbnhenkfaaGreatDoor
