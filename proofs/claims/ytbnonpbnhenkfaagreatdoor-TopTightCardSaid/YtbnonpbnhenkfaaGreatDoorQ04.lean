/- Part 4 of the proof; the last part says what is proved. -/
import Derived.Test.YtbnonpbnhenkfaaGreatDoorQ03
import Derived.Shelf.Bits.Mul64
import Derived.Shelf.Spec.BitsCarry
import Derived.Lib.Overlaps
import Derived.Lib.SplitLaws
import Derived.Lib.Join
import Derived.OwnWalk
import Derived.Laws.OwnMore
import Derived.Laws.BitsAllLaws
import Derived.Handy
import Derived.Deep.Cut
set_option linter.all false
set_option maxRecDepth 1000000
set_option maxHeartbeats 8000000
namespace Go.Proofs.YtbnonpbnhenkfaaGreatDoor
section
open Go.RowKit
abbrev GT:World→Prop:=fU
abbrev PC(f:FuncId)(args:List PV)(post:PV→Prop):Prop:=gB Tryz.prog GT f args post
theorem Sb{f:FuncId}{fn:Func}{args:List PV}{post:PV→Prop}(hf:Tryz.prog.funcs[f]? = some fn)(hn:(fn.name== "runtime.NumGoroutine")=false)(h:sg Tryz.prog GT tt fn args post):PC f args post:=
 match hb:fn.body with
 |some _=>RT bH bU (fun h hb=>fU.below h hb) hf (enters_of hf hn hb) h
 |none=>by unfold sg at h;rw[hb]at h;exact h.elim
abbrev bo(b:Bool):PV:=.at (.bool b)
abbrev i64(n:Int):PV:=.at (.int .i64 n)
abbrev u64(n:Nat):PV:=.at (.int .u64 n)
abbrev st(s:ByteArray):PV:=.at (.string s)
theorem wrap_i64{x y:Int}(h:x=y)(hb:-9223372036854775808≤y∧y≤9223372036854775807):IntKind.i64.wrap x=y:=by
 subst h;rw[IntKind.wrap_i64];omega
theorem uE{α:Type}(f:α→PV):∀(l:List α) (i:Nat) (x:α),l[i]? = some x→PV.nth (l.map f) i=some (f x)
 | [],i,x,h=>by simp at h
 |a::l,0,x,h=>by simp at h;subst h;rfl
 |a::l,i+1,x,h=>uE f l i x (by simpa using h)
def idx{α:Type}(p:α→Bool):List α→Int→Int
 | [],_=>-1
 |x::l,i=>match p x with|true=>i|false=>idx p l (i+1)
theorem qa{α:Type}(p:α→Bool){l:List α}{i:Nat}{x:α}(h:l[i]? = some x):idx p (l.drop i) i=match p x with|true=>(i:Int)|false=>idx p (l.drop (i+1)) (i+1:Nat):=by
 obtain⟨hlt,rfl⟩:=aaq.1 h;rw[aaX hlt];rfl
theorem bx{α:Type}{f:α→PV}{l:List α}{i:Nat}{x:α}{k:PV→Prop}(h:l[i]? = some x)(hk:k (f x)):dC (l.map f) (i:Int) k:=
 .intro (f x) (by rw[abk];exact uE f l i x h) (abE i) hk
abbrev xO(b b' r1 r2:Nat)(o1 o2 o3:Oper)(c:Nat)(body:Code):Code:=
 .seq (.region r1 #[o1] false) (.seq (.cond (.tmp c) .skip (.exit b)) (.seq (.block b' body) (.region r2 #[o2,o3] false)))
structure vi(o1 o2 o3:Oper)(c i t u:Nat):Prop where
 o1:o1.op=.binOp .lss 3 (.tmp i) (.tmp t) 3∧o1.dst=some c∧o1.guard=none
 o2:o2.op=.binOp .add 3 (.tmp i) (.const (.int .i64 1)) 3∧o2.dst=some u∧o2.guard=none
 o3:o3.op=.move (.tmp u)∧o3.dst=some i∧o3.guard=none
section
variable {P:Program}{G:World→Prop}{T:TT}{M n:Nat}
def Inv.on(I:Inv Nat)(i:Nat):Inv Nat:=⟨fun q=>(i,i64 q)::I.fm q,I.dU,I.cX,I.aQ⟩
def lC(I:Inv Nat)(s:AS)(i c q:Nat)(b:Bool):AS:=⟨ck ((I.on i).st s q).env c (some (bo b)),((I.on i).st s q).hp⟩
structure bA(M nx:Nat)(I:Inv Nat)(J:Nat→Prop)(s:AS)(i u q:Nat)(s':AS):Prop where
 j:J (q+1)
 h:s'.env i=some (i64 q)
 b:∃ρ,dQ M nx ρ I s (q+1) ⟨ck (ck s'.env u (some (i64 (q+1:Nat)))) i (some (i64 (q+1:Nat))),s'.hp⟩
theorem bA.is{M nx:Nat}{I:Inv Nat}{J:Nat→Prop}{s:AS}{i u q:Nat}{s':AS}(ρ:Nat→Nat)(hj:J (q+1))(h:s'.env i=some (i64 q))(hb:dQ M nx ρ I s (q+1) ⟨ck (ck s'.env u (some (i64 (q+1:Nat)))) i (some (i64 (q+1:Nat))),s'.hp⟩):bA M nx I J s i u q s':=⟨hj,h,ρ,hb⟩
theorem dQ.on{nx:Nat}{ρ:Nat→Nat}{I:Inv Nat}{s s':AS}{q i:Nat}(h:dQ M nx ρ I s q s')(hi:s'.env i=some (i64 q)):dQ M nx ρ (I.on i) s q s':=
 ⟨⟨⟨hi,rfl⟩,h.fm⟩,h.dU,h.cX,h.aQ,h.fix,h.low,h.inj⟩
def iO(M nx:Nat)(s:AS)(body:Nat→AS→(Ex→Nat→AS→Prop)→Prop)(k:Ex→Nat→AS→Prop):Prop:=
 ∃(ι:Type) (I:Inv ι) (μ:ι→Nat) (i₀:ι),dQ M nx id I s i₀ s∧∀i,body nx (I.st s i) fun ex m' s'=>match ex with
  |.normal=>∃i' ρ,μ i'<μ i∧dQ M nx ρ I s i' s'
  |.ret=>k .ret m' s'
  |.exit j=>k (.exit j) m' s'
theorem iO.node{nx:Nat}{s:AS}{body:Nat→AS→(Ex→Nat→AS→Prop)→Prop}{k:Ex→Nat→AS→Prop}(h:iO M nx s body k):cv M nx s body k:=by
 obtain⟨ι,I,μ,i₀,h0,hr⟩:=h;exact cv.inv I μ i₀ h0 hr
theorem iO.grow(vt:List (Nat×Nat×TypeId)){nx:Nat}{s:AS}{body:Nat→AS→(Ex→Nat→AS→Prop)→Prop}{k:Ex→Nat→AS→Prop}(hv:cC (fun x:Nat×Nat×TypeId=>s.env x.1=some (.sl true [])) vt)(h:iO M (nx+vt.length) (fR s nx vt) body k):cv M nx s body k:=by
 obtain⟨ι,I,μ,i₀,h0,hr⟩:=h;exact cv.grow vt _ I μ i₀ rfl hv h0 hr
theorem C3{b b' r1 r2:Nat}{o1 o2 o3:Oper}{c i t u:Nat}{body:Code}{nx:Nat}{s:AS}{k:Ex→Nat→AS→Prop}(ho:vi o1 o2 o3 c i t u)(N:Nat)(hN:N≤4611686018427387904)(I:Inv Nat)(J:Nat→Prop)
 (ht:cf t I.dU=true) (ht2:s.env t=some (i64 N)) (hti:∀q,lk (I.fm q) t=none) (hne:Nat.beq t i=false∧Nat.beq i u=false∧Nat.ble (c+1) n=true∧Nat.ble (i+1) n=true∧Nat.ble (u+1) n=true)
 (hi:s.env i=some (i64 0)) (hj:J 0) (h0:dQ M nx id I s 0 s)
 (hb:∀q,q<N→J q→vc P G T M n body (nx+1) (lC I s i c q true) fun ex m s'=>match ex with
   |.normal=>bA M nx I J s i u q s'
   |.ret=>k .ret m s'
   |.exit j=>match Nat.beq j b' with
    |true=>bA M nx I J s i u q s'
    |false=>k (.exit j) m s')
 (he:J N→k (.exit b) (nx+1) (lC I s i c N false)):iO M nx s (fun nx s k=>vc P G T M n (xO b b' r1 r2 o1 o2 o3 c body) nx s k) k:=by
 obtain⟨d1,p1,t1,q1,a1,g1⟩:=o1
 obtain⟨d2,p2,t2,q2,a2,g2⟩:=o2
 obtain⟨d3,p3,t3,q3,a3,g3⟩:=o3
 obtain⟨⟨e1,e2,e3⟩,⟨e4,e5,e6⟩,e7,e8,e9⟩:=ho
 dsimp only at e1 e2 e3 e4 e5 e6 e7 e8 e9
 subst e1 e2 e3 e4 e5 e6 e7 e8 e9
 obtain⟨n1,n2,n3,n4,n5⟩:=hne
 have htev:∀q,((I.on i).st s q).env t=some (i64 N):=fun q=>by
  show(match lk ((i,i64 q)::I.fm q) t with|some p=>some p|none=>match cf t I.dU with|true=>s.env t|false=>none)=_
  unfold lk
  rw[n1]
  dsimp only
  rw[hti q,ht,ht2]
 have hiev:∀q,((I.on i).st s q).env i=some (i64 q):=fun q=>by
  show(match lk ((i,i64 q)::I.fm q) i with|some p=>some p|none=>match cf i I.dU with|true=>s.env i|false=>none)=_
  unfold lk
  rw[acI]
 refine⟨{q:Nat//q≤N∧J q},⟨fun q=>(I.on i).fm q.1,I.dU,fun q=>I.cX q.1,I.aQ⟩,fun q=>N-q.1,⟨0,aaF _,hj⟩,?_,?_⟩
 ·have:=h0.on hi
  exact⟨this.fm,this.dU,this.cX,this.aQ,this.fix,this.low,this.inj⟩
 ·rintro⟨q,hq,hjq⟩
  have hst:Inv.st (⟨fun q=>(I.on i).fm q.1,I.dU,fun q=>I.cX q.1,I.aQ⟩:Inv {q:Nat//q≤N∧J q}) s ⟨q,hq,hjq⟩=(I.on i).st s q:=rfl
  rw[hst]
  show act T nx (.binOp .lss 3 (.tmp i) (.tmp t) 3) ((I.on i).st s q).ev ((I.on i).st s q).hp _
  unfold act
  have hev:dZ ((I.on i).st s q).ev (Op.binOp .lss 3 (.tmp i) (.tmp t) 3).operands.toList=some [i64 q,i64 N]:=by
   show dZ ((I.on i).st s q).ev [.tmp i,.tmp t]=_
   simp only[dZ,AS.ev,gD,htev,hiev]
  rw[hev]
  refine⟨decide ((q:Int)<N),rfl,?_⟩
  simp only[bT,Tr.wp]
  unfold mC
  dsimp only
  rw[n3]
  dsimp only
  have hcev:∀b,AS.ev (lC I s i c q b) (.tmp c)=some (bo b):=fun b=>dm _ _ _
  show(match AS.ev (lC I s i c q (decide ((q:Int)<N))) (.tmp c)with|some (.at (.bool t))=>eO t _ _|_=>False)
  rw[hcev]
  refine⟨fun h=>?_,fun h=>?_⟩
  ·rw[h]
   have hlt:q<N:=by have:=aat h;omega
   have step:∀m s',bA M nx I J s i u q s'→j7 P G T n [⟨some u,.binOp .add 3 (.tmp i) (.const (.int .i64 1)) 3,t2,q2,a2,none⟩,⟨some i,.move (.tmp u),t3,q3,a3,none⟩] [⟨some u,.binOp .add 3 (.tmp i) (.const (.int .i64 1)) 3,t2,q2,a2,none⟩,⟨some i,.move (.tmp u),t3,q3,a3,none⟩] m s' fun m s'=>∃(i':{q:Nat//q≤N∧J q}) (ρ:Nat→Nat),N-i'.1<N-q∧dQ M nx ρ (⟨fun q=>(I.on i).fm q.1,I.dU,fun q=>I.cX q.1,I.aQ⟩:Inv {q:Nat//q≤N∧J q}) s i' s':=by
    rintro m s' ⟨hj1,h1,ρ,h2⟩
    show act T m (.binOp .add 3 (.tmp i) (.const (.int .i64 1)) 3) s'.ev s'.hp _
    unfold act
    have hev:dZ s'.ev (Op.binOp .add 3 (.tmp i) (.const (.int .i64 1)) 3).operands.toList=some [i64 q,i64 1]:=by
     show dZ s'.ev [.tmp i,.const (.int .i64 1)]=_
     simp only[dZ,AS.ev,gD,h1];rfl
    rw[hev]
    refine⟨(q+1:Nat),wrap_i64 (by omega) (by omega),?_⟩
    simp only[Tr.wp]
    unfold mC
    dsimp only
    rw[n5]
    show act T (m+1) (.move (.tmp u)) _ _ _
    unfold act
    have hev2:dZ (gD (ck s'.env u (some (i64 (q+1:Nat))))) (Op.move (.tmp u)).operands.toList=some [i64 (q+1:Nat)]:=by
     show dZ _ [.tmp u]=_
     simp only[dZ,gD,dm]
    rw[hev2]
    simp only[tr,Tr.wp]
    unfold mC
    dsimp only
    rw[n4]
    have:=h2.on (i:=i) (dm _ _ _)
    exact⟨⟨q+1,hlt,hj1⟩,ρ,by show N-(q+1)<N-q;omega,this.fm,this.dU,this.cX,this.aQ,this.fix,this.low,this.inj⟩
   have hb2:=hb q hlt hjq
   refine py body hb2 fun ex m s' hk=>?_
   cases ex with
   |normal=>exact step m s' hk
   |ret=>exact hk
   |exit j=>
    dsimp only at hk⊢
    cases e:Nat.beq j b' with
    |true=>rw[e]at hk;exact step m s' hk
    |false=>
     rw[e]at hk
     dsimp only at hk⊢
     exact hk
  ·rw[h]
   have:q=N:=by have:=aaw h;omega
   subst this
   exact he hjq
theorem Rs{b b' r1 r2:Nat}{o1 o2 o3:Oper}{c i t u:Nat}{body:Code}{nx:Nat}{s:AS}{k:Ex→Nat→AS→Prop}(ho:vi o1 o2 o3 c i t u)(N:Nat)(hN:N≤4611686018427387904)(I:Inv Nat)(J:Nat→Prop)
 (ht:cf t I.dU=true) (ht2:s.env t=some (i64 N)) (hti:∀q,lk (I.fm q) t=none) (hne:Nat.beq t i=false∧Nat.beq i u=false∧Nat.ble (c+1) n=true∧Nat.ble (i+1) n=true∧Nat.ble (u+1) n=true)
 (hi:s.env i=some (i64 0)) (hj:J 0) (h0:dQ M nx id I s 0 s)
 (hb:∀q,q<N→J q→vc P G T M n body (nx+1) (lC I s i c q true) fun ex m s'=>match ex with
   |.normal=>bA M nx I J s i u q s'
   |.ret=>k .ret m s'
   |.exit j=>match Nat.beq j b' with
    |true=>bA M nx I J s i u q s'
    |false=>k (.exit j) m s')
 (he:J N→k (.exit b) (nx+1) (lC I s i c N false)):cv M nx s (fun nx s k=>vc P G T M n (xO b b' r1 r2 o1 o2 o3 c body) nx s k) k:=(C3 ho N hN I J ht ht2 hti hne hi hj h0 hb he).node
end
abbrev LC(f:FuncId)(args:List PV)(bs:List (Nat×aA))(nx:Nat)(post:PV→bW→Prop):Prop:=HC Tryz.prog GT f args bs nx post
theorem eK{f:FuncId}{fn:Func}{args:List PV}{bs:List aA}{js:List Nat}{nx:Nat}{post:PV→bW→Prop}(hf:Tryz.prog.funcs[f]? = some fn)(hn:(fn.name== "runtime.NumGoroutine")=false)(hjs:nodup js=true)(hnx:cf nx js=false)(hlen:js.length=bs.length)(hbs:cC (fun b:aA=>b.own=true∧b.cE) bs)(hlt:PV.h_ js.length args=true)
 (h:ni Tryz.prog GT tt fn args bs js nx post):LC f (PV.fD (fun i=>(PV.nth js i).getD 0) args) (js.zip bs) nx post:=
 match hb:fn.body with
 |some _=>YF bH bU hf (enters_of hf hn hb) hjs hnx hlen hbs hlt h
 |none=>by unfold ni at h;rw[hb]at h;exact h.elim
theorem qq.all{n:Nat}{k:Bool→Prop}(h:∀b,(b=true→n=0)→k b):qq n k:=⟨fun _=>h false (fun h=>by cases h),fun e b=>h b fun _=>e⟩
theorem Yn{α:Type}{f:α→PV}{k:Nat}(h:∀x,(f x).cells.length=k∧PV.ke (f x).cells=true)(l:List α):lj (l.map f) k:=fun r hr=>by
 obtain⟨x,_,rfl⟩:=abc.1 hr
 exact h x
theorem aN{X:List Nat}{n:Nat}{hp:Nat→Option aA}{p r:PV}{ps rs:List PV}{l l':List Nat}(h1:br X n hp p=some (r,l))(h2:cY X n hp ps=some (rs,l')):cY X (n+1) hp (p::ps)=some (r::rs,l++l'):=by unfold cY;rw[h1,h2]
theorem iw{X:List Nat}{n:Nat}{hp:Nat→Option aA}{cs rs:List PV}{l:List Nat}(h:cY X n hp cs=some (rs,l)):br X (n+1) hp (.agg cs)=some (.agg rs,l):=by unfold br;dsimp only;rw[h]
theorem tv{α:Type}{f:α→PV}{hp:Nat→Option aA}{m:Nat}(hf:∀x n,br [] (n+m) hp (f x)=some (f x,[])):∀(l:List α) (n:Nat),cY [] (l.length+(n+m+1)) hp (l.map f)=some (l.map f,[])
 | [],n=>by show cY [] (0+(n+m)+1) hp []=_;rfl
 |x::l,n=>by
  have h1:=hf x (l.length+(n+1))
  have h2:=tv hf l n
  have e:(x::l).length+(n+m+1)=(l.length+(n+m+1))+1:=by rw[aaL];omega
  rw[e,aaZ]
  refine aN (l:=[]) (l':=[]) ?_ h2
  rw[show l.length+(n+m+1)=l.length+(n+1)+m by omega]
  exact h1
theorem Dv{α:Type}(l:List α):PV.sub l 0 l.length=l:=(vy l l.length).trans (aaM)
theorem cT{X:List Nat}{α:Type}{f:α→PV}{hp:Nat→Option aA}{j k:Nat}{wr:Bool}{cp:Option Nat}{e:TypeId}{l:List α}{rs:List PV}(hj:hp j=some (.rows k rs wr cp e))(hrs:rs=l.map f)(hf:∀x n hp,br [] (n+40) hp (f x)=some (f x,[])){n len:Nat}(hlen:len=l.length)(hX:cf j X=false):
 br X (l.length+(n+42)) hp (.aH j 0 len)=some (.sl false (l.map f),[j]):=by
 subst hrs hlen
 have h:=tv (hp:=hp) (fun x n=>hf x n hp) l n
 rw[show l.length+(n+42)=(l.length+(n+40+1))+1 by omega]
 unfold br
 simp only[hX,hj,aav,aao,Nat.ble_self_eq_true]
 rw[show PV.sub (l.map f) 0 l.length=l.map f by rw[show l.length=(l.map f).length by rw[aao]];exact Dv _,h]
def gm(t:TypeId):PV:=match tt t with|some te=>te.zero|none=>.any
theorem nZ{X:List Nat}{α:Type}{f:α→PV}{hp:Nat→Option aA}{j k:Nat}{wr:Bool}{cp:Option Nat}{e:TypeId}{l:List α}{rs:List PV}(hj:hp j=some (.rows k rs wr cp e)){n len:Nat}(hrs:PV.sub rs 0 len=l.map f)(hle:len≤rs.length)(hf:∀x n hp,br [] (n+40) hp (f x)=some (f x,[]))(hX:cf j X=false):
 br X (l.length+(n+42)) hp (.aH j 0 len)=some (.sl false (l.map f),[j]):=by
 have h:=tv (hp:=hp) (fun x n=>hf x n hp) l n
 rw[show l.length+(n+42)=(l.length+(n+40+1))+1 by omega]
 unfold br
 simp only[hX,hj,aav,hrs,h,Nat.ble_eq_true_of_le hle]
theorem lj.k{l:List PV}{k:Nat}(h:lj l k):pq l k:=fun r hr=>(h r hr).1
theorem aa{t:Bool}{A B:Prop}(b:B)(h:t=false:=by exact rfl):eO t A B:=eO.f h b
theorem ah{t:Bool}{A B:Prop}(a:A)(h:t=true:=by exact rfl):eO t A B:=eO.t h a
theorem ab{Q:Prop}(h:Q:=by exact⟨200,_,_,.inl rfl,rfl⟩):Q:=h
theorem ar{A B:Prop}(b:B)(h:A:=by exact rfl):A∧B:=⟨h,b⟩
theorem ao{x:Bool}{k:Bool→Prop}(q:k false)(h:x=false:=by exact rfl):ae x k:=⟨false,h,q⟩
theorem cH{x:Bool}{k:Bool→Prop}(q:k true)(h:x=true:=by exact rfl):ae x k:=⟨true,h,q⟩
theorem cj{b k:Prop}(q:k)(h:b:=by decide):ak b k:=⟨h,q⟩
theorem oG{b k:Prop}(q:k)(h:b:=by omega):ak b k:=⟨h,q⟩
theorem qQ{b k:Prop}(q:k)(h:b:=by exact rfl):ak b k:=⟨h,q⟩
theorem da{x:Int}{k:Int→Prop}(y:Int)(q:k y)(h:x=y:=by exact rfl):bN x k:=⟨y,h,q⟩
theorem gp{x:Int}{k:Int→Prop}(q:k x):bN x k:=⟨x,rfl,q⟩
theorem ax{x y:Int}{k:Int→Prop}(h:x=y)(q:k y):bN x k:=⟨y,h,q⟩
theorem dH{x:Int}{k:Int→Prop}(n:Nat)(q:k (n:Int))(h:x=(n:Int):=by exact wrap_i64 (by omega) (by omega)):bN x k:=⟨n,h,q⟩
theorem af{P:Program}{G:World→Prop}{hp:Nat→Option aA}{nx:Nat}{f:FuncId}{args rs:List PV}{l:List Nat}{k:PV→bW→Prop}{r:PV}(h:gB P G f rs (·=r))(hr:cY [] 200 hp args=some (rs,l))(hk:k r (lV hp l r)):a_ P G hp nx f args k:=a_.by h hr hk
theorem ay{P:Program}{G:World→Prop}{hp:Nat→Option aA}{nx:Nat}{f:FuncId}{args rs:List PV}{l:List Nat}{k:PV→bW→List Nat→Prop}{r:PV}(h:gB P G f rs (·=r))(hr:cY [] 200 hp args=some (rs,l))(hk:k r (lV hp l r) l):dy P G hp nx f args k:=dy.by h hr hk
theorem al{f:FuncId}{fn:Func}{args:List PV}{post:PV→Prop}(hf:Tryz.prog.funcs[f]? = some fn)(h:sg Tryz.prog GT tt fn args post)(hn:(fn.name== "runtime.NumGoroutine")=false:=by exact rfl):PC f args post:=Sb hf hn h
theorem du{T:TT}{fn:Func}{js:List Nat}{nx:Nat}{post:PV→bW→Prop}{m:Nat}{s:AS}(k:gX T (fR s m []) fn.results.toList fun vs=>dW js nx (fR s m []).hp vs post):nP T fn js nx post m s:=⟨[],trivial,k⟩
section
variable {js:List Nat}{nx:Nat}{hp:Nat→Option aA}{vs rs:List PV}{l:List Nat}{post:PV→bW→Prop}{b:aA}
theorem kv(x:Nat×Nat)(h:cY [x.1] 200 hp vs=some (rs,l))(e:dE hp l x.1=some b)(c:b.cE)(k:post (PV.rn (kJ [x]) (fI (rs.map PV.wk))) ([x].map (fun x=>(x.2,ny (dE hp l) x.1))++js.map fun j=>(j,none)))(i:PV.nth js x.1=some x.2:=by exact rfl):dW js nx hp vs post:=⟨[x],200,_,_,h,rfl,rfl,⟨dz.mk ⟨_,e,c,.inr i⟩,trivial⟩,k⟩
theorem HJ(x:Nat×Nat)(h:cY [x.1] 200 hp vs=some (rs,l))(e:dE hp l x.1=some b)(c:b.cE)(k:post (PV.rn (kJ [x]) (fI (rs.map PV.wk))) ([x].map (fun x=>(x.2,ny (dE hp l) x.1))++js.map fun j=>(j,none)))(i:x.2=nx:=by exact rfl):dW js nx hp vs post:=⟨[x],200,_,_,h,rfl,rfl,⟨dz.mk ⟨_,e,c,.inl i⟩,trivial⟩,k⟩
end
section
variable {ι:Type}{M nx:Nat}{ρ:Nat→Nat}{I:Inv ι}{s:AS}{i:ι}{s':AS}
theorem bC{Q:Prop}(h:Q:=by exact⟨by repeat (first|exact trivial|refine⟨⟨rfl,rfl⟩,?_⟩|refine⟨⟨_,rfl,rfl,rfl⟩,?_⟩|refine⟨⟨BB.rn rfl rfl,rfl⟩,?_⟩|refine⟨⟨_,rfl,BB.rn rfl rfl,rfl⟩,?_⟩),by repeat (first|exact trivial|refine⟨⟨rfl,rfl⟩,?_⟩|refine⟨⟨_,rfl,rfl,rfl⟩,?_⟩|refine⟨⟨BB.rn rfl rfl,rfl⟩,?_⟩|refine⟨⟨_,rfl,BB.rn rfl rfl,rfl⟩,?_⟩),by repeat (first|exact trivial|refine⟨⟨rfl,rfl⟩,?_⟩|refine⟨⟨_,rfl,rfl,rfl⟩,?_⟩|refine⟨⟨BB.rn rfl rfl,rfl⟩,?_⟩|refine⟨⟨_,rfl,BB.rn rfl rfl,rfl⟩,?_⟩),by repeat (first|exact trivial|refine⟨⟨rfl,rfl⟩,?_⟩|refine⟨⟨_,rfl,rfl,rfl⟩,?_⟩|refine⟨⟨BB.rn rfl rfl,rfl⟩,?_⟩|refine⟨⟨_,rfl,BB.rn rfl rfl,rfl⟩,?_⟩),rfl,rfl,rfl⟩):Q:=h
theorem gS(u:cC (fun x:Nat×PV=>s'.env x.1=some (x.2.rn ρ)∧x.2.lt nx=true) (I.fm i))(p:cC (fun x:Nat×aA=>BB nx ρ x.2 (s'.hp (ρ x.1))∧Nat.ble (x.1+1) nx=true) (I.cX i))(m:cC (fun t=>∃p,s.env t=some p∧s'.env t=some (p.rn ρ)∧p.lt nx=true) I.dU:=by repeat (first|exact trivial|refine⟨⟨rfl,rfl⟩,?_⟩|refine⟨⟨_,rfl,rfl,rfl⟩,?_⟩|refine⟨⟨BB.rn rfl rfl,rfl⟩,?_⟩|refine⟨⟨_,rfl,BB.rn rfl rfl,rfl⟩,?_⟩))(e:cC (fun j=>∃b,s.hp j=some b∧BB nx ρ b (s'.hp (ρ j))∧Nat.ble (j+1) nx=true) I.aQ:=by repeat (first|exact trivial|refine⟨⟨rfl,rfl⟩,?_⟩|refine⟨⟨_,rfl,rfl,rfl⟩,?_⟩|refine⟨⟨BB.rn rfl rfl,rfl⟩,?_⟩|refine⟨⟨_,rfl,BB.rn rfl rfl,rfl⟩,?_⟩))(x:nU ρ M=true:=by exact rfl)(y:Nat.ble M nx=true:=by exact rfl)(z:nodup (((I.cX i).map (·.1)++I.aQ).map ρ)=true:=by exact rfl):dQ M nx ρ I s i s':=⟨u,m,p,e,x,y,z⟩
theorem A0(p:cC (fun x:Nat×aA=>BB nx ρ x.2 (s'.hp (ρ x.1))∧Nat.ble (x.1+1) nx=true) (I.cX i))(e:cC (fun j=>∃b,s.hp j=some b∧BB nx ρ b (s'.hp (ρ j))∧Nat.ble (j+1) nx=true) I.aQ)(u:cC (fun x:Nat×PV=>s'.env x.1=some (x.2.rn ρ)∧x.2.lt nx=true) (I.fm i):=by repeat (first|exact trivial|refine⟨⟨rfl,rfl⟩,?_⟩|refine⟨⟨_,rfl,rfl,rfl⟩,?_⟩|refine⟨⟨BB.rn rfl rfl,rfl⟩,?_⟩|refine⟨⟨_,rfl,BB.rn rfl rfl,rfl⟩,?_⟩))(m:cC (fun t=>∃p,s.env t=some p∧s'.env t=some (p.rn ρ)∧p.lt nx=true) I.dU:=by repeat (first|exact trivial|refine⟨⟨rfl,rfl⟩,?_⟩|refine⟨⟨_,rfl,rfl,rfl⟩,?_⟩|refine⟨⟨BB.rn rfl rfl,rfl⟩,?_⟩|refine⟨⟨_,rfl,BB.rn rfl rfl,rfl⟩,?_⟩))(x:nU ρ M=true:=by exact rfl)(y:Nat.ble M nx=true:=by exact rfl)(z:nodup (((I.cX i).map (·.1)++I.aQ).map ρ)=true:=by exact rfl):dQ M nx ρ I s i s':=⟨u,m,p,e,x,y,z⟩
theorem dv(p:cC (fun x:Nat×aA=>BB nx ρ x.2 (s'.hp (ρ x.1))∧Nat.ble (x.1+1) nx=true) (I.cX i))(e:cC (fun j=>∃b,s.hp j=some b∧BB nx ρ b (s'.hp (ρ j))∧Nat.ble (j+1) nx=true) I.aQ:=by repeat (first|exact trivial|refine⟨⟨rfl,rfl⟩,?_⟩|refine⟨⟨_,rfl,rfl,rfl⟩,?_⟩|refine⟨⟨BB.rn rfl rfl,rfl⟩,?_⟩|refine⟨⟨_,rfl,BB.rn rfl rfl,rfl⟩,?_⟩))(u:cC (fun x:Nat×PV=>s'.env x.1=some (x.2.rn ρ)∧x.2.lt nx=true) (I.fm i):=by repeat (first|exact trivial|refine⟨⟨rfl,rfl⟩,?_⟩|refine⟨⟨_,rfl,rfl,rfl⟩,?_⟩|refine⟨⟨BB.rn rfl rfl,rfl⟩,?_⟩|refine⟨⟨_,rfl,BB.rn rfl rfl,rfl⟩,?_⟩))(m:cC (fun t=>∃p,s.env t=some p∧s'.env t=some (p.rn ρ)∧p.lt nx=true) I.dU:=by repeat (first|exact trivial|refine⟨⟨rfl,rfl⟩,?_⟩|refine⟨⟨_,rfl,rfl,rfl⟩,?_⟩|refine⟨⟨BB.rn rfl rfl,rfl⟩,?_⟩|refine⟨⟨_,rfl,BB.rn rfl rfl,rfl⟩,?_⟩))(x:nU ρ M=true:=by exact rfl)(y:Nat.ble M nx=true:=by exact rfl)(z:nodup (((I.cX i).map (·.1)++I.aQ).map ρ)=true:=by exact rfl):dQ M nx ρ I s i s':=⟨u,m,p,e,x,y,z⟩
theorem eI(e:cC (fun j=>∃b,s.hp j=some b∧BB nx ρ b (s'.hp (ρ j))∧Nat.ble (j+1) nx=true) I.aQ)(p:cC (fun x:Nat×aA=>BB nx ρ x.2 (s'.hp (ρ x.1))∧Nat.ble (x.1+1) nx=true) (I.cX i):=by repeat (first|exact trivial|refine⟨⟨rfl,rfl⟩,?_⟩|refine⟨⟨_,rfl,rfl,rfl⟩,?_⟩|refine⟨⟨BB.rn rfl rfl,rfl⟩,?_⟩|refine⟨⟨_,rfl,BB.rn rfl rfl,rfl⟩,?_⟩))(u:cC (fun x:Nat×PV=>s'.env x.1=some (x.2.rn ρ)∧x.2.lt nx=true) (I.fm i):=by repeat (first|exact trivial|refine⟨⟨rfl,rfl⟩,?_⟩|refine⟨⟨_,rfl,rfl,rfl⟩,?_⟩|refine⟨⟨BB.rn rfl rfl,rfl⟩,?_⟩|refine⟨⟨_,rfl,BB.rn rfl rfl,rfl⟩,?_⟩))(m:cC (fun t=>∃p,s.env t=some p∧s'.env t=some (p.rn ρ)∧p.lt nx=true) I.dU:=by repeat (first|exact trivial|refine⟨⟨rfl,rfl⟩,?_⟩|refine⟨⟨_,rfl,rfl,rfl⟩,?_⟩|refine⟨⟨BB.rn rfl rfl,rfl⟩,?_⟩|refine⟨⟨_,rfl,BB.rn rfl rfl,rfl⟩,?_⟩))(x:nU ρ M=true:=by exact rfl)(y:Nat.ble M nx=true:=by exact rfl)(z:nodup (((I.cX i).map (·.1)++I.aQ).map ρ)=true:=by exact rfl):dQ M nx ρ I s i s':=⟨u,m,p,e,x,y,z⟩
theorem bY{j:Nat}{b:aA}(g:I.cX i=[(j,b)])(c:b.cE)(p:s'.hp (ρ j)=some b:=by exact rfl)(q:Nat.ble (j+1) nx=true:=by exact rfl)(e:cC (fun j=>∃b,s.hp j=some b∧BB nx ρ b (s'.hp (ρ j))∧Nat.ble (j+1) nx=true) I.aQ:=by repeat (first|exact trivial|refine⟨⟨rfl,rfl⟩,?_⟩|refine⟨⟨_,rfl,rfl,rfl⟩,?_⟩|refine⟨⟨BB.rn rfl rfl,rfl⟩,?_⟩|refine⟨⟨_,rfl,BB.rn rfl rfl,rfl⟩,?_⟩))(u:cC (fun x:Nat×PV=>s'.env x.1=some (x.2.rn ρ)∧x.2.lt nx=true) (I.fm i):=by repeat (first|exact trivial|refine⟨⟨rfl,rfl⟩,?_⟩|refine⟨⟨_,rfl,rfl,rfl⟩,?_⟩|refine⟨⟨BB.rn rfl rfl,rfl⟩,?_⟩|refine⟨⟨_,rfl,BB.rn rfl rfl,rfl⟩,?_⟩))(m:cC (fun t=>∃p,s.env t=some p∧s'.env t=some (p.rn ρ)∧p.lt nx=true) I.dU:=by repeat (first|exact trivial|refine⟨⟨rfl,rfl⟩,?_⟩|refine⟨⟨_,rfl,rfl,rfl⟩,?_⟩|refine⟨⟨BB.rn rfl rfl,rfl⟩,?_⟩|refine⟨⟨_,rfl,BB.rn rfl rfl,rfl⟩,?_⟩))(x:nU ρ M=true:=by exact rfl)(y:Nat.ble M nx=true:=by exact rfl)(z:nodup (((I.cX i).map (·.1)++I.aQ).map ρ)=true:=by exact rfl):dQ M nx ρ I s i s':=⟨u,m,g▸⟨⟨BB.aO p c,q⟩,trivial⟩,e,x,y,z⟩
end
section
variable {P:Program}{G:World→Prop}{T:TT}{M n:Nat}
theorem mb{b b' r1 r2:Nat}{o1 o2 o3:Oper}{c i t u:Nat}{body:Code}{nx:Nat}{s:AS}{k:Ex→Nat→AS→Prop}(N:Nat)(I:Inv Nat)(J:Nat→Prop)
 (hj:J 0) (h0:dQ M nx id I s 0 s)
 (hb:∀q,q<N→J q→vc P G T M n body (nx+1) (lC I s i c q true) fun ex m s'=>match ex with
   |.normal=>bA M nx I J s i u q s'
   |.ret=>k .ret m s'
   |.exit j=>match Nat.beq j b' with
    |true=>bA M nx I J s i u q s'
    |false=>k (.exit j) m s')
 (he:J N→k (.exit b) (nx+1) (lC I s i c N false))
 (ho:vi o1 o2 o3 c i t u:=by exact⟨⟨rfl,rfl,rfl⟩,⟨rfl,rfl,rfl⟩,rfl,rfl,rfl⟩) (ht2:s.env t=some (i64 N):=by first|exact rfl|(show some _=_;rw[aao])) (hN:N≤4611686018427387904:=by omega)
 (ht:cf t I.dU=true:=by exact rfl) (hti:∀q,lk (I.fm q) t=none:=by exact fun _=>rfl) (hne:Nat.beq t i=false∧Nat.beq i u=false∧Nat.ble (c+1) n=true∧Nat.ble (i+1) n=true∧Nat.ble (u+1) n=true:=by exact⟨rfl,rfl,rfl,rfl,rfl⟩)
 (hi:s.env i=some (i64 0):=by exact rfl):iO M nx s (fun nx s k=>vc P G T M n (xO b b' r1 r2 o1 o2 o3 c body) nx s k) k:=C3 ho N hN I J ht ht2 hti hne hi hj h0 hb he
theorem cW{b b' r1 r2:Nat}{o1 o2 o3:Oper}{c i t u:Nat}{body:Code}{nx:Nat}{s:AS}{k:Ex→Nat→AS→Prop}(N:Nat)(I:Inv Nat)(J:Nat→Prop)
 (hj:J 0) (h0:dQ M nx id I s 0 s)
 (hb:∀q,q<N→J q→vc P G T M n body (nx+1) (lC I s i c q true) fun ex m s'=>match ex with
   |.normal=>bA M nx I J s i u q s'
   |.ret=>k .ret m s'
   |.exit j=>match Nat.beq j b' with
    |true=>bA M nx I J s i u q s'
    |false=>k (.exit j) m s')
 (he:J N→k (.exit b) (nx+1) (lC I s i c N false))
 (ho:vi o1 o2 o3 c i t u:=by exact⟨⟨rfl,rfl,rfl⟩,⟨rfl,rfl,rfl⟩,rfl,rfl,rfl⟩) (ht2:s.env t=some (i64 N):=by first|exact rfl|(show some _=_;rw[aao])) (hN:N≤4611686018427387904:=by omega)
 (ht:cf t I.dU=true:=by exact rfl) (hti:∀q,lk (I.fm q) t=none:=by exact fun _=>rfl) (hne:Nat.beq t i=false∧Nat.beq i u=false∧Nat.ble (c+1) n=true∧Nat.ble (i+1) n=true∧Nat.ble (u+1) n=true:=by exact⟨rfl,rfl,rfl,rfl,rfl⟩)
 (hi:s.env i=some (i64 0):=by exact rfl):cv M nx s (fun nx s k=>vc P G T M n (xO b b' r1 r2 o1 o2 o3 c body) nx s k) k:=(mb N I J hj h0 hb he ho ht2 hN ht hti hne hi).node
end
theorem eg{a b:Nat}(h:decide ((a:Int)<(b:Int))=true):a<b:=abG.1 (aat h)
theorem nN{a b:Nat}(h:decide ((a:Int)≤(b:Int))=true):a≤b:=abS.1 (aat h)
theorem jn{a b:Nat}(h:decide ((a:Int)<(b:Int))=false):¬a<b:=fun e=>aaw h (abG.2 e)
mutual
def val:PV→Value
 |.at v=>v
 |.agg cs=>.agg (aZ cs).toArray
 |.aK cs=>.tuple (aZ cs).toArray
 |_=>undef
def aZ:List PV→List Value
 | []=>[]
 |p::l=>val p::aZ l
end
mutual
def pN:PV→Bool
 |.at v=>v.oneCell'
 |.agg cs=>oD cs
 |.aK cs=>oD cs
 |_=>false
def oD:List PV→Bool
 | []=>true
 |p::l=>match pN p with|true=>oD l|false=>false
end
mutual
theorem MV:∀(p:PV) {c:RC} {v:Value},pN p=true→Rel p c v→v=val p
 |.at _,_,_,_,r=>r.1
 |.agg cs,_,_,h,r=>by obtain⟨vs,e,r⟩:=r;rw[e,qB cs h r];rfl
 |.aK cs,_,_,h,r=>by obtain⟨vs,e,r⟩:=r;rw[e,qB cs h r];rfl
 |.any,_,_,h,_|.sl _ _,_,_,h,_|.lp _ _ _,_,_,h,_|.le _ _ _,_,_,h,_|.aH _ _ _,_,_,h,_|.eD _ _,_,_,h,_|.ip _ _,_,_,h,_|.fn _ _,_,_,h,_|.dq _ _,_,_,h,_|.mv _ _,_,_,h,_|.mp _ _,_,_,h,_|.fy _,_,_,h,_=>by cases h
theorem qB:∀(ps:List PV) {c:RC} {vs:List Value},oD ps=true→aC ps c vs→vs=aZ ps
 | [],_,_,_,r=>r
 |p::ps,_,_,h,r=>by
  obtain⟨v,vs',e,r1,r2⟩:=r
  unfold oD at h
  cases hp:pN p with
  |false=>rw[hp]at h;cases h
  |true=>rw[hp]at h;rw[e,MV p hp r1,qB ps h r2];rfl
end
mutual
theorem xX:∀(p:PV) (c:RC),pN p=true→Rel p c (val p)
 |.at _,_,h=>⟨rfl,h⟩
 |.agg cs,c,h=>⟨_,rfl,An cs c h⟩
 |.aK cs,c,h=>⟨_,rfl,An cs c h⟩
 |.any,_,h|.sl _ _,_,h|.lp _ _ _,_,h|.le _ _ _,_,h|.aH _ _ _,_,h|.eD _ _,_,h|.ip _ _,_,h|.fn _ _,_,h|.dq _ _,_,h|.mv _ _,_,h|.mp _ _,_,h|.fy _,_,h=>by cases h
theorem An:∀(ps:List PV) (c:RC),oD ps=true→aC ps c (aZ ps)
 | [],_,_=>rfl
 |p::ps,c,h=>by
  unfold oD at h
  cases hp:pN p with
  |false=>rw[hp]at h;cases h
  |true=>rw[hp]at h;exact⟨_,_,rfl,xX p c hp,An ps c h⟩
end
theorem oS{f:FuncId}{fn:Func}{args:List PV}{r:PV}(hf:Tryz.prog.funcs[f]? = some fn)(hn:(fn.name== "runtime.NumGoroutine")=false)(hb:fn.body.isSome=true)(ha:oD args=true)(hr:pN r=true)
 (h:∀w,Calls Tryz.prog f (aZ args).toArray w fun e w'=>e=.returned (val r)∧Below w.heap.size w w'):PC f args (·=r):=by
 obtain⟨c,hc⟩:=adb.1 hb
 refine⟨enters_of hf hn hc,fun w Z vs _ _ hv=>?_⟩
 rw[qB args ha hv]
 refine(h w).mono ?_
 rintro e w' ⟨rfl,hbl⟩
 exact⟨r,_,rfl,rfl,xX r _ hr,hbl⟩
theorem AF{w w':World}{p:Prop}(h:p∧w=w'):p∧Below w.heap.size w w':=⟨h.1,h.2▸Below.refl _ _⟩
theorem gB.eq{P:Program}{G:World→Prop}{f:FuncId}{args:List PV}{r r':PV}(h:gB P G f args (·=r))(e:r=r'):gB P G f args (·=r'):=e▸h
theorem gB.imp{P:Program}{G:World→Prop}{f:FuncId}{args:List PV}{p q:PV→Prop}(h:gB P G f args p)(hp:∀r,p r→q r):gB P G f args q:=
 ⟨h.1,fun w Z vs hg hz hr=>(h.2 w Z vs hg hz hr).mono fun _ _ ⟨r,v,h1,h2,h3⟩=>⟨r,v,h1,hp r h2,h3⟩⟩
end
end Go.Proofs.YtbnonpbnhenkfaaGreatDoor
section
namespace Go.Proofs.YtbnonpbnhenkfaaGreatDoor
open Go.RowKit
namespace Wi
def add(a b:Nat):Nat×Bool:=if a+b<18446744073709551616 then(a+b,true)else(0,false)
def sub(a b:Nat):Nat×Bool:=if b≤a then(a-b,true)else(0,false)
def mul(a b:Nat):Nat×Bool:=if a*b<18446744073709551616 then(a*b,true)else(0,false)
def two(r:Nat×Bool):Value:=.tuple #[.int .u64 (r.1:Int),.bool r.2]
end Wi
theorem Og(x y:Nat)(w:World):(callFunc 164 #[.int .u64 (x:Int),.int .u64 (y:Int),.int .u64 0]).run Tryz.prog w=
 .ok (.value (.tuple #[.int .u64 (((x:Int)+(y:Int)+0)%18446744073709551616),.int .u64 (((x:Int)+(y:Int)+0) / 18446744073709551616)])) w:=by
 rw[run_callFunc_extern Tryz.func164 (by kernel_rfl) (by kernel_rfl) (by kernel_rfl) (e:=add64Entry) (by kernel_rfl),run_add64 x y 0 (by omega) (by omega) (by omega) (by omega)]
 rfl
theorem S8(x y:Nat)(w:World):(callFunc 237 #[.int .u64 (x:Int),.int .u64 (y:Int),.int .u64 0]).run Tryz.prog w=
 .ok (.value (.tuple #[.int .u64 (((x+18446744073709551616-y-0)%18446744073709551616:Nat):Int),.int .u64 ((if x<y+0 then 1 else 0:Nat):Int)])) w:=by
 rw[run_callFunc_extern Tryz.func237 (by kernel_rfl) (by kernel_rfl) (by kernel_rfl) (e:=Proofs.sub64Entry) (by kernel_rfl)]
 have:=Proofs.run_sub64 (P:=Tryz.prog) x y 0 (by omega) w
 rw[show((0:Nat):Int)=(0:Int)from rfl]at this
 rw[this]
 rfl
theorem Nu(a b:Nat)(w:World)(ha:a<18446744073709551616)(hb:b<18446744073709551616):
 Calls Tryz.prog 89 #[.int .u64 (a:Int),.int .u64 (b:Int)] w fun e w'=>e=.returned (Wi.two (Wi.add a b))∧w=w':=by
 have hrun:=fun w=>Og a b w
 by_cases h:a+b<18446744073709551616
 ·have hr:=Lib.hid (show Wi.add a b=(a+b,true)from abb h)
  rw[show((a:Int)+(b:Int)+0)%18446744073709551616=((a+b:Nat):Int)from by omega,show((a:Int)+(b:Int)+0) / 18446744073709551616=0 from by omega]at hrun
  generalize a+b=c at hrun hr
  clear h ha hb
  go_enter Tryz.func89,Tryz.ntmps89
  go_wp2_with fail
  go_ret2
  exact⟨by rw[hr.out];rfl,rfl⟩
 ·have hr:=Lib.hid (show Wi.add a b=(0,false)from abg h)
  obtain⟨c,hc⟩:∃c:Nat,((a:Int)+(b:Int)+0)%18446744073709551616=(c:Int):=⟨(a+b)%18446744073709551616,by omega⟩
  rw[hc,show((a:Int)+(b:Int)+0) / 18446744073709551616=1 from by omega]at hrun
  clear h ha hb hc
  go_enter Tryz.func89,Tryz.ntmps89
  go_wp2_with fail
  go_ret2
  exact⟨by rw[hr.out];rfl,rfl⟩
theorem PR(a b:Nat)(w:World)(ha:a<18446744073709551616)(hb:b<18446744073709551616):
 Calls Tryz.prog 168 #[.int .u64 (a:Int),.int .u64 (b:Int)] w fun e w'=>e=.returned (Wi.two (Wi.sub a b))∧w=w':=by
 have hrun:=fun w=>S8 a b w
 by_cases h:b≤a
 ·have hr:=Lib.hid (show Wi.sub a b=(a-b,true)from abb h)
  rw[show(a+18446744073709551616-b-0)%18446744073709551616=a-b from by omega,abg (by omega)]at hrun
  rw[show((0:Nat):Int)=(0:Int)from rfl]at hrun
  generalize a-b=c at hrun hr
  clear h ha hb
  go_enter Tryz.func168,Tryz.ntmps168
  go_wp2_with fail
  go_ret2
  exact⟨by rw[hr.out];rfl,rfl⟩
 ·have hr:=Lib.hid (show Wi.sub a b=(0,false)from abg h)
  rw[abb (by omega)]at hrun
  generalize(a+18446744073709551616-b-0)%18446744073709551616=c at hrun
  rw[show((1:Nat):Int)=(1:Int)from rfl]at hrun
  clear h ha hb
  go_enter Tryz.func168,Tryz.ntmps168
  go_wp2_with fail
  go_ret2
  exact⟨by rw[hr.out];rfl,rfl⟩
theorem X3(x y:Nat)(hx:x<18446744073709551616)(hy:y<18446744073709551616)(w:World):
 Calls Tryz.prog 309 #[.int .u64 (x:Int),.int .u64 (y:Int)] w fun e w'=>e=.returned (.tuple #[.int .u64 ((x*y / 18446744073709551616:Nat):Int),.int .u64 ((x*y%18446744073709551616:Nat):Int)])∧w=w':=by
 obtain⟨bd,bt,bw,hhi⟩:=Lib.mul64_hi x y hx hy
 have ba:=Lib.half_mul_le (a:=x / 4294967296) (b:=y / 4294967296) (by omega) (by omega)
 have bb:=Lib.half_mul_le (a:=x / 4294967296) (b:=y%4294967296) (by omega) (by omega)
 have bc:=Lib.half_mul_le (a:=x%4294967296) (b:=y / 4294967296) (by omega) (by omega)
 have ba':x / 4294967296*(y / 4294967296)<18446744073709551616:=by omega
 have bb':x / 4294967296*(y%4294967296)<18446744073709551616:=by omega
 have bc':x%4294967296*(y / 4294967296)<18446744073709551616:=by omega
 have bh1:x / 4294967296*(y / 4294967296)+(x / 4294967296*(y%4294967296)+x%4294967296*(y%4294967296) / 4294967296) / 4294967296<18446744073709551616:=by omega
 have bh:x / 4294967296*(y / 4294967296)+(x / 4294967296*(y%4294967296)+x%4294967296*(y%4294967296) / 4294967296) / 4294967296+((x / 4294967296*(y%4294967296)+x%4294967296*(y%4294967296) / 4294967296)%4294967296+x%4294967296*(y / 4294967296)) / 4294967296<18446744073709551616:=by omega
 go_enter Tryz.func309,Tryz.ntmps309
 go_wp2
 simp only[Mul64.maskN x hx,Mul64.maskN y hy,Mul64.divN,Mul64.mulN,Mul64.addN,Mul64.wrapN _ bd,Mul64.wrapN _ bb',Mul64.wrapN _ bt,Mul64.maskN _ bt,Mul64.wrapN _ bc',Mul64.wrapN _ bw,Mul64.wrapN _ ba',Mul64.wrapN _ bh1,Mul64.wrapN _ bh,Mul64.wrapM (x*y)]
 rw[hhi]
 go_ret2
 exact⟨rfl,rfl⟩
theorem TL(a b:Nat)(w:World)(ha:a<18446744073709551616)(hb:b<18446744073709551616):
 Calls Tryz.prog 260 #[.int .u64 (a:Int),.int .u64 (b:Int)] w fun e w'=>e=.returned (Wi.two (Wi.mul a b))∧w=w':=by
 have hrun:=fun w=>X3 a b ha hb w
 by_cases h:a*b<18446744073709551616
 ·have hr:=Lib.hid (show Wi.mul a b=(a*b,true)from abb h)
  rw[Nat.div_eq_of_lt h,aco h]at hrun
  rw[show((0:Nat):Int)=(0:Int)from rfl]at hrun
  generalize a*b=c at hrun hr
  have HRUN:=Lib.hid hrun
  clear h ha hb hrun
  go_enter Tryz.func260,Tryz.ntmps260
  go_wp2_with fail
  refine(HRUN.out _).mono ?_
  rintro e w1 ⟨rfl,rfl⟩
  go_wp2_with fail
  go_ret2
  exact⟨by rw[hr.out];rfl,rfl⟩
 ·have hr:=Lib.hid (show Wi.mul a b=(0,false)from abg h)
  have hq:1≤a*b / 18446744073709551616:=by
   rw[Nat.le_div_iff_mul_le (by decide)];omega
  generalize a*b / 18446744073709551616=q at hrun hq
  generalize a*b%18446744073709551616=c at hrun
  have hq0:¬((q:Int)=0):=by omega
  have HRUN:=Lib.hid hrun
  clear h ha hb hrun hq
  go_enter Tryz.func260,Tryz.ntmps260
  go_wp2_with fail
  refine(HRUN.out _).mono ?_
  rintro e w1 ⟨rfl,rfl⟩
  have hq1:((q:Int) != 0)=true:=by simpa using hq0
  go_wp2_with fail
  go_ret2
  exact⟨by rw[hr.out];rfl,rfl⟩
end Go.Proofs.YtbnonpbnhenkfaaGreatDoor
end
namespace Go.Proofs.YtbnonpbnhenkfaaGreatDoor
section
open Go.RowKit
abbrev pu(n:UInt64):PV:=.at (.int .u64 (n.toNat:Nat))
theorem oz(n:UInt64):n.toNat<18446744073709551616:=n.toNat_lt
theorem mG{x:Nat}(h:x<18446744073709551616):(UInt64.ofNat x).toNat=x:=by rw[UInt64.toNat_ofNat'];omega
def xe(a b:UInt64):UInt64×Bool:=if a.toNat+b.toNat<18446744073709551616 then(UInt64.ofNat (a.toNat+b.toNat),true)else(0,false)
def uS(a b:UInt64):UInt64×Bool:=if b.toNat≤a.toNat then(UInt64.ofNat (a.toNat-b.toNat),true)else(0,false)
def uy(a b:UInt64):UInt64×Bool:=if a.toNat*b.toNat<18446744073709551616 then(UInt64.ofNat (a.toNat*b.toNat),true)else(0,false)
abbrev u2(r:UInt64×Bool):PV:=.aK [pu r.1,bo r.2]
theorem VQ(a b:UInt64):PC 89 [pu a,pu b] (·=u2 (xe a b)):=by
 refine oS Tryz.func89 rfl rfl rfl rfl fun w=>(Nu a.toNat b.toNat w (oz a) (oz b)).mono fun e w' h=>⟨?_,(AF h).2⟩
 rw[h.1];unfold Wi.add xe;split
 ·rename_i hlt;show Ending.returned (.tuple #[.int .u64 (_:Nat),_])=.returned (.tuple #[.int .u64 (_:Nat),_]);rw[mG hlt];rfl
 ·rfl
theorem Ua(a b:UInt64):PC 168 [pu a,pu b] (·=u2 (uS a b)):=by
 refine oS Tryz.func168 rfl rfl rfl rfl fun w=>(PR a.toNat b.toNat w (oz a) (oz b)).mono fun e w' h=>⟨?_,(AF h).2⟩
 rw[h.1];unfold Wi.sub uS;split
 ·show Ending.returned (.tuple #[.int .u64 (_:Nat),_])=.returned (.tuple #[.int .u64 (_:Nat),_]);rw[mG (by have:=oz a;omega)];rfl
 ·rfl
theorem Mj(a b:UInt64):PC 260 [pu a,pu b] (·=u2 (uy a b)):=by
 refine oS Tryz.func260 rfl rfl rfl rfl fun w=>(TL a.toNat b.toNat w (oz a) (oz b)).mono fun e w' h=>⟨?_,(AF h).2⟩
 rw[h.1];unfold Wi.mul uy;split
 ·rename_i hlt;show Ending.returned (.tuple #[.int .u64 (_:Nat),_])=.returned (.tuple #[.int .u64 (_:Nat),_]);rw[mG hlt];rfl
 ·rfl
structure V4 where
 a:UInt64
 b:UInt64
 c:UInt64
 d:UInt64
abbrev V4.cells(v:V4):List PV:=[pu v.a,pu v.b,pu v.c,pu v.d]
abbrev V4.pv(v:V4):PV:=.agg v.cells
def V4.z:V4:=⟨0,0,0,0⟩
def V4.both(f:UInt64→UInt64→UInt64×Bool)(x y:V4):V4×Bool:=
 match f x.a y.a with
 |(_,false)=>(.z,false)
 |(a,true)=>match f x.b y.b with
  |(_,false)=>(.z,false)
  |(b,true)=>match f x.c y.c with
   |(_,false)=>(.z,false)
   |(c,true)=>match f x.d y.d with
    |(_,false)=>(.z,false)
    |(d,true)=>(⟨a,b,c,d⟩,true)
abbrev v2(r:V4×Bool):PV:=.aK [r.1.pv,bo r.2]
theorem x9{g:Nat}{cs:List PV}(hc:cs=[]∨∃l,cs=[.ip l 0])(f:UInt64→UInt64→UInt64×Bool)(x y:V4)(h:∀a b,PC g ([pu a,pu b]++cs) (·=u2 (f a b))):PC 88 [x.pv,y.pv,.fn g cs] (·=v2 (V4.both f x y)):=by
 rcases hc with rfl|⟨l,rfl⟩<;>
 ·refine al Tryz.func88<|cv.roll 5 ?_;unfold V4.both;refine ae.t (by decide)<|ah<|cj<|cj<|af (h x.a y.a) rfl ?_;rcases f x.a y.a with⟨a,_|_⟩
  ·exact ah<|ab
  refine aa<|cj<|da 1<|ae.t (by decide)<|ah<|cj<|cj<|af (h x.b y.b) rfl ?_;rcases f x.b y.b with⟨b,_|_⟩
  ·exact ah<|ab
  refine aa<|cj<|da 2<|ae.t (by decide)<|ah<|cj<|cj<|af (h x.c y.c) rfl ?_;rcases f x.c y.c with⟨c,_|_⟩
  ·exact ah<|ab
  refine aa<|cj<|da 3<|ae.t (by decide)<|ah<|cj<|cj<|af (h x.d y.d) rfl ?_;rcases f x.d y.d with⟨d,_|_⟩
  ·exact ah<|ab
  exact aa<|cj<|da 4<|ae.f (by decide)<|aa<|ab
def V4.add(x y:V4):V4×Bool:=V4.both xe x y
def V4.sub(x y:V4):V4×Bool:=V4.both uS x y
def V4.times(x:V4)(n:UInt64):V4×Bool:=V4.both (fun x _=>uy x n) x .z
def V4.fits(x y:V4):Bool:=(y.sub x).2
theorem qK(x y:V4):PC 36 [x.pv,y.pv] (·=v2 (x.add y)):=al Tryz.func36<|af (x9 (.inl rfl) xe x y VQ) rfl<|ab
theorem vA(x y:V4):PC 93 [x.pv,y.pv] (·=v2 (x.sub y)):=al Tryz.func93<|af (x9 (.inl rfl) uS x y Ua) rfl<|ab
theorem WV(a b n:UInt64):PC 259 [pu a,pu b,.ip [pu n] 0] (·=u2 (uy a n)):=al Tryz.func259<|af (Mj a n) rfl<|ab
theorem Nq(x:V4)(n:UInt64):PC 199 [x.pv,pu n] (·=v2 (x.times n)):=al Tryz.func199<|af (x9 (.inr ⟨_,rfl⟩) (fun x _=>uy x n) x .z (fun a b=>WV a b n)) rfl<|ab
theorem rI(x y:V4):PC 38 [x.pv,y.pv] (·=bo (x.fits y)):=al Tryz.func38<|af (vA y x) rfl<|ab
abbrev BA:=ByteArray
abbrev sl{α:Type}(f:α→PV)(l:List α):PV:=.sl false (l.map f)
structure bM where
 k:BA
 v:BA
def bM.pv(p:bM):PV:=.agg [st p.k,st p.v]
structure Term where
 key:BA
 no:Bool
 aZ:List BA
def Term.pv(t:Term):PV:=.agg [st t.key,bo t.no,sl st t.aZ]
structure Spec where
 path:BA
 cy:V4
 count:Int
 prio:Int
 cN:Int
 cR:List Term
abbrev Spec.cells(x:Spec):List PV:=[st x.path,pu x.cy.a,pu x.cy.b,pu x.cy.c,pu x.cy.d,i64 x.count,i64 x.prio,i64 x.cN,sl Term.pv x.cR]
def Spec.pv(x:Spec):PV:=.agg x.cells
structure aD where
 path:BA
 bu:V4
 used:V4
def aD.pv(e:aD):PV:=.agg [st e.path,pu e.bu.a,pu e.bu.b,pu e.bu.c,pu e.bu.d,pu e.used.a,pu e.used.b,pu e.used.c,pu e.used.d]
structure Node where
 name:BA
 cap:V4
 labels:List bM
 up:Bool
def Node.pv(n:Node):PV:=.agg [st n.name,pu n.cap.a,pu n.cap.b,pu n.cap.c,pu n.cap.d,sl bM.pv n.labels,bo n.up]
structure Place where
 aM:UInt64
 node:BA
 v:V4
def Place.pv(x:Place):PV:=.agg [pu x.aM,st x.node,pu x.v.a,pu x.v.b,pu x.v.c,pu x.v.d]
structure aW where
 nodes:List Node
 places:List Place
def aW.pv(p:aW):PV:=.agg [sl Node.pv p.nodes,sl Place.pv p.places]
structure Slot where
 node:BA
 free:V4
 labels:List bM
def Slot.pv(s:Slot):PV:=.agg [st s.node,pu s.free.a,pu s.free.b,pu s.free.c,pu s.free.d,sl bM.pv s.labels]
structure QE where
 id:UInt64
 prio:Int
def QE.pv(e:QE):PV:=.agg [pu e.id,i64 e.prio]
structure az where
 id:UInt64
 x:Spec
 runs:Bool
 left:Int
def az.pv(j:az):PV:=.agg [pu j.id,st j.x.path,pu j.x.cy.a,pu j.x.cy.b,pu j.x.cy.c,pu j.x.cy.d,i64 j.x.count,i64 j.x.prio,i64 j.x.cN,sl Term.pv j.x.cR,bo j.runs,i64 j.left]
structure cK where
 round:UInt64
 id:UInt64
 kind:Int
def cK.pv(n:cK):PV:=.agg [pu n.round,pu n.id,i64 n.kind]
structure Stream where
 first:UInt64
 l:List cK
def Stream.pv(x:Stream):PV:=.agg [pu x.first,sl cK.pv x.l]
structure State where
 round:UInt64
 next:UInt64
 pool:aW
 tree:List aD
 aj:List az
 queue:List QE
 events:Stream
 cJ:Stream
abbrev State.cells(s:State):List PV:=[pu s.round,pu s.next,sl Node.pv s.pool.nodes,sl Place.pv s.pool.places,sl aD.pv s.tree,sl az.pv s.aj,sl QE.pv s.queue,pu s.events.first,sl cK.pv s.events.l,pu s.cJ.first,sl cK.pv s.cJ.l]
def State.pv(s:State):PV:=.agg s.cells
structure aw where
 kind:Int
 id:UInt64
 n:UInt64
 path:BA
 v:V4
 x:Spec
 labels:List bM
def aw.pv(o:aw):PV:=.agg [i64 o.kind,pu o.id,pu o.n,st o.path,pu o.v.a,pu o.v.b,pu o.v.c,pu o.v.d,st o.x.path,pu o.x.cy.a,pu o.x.cy.b,pu o.x.cy.c,pu o.x.cy.d,i64 o.x.count,i64 o.x.prio,i64 o.x.cN,sl Term.pv o.x.cR,sl bM.pv o.labels]
structure aP where
 e:Int
 id:UInt64
 n:UInt64
 state:Int
 v:V4
 u:V4
 nodes:List BA
 notes:List cK
def aP.pv(a:aP):PV:=.agg [i64 a.e,pu a.id,pu a.n,i64 a.state,pu a.v.a,pu a.v.b,pu a.v.c,pu a.v.d,pu a.u.a,pu a.u.b,pu a.u.c,pu a.u.d,sl st a.nodes,sl cK.pv a.notes]
structure Lay{α:Type}(f:α→PV)(k:Nat):Prop where
 size:∀x,(f x).cells.length=k∧PV.ke (f x).cells=true
 aO:∀x,(f x).aO=true
 br:∀x n hp,br [] (n+40) hp (f x)=some (f x,[])
theorem Lay.rows{α:Type}{f:α→PV}{k:Nat}(h:Lay f k)(l:List α):lj (l.map f) k:=Yn h.size l
theorem Lay.bP{α:Type}{f:α→PV}{k:Nat}(h:Lay f k)(l:List α):cE (l.map f):=Iq h.aO l
theorem ef:Lay st 1:=⟨fun _=>⟨rfl,rfl⟩,fun _=>rfl,fun _ _ _=>rfl⟩
theorem gw:Lay (fun n:UInt64=>pu n) 1:=⟨fun _=>⟨rfl,rfl⟩,fun _=>rfl,fun _ _ _=>rfl⟩
theorem tT:Lay bM.pv 2:=⟨fun _=>⟨rfl,rfl⟩,fun _=>rfl,fun _ _ _=>rfl⟩
theorem pb:Lay Term.pv 3:=⟨fun _=>⟨rfl,rfl⟩,fun _=>rfl,fun _ _ _=>rfl⟩
theorem gO:Lay aD.pv 9:=⟨fun _=>⟨rfl,rfl⟩,fun _=>rfl,fun _ _ _=>rfl⟩
theorem qN:Lay Node.pv 7:=⟨fun _=>⟨rfl,rfl⟩,fun _=>rfl,fun _ _ _=>rfl⟩
theorem nC:Lay Place.pv 6:=⟨fun _=>⟨rfl,rfl⟩,fun _=>rfl,fun _ _ _=>rfl⟩
theorem kV:Lay Slot.pv 6:=⟨fun _=>⟨rfl,rfl⟩,fun _=>rfl,fun _ _ _=>rfl⟩
theorem mq:Lay QE.pv 2:=⟨fun _=>⟨rfl,rfl⟩,fun _=>rfl,fun _ _ _=>rfl⟩
theorem gv:Lay az.pv 12:=⟨fun _=>⟨rfl,rfl⟩,fun _=>rfl,fun _ _ _=>rfl⟩
theorem nz:Lay cK.pv 3:=⟨fun _=>⟨rfl,rfl⟩,fun _=>rfl,fun _ _ _=>rfl⟩
structure gQ{α:Type}(f:α→PV)(k e:Nat):Prop where
 L:Lay f k
abbrev gQ.pv{α:Type}{f:α→PV}{k e:Nat}(_:gQ f k e):α→PV:=f
abbrev gQ.k{α:Type}{f:α→PV}{k e:Nat}(_:gQ f k e):Nat:=k
abbrev gQ.e{α:Type}{f:α→PV}{k e:Nat}(_:gQ f k e):Nat:=e
abbrev cA(cs:List PV):Prop:=cs=[]∨(∃a,cs=[.ip a 0])∨∃a b,cs=[.ip a 0,.ip b 0]
theorem cA.no:cA []:=.inl rfl
theorem cA.one{a:List PV}:cA [.ip a 0]:=.inr (.inl ⟨a,rfl⟩)
theorem cA.two{a b:List PV}:cA [.ip a 0,.ip b 0]:=.inr (.inr ⟨a,b,rfl⟩)
theorem pe{α:Type}(p:α→Bool):∀(l:List α) (i:Nat),decide ((0:Int)≤idx p l i)=l.any p
 | [],i=>rfl
 |x::l,i=>by
  unfold idx
  rw[List.any_cons]
  cases p x with
  |true=>exact aaB (abE i)
  |false=>exact pe p l (i+1)
abbrev eX(F:FuncId){α:Type}(f:α→PV)(k e:Nat):Prop:=∀{g:Nat} {cs:List PV} (hc:cA cs) (l:List α) (p:α→Bool) (hl:l.length≤67108864) (hp:∀x∈l,PC g (f x::cs) (·=bo (p x))),PC F [.sl false (l.map f),.fn g cs] (·=i64 (idx p l 0))
theorem eX.mk'{F:FuncId}{fn:Func}{α:Type}{f:α→PV}{k e:Nat}(Q:gQ f k e)(hF:Tryz.prog.funcs[F]? = some fn)
 (h:gQ f k e→Tryz.prog.funcs[F]? = some fn→eX F f k e:=by
   intro Q hF g cs hc l p hl hp
   rcases hc with rfl|⟨a,rfl⟩|⟨a,b,rfl⟩<;>
   ·refine al hF<|cW l.length ⟨fun _=>[],[0,1,7],fun _=>[],[]⟩ (fun q=>idx p l 0=idx p (l.drop q) q) rfl ?_ (fun q hq hj=>?_) (fun hj=>?_)
    ·exact bC
    ·obtain⟨x,hx⟩:∃x,l[q]? = some x:=⟨_,aay hq⟩
     have hd:=qa p hx
     refine bx hx<|af (hp x (aau hx)) rfl ?_
     cases hpx:p x with
     |true=>
      rw[hpx]at hd
      refine ah ?_
      rw[hj,hd]
      exact ab
     |false=>
      rw[hpx]at hd
      exact aa<|bA.is id (hj.trans hd) rfl<|bC
    ·rw[hj,aaR (aas _)]
     exact ab):eX F f k e:=h Q hF
theorem vP:eX 114 az.pv 12 90:=eX.mk' (e:=90) ⟨gv⟩ Tryz.func114
theorem yZ:eX 131 aD.pv 9 130:=eX.mk' (e:=130) ⟨gO⟩ Tryz.func131
theorem Q1:eX 172 aD.pv 9 130:=eX.mk' (e:=130) ⟨gO⟩ Tryz.func172
theorem Oc:eX 165 Term.pv 3 183:=eX.mk' (e:=183) ⟨pb⟩ Tryz.func165
theorem Vh:eX 235 bM.pv 2 160:=eX.mk' (e:=160) ⟨tT⟩ Tryz.func235
theorem I7:eX 188 Node.pv 7 124:=eX.mk' (e:=124) ⟨qN⟩ Tryz.func188
theorem G3:eX 190 Place.pv 6 99:=eX.mk' (e:=99) ⟨nC⟩ Tryz.func190
theorem NS:eX 351 Slot.pv 6 351:=eX.mk' (e:=351) ⟨kV⟩ Tryz.func351
theorem Oy:eX 192 QE.pv 2 137:=eX.mk' (e:=137) ⟨mq⟩ Tryz.func192
theorem RU:eX 258 st 1 9:=eX.mk' (e:=9) ⟨ef⟩ Tryz.func258
abbrev mf(F:FuncId){α:Type}(f:α→PV)(k e:Nat):Prop:=∀{g:Nat} {cs:List PV} (hc:cA cs) (l:List α) (p:α→Bool) (hl:l.length≤67108864) (hp:∀x∈l,PC g (f x::cs) (·=bo (p x))),PC F [.sl false (l.map f),.fn g cs] (·=bo (l.any p))
theorem mf.mk'{F F0:FuncId}{fn:Func}{α:Type}{f:α→PV}{k e:Nat}(Q:gQ f k e)(hF:Tryz.prog.funcs[F]? = some fn)(h0:eX F0 f k e)
 (h:gQ f k e→Tryz.prog.funcs[F]? = some fn→(eX F0 f k e)→mf F f k e:=by
   intro Q hF hI g cs hc l p hl hp
   have h:=hI hc l p hl hp
   rcases hc with rfl|⟨a,rfl⟩|⟨a,b,rfl⟩<;>
   ·exact al hF<|a_.is h<|ae.is (l.any p) (pe p l 0)<|ab):mf F f k e:=h Q hF h0
theorem Lk:mf 57 aD.pv 9 130:=mf.mk' (e:=130) ⟨gO⟩ Tryz.func57 yZ
theorem Ld:mf 90 Term.pv 3 183:=mf.mk' (e:=183) ⟨pb⟩ Tryz.func90 Oc
theorem Tu:mf 120 Place.pv 6 99:=mf.mk' (e:=99) ⟨nC⟩ Tryz.func120 G3
theorem zu:mf 196 st 1 9:=mf.mk' (e:=9) ⟨ef⟩ Tryz.func196 RU
abbrev gH(F:FuncId){α:Type}(f:α→PV)(k e:Nat):Prop:=∀(l:List α) (hl:l.length≤67108864) (nx:Nat),LC F [.sl false (l.map f)] [] nx fun r d=>r=.aH nx 0 l.length∧d=[(nx,some (.rows k (l.map f) true none e))]
theorem gH.mk'{F:FuncId}{fn:Func}{α:Type}{f:α→PV}{k e:Nat}(Q:gQ f k e)(hF:Tryz.prog.funcs[F]? = some fn)
 (h:gQ f k e→Tryz.prog.funcs[F]? = some fn→gH F f k e:=by
   intro Q hF l hl nx
   refine eK (js:=[]) (bs:=[]) (args:=[.sl false (l.map Q.pv)]) hF rfl rfl rfl rfl trivial rfl<|qq.all fun b hb=>?_
   refine ae.two (fun h=>?_) (fun h=>?_)
   ·have hl0:l=[]:=abu (by simpa using hb h)
    subst hl0
    refine ah<|nP.mk ⟨[(2,Q.k,Q.e)],⟨rfl,trivial⟩,?_⟩
    exact HJ (4,nx) rfl rfl (Q.L.bP [])<|ar rfl
   ·refine aa<|ak.mk ⟨⟨by simpa using hl,fun _ h=>(by cases h),Q.L.rows l⟩,fun _=>rfl⟩ ?_
    refine du<|dW.mk ⟨[(5,nx)],200,_,_,rfl,rfl,rfl,⟨dz.mk ⟨_,rfl,Q.L.bP l,.inl rfl⟩,trivial⟩,?_,rfl⟩
    simp[fI,PV.wk,PV.rn,kJ,lk]):gH F f k e:=h Q hF
theorem Dm:gH 47 (fun n:UInt64=>pu n) 1 30:=gH.mk' ⟨gw⟩ Tryz.func47
theorem q_:gH 105 az.pv 12 90:=gH.mk' ⟨gv⟩ Tryz.func105
theorem sa:gH 177 aD.pv 9 130:=gH.mk' ⟨gO⟩ Tryz.func177
theorem MK:gH 246 aD.pv 9 130:=gH.mk' ⟨gO⟩ Tryz.func246
theorem Wj:gH 250 QE.pv 2 137:=gH.mk' ⟨mq⟩ Tryz.func250
theorem Vd:gH 297 Slot.pv 6 351:=gH.mk' ⟨kV⟩ Tryz.func297
theorem Gu:gH 354 Place.pv 6 99:=gH.mk' ⟨nC⟩ Tryz.func354
theorem yp:gH 394 Node.pv 7 124:=gH.mk' ⟨qN⟩ Tryz.func394
theorem sub_eq{α:Type}:∀(l:List α) (lo n:Nat),PV.sub l lo n=(l.drop lo).take n
 |l,lo,0=>by cases l<;>rfl
 | [],lo,n+1=>by simp[PV.sub]
 |a::l,0,n+1=>by rw[acO,abV];show a::PV.sub l 0 n=_;rw[sub_eq l 0 n,acO]
 |a::l,lo+1,n+1=>by rw[ady,← sub_eq l lo (n+1)];rfl
theorem r_{rs:List PV}{k:Nat}(h:lj rs k)(lo n:Nat):lj (PV.sub rs lo n) k:=fun r hr=>by
 rw[sub_eq]at hr
 exact h r (aby (aaV hr))
theorem vm{rs ns:List PV}{lo:Nat}(h:lo+ns.length≤rs.length):(dr rs lo ns).length=rs.length:=by
 unfold dr;simp only[aap,aax,aaO];omega
theorem JK{α:Type}{l:List α}{lo n:Nat}(h:lo+n≤l.length):(PV.sub l lo n).length=n:=by rw[sub_eq,aax,aaO];omega
theorem Nj{α:Type}(f:α→PV)(l:List α)(i:Nat)(z:PV)(hi:i<l.length):dr (dr (l.map f) i (PV.sub (l.map f) (i+1) (l.length-(i+1)))) (l.length-1) [z]=(l.eraseIdx i).map f++[z]:=by
 have hr:(l.map f).length=l.length:=aao ..;have h1:dr (l.map f) i (PV.sub (l.map f) (i+1) (l.length-(i+1)))=(l.map f).take i++(l.map f).drop (i+1)++(l.map f).drop (l.length-1):=by
  unfold dr;rw[JK (by omega),sub_eq,aaQ (l:=List.drop _ _) (by rw[aaO];omega)];congr 2;omega
 rw[h1];unfold dr;have h2:((l.map f).take i++(l.map f).drop (i+1)).length=l.length-1:=by
  simp only[aap,aax,aaO];omega
 have h3:(l.eraseIdx i).map f=(l.map f).take i++(l.map f).drop (i+1):=by rw[acH,aaC,acB,adr]
 rw[h3];generalize(l.map f).take i++(l.map f).drop (i+1)=A at h2;rw[abP (by omega),aaQ (l:=A) (by omega),acy (by rw[aap,h2,aaO,aaL,abQ];omega),abe]
abbrev qe(F:FuncId){α:Type}(f:α→PV)(k e:Nat):Prop:=∀(l:List α) (i:Nat) (hi:i<l.length) (hl:l.length≤67108864) (j nx:Nat) (hne:Nat.beq nx j=false),LC F [.aH j 0 l.length,i64 i,i64 (i+1:Nat)] [(j,.rows k (l.map f) true none e)] nx fun r d=>r=.aH nx 0 (l.length-1)∧d=[(nx,some (.rows k ((l.eraseIdx i).map f++[gm e]) true none e)),(j,none)]
theorem qe.mk'{F:FuncId}{fn:Func}{α:Type}{f:α→PV}{k e:Nat}(Q:gQ f k e)(hF:Tryz.prog.funcs[F]? = some fn)
 (h:gQ f k e→Tryz.prog.funcs[F]? = some fn→qe F f k e:=by
   intro Q hF l i hi hl j nx hne
   refine eK (js:=[j]) (bs:=[.rows Q.k (l.map Q.pv) true none Q.e]) (args:=[.aH 0 0 l.length,i64 i,i64 (i+1:Nat)]) hF rfl rfl ?_ rfl ⟨⟨rfl,Q.L.bP l⟩,trivial⟩ rfl ?_
   ·unfold cf;rw[hne];rfl
   refine ak.mk ⟨by omega,by omega,by omega,by omega⟩ ?_
   refine ae.f (by omega)<|aa<|ak.mk ⟨by omega,by omega⟩ ?_
   have e2:(l.map Q.pv).length=l.length:=aao ..
   have e3:=JK (l:=l.map Q.pv) (lo:=i+1) (n:=l.length-(i+1)) (by omega)
   have e4:=(vm (rs:=l.map Q.pv) (ns:=PV.sub (l.map Q.pv) (i+1) (l.length-(i+1))) (lo:=i) (by omega)).trans e2
   have e5:=Nj Q.pv l i (gm Q.e) hi
   have e6:l.length-(l.length-1)=1:=by omega
   have fin:cE ((l.eraseIdx i).map Q.pv++[gm Q.e]):=by
    intro r hr
    rcases aaN.1 hr with hr|hr
    ·exact Q.L.bP _ r hr
    ·rw[aaD.1 hr];rfl
   have e7:∀m,m=l.length-1→dr (dr (l.map Q.pv) i (PV.sub (l.map Q.pv) (i+1) (l.length-(i+1)))) (0+m) (List.replicate (l.length-m) (gm Q.e))=(l.eraseIdx i).map Q.pv++[gm Q.e]:=by
    rintro m rfl
    rw[e6,aav];exact e5
   by_cases h1:i=0
   ·subst h1
    refine db.r<|ak.mk ⟨rfl,hi⟩<|ak.mk ⟨by omega,by omega⟩ ?_
    refine ak.mk ⟨.inl rfl,by omega,by omega⟩ ?_
    refine ak.mk (r_ (Q.L.rows l) _ _) ?_
    by_cases h0:l.length=1
    ·refine db.r<|oG<|ar<|cj<|ak.mk ⟨by omega,by omega,abS.2 (abF e4.symm)⟩ ?_
     refine ak.mk ?_ ?_
     ·show 0+0+(l.length-0)≤_
      exact abF (by rw[aav,aav,ado];exact e4.symm)
     refine du<|dW.mk ⟨[(0,nx)],200,_,_,rfl,rfl,rfl,⟨dz.mk ⟨_,rfl,?_,.inl rfl⟩,trivial⟩,?_,?_⟩
     ·exact(e7 0 (by omega)).symm▸fin
     ·show PV.aH nx (0+0) (0-0)=_
      rw[h0]
     ·exact congrArg (fun x=>[(nx,some (aA.rows Q.k x true none _)),(j,none)]) (e7 0 (by omega))
    ·refine db.l<|ar<|db.r<|ak.mk ⟨?_,by decide⟩ ?_
     ·show 0<0+(l.length-1);omega
     refine ak.mk ⟨abE _,?_,abS.2 (abF e4.symm)⟩ ?_
     ·show((0+(l.length-1):Nat):Int)≤l.length;omega
     refine ak.mk ?_ ?_
     ·show 0+(0+(l.length-1))+(l.length-(0+(l.length-1)))≤_
      refine abF (Eq.trans ?_ e4.symm)
      omega
     refine du<|dW.mk ⟨[(0,nx)],200,_,_,rfl,rfl,rfl,⟨dz.mk ⟨_,rfl,?_,.inl rfl⟩,trivial⟩,?_,?_⟩
     ·exact(e7 (0+(l.length-1)) (by omega)).symm▸fin
     ·show PV.aH nx 0 (0+(l.length-1))=_
      rw[aav]
     ·exact congrArg (fun x=>[(nx,some (aA.rows Q.k x true none _)),(j,none)]) (e7 (0+(l.length-1)) (by omega))
   ·refine db.l<|ak.mk ⟨by omega,by omega⟩ ?_
    refine ak.mk ⟨.inr (Nat.pos_of_ne_zero h1),?_,?_⟩ ?_
    ·show 0+i+(l.length-(i+1))≤_;omega
    ·show 0+(i+1)+(l.length-(i+1))≤_;omega
    refine ak.mk (r_ (Q.L.rows l) _ _)<|db.l<|ar<|db.r<|ak.mk ⟨?_,by decide⟩ ?_
    ·show 0<i+(l.length-(i+1));omega
    have e8:dr (l.map Q.pv) (0+i) (PV.sub (l.map Q.pv) (0+(i+1)) (l.length-(i+1)))=dr (l.map Q.pv) i (PV.sub (l.map Q.pv) (i+1) (l.length-(i+1))):=by rw[aav,aav]
    have e9:=(congrArg List.length e8).trans e4
    refine ak.mk ⟨abE _,?_,abS.2 (abF e9.symm)⟩ ?_
    ·show((i+(l.length-(i+1)):Nat):Int)≤l.length;omega
    refine ak.mk ?_ ?_
    ·show 0+(i+(l.length-(i+1)))+(l.length-(i+(l.length-(i+1))))≤_
     refine abF (Eq.trans ?_ e9.symm)
     omega
    have e10:dr (dr (l.map Q.pv) (0+i) (PV.sub (l.map Q.pv) (0+(i+1)) (l.length-(i+1)))) (0+(i+(l.length-(i+1)))) (List.replicate (l.length-(i+(l.length-(i+1)))) (gm Q.e))=(l.eraseIdx i).map Q.pv++[gm Q.e]:=by
     rw[e8];exact e7 _ (by omega)
    refine du<|dW.mk ⟨[(0,nx)],200,_,_,rfl,rfl,rfl,⟨dz.mk ⟨_,rfl,?_,.inl rfl⟩,trivial⟩,?_,?_⟩
    ·exact e10.symm▸fin
    ·show PV.aH nx 0 (i+(l.length-(i+1)))=_
     congr 1;omega
    ·exact congrArg (fun x=>[(nx,some (aA.rows Q.k x true none _)),(j,none)]) e10):qe F f k e:=h Q hF
theorem Hz:qe 389 az.pv 12 90:=qe.mk' ⟨gv⟩ Tryz.func389
theorem VS:qe 48 (fun n:UInt64=>pu n) 1 30:=qe.mk' ⟨gw⟩ Tryz.func48
theorem G4{α:Type}(p:α→Bool):∀(l:List α) (i:Nat),idx p l i=-1→l.filter (fun x=>!p x)=l
 | [],_,_=>rfl
 |x::l,i,h=>by
  unfold idx at h
  cases hp:p x with
  |true=>rw[hp]at h;dsimp only at h;omega
  |false=>rw[hp]at h;rw[List.filter_cons_of_pos (by rw[hp];rfl),G4 p l (i+1) h]
theorem DJ{α:Type}(p:α→Bool):∀(l:List α) (i:Nat),idx p l i≠-1→∃m,idx p l i=((i+m:Nat):Int)∧m<l.length∧(l.take (m+1)).filter (fun x=>!p x)=l.take m
 | [],_,h=>(h rfl).elim
 |x::l,i,h=>by
  unfold idx at h⊢
  cases hp:p x with
  |true=>exact⟨0,rfl,adN _,by rw[abV,List.filter_cons_of_neg (by rw[hp];decide)];rfl⟩
  |false=>
   rw[hp]at h
   obtain⟨m,h1,h2,h3⟩:=DJ p l (i+1) h
   refine⟨m+1,?_,ada h2,?_⟩
   ·show idx p l (i+1:Nat)=_
    rw[h1];congr 1;omega
   ·rw[abV,List.filter_cons_of_pos (by rw[hp];rfl),h3,abV]
theorem mg{α:Type}(f:α→PV):∀(l:List α) (i:Nat) (x:α),PV.c9 (l.map f) i (f x)=(l.set i x).map f
 | [],i,_=>by cases i<;>rfl
 |a::l,0,x=>rfl
 |a::l,i+1,x=>congrArg (f a::·) (mg f l i x)
structure j6{α:Type}(p:α→Bool)(l:List α) where
 i:Nat
 q:Nat
 L:List α
 hq:q≤l.length
 hi:i<q
 len:L.length=l.length
 left:L.take i=(l.take q).filter fun x=>!p x
 right:L.drop q=l.drop q
theorem j6.at{α:Type}{p:α→Bool}{l:List α}(s:j6 p l)(h:s.q<l.length):∃x,l[s.q]? = some x∧s.L[s.q]? = some x:=by
 refine⟨l[s.q],aay h,?_⟩;have:(s.L.drop s.q)[0]? = (l.drop s.q)[0]?:=by rw[s.right]
 rw[abH,abH,abM]at this;rw[this];exact aay h
def j6.no{α:Type}{p:α→Bool}{l:List α}(s:j6 p l){x:α}(hx:l[s.q]? = some x)(hp:p x=true):j6 p l:=
 ⟨s.i,s.q+1,s.L,(aaq.1 hx).1,Nat.lt_succ_of_lt s.hi,s.len,by
  rw[adK,hx,acv,s.left]
  simp[hp],by
  have:=congrArg (List.drop 1) s.right
  rwa [adn,adn]at this⟩
def j6.yes{α:Type}{p:α→Bool}{l:List α}(s:j6 p l){x:α}(hx:l[s.q]? = some x)(hp:p x=false):j6 p l:=
 ⟨s.i+1,s.q+1,s.L.set s.i x,(aaq.1 hx).1,ada s.hi,by rw[aaY];exact s.len,by
  have hlt:s.i<s.L.length:=by have:=s.hq;have:=s.hi;have:=s.len;omega
  rw[adK,adK,hx,acv,← s.left,List.take_set_of_le (aas _)]
  simp[hp,hlt],by
  have:=congrArg (List.drop 1) s.right
  rw[adn,adn]at this
  rw[List.drop_set_of_lt (by have:=s.hi;omega)]
  exact this⟩
theorem j6.end{α:Type}{p:α→Bool}{l:List α}(s:j6 p l)(h:¬s.q<l.length):s.L.take s.i=l.filter fun x=>!p x:=by rw[s.left,aaQ (by omega)]
theorem Yw{α:Type}(f:α→PV){p:α→Bool}{l:List α}(s:j6 p l)(z:PV)(h:¬s.q<l.length):dr (s.L.map f) s.i (List.replicate (l.length-s.i) z)=(l.filter fun x=>!p x).map f++List.replicate (l.length-(l.filter fun x=>!p x).length) z:=by
 have hl:=s.len;have hi:=s.hi;have hq:=s.hq;have h1:(l.filter fun x=>!p x).length=s.i:=by rw[← s.end h,aax];omega
 unfold dr;rw[h1,acy (by rw[aao,abh];omega),abe,← acB,s.end h]
abbrev nR(F:FuncId){α:Type}(f:α→PV)(k e:Nat):Prop:=∀{g:Nat} {a:List PV} (l:List α) (p:α→Bool) (hl:l.length≤67108864) (hp:∀x∈l,PC g [f x,.ip a 0] (·=bo (p x))) (j nx:Nat) (hne:Nat.beq nx j=false),LC F [.aH j 0 l.length,.fn g [.ip a 0]] [(j,.rows k (l.map f) true none e)] nx fun r d=>r=.aH nx 0 (l.filter fun x=>!p x).length∧d=[(nx,some (.rows k ((l.filter fun x=>!p x).map f++List.replicate (l.length-(l.filter fun x=>!p x).length) (gm e)) true none e)),(j,none)]
theorem nR.mk'{F F0:FuncId}{fn:Func}{α:Type}{f:α→PV}{k e:Nat}(Q:gQ f k e)(hF:Tryz.prog.funcs[F]? = some fn)(h0:eX F0 f k e)
 (h:gQ f k e→Tryz.prog.funcs[F]? = some fn→(eX F0 f k e)→nR F f k e:=by
   intro Q hF hI g a l p hl hp j nx hne
   have hix:=hI cA.one l p hl hp
   have e7:∀s:j6 p l,¬s.q<l.length→dr (s.L.map Q.pv) s.i (List.replicate (l.length-s.i) (gm Q.e))=(l.filter fun x=>!p x).map Q.pv++List.replicate (l.length-(l.filter fun x=>!p x).length) (gm Q.e):=fun s h=>Yw Q.pv s _ h
   have fin:cE ((l.filter fun x=>!p x).map Q.pv++List.replicate (l.length-(l.filter fun x=>!p x).length) (gm Q.e)):=by
    intro r hr
    rcases aaN.1 hr with hr|hr
    ·exact Q.L.bP _ r hr
    ·rw[abK hr];rfl
   ·refine eK (js:=[j]) (bs:=[.rows Q.k (l.map Q.pv) true none Q.e]) (args:=[.aH 0 0 l.length,.fn g [.ip a 0]]) hF rfl rfl ?_ rfl ⟨⟨rfl,Q.L.bP l⟩,trivial⟩ rfl ?_
    ·unfold cf;rw[hne];rfl
    refine a_.by (n:=l.length+100) hix (aN (cT rfl rfl Q.L.br rfl rfl) rfl) ?_
    by_cases hi:idx p l 0=-1
    ·have hf:=G4 p l 0 hi
     refine ae.t hi<|ah<|du<|dW.mk ⟨[(0,nx)],200,_,_,rfl,rfl,rfl,⟨dz.mk ⟨_,rfl,Q.L.bP l,.inl rfl⟩,trivial⟩,?_,?_⟩
     ·rw[hf];rfl
     ·exact congrArg (fun x=>[(nx,some (aA.rows Q.k x true none _)),(j,none)]) (by rw[hf,acn,List.replicate_zero,abe])
    ·obtain⟨m,h1,h2,h3⟩:=DJ p l 0 hi
     have h1:idx p l 0=(m:Int):=h1.trans (by rw[aav])
     refine ae.f hi<|aa<|dH (m+1)<|cv.inv (ι:=j6 p l) ⟨fun s=>[(5,i64 s.i),(6,i64 s.q)],[0,1],fun s=>[(0,.rows Q.k (s.L.map Q.pv) true none Q.e)],[]⟩ (fun s=>l.length-s.q) ⟨m,m+1,l,h2,abW m,rfl,h3.symm,rfl⟩ ?_ ?_
     ·exact gS ⟨⟨by rw[← h1];rfl,rfl⟩,⟨rfl,rfl⟩,trivial⟩ ⟨⟨BB.aO rfl (Q.L.bP _),rfl⟩,trivial⟩
     intro s
     refine ae.two (fun hlt=>?_) (fun hlt=>?_)
     ·have hlt:s.q<l.length:=eg hlt
      refine ah ?_
      obtain⟨x,hx,hx2⟩:=s.at hlt
      refine ak.mk ⟨by omega,by omega⟩ ?_
      refine bx (i:=0+s.q) (by rw[aav];exact hx2)<|af (hp x (aau hx)) rfl ?_
      cases hpx:p x with
      |true=>
       refine aa<|dH (s.q+1)<|⟨s.no hx hpx,id,?_,?_⟩
       ·show l.length-(s.q+1)<l.length-s.q;omega
       exact bY rfl (Q.L.bP _)
      |false=>
       refine ah ?_
       have hsi:=s.hi
       have hsl:=s.len
       obtain⟨y,hy⟩:∃y,s.L[s.i]? = some y:=⟨_,aay (by omega)⟩
       refine ak.mk ⟨by omega,by omega⟩ ?_
       refine bx (i:=0+s.i) (by rw[aav];exact hy)<|dH (s.i+1)<|dH (s.q+1)<|⟨s.yes hx hpx,id,?_,?_⟩
       ·show l.length-(s.q+1)<l.length-s.q;omega
       have hr:PV.c9 (s.L.map Q.pv) (0+s.i) (Q.pv x)=(s.L.set s.i x).map Q.pv:=by rw[aav];exact mg Q.pv s.L s.i x
       exact dv ⟨⟨BB.aO (congrArg (fun r=>some (aA.rows Q.k r true none _)) hr) (Q.L.bP _),rfl⟩,trivial⟩
     ·have hlt:¬s.q<l.length:=fun h=>aaw hlt (abG.2 h)
      refine aa ?_
      have hsi:=s.hi
      have hsq:=s.hq
      have hsl:(s.L.map Q.pv).length=l.length:=(aao ..).trans s.len
      refine ak.mk ⟨by omega,by omega⟩ ?_
      refine ak.mk ?_ ?_
      ·show 0+s.i+(l.length-s.i)≤_;omega
      refine ak.mk ⟨by omega,by omega⟩ ?_
      refine db.l ?_
      have e8:dr (s.L.map Q.pv) (0+s.i) (List.replicate (l.length-s.i) (gm Q.e))=_:=(by rw[aav]:dr (s.L.map Q.pv) (0+s.i) (List.replicate (l.length-s.i) (gm Q.e))=dr (s.L.map Q.pv) s.i (List.replicate (l.length-s.i) (gm Q.e))).trans (e7 s hlt)
      have e9:(l.filter fun x=>!p x).length=s.i:=by rw[← s.end hlt,aax];have:=s.len;omega
      refine du<|dW.mk ⟨[(0,nx)],200,_,_,rfl,rfl,rfl,⟨dz.mk ⟨_,rfl,?_,.inl rfl⟩,trivial⟩,?_,?_⟩
      ·exact e8.symm▸fin
      ·rw[e9];rfl
      ·exact congrArg (fun x=>[(nx,some (aA.rows Q.k x true none _)),(j,none)]) e8):nR F f k e:=h Q hF h0
theorem Y3:nR 104 az.pv 12 90:=nR.mk' ⟨gv⟩ Tryz.func104 vP
theorem ZO:nR 296 Slot.pv 6 351:=nR.mk' ⟨kV⟩ Tryz.func296 NS
theorem PI:nR 353 Place.pv 6 99:=nR.mk' ⟨nC⟩ Tryz.func353 G3
theorem Oi{P:Program}(w:World)(tS tR e:TypeId)(ht:P.underlying tS=some (.slice e))(size:Nat)(hz:(Go.sizeOf e).run P w=.ok size w)(a b:Option Addr)(la ca lb cb:Nat)
 (h:la=0∨lb=0∨size=0∨∃x y tA kA tB kB,a=some x∧b=some y∧x.block≠y.block∧w.shape? x.block=some (tA,kA+1)∧w.shape? y.block=some (tB,kB)∧w.frozen? y=false∧w.frozen? {block:=y.block,off:=kB}=false):
 (Extern.SlicesOverlaps.overlaps #[tS,tS] #[tR] #[.slice a la ca,.slice b lb cb]).run P w=.ok (.bool false) w:=by
 change Sem.run P (α:=Value) (do
  let some t:=(#[tS,tS]:Array TypeId)[0]?|stuck "slices.overlaps: no parameter types"
  let .slice elem ← underlying t|stuck "slices.overlaps: slice type expected"
  let size ← sizeOf elem
  match a,b with
  |some a,some b=>
   if la=0∨lb=0∨size=0 then pure (Value.bool false)
   else if a.block != b.block&&(← frozen a)&&(← frozen b)then unsupported .addressObserved
   else do
    if a.block != b.block then do
     noView a;noView b
     if ← mayBeOne a b then return Value.bool ((← choose (.extern "sameAddr.stringBytes" 2))==1)
    pure (Value.bool (a.block==b.block&&a.off<b.off+lb*size&&b.off<a.off+la*size))
  |_,_=>pure (Value.bool false)) w=_
 by_cases h0:la=0∨lb=0∨size=0
 ·cases a<;>cases b<;>simp[run_underlying ht,hz,h0]
 ·obtain⟨x,y,tA,kA,tB,kB,rfl,rfl,hne,hsa,hsb,hfb,hfe⟩:∃x y tA kA tB kB,a=some x∧b=some y∧x.block≠y.block∧w.shape? x.block=some (tA,kA+1)∧w.shape? y.block=some (tB,kB)∧w.frozen? y=false∧w.frozen? {block:=y.block,off:=kB}=false:=by
   rcases h with h|h|h|h
   ·exact(h0 (.inl h)).elim
   ·exact(h0 (.inr (.inl h))).elim
   ·exact(h0 (.inr (.inr h))).elim
   ·exact h
  have hnb:(x.block != y.block)=true:=by simpa using hne
  have hnb':(x.block==y.block)=false:=by simpa using hne
  cases hfa:w.frozen? x<;>cases hfx:w.frozen? {block:=x.block,off:=kA+1}<;>
   simp[run_underlying ht,hz,h0,hnb,hnb',frozen,noView,viewAt,mayBeOne,stringish,shape,Sem.run,hsa,hsb,hfa,hfb,hfe,hfx]
theorem sU{f:FuncId}{fn:Func}{tS tR e:TypeId}{ti te:TI}(hf:Tryz.prog.funcs[f]? = some fn)(hname:(fn.name== "runtime.NumGoroutine")=false)(hb:fn.body.isNone=true)(hn:Extern.findNext fn=none)(hE:Extern.find fn=some (Extern.SlicesOverlaps.overlaps #[tS,tS] #[tR]))
 (e1:tt tS=some ti) (hk:ti.kd=.sl e) (e2:tt e=some te) {c:Bool} {rows:List PV} {j lo len k:Nat} {rs:List PV} {cp:Option Nat} {ee:TypeId} (hks:te.size=k) (hrk:pq rows k):XC Tryz.prog f [.sl c rows,.aH j lo len] [(j,.rows k rs true cp ee)] (bo false):=by
 refine⟨fun{S F hp rc vs} hs hbs hv=>?_⟩
 have hj:hp j=some (.rows k rs true cp ee):=hbs.1
 obtain⟨x,vs',rfl,r1,y,vs'',rfl,r2,rfl⟩:=hv
 have hTi:=bH tS ti e1
 obtain⟨d,hd,_,hkd⟩:=hTi.de
 rw[hk]at hkd
 obtain rfl:=hkd
 have hsz:=(bH e te e2).size rc.w
 refine⟨.bool false,?_,rfl,rfl⟩
 rw[run_callFunc_extern hf hname hb hn hE]
 obtain⟨us,q1,a,cap,rfl,q2,q3,q4⟩:=r1
 have key:∀(b:Option Addr) (lb cb:Nat),(us.length=0∨lb=0∨te.size=0∨∃x y tA kA tB kB,a=some x∧b=some y∧x.block≠y.block∧rc.w.shape? x.block=some (tA,kA+1)∧rc.w.shape? y.block=some (tB,kB)∧rc.w.frozen? y=false∧rc.w.frozen? {block:=y.block,off:=kB}=false)→
  ((Extern.SlicesOverlaps.overlaps #[tS,tS] #[tR] [Value.slice a us.length cap,.slice b lb cb].toArray).run Tryz.prog rc.w).andThen (fun v w'=>Result.ok (Next.value v) w')=Result.ok (Next.value (Value.bool false)) rc.w:=by
  intro b lb cb h
  have:=Oi (P:=Tryz.prog) rc.w tS tR e hd te.size hsz a b us.length cap lb cb h
  rw[show[Value.slice a us.length cap,.slice b lb cb].toArray=#[Value.slice a us.length cap,.slice b lb cb]from rfl,this]
  rfl
 rcases r2 with⟨rfl,b,rfl⟩|⟨B,m,cb,aB,e6,f6,hB,rfl,g1,g2,g3,g4⟩
 ·exact key _ _ _ (.inr (.inl rfl))
 ·refine key _ _ _ ?_
  by_cases h0:us=[]
  ·exact .inl (by rw[h0];rfl)
  by_cases h1:te.size=0
  ·exact .inr (.inr (.inl h1))
  refine .inr (.inr (.inr ?_))
  rcases q4 with q4|⟨b,off,k',rfl,q5,q6⟩
  ·exact(h0 q4).elim
  have hku:∀u∈us,u.cells.size=te.size:=fun u hu=>by rw[hks];exact q1.oo hrk u hu
  obtain⟨u,hu⟩:=List.exists_mem_of_ne_nil _ h0
  have hlen:0<(flat us).length:=by
   rw[f_ hku]
   exact Nat.mul_pos (adx.2 h0) (Nat.pos_of_ne_zero h1)
  obtain⟨z1,z2⟩:=q6 0 _ (aay hlen)
  obtain⟨rfl,arr',vs',b3,b4,b5,b6,b9,b10⟩:=nt hs hj hB
  have hzB:∀o,¬rc.Z B o:=by
   rcases hs.cD j _ hj with⟨_,_,hz⟩|⟨B',_,_,h1,_,_,_,_,_,h7,_⟩
   ·rw[hz]at hB;cases hB
   ·rw[h1]at hB;cases hB;exact h7 rfl
  have hne:b≠B:=by rintro rfl;exact hzB _ z1
  rw[dl]at b3
  obtain⟨cs,t7,f7,hcs⟩:∃cs t7 f7,rc.w.heap[b]? = some (.cells cs t7 f7)∧cs[off+0]?≠none:=by
   unfold World.cell? at z2
   split at z2
   ·rename_i cs t7 f7 hh
    refine⟨cs,t7,f7,hh,?_⟩
    intro hn
    simp only[Option.isSome_none,Bool.false_eq_true,if_false]at z2
    rw[hn]at z2;cases z2
   ·cases z2
  have hpos:cs.size≠0:=by
   intro h
   exact hcs.2 (by simp[h])
  refine⟨_,_,t7,cs.size-1,ee,arr'.size,rfl,rfl,hne,?_,?_,?_,?_⟩
  ·simp only[World.shape?,hcs.1];congr 2;omega
  ·simp[World.shape?,b3]
  ·simp[World.frozen?,b3]
  ·simp[World.frozen?,b3]
theorem Hy{α:Type}(f:α→PV)(l:List α)(i:Nat)(x:α):(l.take i++x::l.drop i).map f=(l.map f).take i++f x::(l.map f).drop i:=by rw[aaC,aaZ,acB,adr]
theorem vj{α:Type}(f:α→PV)(l:List α)(i:Nat)(x:α)(z:PV)(hi:i<l.length){a q b u c lo m v:Nat}(ha:a=i)(hq:q=l.length+1-i)(hb:b=i)(hu:1≤u)(hc:c=i+1)(hlo:lo=i)(hm:m=l.length-i)(hv:m≤v):
 dr (dr ((l.map f).take a++List.replicate q z) b ([f x].take u)) c ((PV.sub (l.map f) lo m).take v)=(l.take i++x::l.drop i).map f:=by
 subst ha hq hb hc hlo hm
 have hr:(l.map f).length=l.length:=aao ..
 rw[Hy,sub_eq]
 generalize l.map f=r at hr
 rw[aaQ (l:=[f x]) (by rw[abo];exact hu),aaQ (l:=List.drop _ _) (by rw[aaO];omega),aaQ (l:=List.drop _ _) (by rw[aaO];omega)]
 unfold dr
 have h1:(r.take lo).length=lo:=by rw[aax];omega
 rw[abP (l₁:=r.take lo) (by omega),aaQ (l:=r.take lo) (by omega)]
 rw[abP (by rw[aap,h1,abo];exact aas _),aaQ (by rw[aap,h1,abo];exact aas _)]
 rw[acy (l:=_++List.drop _ _) (by simp only[aap,aax,aaO,abh,abo];omega),abe,abd]
 rfl
theorem wo{α:Type}(f:α→PV)(l:List α)(i:Nat)(x:α)(hi:i<l.length){b u c lo m v:Nat}(hb:b=i)(hu:1≤u)(hc:c=i+1)(hlo:lo=i)(hm:m=l.length-i)(hv:m≤v):dr (dr (l.map f) c ((PV.sub (l.map f) lo m).take v)) b ([f x].take u)=(l.take i++x::l.drop i).map f:=by
 subst hb hc hlo hm;have hr:(l.map f).length=l.length:=aao ..;rw[Hy,sub_eq];generalize l.map f=r at hr;rw[aaQ (l:=[f x]) (by rw[abo];exact hu),aaQ (l:=List.drop _ _) (by rw[aaO];omega),aaQ (l:=List.drop _ _) (by rw[aaO];omega)];unfold dr;have h1:(r.take (lo+1)).length=lo+1:=by rw[aax];omega
 rw[acy (l:=r) (i:=lo+1+(r.drop lo).length) (by rw[aaO];omega),abe];rw[abP (by omega),List.take_take,abU (by omega),List.drop_append_of_le_length (by rw[h1,abo];exact aas _),acy (by rw[h1,abo];exact aas _),aci,abd];rfl
abbrev Ins(F:FuncId){α:Type}(f:α→PV)(k e:Nat):Prop:=∀(l:List α) (i:Nat) (x:α) (hi:i≤l.length) (hl:l.length<67108864) (j nx:Nat) (hne:Nat.beq nx j=false),LC F [.aH j 0 l.length,i64 i,.sl false [f x]] [(j,.rows k (l.map f) true none e)] nx fun r d=>r=.aH nx 0 (l.length+1)∧d=[(nx,some (.rows k ((l.take i++x::l.drop i).map f) true none e)),(j,none)]
theorem Ins.mk'{F F0:FuncId}{fn:Func}{α:Type}{f:α→PV}{k e:Nat}(Q:gQ f k e)(hF:Tryz.prog.funcs[F]? = some fn)(h0:∀(x:α) {lo len:Nat} {rs:List PV} {cp:Option Nat} {ee:TypeId},XC Tryz.prog F0 [.sl false [f x],.aH 0 lo len] [(0,.rows k rs true cp ee)] (bo false))
 (h:gQ f k e→Tryz.prog.funcs[F]? = some fn→(∀(x:α) {lo len:Nat} {rs:List PV} {cp:Option Nat} {ee:TypeId},XC Tryz.prog F0 [.sl false [f x],.aH 0 lo len] [(0,.rows k rs true cp ee)] (bo false))→Ins F f k e:=by
   intro Q hF hO l i x hi hl j nx hne
   have hov:=@hO x
   have hx1:lj [Q.pv x] Q.k:=Q.L.rows [x]
   refine eK (js:=[j]) (bs:=[_]) (args:=[.aH 0 0 l.length,i64 i,.sl false [Q.pv x]]) hF rfl rfl ?_ rfl ⟨⟨rfl,Q.L.bP l⟩,trivial⟩ rfl ?_
   ·unfold cf;rw[hne];rfl
   have e2:(l.map Q.pv).length=l.length:=aao ..
   dsimp only[gQ.pv]at e2
   refine ak.mk ⟨by omega,by omega⟩ ?_
   refine ae.f (by show¬((1:Int)=0);decide)<|aa<|ae.two (fun he=>?_) (fun he=>?_)
   ·have he:i=l.length:=by have:=aat he;omega
    refine ah<|db.l (ak.mk ⟨⟨by rw[e2];show l.length+1≤_;omega,(Q.L.rows l).k,hx1⟩,e2.symm⟩ ?_)
    refine du<|dW.mk ⟨[(18,nx)],200,_,_,rfl,rfl,rfl,⟨dz.mk ⟨_,rfl,?_,.inl rfl⟩,trivial⟩,?_,?_⟩
    ·exact(by rw[he,aaM,abZ,aaC];rfl:l.map Q.pv++[Q.pv x]=(l.take i++x::l.drop i).map Q.pv)▸Q.L.bP _
    ·rfl
    ·exact congrArg (fun x=>[(nx,some (aA.rows Q.k x true none _)),(j,none)]) (by rw[he,aaM,abZ,aaC];rfl:l.map Q.pv++[Q.pv x]=(l.take i++x::l.drop i).map Q.pv)
   ·have he:i<l.length:=by have:=aaw he;omega
    refine aa<|bN.intro ((l.length+1:Nat):Int) (wrap_i64 (by show(l.length:Int)+1=_;omega) (by omega))<|oG<|xW.mk fun c hc=>?_
    refine ae.two (fun hg=>?_) (fun hg=>?_)
    ·have hg:c<l.length+1:=by have:=aat hg;omega
     refine ah<|oG<|ak.mk ⟨by omega,by omega⟩ ?_
     refine bN.intro ((l.length+1:Nat):Int) (wrap_i64 (by show(l.length:Int)+1=_;omega) (by omega))<|dH (l.length+1-i)<|ak.mk ⟨by omega,by omega,by omega,by omega⟩ ?_
     refine ak.mk ⟨by omega,?_⟩ ?_
     ·show(i:Int)≤((i-0+(l.length+1-i):Nat):Int);omega
     refine ak.mk ⟨hx1,?_⟩ ?_
     ·rw[aap,aax,abh];omega
     refine gp<|bN.intro ((i+1:Nat):Int) (wrap_i64 (by show(i:Int)+1=_;omega) (by omega))<|ak.mk ⟨by omega,?_⟩ ?_
     ·show((i+1:Nat):Int)≤((i-0+(l.length+1-i):Nat):Int);omega
     refine ak.mk ⟨by omega,by omega⟩ ?_
     refine ak.mk ?_ ?_
     ·show Nat.min (l.length-i) _≤(List.map _ l).length-(0+i)
      exact aaJ (adu _ _) (by omega)
     refine ak.mk ⟨r_ (Q.L.rows l) _ _,?_⟩ ?_
     ·rw[vm]
      ·rw[aap,aax,abh]
       show 0+(i+1)≤min (i-0) (List.map _ l).length+(l.length+1-i);omega
      ·rw[aap,aax,abh,aax,abo]
       show 0+i+min _ 1≤min (i-0) (List.map _ l).length+(l.length+1-i);omega
     refine gp<|ar<|du<|dW.mk ⟨[(30,nx)],200,_,_,rfl,rfl,rfl,⟨dz.mk ⟨_,rfl,?_,.inl rfl⟩,trivial⟩,?_,?_⟩
     ·exact(vj Q.pv l i x _ he rfl rfl (aav _) (by show 1≤i-0+(l.length+1-i)-i;omega) (aav _) (aav _) (abU (by show l.length-i≤i-0+(l.length+1-i)-(i+1);omega)) (abO _ _)).symm▸Q.L.bP _
     ·show PV.aH nx 0 (i-0+(l.length+1-i))=_
      congr 1;omega
     ·exact congrArg (fun x=>[(nx,some (aA.rows Q.k x true none _)),(j,none)]) (vj Q.pv l i x _ he rfl rfl (aav _) (by show 1≤i-0+(l.length+1-i)-i;omega) (aav _) (aav _) (abU (by show l.length-i≤i-0+(l.length+1-i)-(i+1);omega)) (abO _ _))
    ·have hg:l.length+1≤c:=by have:=aaw hg;omega
     refine aa<|bN.intro ((l.length+1:Nat):Int) (wrap_i64 (by show(l.length:Int)+1=_;omega) (by omega))<|oG<|ak.mk ⟨by omega,by omega⟩ ?_
     refine bN.intro ((i+1:Nat):Int) (wrap_i64 (by show(i:Int)+1=_;omega) (by omega))<|ak.mk ⟨by omega,?_⟩ ?_
     ·show((i+1:Nat):Int)≤((l.length+1-0:Nat):Int);omega
     refine a_.ext [0] (n:=200) hov rfl ⟨rfl,trivial⟩<|ah<|bN.intro ((i+1:Nat):Int) (wrap_i64 (by show(i:Int)+1=_;omega) (by omega))<|ak.mk ⟨by omega,?_⟩ ?_
     ·show((i+1:Nat):Int)≤((l.length+1-0:Nat):Int);omega
     refine ak.mk ⟨by omega,?_⟩ ?_
     ·show(i:Int)≤((l.length+1-0:Nat):Int);omega
     have hm:Nat.min (l.length+1-0-i) (l.length+1-0-(i+1))=l.length-i:=(Nat.min_eq_right (by omega)).trans (by omega)
     have hb:0+0+i=i:=by omega
     have hc1:0+0+(i+1)=i+1:=by omega
     refine ak.mk ?_ ?_
     ·exact aaJ (abF hm) (by rw[e2];show l.length-i≤l.length-(0+0+i);omega)
     refine ak.mk ⟨r_ (Q.L.rows l) _ _,?_⟩ ?_
     ·show 0+0+(i+1)≤_;omega
     refine gp<|ar<|ak.mk ⟨by omega,?_⟩ ?_
     ·show(i:Int)≤((l.length+1-0:Nat):Int);omega
     refine ak.mk ⟨hx1,?_⟩ ?_
     ·unfold dr
      rw[aap,aap,aax]
      show 0+0+i≤min (0+0+(i+1)) (List.map _ l).length+_+_;omega
     refine gp<|du<|dW.mk ⟨[(0,nx)],200,_,_,rfl,rfl,rfl,⟨dz.mk ⟨_,rfl,?_,.inl rfl⟩,trivial⟩,?_,?_⟩
     ·exact(wo Q.pv l i x he hb (by show 1≤l.length+1-0-i;omega) hc1 hb hm (by show Nat.min _ _≤_;exact abO _ _)).symm▸Q.L.bP _
     ·rfl
     ·exact congrArg (fun x=>[(nx,some (aA.rows Q.k x true none _)),(j,none)]) (wo Q.pv l i x he hb (by show 1≤l.length+1-0-i;omega) hc1 hb hm (by show Nat.min _ _≤_;exact abO _ _))):Ins F f k e:=h Q hF h0
theorem Z8:Ins 249 QE.pv 2 137:=Ins.mk' ⟨mq⟩ Tryz.func249 fun x {_ _ _ _ _}=>sU (tS:=69) (tR:=4) (e:=137) Tryz.func303 (by kernel_rfl) (by kernel_rfl) (by kernel_rfl) (by kernel_rfl) rfl rfl rfl rfl (fun r hr=>by rw[aaD.1 hr];rfl)
theorem wu:Ins 391 aD.pv 9 130:=Ins.mk' ⟨gO⟩ Tryz.func391 fun x {_ _ _ _ _}=>sU (tS:=67) (tR:=4) (e:=130) Tryz.func406 (by kernel_rfl) (by kernel_rfl) (by kernel_rfl) (by kernel_rfl) rfl rfl rfl rfl (fun r hr=>by rw[aaD.1 hr];rfl)
theorem LG:Ins 393 Node.pv 7 124:=Ins.mk' ⟨qN⟩ Tryz.func393 fun x {_ _ _ _ _}=>sU (tS:=63) (tR:=4) (e:=124) Tryz.func408 (by kernel_rfl) (by kernel_rfl) (by kernel_rfl) (by kernel_rfl) rfl rfl rfl rfl (fun r hr=>by rw[aaD.1 hr];rfl)
theorem Rl:Ins 255 st 1 9:=Ins.mk' ⟨ef⟩ Tryz.func255 fun x {_ _ _ _ _}=>sU (tS:=25) (tR:=4) (e:=9) Tryz.func307 (by kernel_rfl) (by kernel_rfl) (by kernel_rfl) (by kernel_rfl) rfl rfl rfl rfl (fun r hr=>by rw[aaD.1 hr];rfl)
theorem O3(l:List az):PC 387 [sl az.pv l] (·=.sl true (l.map az.pv)):=by
 refine al Tryz.func387<|ak.mk (gv.rows l).k<|ak.mk ⟨by omega,rfl,by omega⟩ ?_;exact⟨200,_,[],.inr ⟨rfl,rfl⟩,congrArg (PV.sl true) (aaM)⟩
theorem TG(l:List cK):PC 305 [sl cK.pv l] (·=.sl true (l.map cK.pv)):=by
 refine al Tryz.func305<|ak.mk (nz.rows l).k<|ak.mk ⟨by omega,rfl,by omega⟩ ?_;exact⟨200,_,[],.inr ⟨rfl,rfl⟩,congrArg (PV.sl true) (aaM)⟩
def QE.same(a b:QE):Bool:=decide (a.id=b.id)&&decide (a.prio=b.prio)
theorem jP(a b:UInt64):decide (((a.toNat:Nat):Int)=((b.toNat:Nat):Int))=decide (a=b):=by
 rw[Bool.eq_iff_iff,acz,acz];constructor
 ·intro h;exact acZ.1 (Int.ofNat.inj h)
 ·rintro rfl;rfl
theorem Yr(l:List QE)(x:QE)(hl:l.length≤67108864):PC 198 [sl QE.pv l,x.pv] (·=i64 (idx (fun y=>x.same y) l 0)):=by
 refine al Tryz.func198<|cW l.length ⟨fun _=>[],[0,3,7],fun _=>[],[0]⟩ (fun q=>idx (fun y=>x.same y) l 0=idx (fun y=>x.same y) (l.drop q) q) rfl ?_ (fun q hq hj=>?_) (fun hj=>?_)
 ·exact eI ⟨⟨_,rfl,BB.aO rfl (mq.bP [x]),rfl⟩,trivial⟩
 ·obtain⟨y,hy⟩:∃y,l[q]? = some y:=⟨_,aay hq⟩;have hd:=qa (fun y=>x.same y) hy;refine bx hy<|ae.is (x.same y) ?_ ?_
  ·show(decide (((x.id.toNat:Nat):Int)=((y.id.toNat:Nat):Int))&&(decide (x.prio=y.prio)&&true))=_
   rw[jP,Bool.and_true];rfl
  refine ar ?_;cases hpx:x.same y with
  |true=>
   rw[hpx]at hd;refine ah ?_;rw[hj,hd];exact ab
  |false=>
   rw[hpx]at hd;exact aa<|bA.is id (hj.trans hd) rfl<|eI ⟨⟨_,rfl,BB.aO rfl (mq.bP [x]),rfl⟩,trivial⟩
 ·rw[hj,aaR (aas _)];exact ab
theorem Ud(l:List QE)(x:QE)(hl:l.length≤67108864):PC 130 [sl QE.pv l,x.pv] (·=bo (l.any fun y=>x.same y)):=al Tryz.func130<|af (Yr l x hl) rfl<|ae.is (l.any fun y=>x.same y) (pe (fun y=>x.same y) l 0)<|ab
theorem Xq(l:List BA)(x:BA)(hl:l.length≤67108864):PC 169 [sl st l,st x] (·=i64 (idx (fun y=>seq x y) l 0)):=by
 refine al Tryz.func169<|cW l.length ⟨fun _=>[],[0,1,7],fun _=>[],[]⟩ (fun q=>idx (fun y=>seq x y) l 0=idx (fun y=>seq x y) (l.drop q) q) rfl ?_ (fun q hq hj=>?_) (fun hj=>?_)
 ·exact bC
 ·obtain⟨y,hy⟩:∃y,l[q]? = some y:=⟨_,aay hq⟩;have hd:=qa (fun y=>seq x y) hy;refine bx hy<|ae.is (seq x y) ?_ ?_
  ·rfl
  cases hpx:seq x y with
  |true=>
   rw[hpx]at hd;refine ah ?_;rw[hj,hd];exact ab
  |false=>
   rw[hpx]at hd;exact aa<|bA.is id (hj.trans hd) rfl<|bC
 ·rw[hj,aaR (aas _)];exact ab
theorem P3(l:List BA)(x:BA)(hl:l.length≤67108864):PC 94 [sl st l,st x] (·=bo (l.any fun y=>seq x y)):=al Tryz.func94<|af (Xq l x hl) rfl<|ae.is (l.any fun y=>seq x y) (pe (fun y=>seq x y) l 0)<|ab
def eQ{α:Type}(f:α→α→Bool):List α→List α→Bool
 | [],[]=>true
 |x::l,y::m=>match f x y with|true=>eQ f l m|false=>false
 |_,_=>false
theorem ug{α:Type}{f:α→α→Bool}:∀{l m:List α},l.length≠m.length→eQ f l m=false
 | [],[],h=>(h rfl).elim
 | [],_::_,_=>rfl
 |_::_,[],_=>rfl
 |x::l,y::m,h=>by
  unfold eQ
  cases f x y with
  |true=>exact ug (l:=l) (m:=m) fun e=>h (congrArg Nat.succ e)
  |false=>rfl
theorem xo{α:Type}(f:α→α→Bool){l m:List α}{q:Nat}{x y:α}(hx:l[q]? = some x)(hy:m[q]? = some y):eQ f (l.drop q) (m.drop q)=match f x y with|true=>eQ f (l.drop (q+1)) (m.drop (q+1))|false=>false:=by
 obtain⟨h1,rfl⟩:=aaq.1 hx;obtain⟨h2,rfl⟩:=aaq.1 hy;rw[aaX h1,aaX h2];rfl
def bM.same(a b:bM):Bool:=seq a.k b.k&&seq a.v b.v
theorem V6(l m:List bM)(hl:l.length≤67108864):PC 269 [sl bM.pv l,sl bM.pv m] (·=bo (eQ bM.same l m)):=by
 refine al Tryz.func269<|ae.two (fun he=>?_) (fun he=>?_)
 ·have he:l.length=m.length:=by
   have h:=aat he;rw[aao,aao]at h;omega
  refine aa<|cW l.length ⟨fun _=>[],[0,1,12],fun _=>[],[]⟩ (fun q=>eQ bM.same l m=eQ bM.same (l.drop q) (m.drop q)) rfl ?_ (fun q hq hj=>?_) (fun hj=>?_)
  ·exact bC
  ·obtain⟨x,hx⟩:∃x,l[q]? = some x:=⟨_,aay hq⟩;obtain⟨y,hy⟩:∃y,m[q]? = some y:=⟨_,aay (by omega)⟩;have hd:=xo bM.same hx hy;refine bx hx<|bx hy<|ae.is (bM.same x y) ?_ ?_
   ·show(seq x.k y.k&&(seq x.v y.v&&true))=_
    rw[Bool.and_true];rfl
   refine ar ?_;cases hpx:bM.same x y with
   |false=>
    rw[hpx]at hd;refine ah ?_;rw[hj,hd];exact ab
   |true=>
    rw[hpx]at hd;exact aa<|bA.is id (hj.trans hd) rfl<|bC
  ·rw[hj,aaR (aas _),aaR (abF he.symm)];exact ab
 ·have he:l.length≠m.length:=by
   have h:=aaw he;rw[aao,aao]at h;omega
  refine ah ?_;rw[ug he];exact ab
theorem QS(l m:List BA)(hl:l.length≤67108864):PC 385 [sl st l,sl st m] (·=bo (eQ seq l m)):=by
 refine al Tryz.func385<|ae.two (fun he=>?_) (fun he=>?_)
 ·have he:l.length=m.length:=by
   have h:=aat he;rw[aao,aao]at h;omega
  refine aa<|cW l.length ⟨fun _=>[],[0,1,12],fun _=>[],[]⟩ (fun q=>eQ seq l m=eQ seq (l.drop q) (m.drop q)) rfl ?_ (fun q hq hj=>?_) (fun hj=>?_)
  ·exact bC
  ·obtain⟨x,hx⟩:∃x,l[q]? = some x:=⟨_,aay hq⟩;obtain⟨y,hy⟩:∃y,m[q]? = some y:=⟨_,aay (by omega)⟩;have hd:=xo seq hx hy;refine bx hx<|bx hy<|ae.is (seq x y) ?_ ?_
   ·rfl
   refine ar ?_;cases hpx:seq x y with
   |false=>
    rw[hpx]at hd;refine ah ?_;rw[hj,hd];exact ab
   |true=>
    rw[hpx]at hd;exact aa<|bA.is id (hj.trans hd) rfl<|bC
  ·rw[hj,aaR (aas _),aaR (abF he.symm)];exact ab
 ·have he:l.length≠m.length:=by
   have h:=aaw he;rw[aao,aao]at h;omega
  refine ah ?_;rw[ug he];exact ab
def QE.ahead(a b:QE):Bool:=decide (b.prio<a.prio)||(decide (a.prio=b.prio)&&decide (a.id.toNat<b.id.toNat))
theorem Ia(a b:QE):PC 127 [a.pv,b.pv] (·=bo (a.ahead b)):=by
 refine al Tryz.func127 ?_;unfold QE.ahead;refine ae.two (fun h1=>?_) (fun h1=>?_)<;>simp only[h1,Bool.true_or,Bool.false_or]
 ·exact ab
 ·refine ae.two (fun h2=>?_) (fun h2=>?_)<;>simp only[h2,Bool.true_and,Bool.false_and]
  ·exact ae.is (decide (a.id.toNat<b.id.toNat)) (abq.2 abG)<|ab
  ·exact ab
def QE.oR(e:QE):Bool:=decide (e.prio<0)||decide (9<e.prio)
theorem Mb(e:QE):PC 125 [e.pv] (·=bo e.oR):=by
 refine al Tryz.func125 ?_;unfold QE.oR;refine ae.two (fun h1=>?_) (fun h1=>?_)<;>simp only[h1,Bool.true_or,Bool.false_or]
 ·exact ab
 ·exact ae.is _ rfl<|ab
theorem P8(e:QE)(id:UInt64):PC 193 [e.pv,.ip [pu id] 0] (·=bo (decide (e.id=id))):=al Tryz.func193<|ae.is (decide (e.id=id)) (jP e.id id)<|ab
def ky(q:List QE)(id:UInt64):Int:=idx (fun e=>decide (e.id=id)) q 0
theorem xJ(q:List QE)(id:UInt64)(hl:q.length≤67108864):PC 126 [sl QE.pv q,pu id] (·=i64 (ky q id)):=al Tryz.func126<|af (Oy cA.one q (fun e=>decide (e.id=id)) hl fun e _=>P8 e id) rfl<|ab
def gU(e:QE)(q:List QE):Nat:=q.findIdx fun x=>e.ahead x
theorem RB{α:Type}(p:α→Bool){l:List α}{i:Nat}{x:α}(h:l[i]? = some x):i+(l.drop i).findIdx p=match p x with|true=>i|false=>i+1+(l.drop (i+1)).findIdx p:=by
 obtain⟨hlt,rfl⟩:=aaq.1 h;rw[aaX hlt,List.findIdx_cons];cases p l[i]with
 |true=>rfl
 |false=>simp;omega
theorem Vq(q:List QE)(e:QE)(hl:q.length≤67108864):PC 251 [.agg [.fn 127 []],sl QE.pv q,e.pv] (·=i64 (gU e q:Nat)):=by
 refine al Tryz.func251<|cW q.length ⟨fun _=>[],[1,3,5,9,10],fun _=>[],[0,1]⟩ (fun k=>gU e q=k+(q.drop k).findIdx fun x=>e.ahead x) ?_ ?_ (fun k hk hj=>?_) (fun hj=>?_)
 ·exact(aav _).symm
 ·exact bC
 ·obtain⟨x,hx⟩:∃x,q[k]? = some x:=⟨_,aay hk⟩;have hd:=RB (fun x=>e.ahead x) hx;refine bx hx<|af (Ia e x) rfl ?_;cases hpx:e.ahead x with
  |true=>
   rw[hpx]at hd;refine ah ?_;rw[hj,hd];exact ab
  |false=>
   rw[hpx]at hd;exact aa<|bA.is id (hj.trans hd) rfl<|bC
 ·rw[hj,aaR (aas _)];refine⟨200,_,_,.inl rfl,?_⟩;show i64 ((q.map QE.pv).length:Nat)=_
  rw[aao];rfl
theorem zF(e:QE)(q:List QE):gU e q≤q.length:=List.findIdx_le_length
def kW(q:List QE)(e:QE):List QE:=q.take (gU e q)++e::q.drop (gU e q)
theorem BW(q:List QE)(e:QE):(kW q e).length=q.length+1:=by
 unfold kW;have:=zF e q;rw[aap,aaL,aax,aaO];omega
def fv(q:List QE)(e:QE):List QE×Int:=
 match e.oR with
 |true=>(q,1)
 |false=>match decide (0≤ky q e.id)with
  |true=>(q,8)
  |false=>match decide (32≤(q.length:Int))with
   |true=>(q,9)
   |false=>(kW q e,0)
abbrev XA(r:List QE×Int):PV:=.aK [sl QE.pv r.1,i64 r.2]
theorem Ky(q:List QE)(e:QE)(hl:q.length≤60000000):PC 181 [sl QE.pv q,e.pv] (·=XA (fv q e)):=by
 refine al Tryz.func181 ?_;unfold fv;refine af (Mb e) rfl ?_;cases hw:e.oR with
 |true=>
  exact ah<|ab
 |false=>
 refine aa<|af (xJ q e.id (by omega)) rfl<|ae.two (fun h1=>?_) (fun h1=>?_)
 ·rw[h1];exact ah<|ab
 rw[h1];refine aa ?_;have hq:(q.map QE.pv).length=q.length:=aao ..;refine ae.two (fun h2=>?_) (fun h2=>?_)
 ·rw[hq]at h2;rw[h2];exact ah<|ab
 rw[hq]at h2;rw[h2];refine aa<|dy.bB [] (n:=200) (Wj q (by omega) _) rfl trivial<|ay (Vq q e (by omega)) rfl<|dy.bB [17] (n:=200) (Z8 q (gU e q) e (zF e q) (by omega) 17 _ rfl) rfl ⟨rfl,trivial⟩ ?_;exact ar<|⟨(kW q e).length+100,_,_,.inl (aN (cT (l:=kW q e) rfl rfl mq.br (BW q e).symm rfl) rfl),rfl⟩
theorem Cq{α:Type}(p:α→Bool):∀(l:List α) (i:Nat),idx p l i=-1∨∃m:Nat,idx p l i=((i+m:Nat):Int)∧m<l.length
 | [],_=>.inl rfl
 |x::l,i=>by
  unfold idx
  cases p x with
  |true=>exact .inr ⟨0,rfl,adN _⟩
  |false=>
   rcases Cq p l (i+1)with h|⟨m,h1,h2⟩
   ·exact .inl h
   ·exact .inr ⟨m+1,by show idx p l (i+1:Nat)=_;rw[h1];congr 1;omega,ada h2⟩
def fJ(q:List QE)(id:UInt64):List QE×Bool:=
 match decide (ky q id<0)with
 |true=>(q,false)
 |false=>(q.eraseIdx (ky q id).toNat,true)
theorem YW{α:Type}(f:α→PV)(l:List α)(z:PV){k n m a u b v c:Nat}(hk:k<l.length)(hn:n+1=l.length)(ha:a=k)(hu:a≤u)(hb:b=k)(hc:c=k+1)(hm:m=l.length-(k+1))(hv:m≤v):
 dr (dr (List.replicate n z) 0 ((((l.map f).drop 0).take a).take u)) b ((((l.map f).drop c).take m).take v)=(l.eraseIdx k).map f:=by
 subst ha hb hc hm
 have hr:(l.map f).length=l.length:=aao ..
 have h3:(l.eraseIdx b).map f=(l.map f).take b++(l.map f).drop (b+1):=by rw[acH,aaC,acB,adr]
 rw[h3]
 generalize l.map f=r at hr
 have h1:(r.take b).length=b:=by rw[aax];omega
 rw[acO,aaQ (l:=r.take b) (by omega),aaQ (l:=List.drop _ _) (by rw[aaO];omega),aaQ (l:=List.drop _ _) (by rw[aaO];omega)]
 unfold dr
 rw[List.take_zero,aci,abP (by omega),aaQ (l:=r.take b) (by omega),acy (l:=_++_) (by simp only[aap,aax,aaO,abh];omega),abe]
theorem CD(q:List QE)(id:UInt64)(hl:q.length≤60000000):PC 388 [sl QE.pv q,pu id] (·=.aK [sl QE.pv (fJ q id).1,bo (fJ q id).2]):=by
 refine al Tryz.func388 ?_;unfold fJ;refine af (xJ q id (by omega)) rfl<|ae.two (fun h1=>?_) (fun h1=>?_)
 ·rw[h1];exact ah<|ab
 rw[h1];refine aa ?_;have h1:=aaw h1;obtain⟨k,hk,hkl⟩:∃k:Nat,ky q id=(k:Int)∧k<q.length:=by
  rcases Cq (fun e=>decide (e.id=id)) q 0 with h|⟨m,h2,h3⟩
  ·exact(h1 (by unfold ky;rw[show idx (fun e=>decide (e.id=id)) q 0=-1 from h];decide)).elim
  ·exact⟨m,h2.trans (by rw[aav]),h3⟩
 have hq:(q.map QE.pv).length=q.length:=aao ..;rw[hk];refine bN.intro ((q.length-1:Nat):Int) (wrap_i64 (by rw[hq];omega) (by omega))<|ak.mk ⟨by omega,rfl,by omega⟩ ?_;refine ak.mk (mq.rows q).k<|ak.mk ⟨by omega,by omega⟩ ?_;refine ak.mk ⟨fun r hr=>mq.rows q r (aby (aaV hr)),aaF _⟩<|gp<|ak.mk ⟨by omega,by show(k:Int)≤((q.length-1:Nat):Int);omega⟩ ?_;refine dH (k+1)<|ak.mk (mq.rows q).k<|ak.mk ⟨by omega,by rw[hq];omega⟩ ?_;refine ak.mk ⟨fun r hr=>mq.rows q r (aby (aaV hr)),?_⟩ ?_
 ·rw[vm]
  ·rw[abh];show 0+k≤q.length-1;omega
  ·rw[abh,aax,aax];show 0+min _ (min (k-0) _)≤q.length-1;omega
 refine gp<|ar ?_;have he:(q.eraseIdx k).length=q.length-1:=by rw[acW,abb hkl]
 refine⟨(q.eraseIdx k).length+100,_,_,.inl (aN (cT (l:=q.eraseIdx k) rfl (YW QE.pv q _ hkl (show q.length-1+1=q.length by omega) rfl (by show k-0≤q.length-1;omega) (aav k) rfl (by show(q.map QE.pv).length-(k+1)=_;rw[hq]) (by show(q.map QE.pv).length-(k+1)≤q.length-1-k;rw[hq];omega)) mq.br he.symm rfl) rfl),rfl⟩
theorem l9{α:Type}(p:α→Bool):∀(l:List α) (i:Nat),(idx p l i=-1∧l.find? p=none)∨∃(m:Nat) (x:α),idx p l i=((i+m:Nat):Int)∧l[m]? = some x∧l.find? p=some x
 | [],_=>.inl ⟨rfl,rfl⟩
 |x::l,i=>by
  unfold idx
  rw[List.find?_cons]
  cases p x with
  |true=>exact .inr ⟨0,x,rfl,rfl,rfl⟩
  |false=>
   rcases l9 p l (i+1)with⟨h1,h2⟩|⟨m,y,h1,h2,h3⟩
   ·exact .inl ⟨h1,h2⟩
   ·exact .inr ⟨m+1,y,by show idx p l (i+1:Nat)=_;rw[h1];congr 1;omega,h2,h3⟩
def qG(l:List bM)(key:BA):BA×Bool:=match l.find? (fun p=>seq p.k key)with
 |some p=>(p.v,true)
 |none=>(⟨#[]⟩,false)
theorem V1(p:bM)(key:BA):PC 236 [p.pv,.ip [st key] 0] (·=bo (seq p.k key)):=al Tryz.func236<|ae.is _ rfl<|ab
theorem PK(l:List bM)(key:BA)(hl:l.length≤67108864):PC 166 [sl bM.pv l,st key] (·=.aK [st (qG l key).1,bo (qG l key).2]):=by
 refine al Tryz.func166<|af (Vh cA.one l (fun p=>seq p.k key) hl fun p _=>V1 p key) rfl ?_;unfold qG;rcases l9 (fun p=>seq p.k key) l 0 with⟨h1,h2⟩|⟨m,x,h1,h2,h3⟩
 ·have h1:idx (fun p=>seq p.k key) l 0=-1:=h1;refine ae.t (by rw[h1];decide)<|ah ?_;rw[h2];exact ab
 ·have h1:idx (fun p=>seq p.k key) l 0=(m:Int):=h1.trans (by rw[aav]);rw[h1];refine ae.f (by omega)<|aa<|bx h2 ?_;rw[h3];exact ab
def av(n:Int):UInt64:=UInt64.ofNat (n%18446744073709551616).toNat
theorem ix(n:Int):IntKind.u64.wrap n=((av n).toNat:Nat):=by
 unfold av;rw[mG (by omega)];show n%18446744073709551616=_
 omega
def Spec.total(x:Spec):V4×Bool:=x.cy.times (av x.count)
theorem tC(x:Spec):PC 132 [x.pv] (·=v2 x.total):=al Tryz.func132<|ax (ix x.count)<|af (Nq x.cy (av x.count)) rfl<|ab
def oX(ok:Nat→Bool):Nat→Nat→Bool
 |_,0=>true
 |k,m+1=>match ok k with|true=>oX ok (k+1) m|false=>false
abbrev aG:BA:=⟨#[]⟩
abbrev cQ(s:BA):Bool:=Wd.right s
abbrev iJ:BA:=⟨#[47]⟩
def gy(s:BA):List BA:=Lib.splitB iJ 0 (Lib.countB s iJ) s
def eU(s:BA):List BA:=match decide (3<((gy s).length:Int))with
 |true=>[]
 |false=>match(gy s).any fun n=>!cQ n with
  |true=>[]
  |false=>gy s
def qw(l:List BA):BA:=⟨(Lib.join (l.map (·.data.toList)) [47]).toArray⟩
def gr(s:BA):List BA:=(List.range (eU s).length).map fun k=>qw ((eU s).take (k+1))
def mw(a b:BA):Bool:=(gr b).any fun y=>seq a y
def oB(l:List bM)(k:Nat):Bool:=match l[k]? with
 |none=>true
 |some p=>match cQ p.k with
  |false=>false
  |true=>match cQ p.v with
   |false=>false
   |true=>match k with
    |0=>true
    |j+1=>match l[j]? with
     |none=>true
     |some q=>!(dL p.k q.k||seq p.k q.k)
def gl(l:List bM):Bool:=match oX (oB l) 0 l.length with
 |true=>decide ((l.length:Int)≤8)
 |false=>false
def o9(l:List BA)(k:Nat):Bool:=match l[k]? with
 |none=>true
 |some p=>match cQ p with
  |false=>false
  |true=>match k with
   |0=>true
   |j+1=>match l[j]? with
    |none=>true
    |some q=>!(dL p q||seq p q)
def Term.right(t:Term):Bool:=match oX (o9 t.aZ) 0 t.aZ.length with
 |true=>match cQ t.key with
  |true=>decide ((t.aZ.length:Int)≤4)
  |false=>false
 |false=>false
def ig(l:List Term):Bool:=match decide ((l.length:Int)≤4)with
 |true=>!l.any fun t=>!t.right
 |false=>false
def Term.QR(t:Term)(v:BA):Bool:=match t.aZ with
 | []=>true
 |_=>t.aZ.any fun y=>seq v y
def Term.holds(t:Term)(labels:List bM):Bool:=match(qG labels t.key).2 with
 |true=>!(t.QR (qG labels t.key).1==t.no)
 |false=>!(false==t.no)
def th(l:List Term)(labels:List bM):Bool:=!l.any fun t=>!t.holds labels
def within(n least most:Int):Bool:=match decide (least≤n)with|true=>decide (n≤most)|false=>false
def Spec.check(x:Spec):Int:=match mw x.path x.path with
 |false=>6
 |true=>match within x.count 1 8 with
  |false=>1
  |true=>match within x.prio 0 9 with
   |false=>1
   |true=>match within x.cN 1 100 with
    |false=>1
    |true=>match ig x.cR with
     |false=>2
     |true=>match x.total.2 with
      |false=>5
      |true=>0
def eR(t:List aD)(path:BA):Int:=idx (fun e:aD=>seq e.path path) t 0
def aD.z:aD:=⟨aG,V4.z,V4.z⟩
def dt(t:List aD)(path:BA):aD×Bool:=match t.find? (fun e=>seq e.path path)with
 |some e=>(e,true)
 |none=>(aD.z,false)
def gP(path:BA):List BA:=aG::gr path
def named(path:BA):Bool:=match seq path aG with|true=>true|false=>mw path path
def parent(path:BA):BA:=((gP path)[(gP path).length-2]?).getD aG
def aD.jd(v:V4)(e:aD):aD×Int:=match e.used.add v with
 |(_,false)=>(e,5)
 |(n,true)=>match n.fits e.bu with
  |false=>(e,10)
  |true=>({e with used:=n},0)
def aD.lh(v:V4)(e:aD):aD×Int:=match e.used.sub v with
 |(_,false)=>(e,15)
 |(n,true)=>({e with used:=n},0)
def mu(t:List aD)(act:aD→aD×Int):List BA→List aD→List aD×Int
 | [],out=>(out,0)
 |p::l,out=>match act (dt t p).1 with
  |(e,n)=>match decide (n=0)with
   |true=>mu t act l (out.set (eR t p).toNat e)
   |false=>(t,n)
def j8(t:List aD)(path:BA)(act:aD→aD×Int):List aD×Int:=match named path with
 |false=>(t,6)
 |true=>match(gP path).any fun p=>decide (eR t p<0)with
  |true=>(t,7)
  |false=>mu t act (gP path) t
def iP(t:List aD)(path:BA)(v:V4):List aD×Int:=j8 t path (aD.jd v)
def vl(t:List aD)(path:BA)(v:V4):List aD×Int:=j8 t path (aD.lh v)
def oN(t:List aD)(path:BA)(v:V4):Bool:=decide ((iP (t.map fun e=>{e with used:=V4.z}) path v).2=0)
def mV(t:List aD)(path:BA):Nat:=t.findIdx fun e=>!dL e.path path
def eY(t:List aD)(path:BA)(bu:V4):List aD×Int:=match named path with
 |false=>(t,6)
 |true=>match !seq path aG&&decide (eR t (parent path)<0)with
  |true=>(t,7)
  |false=>match decide (eR t path<0)with
   |true=>match decide (16≤(t.length:Int))with
    |true=>(t,9)
    |false=>(t.take (mV t path)++⟨path,bu,V4.z⟩::t.drop (mV t path),0)
   |false=>match(dt t path).1.used.fits bu with
    |false=>(t,10)
    |true=>(t.set (eR t path).toNat {(dt t path).1 with bu:=bu},0)
def aW.at(p:aW)(name:BA):Int:=idx (fun n:Node=>seq n.name name) p.nodes 0
def Node.z:Node:=⟨aG,V4.z,[],false⟩
def aW.find(p:aW)(name:BA):Node×Bool:=match p.nodes.find? (fun n=>seq n.name name)with
 |some n=>(n,true)
 |none=>(Node.z,false)
def nO(name:BA)(r:V4×Bool)(x:Place):V4×Bool:=match r.2 with
 |false=>r
 |true=>match seq x.node name with
  |false=>r
  |true=>r.1.sub x.v
def aW.free(p:aW)(name:BA):V4×Bool:=
 match p.places.foldl (nO name) ((p.find name).1.cap,(p.find name).2)with
 |(v,true)=>(v,true)
 |(_,false)=>(V4.z,false)
def aW.room(p:aW)(name:BA)(v:V4):Int:=match(p.find name).2 with
 |false=>7
 |true=>match(p.find name).1.up with
  |false=>12
  |true=>match(p.free name).2 with
   |false=>11
   |true=>match v.fits (p.free name).1 with
    |false=>11
    |true=>0
def iH(aM:UInt64)(v:V4):List BA→aW→aW×Int
 | [],q=>(q,0)
 |n::l,q=>match decide (q.room n v=0)with
  |true=>iH aM v l ⟨q.nodes,q.places++[⟨aM,n,v⟩]⟩
  |false=>(q,q.room n v)
def aW.lay(p:aW)(aM:UInt64)(nodes:List BA)(v:V4):aW×Int:=match decide ((iH aM v nodes p).2=0)with
 |true=>iH aM v nodes p
 |false=>(p,(iH aM v nodes p).2)
def aW.drop(p:aW)(aM:UInt64):aW:=⟨p.nodes,p.places.filter fun x=>!decide (x.aM=aM)⟩
def aW.of(p:aW)(aM:UInt64):List BA:=(p.places.filter fun x=>decide (x.aM=aM)).map Place.node
def aW.bare(p:aW):aW:=⟨p.nodes,[]⟩
def mK(p:aW)(n:Node):Option Slot:=match(p.free n.name).2 with
 |false=>none
 |true=>match n.up with
  |false=>none
  |true=>some ⟨n.name,(p.free n.name).1,n.labels⟩
def aW.jE(p:aW):List Slot:=p.nodes.filterMap (mK p)
def aW.turn(p:aW)(name:BA)(up:Bool):aW×Int:=match decide (p.at name<0)with
 |true=>(p,7)
 |false=>match(p.find name).1.up==up with
  |true=>(p,15)
  |false=>(⟨p.nodes.set (p.at name).toNat {(p.find name).1 with up:=up},p.places⟩,0)
def pf(l:List Node)(name:BA):Nat:=l.findIdx fun o=>!dL o.name name
def aW.add(p:aW)(n:Node):aW×Int:=match cQ n.name with
 |false=>(p,6)
 |true=>match gl n.labels with
  |false=>(p,2)
  |true=>match decide (0≤p.at n.name)with
   |true=>(p,8)
   |false=>match decide (16≤(p.nodes.length:Int))with
    |true=>(p,9)
    |false=>(⟨p.nodes.take (pf p.nodes n.name)++{n with up:=true}::p.nodes.drop (pf p.nodes n.name),p.places⟩,0)
def fitting(l:List Slot)(x:List Term):List Slot:=l.filter fun s=>th x s.labels
def iI(a b:UInt64):Int:=if a.toNat<b.toNat then -1 else if b.toNat<a.toNat then 1 else 0
def V4.order(x y:V4):Int:=if iI x.a y.a=0 then(if iI x.b y.b=0 then(if iI x.c y.c=0 then iI x.d y.d else iI x.c y.c)else iI x.b y.b)else iI x.a y.a
structure oA where
 at_:Nat
 left:V4
 ok:Bool
def pP(d:V4)(k:Nat)(s:Slot)(r:oA):oA:=match s.free.sub d with
 |(_,false)=>r
 |(v,true)=>match r.ok with
  |false=>⟨k,v,true⟩
  |true=>match decide (v.order r.left<0)with
   |true=>⟨k,v,true⟩
   |false=>r
def iE(d:V4):List Slot→Nat→oA→oA
 | [],_,r=>r
 |s::l,k,r=>iE d l (k+1) (pP d k s r)
def eB(l:List Slot)(d:V4):oA:=iE d l 0 ⟨0,V4.z,false⟩
def Slot.z:Slot:=⟨aG,V4.z,[]⟩
def j4(d:V4):Nat→List Slot→List BA→List BA×Bool
 |0,_,out=>(out,true)
 |n+1,l,out=>match(eB l d).ok with
  |false=>([],false)
  |true=>j4 d n (l.set (eB l d).at_ {(l[(eB l d).at_]?).getD Slot.z with free:=(eB l d).left}) (out++[((l[(eB l d).at_]?).getD Slot.z).node])
def iQ(l:List Slot)(x:List Term)(d:V4)(count:Int):List BA×Bool:=match decide (8<count)with
 |true=>([],false)
 |false=>j4 d (max count 0).toNat (fitting l x) []
def fW(l:List az)(id:UInt64):Int:=idx (fun j:az=>decide (j.id=id)) l 0
def Spec.z:Spec:=⟨aG,V4.z,0,0,0,[]⟩
def az.z:az:=⟨0,Spec.z,false,0⟩
def bK(l:List az)(id:UInt64):az×Bool:=match l.find? (fun j=>decide (j.id=id))with
 |some j=>(j,true)
 |none=>(az.z,false)
def tell(x:Stream)(n:cK):Stream:=match decide (32<((x.l.length+1:Nat):Int))with
 |true=>⟨x.first+1,(x.l++[n]).drop 1⟩
 |false=>⟨x.first,x.l++[n]⟩
def there(t:List aD)(path:BA):Bool:=!(gr path++[aG]).any fun p=>!(dt t p).2
def State.fT(s:State)(id:UInt64)(kind:Int):State:={s with events:=tell s.events ⟨s.round,id,kind⟩}
def State.ew(s:State)(x:Spec):State×UInt64×Int:=match decide (x.check=0)with
 |false=>(s,0,x.check)
 |true=>match there s.tree x.path with
  |false=>(s,0,7)
  |true=>match decide (32≤(s.aj.length:Int))with
   |true=>(s,0,9)
   |false=>match decide (s.next=18446744073709551615)with
    |true=>(s,0,9)
    |false=>match decide ((fv s.queue ⟨s.next,x.prio⟩).2=0)with
     |false=>(s,0,(fv s.queue ⟨s.next,x.prio⟩).2)
     |true=>(({s with queue:=(fv s.queue ⟨s.next,x.prio⟩).1,aj:=s.aj++[⟨s.next,x,false,0⟩],next:=s.next+1}:State).fT s.next 1,s.next,0)
def State.with(s:State)(k:Nat)(j:az):State:={s with aj:=s.aj.set k j}
def State.begin(s:State)(id:UInt64)(nodes:List BA):State×Int:=match decide (fW s.aj id<0)with
 |true=>(s,7)
 |false=>let j:=(bK s.aj id).1
  match j.runs with
  |true=>(s,15)
  |false=>match decide ((nodes.length:Int)=j.x.count)with
   |false=>(s,1)
   |true=>match j.x.total with
    |(_,false)=>(s,5)
    |(v,true)=>match iP s.tree j.x.path v with
     |(t,e)=>match decide (e=0)with
      |false=>(s,e)
      |true=>match s.pool.lay id nodes j.x.cy with
       |(p,e)=>match decide (e=0)with
        |false=>(s,e)
        |true=>((({s with tree:=t,pool:=p,queue:=(fJ s.queue id).1}:State).with (fW s.aj id).toNat {j with runs:=true,left:=j.x.cN}).fT id 2,0)
def State.cP(s:State)(j:az):State:=match j.x.total with
 |(v,true)=>{s with tree:=(vl s.tree j.x.path v).1,pool:=s.pool.drop j.id}
 |(_,false)=>{s with pool:=s.pool.drop j.id}
def State.stop(s:State)(id:UInt64)(kind:Int):State×Int:=match decide (fW s.aj id<0)with
 |true=>(s,7)
 |false=>let j:=(bK s.aj id).1
  match j.runs with
  |false=>(s,15)
  |true=>((({s.cP j with queue:=(fv (s.cP j).queue ⟨id,j.x.prio⟩).1}:State).with (fW s.aj id).toNat {j with runs:=false,left:=0}).fT id kind,0)
def State.end_(s:State)(id:UInt64)(kind:Int):State×Int:=match decide (fW s.aj id<0)with
 |true=>(s,7)
 |false=>let j:=(bK s.aj id).1
  match j.runs with
  |true=>(({s.cP j with aj:=(s.cP j).aj.eraseIdx (fW s.aj id).toNat}:State).fT id kind,0)
  |false=>(({s with queue:=(fJ s.queue id).1,aj:=s.aj.eraseIdx (fW s.aj id).toNat}:State).fT id kind,0)
def waits(s:State)(id:UInt64):az×Bool:=match(bK s.aj id).2 with
 |true=>((bK s.aj id).1,!(bK s.aj id).1.runs)
 |false=>((bK s.aj id).1,false)
def asked(s:State)(id:UInt64)(of:aW)(lets:BA→V4→Bool):List BA×Bool:=match(waits s id).2 with
 |false=>([],false)
 |true=>let j:=(waits s id).1
  match j.x.total.2 with
  |false=>([],false)
  |true=>match(iQ of.jE j.x.cR j.x.cy j.x.count).2 with
   |false=>([],false)
   |true=>match lets j.x.path j.x.total.1 with
    |false=>([],false)
    |true=>((iQ of.jE j.x.cR j.x.cy j.x.count).1,true)
def fits(s:State)(id:UInt64):List BA×Bool:=asked s id s.pool fun path v=>decide ((iP s.tree path v).2=0)
def j1(s:State)(id:UInt64):Bool:=(asked s id s.pool.bare fun path v=>oN s.tree path v).2
def az.before(a b:az):Bool:=decide (a.x.prio<b.x.prio)||(decide (a.x.prio=b.x.prio)&&decide (b.id.toNat<a.id.toNat))
section
variable {α:Type}(lt:α→α→Bool)
def swp(L:List α)(i j:Nat):List α:=match L[i]?,L[j]? with
 |some x,some y=>(L.set i y).set j x
 |_,_=>L
def dI(L:List α)(i j:Nat):Bool:=match L[i]?,L[j]? with
 |some x,some y=>lt x y
 |_,_=>false
def gx(a:Nat):Nat→List α→List α
 |0,L=>L
 |j+1,L=>match decide (a<j+1)with
  |false=>L
  |true=>match dI lt L (j+1) j with
   |false=>L
   |true=>gx a j (swp L (j+1) j)
def mL(a:Nat):Nat→Nat→List α→List α
 |0,_,L=>L
 |m+1,i,L=>mL a m (i+1) (gx lt a i L)
def ir(a b:Nat)(L:List α):List α:=mL lt a (b-(a+1)) (a+1) L
def gu:Nat→Nat→Nat→List α→List α
 |0,_,_,L=>L
 |n+1,a,b,L=>gu n (a+1) (b+1) (swp L a b)
def kl:Nat→Nat→Nat→Nat→List α→List α
 |0,_,_,_,L=>L
 |f+1,i,j,m,L=>match decide (i=j)with
  |true=>gu i (m-i) m L
  |false=>match decide (j<i)with
   |true=>kl f (i-j) j m (gu j (m-i) m L)
   |false=>kl f i (j-i) m (gu i (m-i) (m+j-i) L)
def ie(a m b:Nat)(L:List α):List α:=kl (b-a) (m-a) (b-m) m L
def eN(p:Nat→Bool):Nat→Nat→Nat→Nat
 |0,i,_=>i
 |f+1,i,j=>match decide (i<j)with
  |false=>i
  |true=>match p ((i+j) / 2)with
   |true=>eN p f ((i+j) / 2+1) j
   |false=>eN p f i ((i+j) / 2)
def j_:Nat→Nat→List α→List α
 |0,_,L=>L
 |n+1,k,L=>j_ n (k+1) (swp L k (k+1))
def kz:Nat→Nat→List α→List α
 |0,_,L=>L
 |n+1,k,L=>kz n (k-1) (swp L k (k-1))
def eF:Nat→Nat→Nat→Nat→List α→List α
 |0,_,_,_,L=>L
 |f+1,a,m,b,L=>match decide (m-a=1)with
  |true=>j_ (eN (fun h=>dI lt L h a) (b-m) m b-1-a) a L
  |false=>match decide (b-m=1)with
   |true=>kz (m-eN (fun h=>!dI lt L m h) (m-a) a m) m L
   |false=>
    let mid:=(a+b) / 2
    let n:=mid+m
    let start0:=match decide (mid<m)with|true=>n-b|false=>a
    let r:=match decide (mid<m)with|true=>mid|false=>m
    let start:=eN (fun c=>!dI lt L (n-1-c) c) (r-start0) start0 r
    let end_:=n-start
    let L1:=match decide (start<m),decide (m<end_)with|true,true=>ie start m end_ L|_,_=>L
    let L2:=match decide (a<start),decide (start<mid)with|true,true=>eF f a start mid L1|_,_=>L1
    match decide (mid<end_),decide (end_<b)with|true,true=>eF f mid end_ b L2|_,_=>L2
def ij(L:List α):List α:=match decide (20≤L.length)with
 |false=>ir lt 0 L.length L
 |true=>match decide (20<L.length)with
  |false=>ir lt 20 L.length (ir lt 0 20 L)
  |true=>eF lt L.length 0 20 L.length (ir lt 20 L.length (ir lt 0 20 L))
end
def kf(j o:az):Bool:=match o.runs with|false=>false|true=>decide (o.x.prio<j.x.prio)
def lower(s:State)(id:UInt64):List UInt64:=match(bK s.aj id).2 with
 |false=>[]
 |true=>(ij az.before (s.aj.filter (kf (bK s.aj id).1))).map az.id
def c8(s:State)(l:List UInt64):State:=l.foldl (fun s id=>(s.stop id 5).1) s
section
variable (tr:List UInt64→List BA×Bool)
def mB(all:List UInt64):Nat→Nat→Option (List UInt64×List BA)
 |0,_=>none
 |m+1,n=>match tr (all.take n)with
  |(nodes,true)=>some (all.take n,nodes)
  |(_,false)=>mB all m (n+1)
def fZ:Nat→Nat→List UInt64→List BA→List UInt64×List BA
 |0,_,l,nodes=>(l,nodes)
 |m+1,k,l,nodes=>match decide (k<l.length)with
  |false=>(l,nodes)
  |true=>match tr (l.eraseIdx k)with
   |(spare,true)=>fZ m k (l.eraseIdx k) spare
   |(_,false)=>fZ m (k+1) l nodes
end
structure WX where
 l:List UInt64
 nodes:List BA
 ok:Bool
def dw(s:State)(id:UInt64):WX:=
 let tr:=fun l=>fits (c8 s l) id
 match mB tr (lower s id) ((lower s id).length+1) 0 with
 |none=>⟨[],[],false⟩
 |some (l,nodes)=>⟨(fZ tr l.length 0 l nodes).1,(fZ tr l.length 0 l nodes).2,true⟩
def running(s:State):List UInt64:=(s.aj.filter az.runs).map az.id
def gj(s:State)(id:UInt64):State:=match decide (fW s.aj id<0)with
 |true=>s
 |false=>
  let j:=(bK s.aj id).1
  let t:State:={s with aj:=s.aj.set (fW s.aj id).toNat {j with left:=j.left-1}}
  match decide (j.left-1≤0)with
  |true=>(t.end_ id 3).1
  |false=>t
def State.count(s:State):State:=(running s).foldl gj {s with round:=s.round+1}
structure Nx where
 id:UInt64
 at_:Nat
 ok:Bool
def mr(s:State):List QE→Nat→Nx
 | [],_=>⟨0,0,false⟩
 |e::l,k=>match j1 s e.id with
  |true=>⟨e.id,k,true⟩
  |false=>mr s l (k+1)
def cM(s:State)(behind:Nat):Nx:=mr s (s.queue.drop behind) behind
structure fq where
 s:State
 at_:Nat
def fq.next(t:fq):fq×Bool:=match(cM t.s t.at_).ok with
 |false=>(t,false)
 |true=>match(dw t.s (cM t.s t.at_).id).ok with
  |false=>(t,false)
  |true=>
   let s:=c8 t.s (dw t.s (cM t.s t.at_).id).l
   match s.begin (cM t.s t.at_).id (dw t.s (cM t.s t.at_).id).nodes with
   |(u,e)=>match decide (e=0)with
    |true=>(⟨u,(cM t.s t.at_).at_⟩,true)
    |false=>(⟨s,t.at_⟩,false)
def kP:Nat→fq→fq
 |0,t=>t
 |n+1,t=>match t.next with
  |(u,true)=>kP n u
  |(u,false)=>u
def State.place(s:State):State:=(kP 128 ⟨s,0⟩).s
def State.tick(s:State):State:=s.count.place
end
end Go.Proofs.YtbnonpbnhenkfaaGreatDoor
section
namespace Go.Proofs.YtbnonpbnhenkfaaGreatDoor
open Go.RowKit
namespace Wi
def kj:Nat→Nat→List UInt8
 |0,u=>[UInt8.ofNat u]
 |k+1,u=>if u<128 then[UInt8.ofNat u]else UInt8.ofNat (u%128+128)::kj k (u / 128)
def put(u:Nat):List UInt8:=kj 9 u
def dec:Nat→List UInt8→Option (Nat×Nat)
 |0,_=>none
 |_+1,[]=>none
 |k+1,b::r=>if b.toNat<128 then some (b.toNat,1)else(dec k r).map fun p=>(b.toNat-128+128*p.1,p.2+1)
theorem BX{n:Nat}(h:n<256):(UInt8.ofNat n).toNat=n:=by simp;omega
theorem Mn(k:Nat):∀u,1≤(kj k u).length∧(kj k u).length≤k+1:=by
 induction k with
 |zero=>intro u;simp[kj]
 |succ k ih=>
  intro u;unfold kj;split
  ·simp
  ·have:=ih (u / 128);simp;omega
theorem Tt(k:Nat):∀(u:Nat) (t:List UInt8),u<128^(k+1)→dec (k+1) (kj k u++t)=some (u,(kj k u).length):=by
 induction k with
 |zero=>
  intro u t hu;have hu':u<128:=by simpa using hu
  simp only[kj,aca,aci,dec];rw[BX (by omega),abb hu'];rfl
 |succ k ih=>
  intro u t hu;unfold kj;split
  ·rename_i h;simp only[aca,aci,dec];rw[BX (by omega),abb h];rfl
  ·rename_i h;have hd:u / 128<128^(k+1):=by
    rw[Nat.pow_succ]at hu;exact Nat.div_lt_of_lt_mul (by rw[ade];exact hu)
   rw[aca,dec,BX (by omega),abg (by omega),ih _ t hd];simp only[ach,aaL];congr 2;omega
theorem DW:(18446744073709551616:Nat)<128^(9+1):=by decide
theorem T1{u:Nat}(hu:u<18446744073709551616)(t:List UInt8):dec 10 (put u++t)=some (u,(put u).length):=
 Tt 9 u t (Nat.lt_trans hu DW)
theorem qJ(u:Nat):1≤(put u).length∧(put u).length≤10:=Mn 9 u
def kY(t:List UInt8):Option (Nat×Nat):=match dec 10 t with
 |none=>none
 |some (v,c)=>if put (v%18446744073709551616)=t.take c then some (v%18446744073709551616,c)else none
theorem UK{k:Nat}:∀{t:List UInt8} {p:Nat×Nat},dec k t=some p→1≤p.2∧p.2≤t.length∧p.2≤k:=by
 induction k with
 |zero=>intro t p h;simp[dec]at h
 |succ k ih=>
  intro t p h;cases t with
  |nil=>simp[dec]at h
  |cons b r=>
   unfold dec at h;split at h
   ·cases h;simp
   ·simp only[acx]at h;obtain⟨q,hq,rfl⟩:=h;have:=ih hq;simp;omega
theorem Wy{u:Nat}(hu:u<18446744073709551616)(t:List UInt8):kY (put u++t)=some (u,(put u).length):=by
 unfold kY;rw[T1 hu t];simp only;rw[aco hu,List.take_left',abb rfl];rfl
theorem Ng{t:List UInt8}{u c:Nat}(h:kY t=some (u,c)):u<18446744073709551616∧c=(put u).length∧t=put u++t.drop c∧t.take c=put u:=by
 unfold kY at h;split at h
 ·cases h
 ·rename_i v c' hd;split at h
  ·rename_i he;obtain⟨e1,e2⟩:=acC (abl h);subst e1;subst e2;have hl:=UK hd;have hc:c'=(put (v%18446744073709551616)).length:=by
    rw[he,aax];have:=hl.2.1;simp only at this;omega
   refine⟨acM _ (by decide),hc,?_,he.symm⟩;rw[he,abD]
  ·cases h
def low:List UInt8→Nat
 | []=>0
 |b::r=>b.toNat-128+128*low r
theorem aak(l:List UInt8)(b:UInt8):low (l++[b])=low l+128^l.length*(b.toNat-128):=by
 induction l with
 |nil=>simp[low]
 |cons a r ih=>
  simp only[aca,low,ih,aaL,Nat.pow_succ];rw[Nat.mul_add,← Nat.mul_assoc,ade 128 (128^r.length)];omega
theorem Il(l:List UInt8):low l<128^l.length:=by
 induction l with
 |nil=>simp[low]
 |cons a r ih=>
  have:=acf a;simp only[low,aaL,Nat.pow_succ];omega
theorem F9{k:Nat}:∀{l:List UInt8} (r:List UInt8),(∀b∈l,128≤b.toNat)→l.length≤k→dec k (l++r)=(dec (k-l.length) r).map fun p=>(low l+128^l.length*p.1,p.2+l.length):=by
 induction k with
 |zero=>
  intro l r _ hk;obtain rfl:l=[]:=abz.1 (by omega);simp[dec]
 |succ k ih=>
  intro l r hl hk;cases l with
  |nil=>simp[low]
  |cons b l=>
   have hb:=hl b (by simp);rw[aca,dec,abg (by omega),ih r (fun x hx=>hl x (by simp[hx])) (by simpa using hk)];simp only[aaL,Option.map_map,low];rw[show k+1-(l.length+1)=k-l.length by omega];refine congrArg (fun g=>Option.map g (dec (k-l.length) r)) (funext fun p=>?_);simp only[Function.comp,Prod.mk.injEq];refine⟨?_,by omega⟩;rw[Nat.pow_succ];generalize 128^l.length=P;rw[Nat.mul_add,show P*128*p.1=128*(P*p.1)from by rw[ade P 128,Nat.mul_assoc]];omega
end Wi
end Go.Proofs.YtbnonpbnhenkfaaGreatDoor
end
namespace Go.Proofs.YtbnonpbnhenkfaaGreatDoor
section
open Go.RowKit
theorem Tryz.w9:(Tryz.prog.info? 5).map (fun i=>(i.zero,i.size,i.bytes))=some (some (.int .u8 0),1,1):=by kernel_rfl
def ia(l:List UInt8):List Value:=l.map fun b=>.int .u8 (b.toNat:Int)
theorem T'{w:World}{base e n:Nat}{v:Value}{xs:List Value}(h:w.ownsRow base e 1 v n xs)(hn:0<n):∃g cap,v=.slice (some ⟨g,0,none⟩) n cap:=by
 obtain⟨_,⟨_,h0⟩|⟨g,cap,_,rfl,_⟩⟩:=h
 ·omega
 ·exact⟨g,cap,rfl⟩
theorem Hu{w:World}{base:Nat}{v:Value}{l:List UInt8}(h:w.ownsRow base 5 1 v l.length (ia l))(hn:0<l.length):
 (convert 116 9 v).run Tryz.prog w=.ok (.string ⟨l.toArray⟩) w:=by
 obtain⟨g,cap,rfl⟩:=T' h hn
 have key:=run_convert_bytes_arg (P:=Tryz.prog) w 116 5 Tryz.underlying116 Tryz.underlying5 g 0 l.length cap (l.map fun b=>(b.toNat:Int)) (by simp) (fun i hi=>by
  have e:(⟨g,0+i,none⟩:Addr)=⟨g,i,none⟩:=by rw[aav]
  rw[e,h.cellAt i (by omega)]
  simp[ia,hi]) 9 Tryz.underlying9
 rw[key]
 have e2:strOfNums (l.map fun b=>(b.toNat:Int))=⟨l.toArray⟩:=by
  apply adi
  apply adp.1
  rw[strOfNums_data,abX]
  simp[Function.comp_def]
 rw[e2]
theorem X0{n:Nat}(h:n<256):(UInt8.ofNat n).toNat=n:=by simp;omega
theorem GV(l:List UInt8)(x:Nat)(hx:x<256):ia l++[.int .u8 (x:Int)]=ia (l++[UInt8.ofNat x]):=by
 unfold ia;rw[aaC,List.map_singleton,X0 hx]
theorem Ux:(List.range 256).all (fun y=>y ||| 128==y%128+128)=true:=by kernel_rfl
theorem RP(y:Nat)(h:y<256):y ||| 128=y%128+128:=by
 have:=abn.1 Ux y (acN.2 h);simpa using this
theorem WA(x c:Nat)(hc:x%128+128=c):bits .or .u8 ((x:Int)%256) 128=(c:Int):=by
 rw[← hc,show(x:Int)%256=((x%256:Nat):Int)from by omega];have h:=u8_or_nat (x%256) 128 (acM _ (by omega)) (by omega);rw[RP _ (acM _ (by omega)),Nat.mod_mod_of_dvd _ (by omega)]at h;exact h
structure oj(u:Nat)(l:List UInt8)(x:Nat):Prop where
 le:l.length≤9
 Ms:x<18446744073709551616
 lt:x<128^(10-l.length)
 all:Wi.put u=l++Wi.kj (9-l.length) x
theorem oj.start{u:Nat}(hu:u<18446744073709551616):oj u [] u:=⟨by simp,hu,Nat.lt_trans hu Wi.DW,rfl⟩
theorem oj.next{u x:Nat}{l:List UInt8}(h:oj u l x)(hx:128≤x):oj u (l++[UInt8.ofNat (x%128+128)]) (x / 128)∧l.length≤8:=by
 have hl:l.length≤8:=by
  rcases Nat.lt_or_ge 8 l.length with h1|h1
  ·have:=h.lt;have h2:=h.le;rw[show 10-l.length=1 by omega]at this;simp at this;omega
  ·exact h1
 obtain⟨m,hm⟩:∃m,9-l.length=m+1:=⟨8-l.length,by omega⟩;refine⟨⟨by simp;omega,by have:=h.Ms;omega,?_,?_⟩,hl⟩
 ·have:=h.lt;rw[show 10-l.length=(m+1)+1 by omega,Nat.pow_succ]at this;rw[aap,abo,show 10-(l.length+1)=m+1 by omega];exact Nat.div_lt_of_lt_mul (by rw[ade];exact this)
 ·rw[h.all,hm,Wi.kj,abg (by omega),aap,abo,show 9-(l.length+1)=m by omega];simp
theorem oj.done{u x:Nat}{l:List UInt8}(h:oj u l x)(hx:x<128):Wi.put u=l++[UInt8.ofNat x]:=by
 rw[h.all];cases 9-l.length with
 |zero=>rfl
 |succ m=>rw[Wi.kj,abb hx]
theorem xU(u:Nat)(w:World)(hu:u<18446744073709551616):
 Calls Tryz.prog 138 #[.int .u64 (u:Int)] w fun e w'=>e=.returned (.string ⟨(Wi.put u).toArray⟩)∧Below w.heap.size w w':=by
 obtain⟨i0,hi,hz0,hz1,hz2⟩:=info_parts Tryz.w9
 have HP0:=Lib.hid (oj.start hu)
 clear hu
 go_enter Tryz.func138,Tryz.ntmps138
 go_wp2_with fail
 go_loopw [0,3] (fun s0 v wr=>∃(l:List UInt8) (x:Nat),s0=.int .u64 (x:Int)∧oj u l x∧wr.ownsRow w.heap.size 5 1 v l.length (ia l)∧Below w.heap.size w wr) (fun s0 _ _=>(intOf s0).toNat)
 case atStart=>exact⟨[],u,rfl,HP0.out,World.ownsRow_nil _ _ _ _,Below.refl _ _⟩
 case round=>
  clear HP0
  obtain⟨l,x,rfl,hP,hown,hbel⟩:=hrel
  by_cases hx:128≤x
  ·have hx':(128:Int)≤(x:Int):=by omega
   obtain⟨c,hc⟩:∃c,x%128+128=c:=⟨_,rfl⟩
   have hor:=WA x c hc
   have hc256:c<256:=by omega
   obtain⟨hP2,hle⟩:=hP.next hx
   rw[hc]at hP2
   have HP2:=Lib.hid hP2;clear hP2 hP hc
   have hws:=hbel.size
   go_wp2_with (at_builtin;refine wpList_append_own _ rfl _ _ 116 rfl w.heap.size 5 i0 (.int .u8 0) 1 1 Tryz.underlying116 hi hz0 hz1 hz2 rfl (by decide) _ _ _ rfl (hown.alloc _) ⟨wr.heap.size,0,none⟩ 1 1 [.int .u8 (c:Int)] rfl rfl ?c1 ?c2 ?c3 ?c4 ?c5 ?_)
   case c1=>
    intro j u hj
    match j,hj with
    |0,hj=>simp at hj;subst hj;simp[Addr.add]
   case c2=>intro u hu;simp at hu;subst hu;rfl
   case c3=>unfold maxLen;omega
   case c4=>omega
   case c5=>simp;omega
   ·intro v' w1 hown' hgrow _
    have hb1:Below w.heap.size w w1:=(hbel.alloc hws (.cells #[.int .u8 (c:Int)] 5)).grown hgrow (by simp;omega) (fun j e=>(hown.lt j e).1)
    rw[GV l c hc256]at hown'
    have HO:=Lib.hid hown'
    have HB:=Lib.hid hb1
    clear hown' hgrow hb1 hor hown hbel hws
    go_wp2_with fail
    go_roundw
    case rel=>exact⟨l++[UInt8.ofNat c],x / 128,by go_num,HP2.out,by simpa using HO.out,HB.out⟩
    case measure=>simp[intOf];omega
  ·have hx':¬(128:Int)≤(x:Int):=by omega
   have hd:=hP.done (by omega)
   have hmod:(x:Int)%256=(x:Int):=by omega
   have hx256:x<256:=by omega
   have hle:=hP.le
   have HD:=Lib.hid hd;clear hd hP
   have hws:=hbel.size
   go_wp2_with (at_builtin;refine wpList_append_own _ rfl _ _ 116 rfl w.heap.size 5 i0 (.int .u8 0) 1 1 Tryz.underlying116 hi hz0 hz1 hz2 rfl (by decide) _ _ _ rfl (hown.alloc _) ⟨wr.heap.size,0,none⟩ 1 1 [.int .u8 (x:Int)] rfl rfl ?d1 ?d2 ?d3 ?d4 ?d5 ?_)
   case d2=>rfl
   case d3=>unfold maxLen;omega
   case d4=>omega
   case d5=>first|omega|(simp;omega)
   ·intro v' w1 hown' hgrow _
    have hb1:Below w.heap.size w w1:=(hbel.alloc hws (.cells #[.int .u8 (x:Int)] 5)).grown hgrow (by simp;omega) (fun j e=>(hown.lt j e).1)
    rw[GV l x hx256]at hown'
    have kc:=Hu (l:=l++[UInt8.ofNat x]) (by simpa using hown') (by simp)
    have HB:=Lib.hid hb1
    clear hown' hgrow hb1 hown hbel hws
    go_wp2_with fail
    go_ret
    exact⟨pM (by rw[HD.out]),HB.out⟩
def Wi.x7(t:ByteArray):ByteArray:=⟨(Wi.put t.size).toArray⟩++t
theorem Tf(t:ByteArray)(w:World)(ht:t.size≤9007199254740992):
 Calls Tryz.prog 137 #[.string t] w fun e w'=>e=.returned (.string (Wi.x7 t))∧Below w.heap.size w w':=by
 have hp:=(Wi.qJ t.size).2
 have HP:=Lib.hid (fun w=>xU t.size w (by omega))
 have HT:=Lib.hid (show Wi.x7 t=⟨(Wi.put t.size).toArray⟩++t from rfl)
 obtain⟨q,hq⟩:∃q,(⟨(Wi.put t.size).toArray⟩:ByteArray)=q:=⟨_,rfl⟩
 have hqs:q.size≤10:=by rw[← hq];show(Wi.put t.size).toArray.size≤10;simpa using hp
 rw[hq]at HP HT
 clear hq hp
 go_enter Tryz.func137,Tryz.ntmps137
 go_wp2_with fail
 refine(HP.out _).mono ?_
 rintro e w1 ⟨rfl,hb⟩
 go_wp2_with fail
 go_ret
 exact⟨pM (by rw[HT.out]),hb⟩
end
end Go.Proofs.YtbnonpbnhenkfaaGreatDoor
section
namespace Go.Proofs.YtbnonpbnhenkfaaGreatDoor
namespace Fr
def bit(r:Nat):Nat:=(r / 2) ^^^ (3988292384*(r%2))
def bits(r:Nat):Nat→Nat
 |0=>r
 |k+1=>bit (bits r k)
def step(r b:Nat):Nat:=bits (r ^^^ b) 8
def run(r:Nat)(l:List UInt8):Nat:=l.foldl (fun r b=>step r b.toNat) r
def sum(l:List UInt8):Nat:=4294967295 ^^^ run 4294967295 l
theorem Wz(r:Nat)(h:r<4294967296):bit r<4294967296:=by
 unfold bit;have h1:r%2<2:=acM _ (by omega);have h2:r / 2<2^32:=by omega
 have h3:3988292384*(r%2)<2^32:=by omega
 exact acR h2 h3
theorem CB(r:Nat)(h:r<4294967296)(k:Nat):bits r k<4294967296:=by
 induction k with
 |zero=>exact h
 |succ k ih=>exact Wz _ ih
theorem Mv(r b:Nat)(h:r<4294967296)(hb:b<256):step r b<4294967296:=
 CB _ (acR (n:=32) h (by omega)) 8
theorem Fi(l:List UInt8):∀r,r<4294967296→run r l<4294967296:=by
 induction l with
 |nil=>intro r h;exact h
 |cons b l ih=>intro r h;exact ih _ (Mv _ _ h b.toNat_lt)
theorem UF(r:Nat)(l:List UInt8)(b:UInt8):run r (l++[b])=step (run r l) b.toNat:=by simp[run,abw]
theorem Wk(l:List UInt8):sum l<4294967296:=
 acR (n:=32) (by omega) (Fi l _ (by omega))
def ie(x k:Nat):Nat:=(x*2^(k%32)%4294967296) ||| (x / 2^(32-k%32))
def four(n:Nat):List UInt8:=[UInt8.ofNat (n / 16777216),UInt8.ofNat (n / 65536),UInt8.ofNat (n / 256),UInt8.ofNat n]
def put(l:List UInt8):List UInt8:=if 65536<l.length then[]else four l.length++four (sum l)++l
theorem KT(n:Nat):(four n).length=4:=rfl
theorem De(l:List UInt8)(h:l.length≤65536):(put l).length=l.length+8:=by unfold put;rw[abg (by omega)];simp[KT];omega
theorem R9(l:List UInt8):(put l).length≤65544:=by
 by_cases h:l.length≤65536
 ·rw[De l h];omega
 ·unfold put;rw[abb (by omega)];simp
def num(l:List UInt8):Nat:=(l.take 4).foldl (fun n b=>n*256+b.toNat) 0
def next(s:List UInt8)(k:Nat):Option (List UInt8):=
 if s.length<k+8 then none
 else if 65536<num (s.drop k)∨s.length<k+8+num (s.drop k)then none
 else if(put ((s.drop (k+8)).take (num (s.drop k)))).isPrefixOf (s.drop k)then some ((s.drop (k+8)).take (num (s.drop k)))
 else none
def bI(s:List UInt8):Nat→Nat→List (List UInt8×Nat)
 |0,_=>[]
 |f+1,k=>match next s k with
  |none=>[]
  |some b=>(b,k+8+b.length)::bI s f (k+8+b.length)
def all(s:List UInt8)(k:Nat):List (List UInt8×Nat):=bI s s.length k
end Fr
end Go.Proofs.YtbnonpbnhenkfaaGreatDoor
end
namespace Go.Proofs.YtbnonpbnhenkfaaGreatDoor
section
open Go.RowKit
theorem V_(a:Nat):a &&& 31=a%32:=Nat.and_two_pow_sub_one_eq_mod a 5
theorem RS(n:Nat)(h1:1≤n)(h2:n≤31):bits .and .u64 (IntKind.u64.wrap (-(n:Int))) 31=((32-n:Nat):Int):=by
 rw[show IntKind.u64.wrap (-(n:Int))=((18446744073709551616-n:Nat):Int)from by rw[IntKind.wrap_u64];omega];have h:=u64_and_nat (18446744073709551616-n) 31 (by omega) (by omega);rw[V_,show(18446744073709551616-n)%32=32-n by omega]at h;exact h
theorem R0(x n:Nat)(hx:x<4294967296):bits .or .u32 ((x:Int)*2^(32-n)%4294967296) ((x:Int) / 2^n)=((Sh.dN x n:Nat):Int):=by
 have h1:((x:Int)*2^(32-n)%4294967296)=((x*2^(32-n)%4294967296:Nat):Int):=by
  rw[Int.natCast_emod,Int.natCast_mul,acU];rfl
 have h2:((x:Int) / 2^n)=((x / 2^n:Nat):Int):=by
  rw[Int.natCast_ediv,acU];rfl
 have h3:x / 2^n≤x:=adv _ _;rw[h1,h2,u32_or_nat _ _ (acM _ (by omega)) (by omega)];rfl
theorem nF(x n:Nat)(w:World)(hx:x<4294967296)(h1:1≤n)(h2:n≤31):
 Calls Tryz.prog 273 #[.int .u32 (x:Int),.int .i64 (n:Int)] w fun e w'=>e=.returned (.int .u32 (Sh.dN x n:Nat))∧w=w':=by
 have hand:=RS n h1 h2
 obtain⟨m,hm⟩:∃m,32-n=m:=⟨_,rfl⟩
 have H:=Lib.hid (R0 x n hx)
 rw[hm]at hand H
 have hn:(1:Int)≤(n:Int):=by omega
 have hn2:(n:Int)≤31:=by omega
 have hm3:(32:Int)-(m:Int)=(n:Int):=by omega
 have hm0:(0:Int)≤(m:Int):=by omega
 have hm1:(m:Int)≤31:=by omega
 clear hm
 go_enter Tryz.func273,Tryz.ntmps273
 go_wp2
 go_ret
 exact⟨vv H.out,rfl⟩
def Row(w:World)(b:Nat)(l:List Value):Prop:=∀j v,l[j]? = some v→w.cell? ⟨b,j,none⟩=some v∧w.frozen? ⟨b,j,none⟩=false
theorem Row.below{w w':World}{b B:Nat}{l:List Value}(h:Row w b l)(hb:Below B w w')(hlt:b<B):Row w' b l:=fun j v e=>
 ⟨(hb.cell (p:=⟨b,j,none⟩) hlt).trans (h j v e).1,(hb.frozen (p:=⟨b,j,none⟩) hlt).trans (h j v e).2⟩
theorem Row.new(w:World)(l:List Value)(t:TypeId):Row (w.alloc (.cells l.toArray t)) w.heap.size l:=fun j v e=>by
 refine⟨?_,?_⟩
 ·rw[World.cell?_alloc_mark];simpa using e
 ·obtain⟨hj,_⟩:=aaq.1 e
  rw[World.frozen?_alloc_mark];simp
theorem Row.at{w:World}{b:Nat}{aB:Array Value}{l:List Value}{t:TypeId}(hb:w.heap.size=b)(hl:aB.toList=l):Row (w.alloc (.cells aB t)) b l:=by
 subst hb;subst hl;exact Row.new w aB.toList t
theorem Row.alloc{w:World}{b:Nat}{l:List Value}(h:Row w b l)(hlt:b<w.heap.size)(o:Obj):Row (w.alloc o) b l:=h.below ((Below.refl _ _).alloc (aas _) o) hlt
theorem Row.drew{w:World}{b:Nat}{l:List Value}(h:Row w b l):Row w.drew b l:=h
theorem Row.set{w:World}{b:Nat}{l:List Value}(h:Row w b l)(k:Nat)(v:Value)(hk:k<l.length):Row (w.setCell ⟨b,k,none⟩ v) b (l.set k v):=fun j x e=>by
 refine⟨?_,?_⟩
 ·by_cases hkj:k=j
  ·subst hkj
   rw[World.cell?_setCell_same' _ _ _ (by rw[(h k _ (aay hk)).1];rfl)]
   rw[adj hk]at e;exact e
  ·rw[World.cell?_setCell_other _ _ _ _ (by intro e';cases e';exact hkj rfl)]
   rw[List.getElem?_set_ne hkj]at e
   exact(h j x e).1
 ·rw[World.frozen?_setCell]
  obtain⟨hj,_⟩:=aaq.1 e
  rw[aaY]at hj
  exact(h j _ (aay hj)).2
theorem Row.other{w:World}{b c k:Nat}{l:List Value}(h:Row w b l)(v:Value)(hne:c≠b):Row (w.setCell ⟨c,k,none⟩ v) b l:=fun j x e=>
 ⟨by rw[World.cell?_setCell_other _ _ _ _ (by intro e';cases e';exact hne rfl)];exact(h j x e).1,by rw[World.frozen?_setCell];exact(h j x e).2⟩
theorem Row.two{w:World}{b:Nat}{a0 a1:Value}(h:Row w b [a0,a1]):
 w.cell? ⟨b,0,none⟩=some a0∧w.cell? ⟨b,1,none⟩=some a1∧w.frozen? ⟨b,0,none⟩=false∧w.frozen? ⟨b,1,none⟩=false:=
 ⟨(h 0 _ rfl).1,(h 1 _ rfl).1,(h 0 _ rfl).2,(h 1 _ rfl).2⟩
theorem Row.eight{w:World}{b:Nat}{a0 a1 a2 a3 a4 a5 a6 a7:Value}(h:Row w b [a0,a1,a2,a3,a4,a5,a6,a7]):
 w.cell? ⟨b,0,none⟩=some a0∧w.cell? ⟨b,1,none⟩=some a1∧w.cell? ⟨b,2,none⟩=some a2∧w.cell? ⟨b,3,none⟩=some a3∧w.cell? ⟨b,4,none⟩=some a4∧w.cell? ⟨b,5,none⟩=some a5∧w.cell? ⟨b,6,none⟩=some a6∧w.cell? ⟨b,7,none⟩=some a7∧
 w.frozen? ⟨b,0,none⟩=false∧w.frozen? ⟨b,1,none⟩=false∧w.frozen? ⟨b,2,none⟩=false∧w.frozen? ⟨b,3,none⟩=false∧w.frozen? ⟨b,4,none⟩=false∧w.frozen? ⟨b,5,none⟩=false∧w.frozen? ⟨b,6,none⟩=false∧w.frozen? ⟨b,7,none⟩=false:=
 ⟨(h 0 _ rfl).1,(h 1 _ rfl).1,(h 2 _ rfl).1,(h 3 _ rfl).1,(h 4 _ rfl).1,(h 5 _ rfl).1,(h 6 _ rfl).1,(h 7 _ rfl).1,(h 0 _ rfl).2,(h 1 _ rfl).2,(h 2 _ rfl).2,(h 3 _ rfl).2,(h 4 _ rfl).2,(h 5 _ rfl).2,(h 6 _ rfl).2,(h 7 _ rfl).2⟩
def ku(w:World)(b:Nat)(v0 v1 v2 v3 v4 v5 v6 v7:Value):World:=
 (((((((w.setCell ⟨b,0,none⟩ v0).setCell ⟨b,1,none⟩ v1).setCell ⟨b,2,none⟩ v2).setCell ⟨b,3,none⟩ v3).setCell ⟨b,4,none⟩ v4).setCell ⟨b,5,none⟩ v5).setCell ⟨b,6,none⟩ v6).setCell ⟨b,7,none⟩ v7
theorem Row.ku{w:World}{b:Nat}{a0 a1 a2 a3 a4 a5 a6 a7:Value}(h:Row w b [a0,a1,a2,a3,a4,a5,a6,a7])(v0 v1 v2 v3 v4 v5 v6 v7:Value):Row (ku w b v0 v1 v2 v3 v4 v5 v6 v7) b [v0,v1,v2,v3,v4,v5,v6,v7]:=
 (((((((h.set 0 v0 (by simp)).set 1 v1 (by simp)).set 2 v2 (by simp)).set 3 v3 (by simp)).set 4 v4 (by simp)).set 5 v5 (by simp)).set 6 v6 (by simp)).set 7 v7 (by simp)
theorem Row.HU{w:World}{b c:Nat}{l:List Value}(h:Row w b l)(v0 v1 v2 v3 v4 v5 v6 v7:Value)(hne:c≠b):Row (Proofs.YtbnonpbnhenkfaaGreatDoor.ku w c v0 v1 v2 v3 v4 v5 v6 v7) b l:=
 (((((((h.other v0 hne).other v1 hne).other v2 hne).other v3 hne).other v4 hne).other v5 hne).other v6 hne).other v7 hne
theorem Below.ku{B:Nat}{w w':World}{b:Nat}(h:Below B w w')(hb:B≤b)(v0 v1 v2 v3 v4 v5 v6 v7:Value):Below B w (Proofs.YtbnonpbnhenkfaaGreatDoor.ku w' b v0 v1 v2 v3 v4 v5 v6 v7):=
 (((((((h.setCell (p:=⟨b,0,none⟩) hb v0).setCell (p:=⟨b,1,none⟩) hb v1).setCell (p:=⟨b,2,none⟩) hb v2).setCell (p:=⟨b,3,none⟩) hb v3).setCell (p:=⟨b,4,none⟩) hb v4).setCell (p:=⟨b,5,none⟩) hb v5).setCell (p:=⟨b,6,none⟩) hb v6).setCell (p:=⟨b,7,none⟩) hb v7
end
end Go.Proofs.YtbnonpbnhenkfaaGreatDoor
