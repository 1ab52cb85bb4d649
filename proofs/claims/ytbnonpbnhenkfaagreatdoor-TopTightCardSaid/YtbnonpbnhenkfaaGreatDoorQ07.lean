/- Part 7 of the proof; the last part says what is proved. -/
import Derived.Test.YtbnonpbnhenkfaaGreatDoorQ06
set_option linter.all false
set_option maxRecDepth 1000000
set_option maxHeartbeats 8000000
namespace Go.Proofs.YtbnonpbnhenkfaaGreatDoor
section
open Go.RowKit
structure State.Sz(m:Nat)(s:State):Prop where
 nodes:s.pool.nodes.length≤16
 places:s.pool.places.length≤m
 tree:s.tree.length≤16
 aj:s.aj.length≤32
 queue:s.queue.length≤32
 ev:s.events.l.length≤32
 au:s.cJ.l.length≤32
 spec:∀j∈s.aj,j.x.Sz∧0≤j.x.count
 labels:∀n∈s.pool.nodes,n.labels.length≤67108864
theorem z_(s:State)(j:az):(s.cP j).events=s.events∧(s.cP j).tree.length=s.tree.length∧(s.cP j).pool=s.pool.drop j.id∧(s.cP j).cJ=s.cJ∧(s.cP j).round=s.round:=by
 unfold State.cP;rcases j.x.total with⟨v,_|_⟩
 ·exact⟨rfl,rfl,rfl,rfl,rfl⟩
 ·refine⟨rfl,?_,rfl,rfl,rfl⟩;have:=congrArg List.length (wZ s.tree j.x.path (aD.lh v) (J0 v));rw[aao,aao]at this;exact this
theorem yE(s:State)(id:UInt64)(k:Int){m:Nat}(h:s.Sz m)(hm:m≤50000000):PC 103 [s.pv,pu id,i64 k] (·=.aK [(s.stop id k).1.pv,i64 (s.stop id k).2]):=by
 refine al Tryz.func103 ?_;have hj:=h.aj;refine af (uJ s id (by omega)) rfl ?_;rcases jW s.aj id with⟨h1,h2⟩|⟨n,h1,h2,h3⟩
 ·rw[show s.stop id k=(s,7)by unfold State.stop;rw[h1];rfl];rw[h1];exact ae.t (by decide)<|ah<|ab
 rw[h1];refine ae.f (by omega)<|aa<|bx h2 ?_;have hjm:=aau h2;have he:s.stop id k=match(bK s.aj id).1.runs with
  |false=>(s,15)
  |true=>((({s.cP (bK s.aj id).1 with queue:=(fv (s.cP (bK s.aj id).1).queue ⟨id,(bK s.aj id).1.x.prio⟩).1}:State).with n {(bK s.aj id).1 with runs:=false,left:=0}).fT id k,0):=by
  unfold State.stop;rw[h1,aar (by omega)];rfl
 generalize(bK s.aj id).1=j at h2 hjm he⊢;rcases j with⟨ji,jx,runs,left⟩
 cases runs with
 |false=>
  rw[he];exact ah<|ab
 |true=>
  rw[he];refine aa ?_;have hp:=h.places;have ht:=h.tree;have hq:=h.queue;obtain⟨hf,hfj,hfq⟩:=p8 s ⟨ji,jx,true,left⟩;obtain⟨hfe,hft,_⟩:=z_ s ⟨ji,jx,true,left⟩;refine af (H9 s ⟨ji,jx,true,left⟩ (by omega) (by omega) (h.spec _ hjm).1.1) rfl ?_;exact af (Ky (s.cP ⟨ji,jx,true,left⟩).queue ⟨id,jx.prio⟩ (by rw[hfq];omega)) rfl<|af (IB {s.cP ⟨ji,jx,true,left⟩with queue:=(fv (s.cP ⟨ji,jx,true,left⟩).queue ⟨id,jx.prio⟩).1} n ⟨ji,jx,false,0⟩ ⟨ji,jx,true,left⟩ (by show(s.cP _).aj.length≤_;rw[hfj];omega) (by show(s.cP _).aj[n]? = _;rw[hfj];exact h2)) rfl<|af (sO (({s.cP ⟨ji,jx,true,left⟩with queue:=(fv (s.cP ⟨ji,jx,true,left⟩).queue ⟨id,jx.prio⟩).1}:State).with n ⟨ji,jx,false,0⟩) id k (by show(s.cP _).events.l.length≤_;rw[hfe];have:=h.ev;omega)) rfl<|ab
theorem PW(s:State)(id:UInt64)(nodes:List BA){m:Nat}(h:s.Sz m)(hm:m≤50000000)(hn:nodes.length≤1000000):PC 398 [s.pv,pu id,sl st nodes] (·=.aK [(s.begin id nodes).1.pv,i64 (s.begin id nodes).2]):=by
 refine al Tryz.func398 ?_;have hjl:=h.aj;refine af (uJ s id (by omega)) rfl ?_;rcases jW s.aj id with⟨h1,h2⟩|⟨n,h1,h2,h3⟩
 ·rw[show s.begin id nodes=(s,7)by unfold State.begin;rw[h1];rfl];rw[h1];exact ae.t (by decide)<|ah<|ab
 rw[h1];refine ae.f (by omega)<|aa<|bx h2 ?_;have hjm:=aau h2;have he:s.begin id nodes=match(bK s.aj id).1.runs with
  |true=>(s,15)
  |false=>match decide ((nodes.length:Int)=(bK s.aj id).1.x.count)with
   |false=>(s,1)
   |true=>match(bK s.aj id).1.x.total with
    |(_,false)=>(s,5)
    |(v,true)=>match iP s.tree (bK s.aj id).1.x.path v with
     |(t,e)=>match decide (e=0)with
      |false=>(s,e)
      |true=>match s.pool.lay id nodes (bK s.aj id).1.x.cy with
       |(p,e)=>match decide (e=0)with
        |false=>(s,e)
        |true=>((({s with tree:=t,pool:=p,queue:=(fJ s.queue id).1}:State).with n {(bK s.aj id).1 with runs:=true,left:=(bK s.aj id).1.x.cN}).fT id 2,0):=by
  unfold State.begin;rw[h1,aar (by omega)];rfl
 generalize(bK s.aj id).1=j at h2 hjm he⊢;rcases j with⟨ji,jx,runs,left⟩
 cases runs with
 |true=>
  rw[he];exact ah<|ab
 |false=>
 refine aa ?_;have hml:(nodes.map st).length=nodes.length:=aao ..;have hp:=h.places;have ht:=h.tree;have hq:=h.queue;have hnd:=h.nodes;dsimp only at he;refine ae.two (fun h4=>?_) (fun h4=>?_)
 ·rw[hml]at h4;have h4:decide ((nodes.length:Int)=jx.count)=true:=h4;rw[h4]at he;refine aa<|af (tC jx) rfl ?_;rcases htot:jx.total with⟨v,_|_⟩
  ·rw[htot]at he;rw[he];exact ah<|ab
  rw[htot]at he;dsimp only at he;refine aa<|af (yL s.tree jx.path v (by omega) (h.spec _ hjm).1.1) rfl ?_;rcases hch:iP s.tree jx.path v with⟨t,e⟩
  rw[hch]at he;dsimp only at he;refine ae.two (fun h5=>?_) (fun h5=>?_)
  ·have h5:decide (e=0)=true:=h5;rw[h5]at he;dsimp only at he;refine aa<|af (S6 s.pool id nodes jx.cy (by omega) (by omega)) rfl ?_;rcases hly:s.pool.lay id nodes jx.cy with⟨p,e'⟩
   rw[hly]at he;dsimp only at he;refine ae.two (fun h6=>?_) (fun h6=>?_)
   ·have h6:decide (e'=0)=true:=h6;rw[h6]at he;rw[he];exact aa<|af (CD s.queue id (by omega)) rfl<|ar<|af (IB {s with tree:=t,pool:=p,queue:=(fJ s.queue id).1} n ⟨ji,jx,true,jx.cN⟩ ⟨ji,jx,false,left⟩ (by show s.aj.length≤_;omega) h2) rfl<|af (sO (({s with tree:=t,pool:=p,queue:=(fJ s.queue id).1}:State).with n ⟨ji,jx,true,jx.cN⟩) id 2 (by show s.events.l.length≤_;have:=h.ev;omega)) rfl<|ab
   ·have h6:decide (e'=0)=false:=h6;rw[h6]at he;rw[he];exact ah<|ab
  ·have h5:decide (e=0)=false:=h5;rw[h5]at he;rw[he];exact ah<|ab
 ·rw[hml]at h4;have h4:decide ((nodes.length:Int)=jx.count)=false:=h4;rw[h4]at he;rw[he];exact ah<|ab
theorem BQ(s:State)(id:UInt64)(k:Int){m:Nat}(h:s.Sz m)(hm:m≤50000000):PC 370 [s.pv,pu id,i64 k] (·=.aK [(s.end_ id k).1.pv,i64 (s.end_ id k).2]):=by
 refine al Tryz.func370 ?_;have hjl:=h.aj;refine af (uJ s id (by omega)) rfl ?_;rcases jW s.aj id with⟨h1,h2⟩|⟨n,h1,h2,h3⟩
 ·rw[show s.end_ id k=(s,7)by unfold State.end_;rw[h1];rfl];rw[h1];exact ae.t (by decide)<|ah<|ab
 rw[h1];refine ae.f (by omega)<|aa<|bx h2 ?_;have hjm:=aau h2;have he:s.end_ id k=match(bK s.aj id).1.runs with
  |true=>(({s.cP (bK s.aj id).1 with aj:=(s.cP (bK s.aj id).1).aj.eraseIdx n}:State).fT id k,0)
  |false=>(({s with queue:=(fJ s.queue id).1,aj:=s.aj.eraseIdx n}:State).fT id k,0):=by
  unfold State.end_;rw[h1,aar (by omega)];rfl
 generalize(bK s.aj id).1=j at h2 hjm he⊢;rcases j with⟨ji,jx,runs,left⟩
 have hp:=h.places;have ht:=h.tree;have hq:=h.queue;have hlt:=(aaq.1 h2).1;cases runs with
 |true=>
  rw[he];refine ah ?_;obtain⟨hf,hfj,hfq⟩:=p8 s ⟨ji,jx,true,left⟩;obtain⟨hfe,hft,_⟩:=z_ s ⟨ji,jx,true,left⟩;refine bx h2<|ay (H9 s ⟨ji,jx,true,left⟩ (by omega) (by omega) (h.spec _ hjm).1.1) rfl ?_;refine ar ?_;have hfl:n<(s.cP ⟨ji,jx,true,left⟩).aj.length:=by rw[hfj];exact hlt
  have hfl2:(s.cP ⟨ji,jx,true,left⟩).aj.length≤32:=by rw[hfj];exact hjl
  have hev:(s.cP ⟨ji,jx,true,left⟩).events.l.length≤60000000:=by rw[hfe];have:=h.ev;omega
  generalize s.cP ⟨ji,jx,true,left⟩=t at hfl hfl2 hev⊢;refine a_.bB [] (n:=200) (q_ t.aj (by omega) _) rfl trivial<|dH (n+1)<|a_.bB [25] (n:=200) (Hz t.aj n hfl (by omega) 25 _ rfl) rfl ⟨rfl,trivial⟩ ?_;have her:(t.aj.eraseIdx n).length=t.aj.length-1:=by rw[acW,abb hfl]
  refine a_.by (n:=(t.aj.eraseIdx n).length+100) (sO {t with aj:=t.aj.eraseIdx n} id k hev) (aN (iw (aN rfl (aN rfl (aN rfl (aN rfl (aN rfl (aN (nZ (l:=t.aj.eraseIdx n) rfl (by rw[← her];exact pV az.pv _ _) (by rw[← her,aap,aao];omega) gv.br rfl) rfl))))))) (aN rfl (aN rfl rfl))) ?_;exact ab
 |false=>
  rw[he];refine aa<|af (CD s.queue id (by omega)) rfl<|a_.bB [] (n:=200) (q_ s.aj (by omega) _) rfl trivial<|dH (n+1)<|a_.bB [26] (n:=200) (Hz s.aj n hlt (by omega) 26 _ rfl) rfl ⟨rfl,trivial⟩ ?_;have her:(s.aj.eraseIdx n).length=s.aj.length-1:=by rw[acW,abb hlt]
  refine a_.by (n:=(s.aj.eraseIdx n).length+100) (sO {s with queue:=(fJ s.queue id).1,aj:=s.aj.eraseIdx n} id k (by show s.events.l.length≤_;have:=h.ev;omega)) (aN (iw (aN rfl (aN rfl (aN rfl (aN rfl (aN rfl (aN (nZ (l:=s.aj.eraseIdx n) rfl (by rw[← her];exact pV az.pv _ _) (by rw[← her,aap,aao];omega) gv.br rfl) rfl))))))) (aN rfl (aN rfl rfl))) ?_;exact ab
theorem St(t:List aD)(p:BA)(hl:t.length≤67108864):PC 197 [st p,.ip [sl aD.pv t] 0] (·=bo (!(dt t p).2)):=al Tryz.func197<|af (Am t p hl) rfl<|ab
theorem Kl(t:List aD)(path:BA)(hl:t.length≤67108864)(hs:path.size≤1000000):PC 129 [sl aD.pv t,st path] (·=bo (there t path)):=by
 refine al Tryz.func129<|a_.bB [] (n:=200) (AZ path hs _) rfl trivial ?_;have hu:=uU path;refine db.l (ak.mk (dS ef (gr path) aG (by omega)) ?_);have hlen:(gr path++[aG]).length≤4:=by rw[aap];show(gr path).length+1≤4;omega
 refine a_.by (n:=(gr path++[aG]).length+100) (zu cA.one (gr path++[aG]) (fun p=>!(dt t p).2) (by omega) fun p _=>St t p hl) (aN (cT (l:=gr path++[aG]) rfl (show(gr path).map st++[st aG]=_ by rw[aaC];rfl) ef.br (show(gr path).length+1=_ by rw[aap];rfl) rfl) (aN rfl rfl)) ?_;exact ab
theorem W7(s:State)(x:Spec){m:Nat}(h:s.Sz m)(hx:x.Sz):PC 369 [s.pv,x.pv] (·=.aK [(s.ew x).1.pv,pu (s.ew x).2.1,i64 (s.ew x).2.2]):=by
 refine al Tryz.func369 ?_;have ht:=h.tree;have hq:=h.queue;have hj:=h.aj;refine af (tH x hx) rfl<|ae.two (fun h1=>?_) (fun h1=>?_)
 ·refine aa<|af (Kl s.tree x.path (by omega) hx.1) rfl ?_;cases h2:there s.tree x.path with
  |false=>
   rw[show s.ew x=(s,0,7)by unfold State.ew;rw[h1,h2]];exact ah<|ab
  |true=>
  refine aa ?_;have hml:(s.aj.map az.pv).length=s.aj.length:=aao ..;refine ae.two (fun h3=>?_) (fun h3=>?_)
  ·rw[hml]at h3;rw[show s.ew x=(s,0,9)by unfold State.ew;rw[h1,h2,h3]];exact ah<|ab
  rw[hml]at h3;have hmx:decide (s.next=18446744073709551615)=decide (((s.next.toNat:Nat):Int)=18446744073709551615):=(jP s.next 18446744073709551615).symm;refine ae.two (fun h4=>?_) (fun h4=>?_)
  ·rw[show s.ew x=(s,0,9)by unfold State.ew;rw[h1,h2,h3,hmx,h4]];exact ah<|ab
  refine aa<|af (Ky s.queue ⟨s.next,x.prio⟩ (by omega)) rfl ?_;rcases hqp:fv s.queue ⟨s.next,x.prio⟩with⟨q,e⟩
  refine ae.two (fun h5=>?_) (fun h5=>?_)
  ·have h5:decide (e=0)=true:=h5;rw[show s.ew x=(({s with queue:=q,aj:=s.aj++[⟨s.next,x,false,0⟩],next:=s.next+1}:State).fT s.next 1,s.next,0)by unfold State.ew;rw[h1,h2,h3,hmx,h4,hqp];dsimp only;rw[h5]];refine aa<|ay (O3 s.aj) rfl<|ak.mk ⟨(dS gv s.aj ⟨s.next,x,false,0⟩ (by omega)).1,fun h=>(by cases h)⟩ ?_;refine ax (zT s.next)<|ar<|a_.by (n:=(s.aj++[(⟨s.next,x,false,0⟩:az)]).length+100) (sO {s with queue:=q,aj:=s.aj++[⟨s.next,x,false,0⟩],next:=s.next+1} s.next 1 (by show s.events.l.length≤_;have:=h.ev;omega)) (aN (iw (aN rfl (aN rfl (aN rfl (aN rfl (aN rfl (aN (cT (l:=s.aj++[⟨s.next,x,false,0⟩]) rfl (show s.aj.map az.pv++[az.pv ⟨s.next,x,false,0⟩]=_ by rw[aaC];rfl) gv.br (show(s.aj.map az.pv).length+1=_ by rw[hml,aap];rfl) rfl) rfl))))))) (aN rfl (aN rfl rfl))) ?_;exact ab
  ·have h5:decide (e=0)=false:=h5;rw[show s.ew x=(s,0,e)by unfold State.ew;rw[h1,h2,h3,hmx,h4,hqp];dsimp only;rw[h5]];exact ah<|ab
 ·rw[show s.ew x=(s,0,x.check)by unfold State.ew;rw[h1]];exact ah<|ab
abbrev SB(zs:List PV)(L:List az):aA:=.rows 12 (L.map az.pv++zs) true none 90
theorem cS{zs:List PV}(hz:cE zs)(L:List az):cE (L.map az.pv++zs):=fun r hr=>(aaN.1 hr).elim (gv.bP L r) (hz r)
theorem nK(zs:List PV)(L:List az)(i:Nat)(x:az)(h:i<L.length):PV.c9 (L.map az.pv++zs) (0+i) (az.pv x)=(L.set i x).map az.pv++zs:=by rw[aav];exact Cd az.pv L zs i x h
theorem fG(zs:List PV){L:List az}{i:Nat}{x:az}(h:L[i]? = some x){k:PV→Prop}(hk:k (az.pv x)):dC (L.map az.pv++zs) ((0+i:Nat):Int) k:=
 dC.intro _ (by rw[abk,aav];exact wg az.pv h) (abE _) hk
theorem cZ(a b:Nat)(h:a+b≤4611686018427387904:=by omega):IntKind.i64.wrap ((a:Int)+(b:Int))=((a+b:Nat):Int):=wrap_i64 (by omega) (by omega)
theorem cO(a:Nat)(h:a≤4611686018427387904:=by omega):IntKind.i64.wrap ((a:Int)+1)=((a+1:Nat):Int):=wrap_i64 (by omega) (by omega)
theorem dY(a b:Nat)(hb:b≤a:=by omega)(h:a≤4611686018427387904:=by omega):IntKind.i64.wrap ((a:Int)-(b:Int))=((a-b:Nat):Int):=wrap_i64 (by omega) (by omega)
theorem dD(a:Nat)(h:a≤4611686018427387904:=by omega):IntKind.i64.wrap (((a+1:Nat):Int)-1)=((a:Nat):Int):=wrap_i64 (by omega) (by omega)
theorem bg{a n:Nat}(h:a<n):(0:Int)≤(a:Int)∧(a:Int)<(n:Int):=⟨by omega,by omega⟩
theorem uZ(zs:List PV){L:List az}{i k:Nat}{x z:az}(hi:i<L.length)(h:(L.set i x)[k]? = some z):PV.nth (PV.c9 (L.map az.pv++zs) (0+i) (az.pv x)) (0+k)=some (az.pv z):=by rw[nK zs L i x hi,aav];exact wg az.pv h
theorem xG{α:Type}{L:List α}{i j:Nat}{x y:α}(hx:L[i]? = some x)(hy:L[j]? = some y):swp L i j=(L.set i y).set j x:=by unfold swp;rw[hx,hy]
theorem uN{α:Type}(L:List α)(i j:Nat):(swp L i j).length=L.length:=by
 unfold swp;split
 ·rw[aaY,aaY]
 ·rfl
theorem LO{α:Type}:∀(n a b:Nat) (L:List α),gu (n+1) a b L=swp (gu n a b L) (a+n) (b+n)
 |0,_,_,_=>rfl
 |n+1,a,b,L=>by
  show gu (n+1) (a+1) (b+1) (swp L a b)=_
  rw[LO n (a+1) (b+1)]
  show swp (gu n (a+1) (b+1) (swp L a b)) _ _=swp (gu n (a+1) (b+1) (swp L a b)) _ _
  congr 1<;>omega
theorem pU{α:Type}:∀(n a b:Nat) (L:List α),(gu n a b L).length=L.length
 |0,_,_,_=>rfl
 |n+1,a,b,L=>by show(gu n (a+1) (b+1) (swp L a b)).length=_;rw[pU n,uN]
section
variable {zs:List PV}(hz:cE zs)
include hz
theorem BF(L:List az)(a b n:Nat)(ha:a+n≤L.length)(hb:b+n≤L.length)(hl:L.length≤1000)(f:PV)(hf:f=.fn 108 [])(j nx:Nat)(hne:Nat.beq nx j=false):LC 357 [.aH j 0 L.length,i64 a,i64 b,i64 n,f] [(j,SB zs L)] nx fun r d=>r=.aK []∧d=[(j,some (SB zs (gu n a b L))),(j,none)]:=by
 subst hf;refine eK (js:=[j]) (bs:=[SB zs L]) (args:=[.aH 0 0 L.length,i64 a,i64 b,i64 n,.fn 108 []]) Tryz.func357 rfl rfl ?_ rfl ⟨⟨rfl,cS hz L⟩,trivial⟩ rfl ?_
 ·unfold cf;rw[hne];rfl
 refine cv.inv (ι:={p:Nat×List az//p.1≤n∧p.2=gu p.1 a b L}) ⟨fun p=>[(10,i64 p.1.1)],[0,1,2,3],fun p=>[(0,SB zs p.1.2)],[]⟩ (fun p=>n-p.1.1) ⟨(0,L),aaF _,rfl⟩ ?_ ?_
 ·exact bY rfl (cS hz _)
 rintro⟨⟨q,M⟩,hq,hM⟩;dsimp only at hq hM;have hs:=LO q a b L;have hlen:=pU q a b L;rw[← hM]at hs hlen;refine ae.two (fun h1=>?_) (fun h1=>?_)
 ·have h1:q<n:=eg h1;refine ah ?_;obtain⟨x,hx⟩:=get_at (l:=M) (k:=a+q) (by omega);obtain⟨y,hy⟩:=get_at (l:=M) (k:=b+q) (by omega);rw[xG hx hy]at hs;have hy2:∃z,(M.set (a+q) y)[b+q]? = some z:=get_at (by rw[aaY];omega);obtain⟨z,hz2⟩:=hy2;refine ax (cZ a q)<|ax (cZ b q)<|ax (cZ b q)<|ak.mk ⟨by omega,by omega⟩ ?_;refine fG zs hy<|ax (cZ a q)<|ak.mk ⟨by omega,by omega⟩ ?_;refine fG zs hx<|ak.mk ⟨by omega,by omega⟩ ?_;refine fG zs hx<|ak.mk ⟨by omega,by omega⟩ ?_;refine dC.intro (az.pv z) (uZ zs (show a+q<M.length by omega) hz2) (abE _)<|ar<|ax (cO q)<|⟨⟨(q+1,(M.set (a+q) y).set (b+q) x),h1,hs.symm⟩,id,?_,?_⟩
  ·show n-(q+1)<n-q;omega
  have hr:PV.c9 (PV.c9 (M.map az.pv++zs) (0+(a+q)) (az.pv y)) (0+(b+q)) (az.pv x)=((M.set (a+q) y).set (b+q) x).map az.pv++zs:=by
   rw[nK zs M (a+q) y (by omega),nK zs _ (b+q) x (by rw[aaY];omega)]
  exact dv ⟨⟨BB.aO (congrArg (fun r=>some (aA.rows 12 r true none _)) hr) (cS hz _),rfl⟩,trivial⟩
 ·have h1:¬q<n:=fun h=>aaw h1 (abG.2 h)
  have hqn:q=n:=by omega
  subst hqn;exact aa<|du<|kv (0,j) rfl rfl (cS hz _)<|ar<|congrArg (fun x=>[(j,some (SB zs x)),(j,none)]) hM
end
theorem FU{α:Type}(lt:α→α→Bool)(a:Nat):∀(j:Nat) (L:List α),(gx lt a j L).length=L.length
 |0,_=>rfl
 |j+1,L=>by
  unfold gx
  split
  ·rfl
  ·split
   ·rfl
   ·rw[FU lt a j,uN]
theorem FT{α:Type}(lt:α→α→Bool)(a:Nat):∀(m i:Nat) (L:List α),mL lt a (m+1) i L=gx lt a (i+m) (mL lt a m i L)
 |0,_,_=>rfl
 |m+1,i,L=>by
  show mL lt a (m+1) (i+1) (gx lt a i L)=_
  rw[FT lt a m (i+1)]
  show gx lt a (i+1+m) _=gx lt a (i+(m+1)) _
  congr 1;omega
theorem zZ{α:Type}(lt:α→α→Bool)(a:Nat):∀(m i:Nat) (L:List α),(mL lt a m i L).length=L.length
 |0,_,_=>rfl
 |m+1,i,L=>by show(mL lt a m (i+1) (gx lt a i L)).length=_;rw[zZ lt a m,FU]
section
variable {zs:List PV}(hz:cE zs){c:az→az→Int}(hc:∀a b:az,PC 108 [a.pv,b.pv] (·=i64 (c a b)))
include hz hc
abbrev cz(c:az→az→Int)(a b:az):Bool:=decide (c a b<0)
theorem KB(L:List az)(a b:Nat)(hb:b≤L.length)(hl:L.length≤1000)(ha:a≤1000)(f:PV)(hf:f=.fn 108 [])(j nx:Nat)(hne:Nat.beq nx j=false):LC 253 [.aH j 0 L.length,i64 a,i64 b,f] [(j,SB zs L)] nx fun r d=>r=.aK []∧d=[(j,some (SB zs (ir (cz c) a b L))),(j,none)]:=by
 subst hf;refine eK (js:=[j]) (bs:=[SB zs L]) (args:=[.aH 0 0 L.length,i64 a,i64 b,.fn 108 []]) Tryz.func253 rfl rfl ?_ rfl ⟨⟨rfl,cS hz L⟩,trivial⟩ rfl ?_
 ·unfold cf;rw[hne];rfl
 refine ax (cO a) ?_;refine cv.inv (ι:={p:Nat×List az//a+1≤p.1∧(p.1≤b∨p.1=a+1)∧p.2=mL (cz c) a (p.1-(a+1)) (a+1) L}) ⟨fun p=>[(8,i64 p.1.1)],[0,1,2,3],fun p=>[(0,SB zs p.1.2)],[]⟩ (fun p=>b-p.1.1) ⟨(a+1,L),aas _,.inr rfl,by rw[acn];rfl⟩ ?_ ?_
 ·exact bY rfl (cS hz _)
 rintro⟨⟨i,M⟩,hi,hib,hM⟩;dsimp only at hi hib hM;have hlen:M.length=L.length:=by rw[hM];exact zZ _ _ _ _ _
 refine ae.two (fun h1=>?_) (fun h1=>?_)
 ·have h1:i<b:=eg h1;refine ah<|cv.inv (ι:={p:Nat×List az//p.1≤i∧p.2.length=L.length∧gx (cz c) a p.1 p.2=gx (cz c) a i M}) ⟨fun p=>[(9,i64 p.1.1)],[0,1,2,3,8],fun p=>[(0,SB zs p.1.2)],[]⟩ (fun p=>p.1.1) ⟨(i,M),aas _,hlen,rfl⟩ ?_ ?_
  ·exact bY rfl (cS hz _)
  rintro⟨⟨k,N⟩,hk,hN,hR⟩;dsimp only at hk hN hR;have fin:gx (cz c) a k N=N→N=mL (cz c) a (i+1-(a+1)) (a+1) L:=fun e=>by
   rw[show i+1-(a+1)=(i-(a+1))+1 by omega,FT,← hM,show a+1+(i-(a+1))=i by omega,← hR,e]
  refine ae.two (fun h2=>?_) (fun h2=>?_)
  ·have h2:a<k:=eg h2;obtain⟨k,rfl⟩:∃k',k=k'+1:=⟨k-1,by omega⟩;obtain⟨x,hx⟩:=get_at (l:=N) (k:=k+1) (by omega);obtain⟨y,hy⟩:=get_at (l:=N) (k:=k) (by omega);have hlt:dI (cz c) N (k+1) k=decide (c x y<0):=by unfold dI;rw[hx,hy]
   have hunf:gx (cz c) a (k+1) N=match decide (c x y<0)with|false=>N|true=>gx (cz c) a k (swp N (k+1) k):=by
    conv=>lhs;unfold gx
    rw[aaB h2,hlt];cases decide (c x y<0)<;>rfl
   refine ak.mk (bg (show k+1<L.length by omega))<|fG zs hx<|ax (dD k)<|ak.mk (bg (show k<L.length by omega))<|fG zs hy<|ay (hc x y) rfl<|ae.two (fun h3=>?_) (fun h3=>?_)
   ·rw[h3,xG hx hy]at hunf;refine ar<|ah ?_;obtain⟨z,hz2⟩:=get_at (l:=N.set (k+1) y) (k:=k) (by rw[aaY];omega);refine ax (dD k)<|ax (dD k)<|ak.mk (bg (show k<L.length by omega))<|fG zs hy<|ak.mk (bg (show k+1<L.length by omega))<|fG zs hx<|ak.mk (bg (show k+1<L.length by omega))<|fG zs hx<|ak.mk (bg (show k<L.length by omega))<|dC.intro (az.pv z) (uZ zs (show k+1<N.length by omega) hz2) (abE _)<|ar<|ax (dD k)<|⟨⟨(k,(N.set (k+1) y).set k x),by show k≤i;omega,by show((N.set (k+1) y).set k x).length=_;rw[aaY,aaY];exact hN,by rw[← hR,hunf]⟩,id,abW k,?_⟩;have hr:PV.c9 (PV.c9 (N.map az.pv++zs) (0+(k+1)) (az.pv y)) (0+k) (az.pv x)=((N.set (k+1) y).set k x).map az.pv++zs:=by
     rw[nK zs N (k+1) y (by omega),nK zs _ k x (by rw[aaY];omega)]
    exact dv ⟨⟨BB.aO (congrArg (fun r=>some (aA.rows 12 r true none _)) hr) (cS hz _),rfl⟩,trivial⟩
   ·rw[h3]at hunf;refine ar<|aa<|ax (cO i)<|⟨⟨(i+1,N),by show a+1≤i+1;omega,.inl h1,fin hunf⟩,id,?_,?_⟩
    ·show b-(i+1)<b-i;omega
    exact bY rfl (cS hz _)
  ·have h2:¬a<k:=fun h=>aaw h2 (abG.2 h)
   have hunf:gx (cz c) a k N=N:=by
    cases k with
    |zero=>rfl
    |succ k=>unfold gx;rw[aar h2]
   refine ar<|aa<|ax (cO i)<|⟨⟨(i+1,N),by show a+1≤i+1;omega,.inl h1,fin hunf⟩,id,?_,?_⟩
   ·show b-(i+1)<b-i;omega
   exact bY rfl (cS hz _)
 ·have h1:¬i<b:=fun h=>aaw h1 (abG.2 h)
  refine aa ?_;have hMe:M=ir (cz c) a b L:=by
   rw[hM];unfold ir;congr 1;omega
  exact du<|kv (0,j) rfl rfl (cS hz _)<|ar<|congrArg (fun x=>[(j,some (SB zs x)),(j,none)]) hMe
end
theorem yz(a:Nat)(h1:1≤a:=by omega)(h:a≤4611686018427387904:=by omega):IntKind.i64.wrap ((a:Int)-1)=((a-1:Nat):Int):=wrap_i64 (by omega) (by omega)
theorem rV(a:Nat)(h:a≤4611686018427387904:=by omega):IntKind.i64.wrap (a:Int)=(a:Int):=wrap_i64 rfl (by omega)
theorem rj(a:Nat)(h:a≤4611686018427387904:=by omega):IntKind.u64.wrap (a:Int)=(a:Int):=by
 show(a:Int)%18446744073709551616=_
 omega
theorem rF(a:Nat):(a:Int).fdiv 2=((a / 2:Nat):Int):=by
 rw[Int.fdiv_eq_ediv_of_nonneg _ (by decide)];omega
theorem uh{α:Type}:∀(f i j m:Nat) (L:List α),(kl f i j m L).length=L.length
 |0,_,_,_,_=>rfl
 |f+1,i,j,m,L=>by
  unfold kl
  split
  ·exact pU _ _ _ _
  ·split
   ·rw[uh f,pU]
   ·rw[uh f,pU]
section
variable {zs:List PV}(hz:cE zs)
include hz
theorem Jr(L:List az)(a m b:Nat)(ha:a<m)(hmb:m<b)(hb:b≤L.length)(hl:L.length≤1000)(f:PV)(hf:f=.fn 108 [])(j nx:Nat)(hne:Nat.beq nx j=false):LC 306 [.aH j 0 L.length,i64 a,i64 m,i64 b,f] [(j,SB zs L)] nx fun r d=>r=.aK []∧d=[(j,some (SB zs (ie a m b L))),(j,none)]:=by
 subst hf;refine eK (js:=[j]) (bs:=[SB zs L]) (args:=[.aH 0 0 L.length,i64 a,i64 m,i64 b,.fn 108 []]) Tryz.func306 rfl rfl ?_ rfl ⟨⟨rfl,cS hz L⟩,trivial⟩ rfl ?_
 ·unfold cf;rw[hne];rfl
 refine ax (dY m a)<|ax (dY b m) ?_;refine cv.inv (ι:={p:Nat×Nat×List az×Nat//1≤p.1∧1≤p.2.1∧p.1≤m∧m+p.2.1≤L.length∧p.1+p.2.1≤p.2.2.2∧p.2.2.1.length=L.length∧kl p.2.2.2 p.1 p.2.1 m p.2.2.1=ie a m b L}) ⟨fun p=>[(10,i64 p.1.1),(11,i64 p.1.2.1)],[0,2,4],fun p=>[(0,SB zs p.1.2.2.1)],[]⟩ (fun p=>p.1.1+p.1.2.1) ⟨(m-a,b-m,L,b-a),by show 1≤m-a;omega,by show 1≤b-m;omega,by show m-a≤m;omega,by show m+(b-m)≤_;omega,by show m-a+(b-m)≤b-a;omega,rfl,rfl⟩ ?_ ?_
 ·exact bY rfl (cS hz _)
 rintro⟨⟨i,k,N,g⟩,h1,h2,h3,h4,h5,h6,h7⟩;dsimp only at h1 h2 h3 h4 h5 h6 h7;obtain⟨g,rfl⟩:∃g',g=g'+1:=⟨g-1,by omega⟩;refine ae.two (fun c1=>?_) (fun c1=>?_)
 ·have c1:i=k:=adt.1 (aat c1);subst c1;refine aa<|ax (dY m i) ?_;have hsr:=BF hz N (m-i) m i (by omega) (by omega) (by omega) (.fn 108 []) rfl 0;rw[h6]at hsr;refine a_.bB [0] (n:=200) (hsr _ rfl) rfl ⟨rfl,trivial⟩ ?_;have he:gu i (m-i) m N=ie a m b L:=by
   rw[← h7];conv=>rhs;unfold kl
   rw[aaB rfl]
  exact du<|kv (0,j) rfl rfl (cS hz _)<|ar<|congrArg (fun x=>[(j,some (SB zs x)),(j,none)]) he
 ·have c1:¬i=k:=fun e=>aaw c1 (congrArg (fun n:Nat=>(n:Int)) e)
  refine ah<|ae.two (fun c2=>?_) (fun c2=>?_)
  ·have c2:k<i:=eg c2;refine ah<|ax (dY m i) ?_;have hsr:=BF hz N (m-i) m k (by omega) (by omega) (by omega) (.fn 108 []) rfl 0;rw[h6]at hsr;refine a_.bB [0] (n:=200) (hsr _ rfl) rfl ⟨rfl,trivial⟩<|ax (dY i k)<|⟨⟨(i-k,k,gu k (m-i) m N,g),by show 1≤i-k;omega,h2,by show i-k≤m;omega,h4,by show i-k+k≤g;omega,by show(gu _ _ _ _).length=_;rw[pU];exact h6,?_⟩,id,?_,?_⟩
   ·show kl g (i-k) k m _=_
    rw[← h7];conv=>rhs;unfold kl
    rw[aar c1,aaB c2]
   ·show i-k+k<i+k;omega
   exact bY rfl (cS hz _)
  ·have c2:¬k<i:=jn c2;refine aa<|ax (dY m i)<|ax (cZ m k)<|ax (dY (m+k) i) ?_;have hsr:=BF hz N (m-i) (m+k-i) i (by omega) (by omega) (by omega) (.fn 108 []) rfl 0;rw[h6]at hsr;refine a_.bB [0] (n:=200) (hsr _ rfl) rfl ⟨rfl,trivial⟩<|ax (dY k i)<|⟨⟨(i,k-i,gu i (m-i) (m+k-i) N,g),h1,by show 1≤k-i;omega,h3,by show m+(k-i)≤_;omega,by show i+(k-i)≤g;omega,by show(gu _ _ _ _).length=_;rw[pU];exact h6,?_⟩,id,?_,?_⟩
   ·show kl g i (k-i) m _=_
    rw[← h7];conv=>rhs;unfold kl
    rw[aar c1,aar c2]
   ·show i+(k-i)<i+k;omega
   exact bY rfl (cS hz _)
end
theorem qR(p:Nat→Bool):∀(f i j:Nat),i≤j→i≤eN p f i j∧eN p f i j≤j
 |0,i,j,h=>⟨aas _,h⟩
 |f+1,i,j,h=>by
  unfold eN
  split
  ·exact⟨aas _,h⟩
  ·rename_i h1
   have h1:=aat h1
   split
   ·have:=qR p f ((i+j) / 2+1) j (by omega);omega
   ·have:=qR p f i ((i+j) / 2) (by omega);omega
theorem wQ(p:Nat→Bool)(f:Nat){i j:Nat}(h:¬i<j):eN p f i j=i:=by
 cases f with
 |zero=>rfl
 |succ f=>unfold eN;rw[aar h]
theorem vB{p:Nat→Bool}{f i j:Nat}(h:i<j)(hp:p ((i+j) / 2)=true):eN p (f+1) i j=eN p f ((i+j) / 2+1) j:=by
 conv=>lhs;unfold eN
 rw[aaB h,hp]
theorem xL{p:Nat→Bool}{f i j:Nat}(h:i<j)(hp:p ((i+j) / 2)=false):eN p (f+1) i j=eN p f i ((i+j) / 2):=by
 conv=>lhs;unfold eN
 rw[aaB h,hp]
theorem EU{α:Type}:∀(n k:Nat) (L:List α),j_ (n+1) k L=swp (j_ n k L) (k+n) (k+n+1)
 |0,_,_=>rfl
 |n+1,k,L=>by
  show j_ (n+1) (k+1) (swp L k (k+1))=_
  rw[EU n (k+1)]
  show swp (j_ n (k+1) (swp L k (k+1))) _ _=swp (j_ n (k+1) (swp L k (k+1))) _ _
  congr 1<;>omega
theorem BI{α:Type}:∀(n k:Nat) (L:List α),(j_ n k L).length=L.length
 |0,_,_=>rfl
 |n+1,k,L=>by show(j_ n (k+1) (swp L k (k+1))).length=_;rw[BI n,uN]
theorem Ee{α:Type}:∀(n k:Nat) (L:List α),kz (n+1) k L=swp (kz n k L) (k-n) (k-n-1)
 |0,_,_=>rfl
 |n+1,k,L=>by
  show kz (n+1) (k-1) (swp L k (k-1))=_
  rw[Ee n (k-1)]
  show swp (kz n (k-1) (swp L k (k-1))) _ _=swp (kz n (k-1) (swp L k (k-1))) _ _
  congr 1<;>omega
theorem y_{α:Type}:∀(n k:Nat) (L:List α),(kz n k L).length=L.length
 |0,_,_=>rfl
 |n+1,k,L=>by show(kz n (k-1) (swp L k (k-1))).length=_;rw[y_ n,uN]
section
variable {α:Type}(lt:α→α→Bool)
def tM(S m e:Nat)(L:List α):List α:=match decide (S<m),decide (m<e)with|true,true=>ie S m e L|_,_=>L
def sJ(F a S mid:Nat)(L:List α):List α:=match decide (a<S),decide (S<mid)with|true,true=>eF lt F a S mid L|_,_=>L
def tG(F mid e b:Nat)(L:List α):List α:=match decide (mid<e),decide (e<b)with|true,true=>eF lt F mid e b L|_,_=>L
theorem zX(F a m b:Nat)(L:List α)(h1:¬m-a=1)(h2:¬b-m=1)(s0 r S:Nat)(hs:s0=match decide ((a+b) / 2<m)with|true=>(a+b) / 2+m-b|false=>a)(hr:r=match decide ((a+b) / 2<m)with|true=>(a+b) / 2|false=>m)(hS:S=eN (fun c=>!dI lt L ((a+b) / 2+m-1-c) c) (r-s0) s0 r):
 eF lt (F+1) a m b L=tG lt F ((a+b) / 2) ((a+b) / 2+m-S) b (sJ lt F a S ((a+b) / 2) (tM S m ((a+b) / 2+m-S) L)):=by
 subst hS hs hr
 conv=>lhs;unfold eF
 rw[aar h1,aar h2]
 rfl
theorem X1(F a m b:Nat)(L:List α)(h1:m-a=1):eF lt (F+1) a m b L=j_ (eN (fun h=>dI lt L h a) (b-m) m b-1-a) a L:=by
 conv=>lhs;unfold eF
 rw[aaB h1]
theorem O1(F a m b:Nat)(L:List α)(h1:¬m-a=1)(h2:b-m=1):eF lt (F+1) a m b L=kz (m-eN (fun h=>!dI lt L m h) (m-a) a m) m L:=by
 conv=>lhs;unfold eF
 rw[aar h1,aaB h2]
theorem sI:∀(F a m b:Nat) (L:List α),(eF lt F a m b L).length=L.length
 |0,_,_,_,_=>rfl
 |F+1,a,m,b,L=>by
  by_cases h1:m-a=1
  ·unfold eF;rw[aaB h1];exact BI _ _ _
  ·by_cases h2:b-m=1
   ·unfold eF;rw[aar h1,aaB h2];exact y_ _ _ _
   ·rw[zX lt F a m b L h1 h2 _ _ _ rfl rfl rfl]
    generalize eN _ _ _ _=S
    have e1:∀(e:Nat) (L:List α),(tM S m e L).length=L.length:=fun e L=>by
     unfold tM;split
     ·exact uh _ _ _ _ _
     ·rfl
    have e2:∀(mid:Nat) (L:List α),(sJ lt F a S mid L).length=L.length:=fun mid L=>by
     unfold sJ;split
     ·exact sI F _ _ _ _
     ·rfl
    have e3:∀(mid e:Nat) (L:List α),(tG lt F mid e b L).length=L.length:=fun mid e L=>by
     unfold tG;split
     ·exact sI F _ _ _ _
     ·rfl
    rw[e3,e2,e1]
end
theorem vS{lt:az→az→Bool}{L:List az}{i k:Nat}{x y:az}(hx:L[i]? = some x)(hy:L[k]? = some y):dI lt L i k=lt x y:=by unfold dI;rw[hx,hy]
def vL(M:Nat)(P:Program)(G:World→Prop)(T:TT)(fn:Func)(args:List PV)(bs:List aA)(js:List Nat)(nx:Nat)(post:PV→bW→Prop):Prop:=
 match fn.body with
 |some c=>match Nat.ble args.length fn.ntmps with
  |true=>vc P G T M fn.ntmps c M ⟨iF args 0,ng bs 0⟩ (r9 T fn js nx post)
  |false=>False
 |none=>False
theorem sS{P:Program}{G:World→Prop}{T:TT}{fn:Func}{args:List PV}{bs:List aA}{j nx:Nat}{post:PV→bW→Prop}(h:vL 1 P G T fn args bs [j] nx post):ni P G T fn args bs [j] nx post:=h
theorem Da{hp:Nat→Option aA}{b:Bool}{f:PV→bW→Prop}(h:f (.at (.bool b)) []):Tr.wp hp (bT b) f:=h
theorem Lt{n:Nat}{env:Nat→Option PV}{hp:Nat→Option aA}{t:Nat}{v:PV}{k:AS→Prop}(ht:Nat.ble (t+1) n=true)(h:k ⟨ck env t (some v),hp⟩):mC n env hp (some t) v k:=by unfold mC;dsimp only;rw[ht];exact h
theorem LW{P:Program}{G:World→Prop}{T:TT}{n:Nat}{all:List Oper}{nx:Nat}{s:AS}{k:Nat→AS→Prop}(h:k nx s):j7 P G T n all [] nx s k:=h
theorem Zj{P:Program}{G:World→Prop}{T:TT}{M n:Nat}{x:Operand}{a b:Code}{nx:Nat}{s:AS}{k:Ex→Nat→AS→Prop}(hx:s.ev x=some (.at (.bool false)))(h:vc P G T M n b nx s k):vc P G T M n (.cond x a b) nx s k:=by unfold vc;rw[hx];exact .f rfl h
theorem Te{P:Program}{G:World→Prop}{T:TT}{M n:Nat}{x:Operand}{a b:Code}{nx:Nat}{s:AS}{k:Ex→Nat→AS→Prop}(hx:s.ev x=some (.at (.bool true)))(h:vc P G T M n a nx s k):vc P G T M n (.cond x a b) nx s k:=by unfold vc;rw[hx];exact .t rfl h
theorem VE{P:Program}{G:World→Prop}{T:TT}{M n i:Nat}{nx:Nat}{s:AS}{k:Ex→Nat→AS→Prop}(h:k (.exit i) nx s):vc P G T M n (.exit i) nx s k:=h
theorem el{a b:Nat}(h:decide ((a:Int)<(b:Int))=true):a<b:=eg h
theorem lG{a b:Nat}(h:decide ((a:Int)<(b:Int))=false):¬a<b:=jn h
section
variable {zs:List PV}(hz:cE zs){c:az→az→Int}(hc:∀a b:az,PC 108 [a.pv,b.pv] (·=i64 (c a b)))
include hz hc
theorem Ul(F:Nat)(L:List az)(a m b:Nat)(ha:a<m)(hm:m<b)(hb:b≤L.length)(hl:L.length≤1000)(hF:b-a≤F+1)(c1:m-a=1):∀(f:PV),f=.fn 108 []→∀(j nx:Nat),Nat.beq nx j=false→LC 254 [.aH j 0 L.length,i64 a,i64 m,i64 b,f] [(j,SB zs L)] nx fun r d=>r=.aK []∧d=[(j,some (SB zs (eF (cz c) (F+1) a m b L))),(j,none)]:=by
 intro f hf j nx hne;subst hf;refine eK (js:=[j]) (bs:=[SB zs L]) (args:=[.aH 0 0 L.length,i64 a,i64 m,i64 b,.fn 108 []]) Tryz.func254 rfl rfl ?_ rfl ⟨⟨rfl,cS hz L⟩,trivial⟩ rfl ?_
 ·unfold cf;rw[hne];rfl
 refine ax (dY m a)<|ae.t (congrArg (fun n:Nat=>(n:Int)) c1)<|ah ?_;have hR:=qR (fun h=>dI (cz c) L h a) (b-m) m b (by omega);generalize hRR:eN (fun h=>dI (cz c) L h a) (b-m) m b=R at hR;refine cv.inv (ι:={p:Nat×Nat×Nat//m≤p.1∧p.1≤p.2.1∧p.2.1≤b∧p.2.1-p.1≤p.2.2∧eN (fun h=>dI (cz c) L h a) p.2.2 p.1 p.2.1=R}) ⟨fun p=>[(10,i64 p.1.1),(11,i64 p.1.2.1)],[0,1,2,3,4],fun _=>[(0,SB zs L)],[]⟩ (fun p=>p.1.2.1-p.1.1) ⟨(m,b,b-m),aas _,by show m≤b;omega,aas _,aas _,hRR⟩ ?_ ?_
 ·exact bY rfl (cS hz _)
 rintro⟨⟨i,k,g⟩,h1,h2,h3,h4,h5⟩;dsimp only at h1 h2 h3 h4 h5;refine ae.two (fun d1=>?_) (fun d1=>?_)
 ·have dlt:i<k:=eg d1;obtain⟨g,rfl⟩:∃g',g=g'+1:=⟨g-1,by omega⟩;refine ah<|ax (cZ i k)<|ax (rj (i+k))<|qQ<|ax (rF (i+k))<|ax (rV ((i+k) / 2)) ?_;obtain⟨x,hx⟩:=get_at (l:=L) (k:=(i+k) / 2) (by omega);obtain⟨y,hy⟩:=get_at (l:=L) (k:=a) (by omega);have hp:dI (cz c) L ((i+k) / 2) (a)=decide (c x y<0):=vS hx hy;refine ak.mk (bg (show(i+k) / 2<L.length by omega))<|fG zs hx<|ak.mk (bg (show a<L.length by omega))<|fG zs hy<|ay (hc x y) rfl<|ae.two (fun d2=>?_) (fun d2=>?_)
  ·refine ar<|ah<|ax (cO ((i+k) / 2))<|⟨⟨((i+k) / 2+1,k,g),by show m≤(i+k) / 2+1;omega,by show(i+k) / 2+1≤k;omega,h3,by show k-((i+k) / 2+1)≤g;omega,(vB dlt (by show dI (cz c) L ((i+k) / 2) (a)=true;rw[hp,d2])).symm.trans h5⟩,id,?_,?_⟩
   ·show k-((i+k) / 2+1)<k-i;omega
   exact bY rfl (cS hz _)
  ·refine ar<|aa<|⟨⟨(i,(i+k) / 2,g),h1,by show i≤(i+k) / 2;omega,by show(i+k) / 2≤b;omega,by show(i+k) / 2-i≤g;omega,(xL dlt (by show dI (cz c) L ((i+k) / 2) (a)=false;rw[hp,d2])).symm.trans h5⟩,id,?_,?_⟩
   ·show(i+k) / 2-i<k-i;omega
   exact bY rfl (cS hz _)
 ·have d1:¬i<k:=jn d1;have hiR:i=R:=(wQ _ g d1).symm.trans h5;subst hiR;refine aa ?_;refine cv.inv (ι:={p:Nat×List az//a≤p.1∧p.1≤i-1∧p.2=j_ (p.1-a) a L}) ⟨fun p=>[(13,i64 p.1.1)],[0,1,2,3,4,10],fun p=>[(0,SB zs p.1.2)],[]⟩ (fun p=>i-1-p.1.1) ⟨(a,L),aas _,by show a≤i-1;omega,by rw[acn];rfl⟩ ?_ ?_
  ·exact bY rfl (cS hz _)
  rintro⟨⟨q,M⟩,e1,e2,e3⟩;dsimp only at e1 e2 e3;have hML:M.length=L.length:=by rw[e3];exact BI _ _ _
  refine ax (yz i)<|ae.two (fun e4=>?_) (fun e4=>?_)
  ·have e4:q<i-1:=eg e4;refine ah ?_;obtain⟨x,hx⟩:=get_at (l:=M) (k:=q) (by omega);obtain⟨y,hy⟩:=get_at (l:=M) (k:=q+1) (by omega);obtain⟨z,hz2⟩:=get_at (l:=M.set (q) y) (k:=q+1) (by rw[aaY];omega);refine ax (cO q)<|ax (cO q)<|ak.mk (bg (show q+1<L.length by omega))<|fG zs hy<|ak.mk (bg (show q<L.length by omega))<|fG zs hx<|ak.mk (bg (show q<L.length by omega))<|fG zs hx<|ak.mk (bg (show q+1<L.length by omega))<|dC.intro (az.pv z) (uZ zs (show q<M.length by omega) hz2) (abE _)<|ar<|ax (cO q) ?_;have hr:PV.c9 (PV.c9 (M.map az.pv++zs) (0+(q)) (az.pv y)) (0+(q+1)) (az.pv x)=((M.set (q) y).set (q+1) x).map az.pv++zs:=by
    rw[nK zs M (q) y (by omega),nK zs _ (q+1) x (by rw[aaY];omega)]
   refine⟨⟨(q+1,(M.set q y).set (q+1) x),by show a≤q+1;omega,by show q+1≤i-1;omega,?_⟩,id,?_,?_⟩
   ·show(M.set q y).set (q+1) x=j_ (q+1-a) a L
    rw[show q+1-a=(q-a)+1 by omega,EU,← e3,show a+(q-a)=q by omega,xG hx hy]
   ·show i-1-(q+1)<i-1-q;omega
   exact dv ⟨⟨BB.aO (congrArg (fun r=>some (aA.rows 12 r true none _)) hr) (cS hz _),rfl⟩,trivial⟩
  ·have e4:¬q<i-1:=jn e4;exact aa<|du<|kv (0,j) rfl rfl (cS hz _)<|ar<|congrArg (fun x=>[(j,some (SB zs x)),(j,none)]) (e3.trans (by rw[X1 (cz c) F a m b L c1,hRR];congr 1;omega))
end
section
variable {zs:List PV}(hz:cE zs){c:az→az→Int}(hc:∀a b:az,PC 108 [a.pv,b.pv] (·=i64 (c a b)))
include hz hc
theorem PQ(F:Nat)(L:List az)(a m b:Nat)(ha:a<m)(hm:m<b)(hb:b≤L.length)(hl:L.length≤1000)(hF:b-a≤F+1)(c1:¬m-a=1)(c2:b-m=1):∀(f:PV),f=.fn 108 []→∀(j nx:Nat),Nat.beq nx j=false→LC 254 [.aH j 0 L.length,i64 a,i64 m,i64 b,f] [(j,SB zs L)] nx fun r d=>r=.aK []∧d=[(j,some (SB zs (eF (cz c) (F+1) a m b L))),(j,none)]:=by
 intro f hf j nx hne;subst hf;refine eK (js:=[j]) (bs:=[SB zs L]) (args:=[.aH 0 0 L.length,i64 a,i64 m,i64 b,.fn 108 []]) Tryz.func254 rfl rfl ?_ rfl ⟨⟨rfl,cS hz L⟩,trivial⟩ rfl ?_
 ·unfold cf;rw[hne];rfl
 refine sS<|ax (dY m a)<|ae.f (fun e=>c1 (adt.1 e))<|aa<|ax (dY b m)<|ae.t (congrArg (fun n:Nat=>(n:Int)) c2)<|ah ?_;have hR:=qR (fun h=>!dI (cz c) L m h) (m-a) a m (by omega);generalize hRR:eN (fun h=>!dI (cz c) L m h) (m-a) a m=R at hR;refine cv.inv (ι:={p:Nat×Nat×Nat//a≤p.1∧p.1≤p.2.1∧p.2.1≤m∧p.2.1-p.1≤p.2.2∧eN (fun h=>!dI (cz c) L m h) p.2.2 p.1 p.2.1=R}) ⟨fun p=>[(14,i64 p.1.1),(15,i64 p.1.2.1)],[0,1,2,3,4],fun _=>[(0,SB zs L)],[]⟩ (fun p=>p.1.2.1-p.1.1) ⟨(a,m,m-a),aas _,by show a≤m;omega,aas _,aas _,hRR⟩ ?_ ?_
 ·exact bY rfl (cS hz _)
 rintro⟨⟨i,k,g⟩,h1,h2,h3,h4,h5⟩;dsimp only at h1 h2 h3 h4 h5;refine ae.two (fun d1=>?_) (fun d1=>?_)
 ·have dlt:i<k:=eg d1;obtain⟨g,rfl⟩:∃g',g=g'+1:=⟨g-1,by omega⟩;refine Da<|Lt rfl<|LW<|Te rfl ?_;dsimp only;refine ax (cZ i k)<|ax (rj (i+k))<|qQ<|ax (rF (i+k))<|ax (rV ((i+k) / 2)) ?_;obtain⟨x,hx⟩:=get_at (l:=L) (k:=m) (by omega);obtain⟨y,hy⟩:=get_at (l:=L) (k:=(i+k) / 2) (by omega);have hp:dI (cz c) L (m) ((i+k) / 2)=decide (c x y<0):=vS hx hy;refine ak.mk (bg (show m<L.length by omega))<|fG zs hx<|ak.mk (bg (show(i+k) / 2<L.length by omega))<|fG zs hy<|ay (hc x y) rfl<|ae.two (fun d2=>?_) (fun d2=>?_)
  ·refine ar<|aa<|⟨⟨(i,(i+k) / 2,g),h1,by show i≤(i+k) / 2;omega,by show(i+k) / 2≤m;omega,by show(i+k) / 2-i≤g;omega,(xL dlt (by show(!dI (cz c) L (m) ((i+k) / 2))=false;rw[hp,d2];rfl)).symm.trans h5⟩,id,?_,?_⟩
   ·show(i+k) / 2-i<k-i;omega
   exact bY rfl (cS hz _)
  ·refine ar<|ah<|ax (cO ((i+k) / 2))<|⟨⟨((i+k) / 2+1,k,g),by show a≤(i+k) / 2+1;omega,by show(i+k) / 2+1≤k;omega,h3,by show k-((i+k) / 2+1)≤g;omega,(vB dlt (by show(!dI (cz c) L (m) ((i+k) / 2))=true;rw[hp,d2];rfl)).symm.trans h5⟩,id,?_,?_⟩
   ·show k-((i+k) / 2+1)<k-i;omega
   exact bY rfl (cS hz _)
 ·have d1:¬i<k:=jn d1;have hiR:i=R:=(wQ _ g d1).symm.trans h5;subst hiR;refine Da<|Lt rfl<|LW<|Zj rfl<|VE ?_;dsimp only;refine cv.inv (ι:={p:Nat×List az//i≤p.1∧p.1≤m∧p.2=kz (m-p.1) m L}) ⟨fun p=>[(17,i64 p.1.1)],[0,1,2,3,4,14],fun p=>[(0,SB zs p.1.2)],[]⟩ (fun p=>p.1.1) ⟨(m,L),by show i≤m;omega,aas _,by rw[acn];rfl⟩ ?_ ?_
  ·exact bY rfl (cS hz _)
  rintro⟨⟨q,M⟩,e1,e2,e3⟩;dsimp only at e1 e2 e3;have hML:M.length=L.length:=by rw[e3];exact y_ _ _ _
  refine ae.two (fun e4=>?_) (fun e4=>?_)
  ·have e4:i<q:=eg e4;refine ah ?_;obtain⟨q,rfl⟩:∃q',q=q'+1:=⟨q-1,by omega⟩;obtain⟨x,hx⟩:=get_at (l:=M) (k:=q+1) (by omega);obtain⟨y,hy⟩:=get_at (l:=M) (k:=q) (by omega);obtain⟨z,hz2⟩:=get_at (l:=M.set (q+1) y) (k:=q) (by rw[aaY];omega);refine ax (dD q)<|ax (dD q)<|ak.mk (bg (show q<L.length by omega))<|fG zs hy<|ak.mk (bg (show q+1<L.length by omega))<|fG zs hx<|ak.mk (bg (show q+1<L.length by omega))<|fG zs hx<|ak.mk (bg (show q<L.length by omega))<|dC.intro (az.pv z) (uZ zs (show q+1<M.length by omega) hz2) (abE _)<|ar<|ax (dD q) ?_;have hr:PV.c9 (PV.c9 (M.map az.pv++zs) (0+(q+1)) (az.pv y)) (0+(q)) (az.pv x)=((M.set (q+1) y).set (q) x).map az.pv++zs:=by
    rw[nK zs M (q+1) y (by omega),nK zs _ (q) x (by rw[aaY];omega)]
   refine⟨⟨(q,(M.set (q+1) y).set q x),by show i≤q;omega,by show q≤m;omega,?_⟩,id,abW q,?_⟩
   ·show(M.set (q+1) y).set q x=kz (m-q) m L
    rw[show m-q=(m-(q+1))+1 by omega,Ee,← e3,show m-(m-(q+1))=q+1 by omega,Nat.add_sub_cancel,xG hx hy]
   exact dv ⟨⟨BB.aO (congrArg (fun r=>some (aA.rows 12 r true none _)) hr) (cS hz _),rfl⟩,trivial⟩
  ·have e4:¬i<q:=jn e4;exact aa<|du<|kv (0,j) rfl rfl (cS hz _)<|ar<|congrArg (fun x=>[(j,some (SB zs x)),(j,none)]) (e3.trans (by rw[O1 (cz c) F a m b L c1 c2,hRR];congr 1;omega))
end
section
variable {zs:List PV}(hz:cE zs){c:az→az→Int}(hc:∀a b:az,PC 108 [a.pv,b.pv] (·=i64 (c a b)))
include hz hc
theorem TH(F:Nat)(ih:∀(L:List az) (a m b:Nat),a<m→m<b→b≤L.length→L.length≤1000→b-a≤F→∀(f:PV),f=.fn 108 []→∀(j nx:Nat),Nat.beq nx j=false→LC 254 [.aH j 0 L.length,i64 a,i64 m,i64 b,f] [(j,SB zs L)] nx fun r d=>r=.aK []∧d=[(j,some (SB zs (eF (cz c) F a m b L))),(j,none)])(L:List az)(a m b:Nat)(ha:a<m)(hm:m<b)(hb:b≤L.length)(hl:L.length≤1000)(hF:b-a≤F+1)(c1:¬m-a=1)(c2:¬b-m=1)(c3:(a+b) / 2<m):∀(f:PV),f=.fn 108 []→∀(j nx:Nat),Nat.beq nx j=false→LC 254 [.aH j 0 L.length,i64 a,i64 m,i64 b,f] [(j,SB zs L)] nx fun r d=>r=.aK []∧d=[(j,some (SB zs (eF (cz c) (F+1) a m b L))),(j,none)]:=by
 intro f hf j nx hne;subst hf;refine eK (js:=[j]) (bs:=[SB zs L]) (args:=[.aH 0 0 L.length,i64 a,i64 m,i64 b,.fn 108 []]) Tryz.func254 rfl rfl ?_ rfl ⟨⟨rfl,cS hz L⟩,trivial⟩ rfl ?_
 ·unfold cf;rw[hne];rfl
 refine ax (dY m a)<|ae.f (fun e=>c1 (adt.1 e))<|aa<|ax (dY b m)<|ae.f (fun e=>c2 (adt.1 e))<|aa<|ax (cZ a b)<|ax (rj (a+b))<|qQ<|ax (rF (a+b))<|ax (rV ((a+b) / 2)) ?_;have hmid:a+2≤(a+b) / 2∧(a+b) / 2+2≤b:=by omega
 refine ax (cZ ((a+b) / 2) m)<|ae.t (abG.2 c3)<|ah<|ax (dY ((a+b) / 2+m) b)<|ax (yz ((a+b) / 2+m)) ?_;have hR:=qR (fun c'=>!dI (cz c) L ((a+b) / 2+m-1-c') c') (((a+b) / 2)-((a+b) / 2+m-b)) ((a+b) / 2+m-b) ((a+b) / 2) (by omega);generalize hRR:eN (fun c'=>!dI (cz c) L ((a+b) / 2+m-1-c') c') (((a+b) / 2)-((a+b) / 2+m-b)) ((a+b) / 2+m-b) ((a+b) / 2)=R at hR;refine cv.inv (ι:={p:Nat×Nat×Nat//((a+b) / 2+m-b)≤p.1∧p.1≤p.2.1∧p.2.1≤((a+b) / 2)∧p.2.1-p.1≤p.2.2∧eN (fun c'=>!dI (cz c) L ((a+b) / 2+m-1-c') c') p.2.2 p.1 p.2.1=R}) ⟨fun p=>[(20,i64 p.1.1),(21,i64 p.1.2.1)],[0,1,2,3,4,18,19,22],fun _=>[(0,SB zs L)],[]⟩ (fun p=>p.1.2.1-p.1.1) ⟨(((a+b) / 2+m-b),((a+b) / 2),((a+b) / 2)-((a+b) / 2+m-b)),aas _,by show((a+b) / 2+m-b)≤((a+b) / 2);omega,aas _,aas _,hRR⟩ ?_ ?_
 ·exact bY rfl (cS hz _)
 rintro⟨⟨i,k,g⟩,h1,h2,h3,h4,h5⟩;dsimp only at h1 h2 h3 h4 h5;refine ae.two (fun d1=>?_) (fun d1=>?_)
 ·have dlt:i<k:=eg d1;obtain⟨g,rfl⟩:∃g',g=g'+1:=⟨g-1,by omega⟩;refine ah<|ax (cZ i k)<|ax (rj (i+k))<|qQ<|ax (rF (i+k))<|ax (rV ((i+k) / 2)) ?_;obtain⟨x,hx⟩:=get_at (l:=L) (k:=(a+b) / 2+m-1-(i+k) / 2) (by omega);obtain⟨y,hy⟩:=get_at (l:=L) (k:=(i+k) / 2) (by omega);have hp:dI (cz c) L ((a+b) / 2+m-1-(i+k) / 2) ((i+k) / 2)=decide (c x y<0):=vS hx hy;refine ax (dY ((a+b) / 2+m-1) ((i+k) / 2))<|ak.mk (bg (show(a+b) / 2+m-1-(i+k) / 2<L.length by omega))<|fG zs hx<|ak.mk (bg (show(i+k) / 2<L.length by omega))<|fG zs hy<|ay (hc x y) rfl<|ae.two (fun d2=>?_) (fun d2=>?_)
  ·refine ar<|aa<|⟨⟨(i,(i+k) / 2,g),h1,by show i≤(i+k) / 2;omega,by show(i+k) / 2≤((a+b) / 2);omega,by show(i+k) / 2-i≤g;omega,(xL dlt (by show(!dI (cz c) L ((a+b) / 2+m-1-(i+k) / 2) ((i+k) / 2))=false;rw[hp,d2];rfl)).symm.trans h5⟩,id,?_,?_⟩
   ·show(i+k) / 2-i<k-i;omega
   exact bY rfl (cS hz _)
  ·refine ar<|ah<|ax (cO ((i+k) / 2))<|⟨⟨((i+k) / 2+1,k,g),by show((a+b) / 2+m-b)≤(i+k) / 2+1;omega,by show(i+k) / 2+1≤k;omega,h3,by show k-((i+k) / 2+1)≤g;omega,(vB dlt (by show(!dI (cz c) L ((a+b) / 2+m-1-(i+k) / 2) ((i+k) / 2))=true;rw[hp,d2];rfl)).symm.trans h5⟩,id,?_,?_⟩
   ·show k-((i+k) / 2+1)<k-i;omega
   exact bY rfl (cS hz _)
 ·have d1:¬i<k:=jn d1;have hiR:i=R:=(wQ _ g d1).symm.trans h5;subst hiR;refine aa ?_;have he:=zX (cz c) F a m b L c1 c2 ((a+b) / 2+m-b) ((a+b) / 2) i (by rw[aaB c3]) (by rw[aaB c3]) hRR.symm;refine ax (dY ((a+b) / 2+m) i) ?_;have ih':∀{X:List az} {p q r:Nat},p<q→q<r→r-p≤F→X.length=L.length→r≤b→∀nx,Nat.beq nx 0=false→LC 254 [.aH 0 0 L.length,i64 p,i64 q,i64 r,.fn 108 []] [(0,SB zs X)] nx fun r' d=>r'=.aK []∧d=[(0,some (SB zs (eF (cz c) F p q r X))),(0,none)]:=fun{X p q r} hp hq hF e hr nx hn=>by
   rw[← e];exact ih X p q r hp hq (by omega) (by omega) hF (.fn 108 []) rfl 0 nx hn
  have rl:(ie i m ((a+b) / 2+m-i) L).length=L.length:=uh _ _ _ _ _;refine ae.two (fun s1=>ae.two (fun s2=>eO.t rfl (a_.bB [0] (n:=200) (Jr hz L i m ((a+b) / 2+m-i) (el s1) (el s2) (by omega) hl (.fn 108 []) rfl 0 _ rfl) rfl ⟨rfl,trivial⟩ ?_)) fun s2=>eO.f rfl ?_) fun s1=>eO.f rfl ?_
  all_goals refine ae.two (fun s3=>ae.two (fun s4=>eO.t rfl (a_.bB [0] (n:=200) (ih' (el s3) (el s4) (by omega) (by first|exact rl|rfl) (by omega) _ rfl) rfl ⟨rfl,trivial⟩ ?_)) fun s4=>eO.f rfl ?_) fun s3=>eO.f rfl ?_
  all_goals refine ae.two (fun s5=>ae.two (fun s6=>eO.t rfl (a_.bB [0] (n:=200) (ih' (el s5) (el s6) (by omega) (by first|exact rl|rfl|(rw[sI];exact rl)|rw[sI]) (by omega) _ rfl) rfl ⟨rfl,trivial⟩ ?_)) fun s6=>eO.f rfl ?_) fun s5=>eO.f rfl ?_
  all_goals
   refine du<|kv (0,j) rfl rfl (cS hz _)<|ar<|congrArg (fun x=>[(j,some (SB zs x)),(j,none)]) (he.trans ?_).symm;unfold tM;first|rw[aaB (el s1),aaB (el s2)]|rw[aaB (el s1),aar (lG s2)]|rw[aar (lG s1)]
   unfold sJ;first|rw[aaB (el s3),aaB (el s4)]|rw[aaB (el s3),aar (lG s4)]|rw[aar (lG s3)]
   unfold tG;first|rw[aaB (el s5),aaB (el s6)]|rw[aaB (el s5),aar (lG s6)]|rw[aar (lG s5)]
end
section
variable {zs:List PV}(hz:cE zs){c:az→az→Int}(hc:∀a b:az,PC 108 [a.pv,b.pv] (·=i64 (c a b)))
include hz hc
theorem Tq(F:Nat)(ih:∀(L:List az) (a m b:Nat),a<m→m<b→b≤L.length→L.length≤1000→b-a≤F→∀(f:PV),f=.fn 108 []→∀(j nx:Nat),Nat.beq nx j=false→LC 254 [.aH j 0 L.length,i64 a,i64 m,i64 b,f] [(j,SB zs L)] nx fun r d=>r=.aK []∧d=[(j,some (SB zs (eF (cz c) F a m b L))),(j,none)])(L:List az)(a m b:Nat)(ha:a<m)(hm:m<b)(hb:b≤L.length)(hl:L.length≤1000)(hF:b-a≤F+1)(c1:¬m-a=1)(c2:¬b-m=1)(c3:¬(a+b) / 2<m):∀(f:PV),f=.fn 108 []→∀(j nx:Nat),Nat.beq nx j=false→LC 254 [.aH j 0 L.length,i64 a,i64 m,i64 b,f] [(j,SB zs L)] nx fun r d=>r=.aK []∧d=[(j,some (SB zs (eF (cz c) (F+1) a m b L))),(j,none)]:=by
 intro f hf j nx hne;subst hf;refine eK (js:=[j]) (bs:=[SB zs L]) (args:=[.aH 0 0 L.length,i64 a,i64 m,i64 b,.fn 108 []]) Tryz.func254 rfl rfl ?_ rfl ⟨⟨rfl,cS hz L⟩,trivial⟩ rfl ?_
 ·unfold cf;rw[hne];rfl
 refine ax (dY m a)<|ae.f (fun e=>c1 (adt.1 e))<|aa<|ax (dY b m)<|ae.f (fun e=>c2 (adt.1 e))<|aa<|ax (cZ a b)<|ax (rj (a+b))<|qQ<|ax (rF (a+b))<|ax (rV ((a+b) / 2)) ?_;have hmid:a+2≤(a+b) / 2∧(a+b) / 2+2≤b:=by omega
 refine ax (cZ ((a+b) / 2) m)<|ae.f (fun e=>c3 (abG.1 e))<|aa<|ax (yz ((a+b) / 2+m)) ?_;have hR:=qR (fun c'=>!dI (cz c) L ((a+b) / 2+m-1-c') c') (m-a) a m (by omega);generalize hRR:eN (fun c'=>!dI (cz c) L ((a+b) / 2+m-1-c') c') (m-a) a m=R at hR;refine cv.inv (ι:={p:Nat×Nat×Nat//a≤p.1∧p.1≤p.2.1∧p.2.1≤m∧p.2.1-p.1≤p.2.2∧eN (fun c'=>!dI (cz c) L ((a+b) / 2+m-1-c') c') p.2.2 p.1 p.2.1=R}) ⟨fun p=>[(20,i64 p.1.1),(21,i64 p.1.2.1)],[0,1,2,3,4,18,19,22],fun _=>[(0,SB zs L)],[]⟩ (fun p=>p.1.2.1-p.1.1) ⟨(a,m,m-a),aas _,by show a≤m;omega,aas _,aas _,hRR⟩ ?_ ?_
 ·exact bY rfl (cS hz _)
 rintro⟨⟨i,k,g⟩,h1,h2,h3,h4,h5⟩;dsimp only at h1 h2 h3 h4 h5;refine ae.two (fun d1=>?_) (fun d1=>?_)
 ·have dlt:i<k:=eg d1;obtain⟨g,rfl⟩:∃g',g=g'+1:=⟨g-1,by omega⟩;refine ah<|ax (cZ i k)<|ax (rj (i+k))<|qQ<|ax (rF (i+k))<|ax (rV ((i+k) / 2)) ?_;obtain⟨x,hx⟩:=get_at (l:=L) (k:=(a+b) / 2+m-1-(i+k) / 2) (by omega);obtain⟨y,hy⟩:=get_at (l:=L) (k:=(i+k) / 2) (by omega);have hp:dI (cz c) L ((a+b) / 2+m-1-(i+k) / 2) ((i+k) / 2)=decide (c x y<0):=vS hx hy;refine ax (dY ((a+b) / 2+m-1) ((i+k) / 2))<|ak.mk (bg (show(a+b) / 2+m-1-(i+k) / 2<L.length by omega))<|fG zs hx<|ak.mk (bg (show(i+k) / 2<L.length by omega))<|fG zs hy<|ay (hc x y) rfl<|ae.two (fun d2=>?_) (fun d2=>?_)
  ·refine ar<|aa<|⟨⟨(i,(i+k) / 2,g),h1,by show i≤(i+k) / 2;omega,by show(i+k) / 2≤m;omega,by show(i+k) / 2-i≤g;omega,(xL dlt (by show(!dI (cz c) L ((a+b) / 2+m-1-(i+k) / 2) ((i+k) / 2))=false;rw[hp,d2];rfl)).symm.trans h5⟩,id,?_,?_⟩
   ·show(i+k) / 2-i<k-i;omega
   exact bY rfl (cS hz _)
  ·refine ar<|ah<|ax (cO ((i+k) / 2))<|⟨⟨((i+k) / 2+1,k,g),by show a≤(i+k) / 2+1;omega,by show(i+k) / 2+1≤k;omega,h3,by show k-((i+k) / 2+1)≤g;omega,(vB dlt (by show(!dI (cz c) L ((a+b) / 2+m-1-(i+k) / 2) ((i+k) / 2))=true;rw[hp,d2];rfl)).symm.trans h5⟩,id,?_,?_⟩
   ·show k-((i+k) / 2+1)<k-i;omega
   exact bY rfl (cS hz _)
 ·have d1:¬i<k:=jn d1;have hiR:i=R:=(wQ _ g d1).symm.trans h5;subst hiR;refine aa ?_;have he:=zX (cz c) F a m b L c1 c2 a m i (by rw[aar c3]) (by rw[aar c3]) hRR.symm;refine ax (dY ((a+b) / 2+m) i) ?_;have ih':∀{X:List az} {p q r:Nat},p<q→q<r→r-p≤F→X.length=L.length→r≤b→∀nx,Nat.beq nx 0=false→LC 254 [.aH 0 0 L.length,i64 p,i64 q,i64 r,.fn 108 []] [(0,SB zs X)] nx fun r' d=>r'=.aK []∧d=[(0,some (SB zs (eF (cz c) F p q r X))),(0,none)]:=fun{X p q r} hp hq hF e hr nx hn=>by
   rw[← e];exact ih X p q r hp hq (by omega) (by omega) hF (.fn 108 []) rfl 0 nx hn
  have rl:(ie i m ((a+b) / 2+m-i) L).length=L.length:=uh _ _ _ _ _;refine ae.two (fun s1=>ae.two (fun s2=>eO.t rfl (a_.bB [0] (n:=200) (Jr hz L i m ((a+b) / 2+m-i) (el s1) (el s2) (by omega) hl (.fn 108 []) rfl 0 _ rfl) rfl ⟨rfl,trivial⟩ ?_)) fun s2=>eO.f rfl ?_) fun s1=>eO.f rfl ?_
  all_goals refine ae.two (fun s3=>ae.two (fun s4=>eO.t rfl (a_.bB [0] (n:=200) (ih' (el s3) (el s4) (by omega) (by first|exact rl|rfl) (by omega) _ rfl) rfl ⟨rfl,trivial⟩ ?_)) fun s4=>eO.f rfl ?_) fun s3=>eO.f rfl ?_
  all_goals refine ae.two (fun s5=>ae.two (fun s6=>eO.t rfl (a_.bB [0] (n:=200) (ih' (el s5) (el s6) (by omega) (by first|exact rl|rfl|(rw[sI];exact rl)|rw[sI]) (by omega) _ rfl) rfl ⟨rfl,trivial⟩ ?_)) fun s6=>eO.f rfl ?_) fun s5=>eO.f rfl ?_
  all_goals
   refine du<|kv (0,j) rfl rfl (cS hz _)<|ar<|congrArg (fun x=>[(j,some (SB zs x)),(j,none)]) (he.trans ?_).symm;unfold tM;first|rw[aaB (el s1),aaB (el s2)]|rw[aaB (el s1),aar (lG s2)]|rw[aar (lG s1)]
   unfold sJ;first|rw[aaB (el s3),aaB (el s4)]|rw[aaB (el s3),aar (lG s4)]|rw[aar (lG s3)]
   unfold tG;first|rw[aaB (el s5),aaB (el s6)]|rw[aaB (el s5),aar (lG s6)]|rw[aar (lG s5)]
end
section
variable {zs:List PV}(hz:cE zs){c:az→az→Int}(hc:∀a b:az,PC 108 [a.pv,b.pv] (·=i64 (c a b)))
include hz hc
theorem ZF(F:Nat):∀(L:List az) (a m b:Nat),a<m→m<b→b≤L.length→L.length≤1000→b-a≤F→∀(f:PV),f=.fn 108 []→∀(j nx:Nat),Nat.beq nx j=false→LC 254 [.aH j 0 L.length,i64 a,i64 m,i64 b,f] [(j,SB zs L)] nx fun r d=>r=.aK []∧d=[(j,some (SB zs (eF (cz c) F a m b L))),(j,none)]:=by
 induction F with
 |zero=>intro L a m b ha hm hb hl hF;omega
 |succ F ih=>
  intro L a m b ha hm hb hl hF;by_cases c1:m-a=1
  ·exact Ul hz hc F L a m b ha hm hb hl hF c1
  by_cases c2:b-m=1
  ·exact PQ hz hc F L a m b ha hm hb hl hF c1 c2
  by_cases c3:(a+b) / 2<m
  ·exact TH hz hc F ih L a m b ha hm hb hl hF c1 c2 c3
  ·exact Tq hz hc F ih L a m b ha hm hb hl hF c1 c2 c3
end
theorem qc{α:Type}(lt:α→α→Bool)(a b:Nat)(L:List α):(ir lt a b L).length=L.length:=zZ _ _ _ _ _
section
variable {zs:List PV}(hz:cE zs){c:az→az→Int}(hc:∀a b:az,PC 108 [a.pv,b.pv] (·=i64 (c a b)))
include hz hc
attribute [local irreducible] ir eF ij
theorem Np(L:List az)(hl:L.length≤39)(f:PV)(hf:f=.fn 108 [])(j nx:Nat)(hne:Nat.beq nx j=false):LC 184 [.aH j 0 L.length,i64 L.length,f] [(j,SB zs L)] nx fun r d=>r=.aK []∧d=[(j,some (SB zs (ij (cz c) L))),(j,none)]:=by
 subst hf;refine eK (js:=[j]) (bs:=[SB zs L]) (args:=[.aH 0 0 L.length,i64 L.length,.fn 108 []]) Tryz.func184 rfl rfl ?_ rfl ⟨⟨rfl,cS hz L⟩,trivial⟩ rfl ?_
 ·unfold cf;rw[hne];rfl
 refine sS<|cv.inv (ι:={p:Nat×List az//(p.1=0∧p.2=L)∨(p.1=20∧20≤L.length∧p.2=ir (cz c) 0 20 L)}) ⟨fun p=>[(7,i64 p.1.1),(8,i64 ((p.1.1+20:Nat):Int))],[0,1,2,6],fun p=>[(0,SB zs p.1.2)],[]⟩ (fun p=>20-p.1.1) ⟨(0,L),.inl ⟨rfl,rfl⟩⟩ ?_ ?_
 ·exact bY rfl (cS hz _)
 rintro⟨⟨a,M⟩,h⟩;dsimp only at h;have hML:M.length=L.length:=by
  rcases h with⟨_,rfl⟩|⟨_,_,rfl⟩
  ·rfl
  ·exact qc _ _ _ _
 refine ae.two (fun e1=>?_) (fun e1=>?_)
 ·have e1:((a+20:Nat):Int)≤(L.length:Nat):=aat e1;have e1:=abS.1 e1;have ha:a=0∧M=L:=by
   rcases h with h|⟨h,_⟩
   ·exact h
   ·omega
  obtain⟨rfl,rfl⟩:=ha;refine ah<|a_.bB [0] (n:=200) (KB hz hc M 0 20 (by omega) (by omega) (by omega) (.fn 108 []) rfl 0 _ rfl) rfl ⟨rfl,trivial⟩ ?_;refine bN.intro ((20+20:Nat):Int) rfl<|⟨⟨(20,ir (cz c) 0 20 M),.inr ⟨rfl,by omega,rfl⟩⟩,id,by show 20-20<20-0;decide,?_⟩;exact bY rfl (cS hz _)
 ·have e1:¬((a+20:Nat):Int)≤(L.length:Nat):=aaw e1;have e1:¬a+20≤L.length:=fun e=>e1 (abS.2 e)
  refine aa ?_;have ha:a≤20:=by rcases h with⟨h,_⟩|⟨h,_⟩<;>omega
  have hi:=KB hz hc M a L.length (by omega) (by omega) (by omega) (.fn 108 []) rfl 0;rw[hML]at hi;refine a_.bB [0] (n:=200) (hi _ rfl) rfl ⟨rfl,trivial⟩ ?_;have hb1:¬20<L.length→ir (cz c) a L.length M=ij (cz c) L:=by
   intro e;unfold ij;rcases h with⟨rfl,rfl⟩|⟨rfl,h20,rfl⟩
   ·rw[aar (show¬20≤M.length by omega)]
   ·rw[aaB h20,aar e]
  have hb2:20<L.length→eF (cz c) L.length 0 20 L.length (ir (cz c) a L.length M)=ij (cz c) L:=by
   intro e;unfold ij;rcases h with⟨rfl,rfl⟩|⟨rfl,h20,rfl⟩
   ·omega
   ·rw[aaB h20,aaB e]
  have hL2:(ir (cz c) a L.length M).length=L.length:=by rw[qc,hML]
  generalize hN:ir (cz c) a L.length M=N at hb1 hb2 hL2;refine cv.inv (ι:={p:Nat×List az//(p.1=20∧p.2=N)∨(p.1=40∧p.2=ij (cz c) L)}) ⟨fun p=>[(6,i64 p.1.1)],[0,1,2],fun p=>[(0,SB zs p.1.2)],[]⟩ (fun p=>40-p.1.1) ⟨(20,N),.inl ⟨rfl,rfl⟩⟩ ?_ ?_
  ·exact bY rfl (cS hz _)
  rintro⟨⟨s,K⟩,h2⟩;dsimp only at h2;refine ae.two (fun d2=>?_) (fun d2=>?_)
  ·have e2:s<L.length:=eg d2;have hs:s=20∧K=N:=by
    rcases h2 with h|⟨h,_⟩
    ·exact h
    ·omega
   obtain⟨rfl,rfl⟩:=hs;refine ah<|bN.intro ((40:Nat):Int) rfl<|cv.inv (ι:=Unit) ⟨fun _=>[(7,i64 0),(8,i64 ((40:Nat):Int))],[0,1,2,6],fun _=>[(0,SB zs K)],[]⟩ (fun _=>0) () ?_ ?_
   ·exact bY rfl (cS hz _)
   intro _;refine ae.f (fun e=>absurd (abS.1 e) (show¬40≤L.length by omega))<|aa<|bN.intro ((20:Nat):Int) rfl<|ae.t (abG.2 e2)<|ah ?_;have hs:=ZF hz hc L.length K 0 20 L.length (by decide) e2 (by omega) (by omega) (Nat.sub_le _ _) (.fn 108 []) rfl 0;rw[hL2]at hs;refine a_.bB [0] (n:=200) (hs _ rfl) rfl ⟨rfl,trivial⟩<|bN.intro ((40:Nat):Int) rfl<|⟨⟨(40,ij (cz c) L),.inr ⟨rfl,rfl⟩⟩,id,by show 40-40<40-20;decide,?_⟩;exact dv ⟨⟨BB.aO (congrArg (fun x=>some (SB zs x)) (hb2 e2)) (cS hz _),rfl⟩,trivial⟩
  ·have e2:¬s<L.length:=jn d2;refine aa ?_;have he:K=ij (cz c) L:=by
    rcases h2 with⟨rfl,rfl⟩|⟨_,h⟩
    ·exact hb1 e2
    ·exact h
   exact du<|kv (0,j) rfl rfl (cS hz _)<|ar<|congrArg (fun x=>[(j,some (SB zs x)),(j,none)]) he
end
theorem LI{q:List QE}(e:QE)(h:q.length≤32):(fv q e).1.length≤32:=by
 unfold fv;cases e.oR with
 |true=>exact h
 |false=>
  dsimp only;cases decide (0≤ky q e.id)with
  |true=>exact h
  |false=>
   dsimp only;cases h2:decide (32≤(q.length:Int))with
   |true=>exact h
   |false=>
    have:=aaw h2;dsimp only;rw[BW];omega
theorem JM{q:List QE}(id:UInt64)(h:q.length≤32):(fJ q id).1.length≤32:=by
 rcases zw q id with⟨e,_⟩|⟨k,x,e,_⟩
 ·rw[e];exact h
 ·rw[e];exact aaJ (acu _ _).length_le h
theorem EE{x:Stream}(n:cK)(h:x.l.length≤32):(tell x n).l.length≤32:=by
 unfold tell;cases h2:decide (32<((x.l.length+1:Nat):Int))with
 |true=>show((x.l++[n]).drop 1).length≤32;rw[aaO,aap];show x.l.length+1-1≤32;omega
 |false=>
  have:=aaw h2;show(x.l++[n]).length≤32
  rw[aap];show x.l.length+1≤32;omega
theorem State.Sz.fT{m:Nat}{s:State}(h:s.Sz m)(id:UInt64)(k:Int):(s.fT id k).Sz m:=
 ⟨h.nodes,h.places,h.tree,h.aj,h.queue,EE _ h.ev,h.au,h.spec,h.labels⟩
theorem State.Sz.le{m n:Nat}{s:State}(h:s.Sz m)(hmn:m≤n):s.Sz n:=⟨h.nodes,aaJ h.places hmn,h.tree,h.aj,h.queue,h.ev,h.au,h.spec,h.labels⟩
theorem State.Sz.yl{m:Nat}{s:State}(h:s.Sz m){l:List az}(hl:l.length≤32)(hs:∀j∈l,j.x.Sz∧0≤j.x.count):({s with aj:=l}:State).Sz m:=⟨h.nodes,h.places,h.tree,hl,h.queue,h.ev,h.au,hs,h.labels⟩
theorem State.Sz.G7{m:Nat}{s:State}(h:s.Sz m){q:List QE}(hq:q.length≤32):({s with queue:=q}:State).Sz m:=⟨h.nodes,h.places,h.tree,h.aj,hq,h.ev,h.au,h.spec,h.labels⟩
theorem State.Sz.with{m:Nat}{s:State}(h:s.Sz m)(k:Nat){j:az}(hj:j.x.Sz∧0≤j.x.count):(s.with k j).Sz m:=
 h.yl (by rw[aaY];exact h.aj) fun x hx=>by
  rcases abr hx with hx|rfl
  ·exact h.spec x hx
  ·exact hj
theorem State.Sz.cP{m:Nat}{s:State}(h:s.Sz m)(j:az):(s.cP j).Sz m:=by
 obtain⟨hf,hfj,hfq⟩:=p8 s j;obtain⟨h1,h2,h3,h4,h5⟩:=z_ s j;refine⟨by rw[hf.nodes];exact h.nodes,?_,by rw[h2];exact h.tree,by rw[hfj];exact h.aj,by rw[hfq];exact h.queue,by rw[h1];exact h.ev,by rw[h4];exact h.au,by rw[hfj];exact h.spec,by rw[hf.nodes];exact h.labels⟩;rw[h3];exact aaJ (abp ..) h.places
theorem State.Sz.stop{m:Nat}{s:State}(h:s.Sz m)(id:UInt64)(k:Int):(s.stop id k).1.Sz m:=by
 unfold State.stop;rcases jW s.aj id with⟨h1,h2⟩|⟨n,h1,h2,h3⟩
 ·rw[h1];exact h
 rw[h1,aar (by omega)];dsimp only;have hj:=h.spec _ (aau h2);generalize(bK s.aj id).1=j at hj⊢;cases j.runs with
 |false=>exact h
 |true=>exact(((h.cP j).G7 (LI _ (h.cP j).queue)).with _ (j:={j with runs:=false,left:=0}) hj).fT _ _
theorem State.Sz.end_{m:Nat}{s:State}(h:s.Sz m)(id:UInt64)(k:Int):(s.end_ id k).1.Sz m:=by
 unfold State.end_;rcases jW s.aj id with⟨h1,h2⟩|⟨n,h1,h2,h3⟩
 ·rw[h1];exact h
 rw[h1,aar (by omega)];dsimp only;generalize(bK s.aj id).1=j;have er:∀t:State,t.Sz m→({t with aj:=t.aj.eraseIdx (n:Int).toNat}:State).Sz m:=fun t ht=>ht.yl (aaJ (acu _ _).length_le ht.aj) fun x hx=>ht.spec x (mem_erase hx)
 cases j.runs with
 |true=>exact(er _ (h.cP j)).fT _ _
 |false=>exact(er _ (h.G7 (JM id h.queue))).fT _ _
theorem LF(aM:UInt64)(v:V4):∀(ns:List BA) (p:aW),(iH aM v ns p).1.places.length≤p.places.length+ns.length∧(iH aM v ns p).1.nodes=p.nodes
 | [],p=>⟨aas _,rfl⟩
 |n::ns,p=>by
  unfold iH
  split
  ·obtain⟨h1,h2⟩:=LF aM v ns ⟨p.nodes,p.places++[⟨aM,n,v⟩]⟩
   refine⟨aaJ h1 ?_,h2⟩
   show(p.places++[_]).length+ns.length≤p.places.length+(ns.length+1)
   rw[aap,abo];omega
  ·exact⟨abj _ _,rfl⟩
theorem X7(p:aW)(aM:UInt64)(ns:List BA)(v:V4):(p.lay aM ns v).1.places.length≤p.places.length+ns.length∧(p.lay aM ns v).1.nodes=p.nodes:=by
 unfold aW.lay;split
 ·exact LF aM v ns p
 ·exact⟨abj _ _,rfl⟩
theorem Xk(t:List aD)(path:BA)(act:aD→aD×Int)(ha:∀e,(act e).1.path=e.path∧(act e).1.bu=e.bu):(j8 t path act).1.length=t.length:=by
 have:=congrArg List.length (wZ t path act ha);rwa [aao,aao]at this
theorem State.Sz.begin{m:Nat}{s:State}(h:s.Sz m)(id:UInt64)(nodes:List BA)(hn:nodes.length≤8):(s.begin id nodes).1.Sz (m+8):=by
 have hh:=State.Sz.le h (abj m 8);unfold State.begin;rcases jW s.aj id with⟨h1,h2⟩|⟨n,h1,h2,h3⟩
 ·rw[h1];exact hh
 rw[h1,aar (by omega)];dsimp only;have hj:=h.spec _ (aau h2);generalize(bK s.aj id).1=j at hj⊢;cases j.runs with
 |true=>exact hh
 |false=>
 dsimp only;cases decide ((nodes.length:Int)=j.x.count)with
 |false=>exact hh
 |true=>
 dsimp only;rcases j.x.total with⟨v,_|_⟩
 ·exact hh
 dsimp only;have ht:=Xk s.tree j.x.path (aD.jd v) (DO v);have ht:(iP s.tree j.x.path v).1.length=s.tree.length:=ht;rcases htc:iP s.tree j.x.path v with⟨t,e⟩
 rw[htc]at ht;dsimp only at ht⊢;cases decide (e=0)with
 |false=>exact hh
 |true=>
 dsimp only;obtain⟨hp1,hp2⟩:=X7 s.pool id nodes j.x.cy;rcases hly:s.pool.lay id nodes j.x.cy with⟨p,e'⟩
 rw[hly]at hp1 hp2;dsimp only at hp1 hp2⊢;cases decide (e'=0)with
 |false=>exact hh
 |true=>
  dsimp only;have base:({s with tree:=t,pool:=p,queue:=(fJ s.queue id).1}:State).Sz (m+8):=
   ⟨by show p.nodes.length≤16;rw[hp2];exact h.nodes,by show p.places.length≤m+8;have:=h.places;omega,by show t.length≤16;rw[ht];exact h.tree,h.aj,JM id h.queue,h.ev,h.au,h.spec,by show∀n∈p.nodes,_;rw[hp2];exact h.labels⟩
  exact(base.with _ (j:={j with runs:=true,left:=j.x.cN}) hj).fT _ _
theorem State.Sz.c8{m:Nat}:∀{s:State} (l:List UInt64),s.Sz m→(c8 s l).Sz m
 |_,[],h=>h
 |_,id::l,h=>State.Sz.c8 l (h.stop id 5)
theorem State.Sz.ew{m:Nat}{s:State}(h:s.Sz m){x:Spec}(hx:x.Sz):(s.ew x).1.Sz m:=by
 unfold State.ew;cases hc:decide (x.check=0)with
 |false=>exact h
 |true=>
 dsimp only;cases there s.tree x.path with
 |false=>exact h
 |true=>
 dsimp only;cases hl:decide (32≤(s.aj.length:Int))with
 |true=>exact h
 |false=>
 dsimp only;cases hn:decide (s.next=18446744073709551615)with
 |true=>exact h
 |false=>
 dsimp only;cases hq:decide ((fv s.queue ⟨s.next,x.prio⟩).2=0)with
 |false=>exact h
 |true=>
  dsimp only;have hl:=aaw hl;have base:({s with queue:=(fv s.queue ⟨s.next,x.prio⟩).1,aj:=s.aj++[⟨s.next,x,false,0⟩],next:=s.next+1}:State).Sz m:=
   ⟨h.nodes,h.places,h.tree,by show(s.aj++[_]).length≤32;rw[aap,abo];omega,LI _ h.queue,h.ev,h.au,fun j hj=>by
    rcases aaN.1 hj with hj|hj
    ·exact h.spec j hj
    ·rw[aaD.1 hj];exact⟨hx,DH (aat hc)⟩,h.labels⟩
  exact base.fT _ _
def vo(a b:az):Int:=if qV a.x.prio b.x.prio=0 then iI b.id a.id else qV a.x.prio b.x.prio
theorem Zq(a b:az):PC 108 [a.pv,b.pv] (·=i64 (vo a b)):=al Tryz.func108<|ay (Nz a.x.prio b.x.prio) rfl<|ay (uC b.id a.id) rfl<|ay (Rx (qV a.x.prio b.x.prio) (iI b.id a.id)) rfl<|ar<|ab
theorem WC(a b:az):a.before b=decide (vo a b<0):=by
 unfold az.before vo qV iI;rcases Int.lt_trichotomy a.x.prio b.x.prio with h|h|h
 ·simp[h]
 ·rw[h];rcases adk b.id.toNat a.id.toNat with h2|h2|h2
  ·simp[h2]
  ·simp[h2]
  ·have:¬b.id.toNat<a.id.toNat:=by omega
   simp[this,h2]
 ·have h1:¬a.x.prio<b.x.prio:=by omega
  have h2:¬a.x.prio=b.x.prio:=by omega
  simp[h,h1,h2]
theorem W9(s:State)(id:UInt64)(hl:s.aj.length≤67108864):PC 174 [s.pv,pu id] (·=.aK [(waits s id).1.pv,bo (waits s id).2]):=by
 refine al Tryz.func174<|af (sr s id hl) rfl ?_;unfold waits;rcases bK s.aj id with⟨⟨ji,jx,runs,left⟩,_|_⟩
 ·exact ar<|ab
 ·exact ar<|ab
theorem DN(s:State)(id:UInt64)(p:aW){g:Nat}{cs:List PV}(lets:BA→V4→Bool)(hg:∀(path:BA) (v:V4),path.size≤1000000→PC g [st path,v.pv,.ip cs 0] (·=bo (lets path v))){m:Nat}(h:s.Sz m)(hn:p.nodes.length≤16)(hp:p.places.length≤60000000)(hlb:∀n∈p.nodes,n.labels.length≤67108864):PC 97 [s.pv,pu id,p.pv,.fn g [.ip cs 0]] (·=.aK [sl st (asked s id p lets).1,bo (asked s id p lets).2]):=by
 refine al Tryz.func97 ?_;have hjl:=h.aj;refine af (W9 s id (by omega)) rfl ?_;have hw:(waits s id).2=true→(waits s id).1∈s.aj:=fun e=>by
  unfold waits at e⊢;cases h2:(bK s.aj id).2 with
  |false=>rw[h2]at e;cases e
  |true=>exact(ud h2).1
 have he:asked s id p lets=match(waits s id).2 with
  |false=>([],false)
  |true=>match(waits s id).1.x.total.2 with
   |false=>([],false)
   |true=>match(iQ p.jE (waits s id).1.x.cR (waits s id).1.x.cy (waits s id).1.x.count).2 with
    |false=>([],false)
    |true=>match lets (waits s id).1.x.path (waits s id).1.x.total.1 with
     |false=>([],false)
     |true=>((iQ p.jE (waits s id).1.x.cR (waits s id).1.x.cy (waits s id).1.x.count).1,true):=rfl
 rcases hww:waits s id with⟨⟨ji,jx,runs,left⟩,ok⟩
 rw[hww]at he hw;cases ok with
 |false=>
  rw[he];exact ah<|ab
 |true=>
 dsimp only at he hw;have hj:=h.spec _ (hw rfl);refine aa<|af (tC jx) rfl<|ay (Yz p (by omega) (by omega)) rfl ?_;have hsl:p.jE.length≤16:=aaJ (List.length_filterMap_le ..) hn;have hlab:∀s∈p.jE,s.labels.length≤67108864:=fun s hs=>by
  obtain⟨n,hn,e⟩:=adh.1 hs;unfold mK at e;split at e
  ·cases e
  ·split at e
   ·cases e
   ·cases e;exact hlb n hn
 refine ay (Vy p.jE jx.cR jx.cy jx.count (by omega) hj.1.2.1 hlab (fun t ht=>(hj.1.2.2 t ht).1) (Int.le_trans (by decide) (show 0≤jx.count from hj.2))) rfl<|ar ?_;rcases htot:jx.total with⟨v,_|_⟩
 ·rw[htot]at he;rw[he];exact ah<|ab
 rw[htot]at he;dsimp only at he;rcases hpf:iQ p.jE jx.cR jx.cy jx.count with⟨nodes,_|_⟩
 ·rw[hpf]at he;rw[he];exact ah<|ab
 rw[hpf]at he;dsimp only at he;refine af (hg jx.path v hj.1.1) rfl ?_;cases hlt:lets jx.path v with
 |false=>
  rw[hlt]at he;rw[he];exact ah<|ab
 |true=>
  rw[hlt]at he;rw[he];exact aa<|ab
theorem SO(s:State)(path:BA)(v:V4)(ht:s.tree.length≤60000000)(hp:path.size≤1000000):PC 101 [st path,v.pv,.ip s.cells 0] (·=bo (decide ((iP s.tree path v).2=0))):=by
 refine al Tryz.func101<|af (yL s.tree path v (by omega) hp) rfl<|ae.is _ rfl ?_;exact ab
theorem Ts(s:State)(id:UInt64){m:Nat}(h:s.Sz m)(hm:m≤50000000):PC 44 [s.pv,pu id] (·=.aK [sl st (fits s id).1,bo (fits s id).2]):=by
 refine al Tryz.func44 ?_;have ht:=h.tree;have hp:=h.places;exact af (DN s id s.pool (fun path v=>decide ((iP s.tree path v).2=0)) (fun path v hp=>SO s path v (by omega) hp) h h.nodes (by omega) h.labels) rfl<|ab
theorem QW(s:State)(path:BA)(v:V4)(ht:s.tree.length≤60000000)(hp:path.size≤1000000):PC 99 [st path,v.pv,.ip s.cells 0] (·=bo (oN s.tree path v)):=al Tryz.func99<|af (UU s.tree path v (by omega) hp) rfl<|ab
theorem Qi(s:State)(id:UInt64){m:Nat}(h:s.Sz m):PC 42 [s.pv,pu id] (·=bo (j1 s id)):=by
 refine al Tryz.func42 ?_;have ht:=h.tree;exact ay (WU s.pool) rfl<|ay (DN s id s.pool.bare (fun path v=>oN s.tree path v) (fun path v hp=>QW s path v (by omega) hp) h h.nodes (aaF _) h.labels) rfl<|ar<|ab
def ib(s:State)(l:List UInt64)(q:Nat):State:=c8 s (l.take q)
theorem J7{s:State}{l:List UInt64}{q:Nat}{id:UInt64}(h:l[q]? = some id):ib s l (q+1)=((ib s l q).stop id 5).1:=by
 unfold ib c8;rw[eC h,abw];rfl
theorem YM(s:State)(l:List UInt64){m:Nat}(h:s.Sz m)(hm:m≤50000000)(hl:l.length≤67108864):PC 45 [s.pv,sl (fun n:UInt64=>pu n) l] (·=(c8 s l).pv):=by
 refine al Tryz.func45<|cW l.length (.of (ib s l) (fun _=>[]) [4,2,7,8] (fun t=>[(0,.rows 11 [t.pv] true none 74)]) [1]) (fun _=>True) trivial ?_ (fun k hk hj=>?_) (fun hj=>?_)
 ·exact bC
 ·obtain⟨x,hx⟩:=get_at hk;have hn:=J7 (s:=s) hx;have hsz:(ib s l k).Sz m:=h.c8 (l.take k);generalize hL:ib s l k=t at hn hsz;rw[bR hL];exact bx (f:=fun n:UInt64=>pu n) hx<|af (yE t x 5 hsz hm) rfl<|bA.of id hn trivial rfl<|bC
 ·have hh:c8 s l=ib s l l.length:=by unfold ib;rw[aaM]
  rw[hh];generalize hL:ib s l l.length=t;rw[bR hL];exact ab
theorem Jw(s:State)(id:UInt64)(l:List UInt64){m:Nat}(h:s.Sz m)(hm:m≤50000000)(hl:l.length≤67108864):PC 43 [sl (fun n:UInt64=>pu n) l,.ip s.cells 0,.ip [pu id] 0] (·=.aK [sl st (fits (c8 s l) id).1,bo (fits (c8 s l) id).2]):=al Tryz.func43<|ay (YM s l h hm hl) rfl<|ay (Ts (c8 s l) id (h.c8 l) hm) rfl<|ar<|ab
section
variable {zs:List PV}(hz:cE zs){c:az→az→Int}(hc:∀a b:az,PC 108 [a.pv,b.pv] (·=i64 (c a b)))
include hz hc
theorem Rm(L:List az)(hl:L.length≤39)(f:PV)(hf:f=.fn 108 [])(j nx:Nat)(hne:Nat.beq nx j=false):LC 107 [.aH j 0 L.length,f] [(j,SB zs L)] nx fun r d=>r=.aK []∧d=[(j,some (SB zs (ij (cz c) L))),(j,none)]:=by
 subst hf;refine eK (js:=[j]) (bs:=[SB zs L]) (args:=[.aH 0 0 L.length,.fn 108 []]) Tryz.func107 rfl rfl ?_ rfl ⟨⟨rfl,cS hz L⟩,trivial⟩ rfl ?_
 ·unfold cf;rw[hne];rfl
 exact a_.bB [0] (n:=200) (Np hz hc L hl (.fn 108 []) rfl 0 _ rfl) rfl ⟨rfl,trivial⟩<|du<|kv (0,j) rfl rfl (cS hz _)<|ar rfl
end
theorem Si(o j:az):PC 106 [o.pv,.ip j.pv.cells 0] (·=bo (!kf j o)):=by
 refine al Tryz.func106 ?_;unfold kf;rcases o with⟨oi,ox,runs,left⟩
 cases runs with
 |false=>exact ab
 |true=>
  exact ae.is (!decide (ox.prio<j.x.prio)) (by rw[← decide_not];exact abq.2 Int.not_lt.symm)<|ab
theorem D6{α:Type}(lt:α→α→Bool)(L:List α):(ij lt L).length=L.length:=by
 unfold ij;split
 ·exact qc _ _ _ _
 ·split
  ·rw[qc,qc]
  ·rw[sI,qc,qc]
theorem ZC(s:State)(id:UInt64){m:Nat}(h:s.Sz m):PC 46 [s.pv,pu id] (·=sl (fun n:UInt64=>pu n) (lower s id)):=by
 refine al Tryz.func46 ?_;have hjl:=h.aj;refine af (sr s id (by omega)) rfl ?_;cases h2:(bK s.aj id).2 with
 |false=>
  rw[show lower s id=[]by unfold lower;rw[h2]];rcases hj:bK s.aj id with⟨j,b⟩
  rw[hj]at h2;dsimp only at h2;subst h2;exact ah<|ab
 |true=>
 have he:lower s id=(ij az.before (s.aj.filter (kf (bK s.aj id).1))).map az.id:=by unfold lower;rw[h2]
 rcases hj:bK s.aj id with⟨j,b⟩
 rw[hj]at h2 he;dsimp only at h2 he;subst h2;refine aa<|a_.bB [] (n:=200) (q_ s.aj (by omega) _) rfl trivial ?_;have hfe:(s.aj.filter fun x=>!(!kf j x))=s.aj.filter (kf j):=by congr 1;funext x;exact Bool.not_not _
 have hdf:=Y3 s.aj (fun o=>!kf j o) (by omega) (fun o _=>Si o j) 15;rw[hfe]at hdf;refine a_.bB [15] (n:=200) (hdf _ rfl) rfl ⟨rfl,trivial⟩ ?_;have hzc:cE (List.replicate (s.aj.length-(s.aj.filter (kf j)).length) (gm 90)):=fun r hr=>by rw[abK hr];rfl
 have hfl:(s.aj.filter (kf j)).length≤32:=aaJ (abp ..) hjl;refine a_.bB [17] (n:=200) (Rm hzc Zq (s.aj.filter (kf j)) (by omega) (.fn 108 []) rfl 17 _ rfl) rfl ⟨rfl,trivial⟩ ?_;have hlt:cz vo=az.before:=by funext a b;exact(WC a b).symm
 rw[hlt,he];have hRl:=D6 az.before (s.aj.filter (kf j));rw[← hRl]at hzc⊢;generalize hR:ij az.before (s.aj.filter (kf j))=R at hRl hzc⊢;generalize hzz:List.replicate (s.aj.length-R.length) (gm 90)=zs at hzc⊢;refine iO.grow [(8,1,30)] ⟨rfl,trivial⟩<|mb R.length (.of (fun q=>(R.take q).map az.id) (fun l=>[(8,.aH 25 0 l.length)]) [26,27] (fun l=>[(25,.rows 1 (l.map (fun n:UInt64=>pu n)) true none 30)]) [17]) (fun _=>True) trivial ?_ (fun k hk hj=>?_) (fun hj=>?_)
 ·exact A0 ⟨⟨BB.aO rfl (gw.bP _),rfl⟩,trivial⟩ ⟨⟨_,rfl,BB.aO rfl (cS hzc _),rfl⟩,trivial⟩
 ·obtain⟨x,hx⟩:=get_at hk;have hn:(R.take (k+1)).map az.id=(R.take k).map az.id++[x.id]:=by rw[eC hx,aaC];rfl
  have hl':((R.take k).map az.id).length≤32:=by rw[aao,aax];omega
  generalize hL:(R.take k).map az.id=L at hn hl';rw[bR hL];refine ak.mk (bg (show k<R.length by omega))<|fG zs hx<|db.l (ak.mk (dS (f:=fun n:UInt64=>pu n) gw L x.id (by omega)) ?_);exact bA.of (sw 25 35) hn trivial rfl<|⟨⟨⟨by rw[aap];rfl,rfl⟩,trivial⟩,⟨⟨_,rfl,rfl,rfl⟩,⟨_,rfl,rfl,rfl⟩,trivial⟩,⟨⟨BB.aO (by rw[aaC];rfl) (gw.bP _),rfl⟩,trivial⟩,⟨⟨_,rfl,BB.aO rfl (cS hzc _),rfl⟩,trivial⟩,rfl,rfl,rfl⟩
 ·rw[show R.map az.id=(R.take R.length).map az.id by rw[aaM]];generalize hL:(R.take R.length).map az.id=L;rw[bR hL];exact⟨L.length+100,_,_,.inl (aN (cT (l:=L) (f:=fun n:UInt64=>pu n) rfl rfl gw.br rfl rfl) rfl),rfl⟩
abbrev eJ(n:UInt64):PV:=pu n
def Y7(q:Nat):Bool:=match q with|0=>true|_+1=>false
theorem J2(s:State)(id:UInt64):(lower s id).length≤s.aj.length:=by
 unfold lower;split
 ·exact aaF _
 ·rw[aao,D6];exact abp ..
theorem L5(s:State)(id:UInt64){m:Nat}(h:s.Sz m)(hm:m≤50000000):PC 18 [s.pv,pu id] (·=.aK [sl eJ (dw s id).l,sl st (dw s id).nodes,bo (dw s id).ok]):=by
 refine al Tryz.func18<|af (ZC s id h) rfl ?_;have hal:=aaJ (J2 s id) h.aj;have hv:dw s id=match mB (fun l=>fits (c8 s l) id) (lower s id) ((lower s id).length+1) 0 with
  |none=>⟨[],[],false⟩
  |some (l,nodes)=>⟨(fZ (fun l=>fits (c8 s l) id) l.length 0 l nodes).1,(fZ (fun l=>fits (c8 s l) id) l.length 0 l nodes).2,true⟩:=rfl
 generalize lower s id=all at hal hv;generalize hN:all.length+1=N at hv;have hml:(all.map eJ).length=all.length:=aao ..;refine bN.intro ((N:Nat):Int) (wrap_i64 (by rw[hml];omega) (by omega))<|cW N (.of Y7 (fun _=>[(6,bo false)]) [7,8,20] (fun w=>[(0,.rows 11 [s.pv] w none 74),(1,.rows 1 [pu id] w none 30)]) []) (fun q=>mB (fun l=>fits (c8 s l) id) all N 0=mB (fun l=>fits (c8 s l) id) all (N-q) q) rfl ?_ (fun k hk hj=>?_) (fun hj=>?_)
 ·exact dv ⟨⟨BB.aO rfl (fun r hr=>by rw[aaD.1 hr];rfl),rfl⟩,⟨BB.aO rfl (fun r hr=>by rw[aaD.1 hr];rfl),rfl⟩,trivial⟩
 ·refine ak.mk (gw.rows _).k<|ak.mk ⟨abE _,by rw[JH];exact abS.2 (by omega)⟩ ?_;have hcut:(((all.map eJ).drop 0).take (((k:Nat):Int).toNat-0))=(all.take k).map eJ:=by rw[acO,acB];rfl
  have htl:(all.take k).length=k:=by rw[aax];omega
  have hcl:∀nx,LC 47 [.sl false (((all.map eJ).drop 0).take (((k:Nat):Int).toNat-0))] [] nx fun r d=>r=.aH nx 0 (all.take k).length∧d=[(nx,some (.rows 1 ((all.take k).map eJ) true none 30))]:=fun nx=>by
   rw[hcut];exact Dm (all.take k) (by omega) nx
  refine a_.bB [] (n:=200) (hcl _) rfl trivial<|a_.by (n:=(all.take k).length+100) (Jw s id (all.take k) h hm (by omega)) (aN (cT (l:=all.take k) (f:=eJ) rfl rfl gw.br rfl rfl) (aN rfl (aN rfl rfl))) ?_;rw[show N-k=(N-(k+1))+1 by omega]at hj;have hj':mB (fun l=>fits (c8 s l) id) all N 0=match fits (c8 s (all.take k)) id with
   |(nodes,true)=>some (all.take k,nodes)
   |(_,false)=>mB (fun l=>fits (c8 s l) id) all (N-(k+1)) (k+1):=hj
  rcases hf:fits (c8 s (all.take k)) id with⟨nodes,_|_⟩
  ·rw[hf]at hj';exact aa<|bA.is _root_.id hj' rfl<|dv ⟨⟨BB.aO rfl (fun r hr=>by rw[aaD.1 hr];rfl),rfl⟩,⟨BB.aO rfl (fun r hr=>by rw[aaD.1 hr];rfl),rfl⟩,trivial⟩
  ·rw[hf]at hj';rw[hj']at hv;dsimp only at hv;refine ah<|aa ?_;generalize hl0:all.take k=l0 at htl hv hf;have hR:fZ (fun l=>fits (c8 s l) id) (l0.length-0) 0 l0 nodes=fZ (fun l=>fits (c8 s l) id) l0.length 0 l0 nodes:=rfl;generalize hRR:fZ (fun l=>fits (c8 s l) id) l0.length 0 l0 nodes=R at hv hR;rw[show dw s id=⟨R.1,R.2,true⟩from hv];refine cv.inv (ι:={p:Nat×List UInt64×List BA×List PV//p.1≤p.2.1.length∧p.2.1.length≤32∧cE p.2.2.2∧fZ (fun l=>fits (c8 s l) id) (p.2.1.length-p.1) p.1 p.2.1 p.2.2.1=R}) ⟨fun p=>[(10,i64 p.1.1),(4,.aH 21 0 p.1.2.1.length),(5,sl st p.1.2.2.1)],[7],fun p=>[(21,.rows 1 (p.1.2.1.map eJ++p.1.2.2.2) false none 30),(0,.rows 11 [s.pv] false none 74),(1,.rows 1 [pu id] false none 30)],[]⟩ (fun p=>p.1.2.1.length-p.1.1) ⟨(0,l0,nodes,[]),aaF _,by show l0.length≤32;omega,(fun r hr=>by cases hr),hRR⟩ ?_ ?_
   ·exact dv ⟨⟨BB.aO (by subst hl0;exact congrArg (fun r=>some (aA.rows 1 r false none 30)) (abe _).symm) (fun r hr=>by rw[abe]at hr;exact gw.bP _ r hr),rfl⟩,⟨BB.aO rfl (fun r hr=>by rw[aaD.1 hr];rfl),rfl⟩,⟨BB.aO rfl (fun r hr=>by rw[aaD.1 hr];rfl),rfl⟩,trivial⟩
   rintro⟨⟨q,l,ns,js⟩,g1,g2,g3,g4⟩;dsimp only at g1 g2 g3 g4;have gclo:∀(l:List UInt64) (js:List PV),cE js→cE (l.map eJ++js):=fun l js hjs r hr=>(aaN.1 hr).elim (gw.bP l r) (hjs r)
   refine ae.two (fun e1=>?_) (fun e1=>?_)
   ·have e1':q<l.length:=eg e1;refine ah<|a_.bB [] (n:=l.length+100) (Dm l (by omega) _) (aN (nZ (l:=l) (f:=eJ) rfl (pV eJ l js) (show l.length≤(l.map eJ++js).length by rw[aap,aao];omega) gw.br rfl) rfl) trivial<|ax (cO q)<|a_.bB [40] (n:=200) (VS l q e1' (by omega) 40 _ rfl) rfl ⟨rfl,trivial⟩ ?_;have her:(l.eraseIdx q).length=l.length-1:=by rw[acW,abb e1']
    refine a_.by (n:=(l.eraseIdx q).length+100) (Jw s id (l.eraseIdx q) h hm (by omega)) (aN (nZ (l:=l.eraseIdx q) (f:=eJ) rfl (by rw[← her];exact pV eJ _ _) (by rw[← her,aap,aao];omega) gw.br rfl) (aN rfl (aN rfl rfl))) ?_;have g4':(match fits (c8 s (l.eraseIdx q)) id with
     |(spare,true)=>fZ (fun l=>fits (c8 s l) id) (l.length-q-1) q (l.eraseIdx q) spare
     |(_,false)=>fZ (fun l=>fits (c8 s l) id) (l.length-q-1) (q+1) l ns)=R:=by
     rw[← g4];obtain⟨d,hd⟩:∃d,l.length-q=d+1:=⟨l.length-q-1,by omega⟩;rw[hd];conv=>rhs;unfold fZ
     rw[aaB e1'];rfl
    rcases hf2:fits (c8 s (l.eraseIdx q)) id with⟨spare,_|_⟩
    ·rw[hf2]at g4';refine ah<|ax (cO q)<|⟨⟨(q+1,l,ns,js),e1',g2,g3,(show fZ _ (l.length-(q+1)) (q+1) l ns=R from g4')⟩,_root_.id,?_,?_⟩
     ·show l.length-(q+1)<l.length-q;omega
     exact dv ⟨⟨BB.aO rfl (gclo l js g3),rfl⟩,⟨BB.aO rfl (fun r hr=>by rw[aaD.1 hr];rfl),rfl⟩,⟨BB.aO rfl (fun r hr=>by rw[aaD.1 hr];rfl),rfl⟩,trivial⟩
    ·rw[hf2]at g4';refine aa<|⟨⟨(q,l.eraseIdx q,spare,[gm 30]),by show q≤(l.eraseIdx q).length;omega,by show(l.eraseIdx q).length≤32;omega,fun r hr=>by rw[aaD.1 hr];rfl,(show fZ _ ((l.eraseIdx q).length-q) q (l.eraseIdx q) spare=R by rw[her,show l.length-1-q=l.length-q-1 by omega];exact g4')⟩,sw 21 44,?_,?_⟩
     ·show(l.eraseIdx q).length-q<l.length-q;omega
     exact gS ⟨⟨rfl,rfl⟩,⟨congrArg (fun n=>some (PV.aH 44 0 n)) her.symm,rfl⟩,⟨rfl,rfl⟩,trivial⟩ ⟨⟨BB.aO rfl (gclo _ _ fun r hr=>by rw[aaD.1 hr];rfl),rfl⟩,⟨BB.aO rfl (fun r hr=>by rw[aaD.1 hr];rfl),rfl⟩,⟨BB.aO rfl (fun r hr=>by rw[aaD.1 hr];rfl),rfl⟩,trivial⟩
   ·have e1':¬q<l.length:=jn e1;refine aa ?_;have hfin:R=(l,ns):=by
     rw[← g4,show l.length-q=0 by omega];rfl
    exact⟨l.length+100,_,_,.inl (aN (nZ (l:=l) (f:=eJ) rfl (pV eJ l js) (show l.length≤(l.map eJ++js).length by rw[aap,aao];omega) gw.br rfl) (aN rfl (aN rfl rfl))),(show PV.aK [sl eJ l,sl st ns,bo true]=PV.aK [sl eJ R.1,sl st R.2,bo true]by rw[hfin])⟩
 ·have hz:N-N=0:=acn N;rw[hz]at hj;rw[hj]at hv;have hh:dw s id=⟨[],[],false⟩:=hv;exact ah<|⟨200,_,_,.inl rfl,by rw[hh];rfl⟩
def lO(s:State)(q:Nat):List UInt64:=((s.aj.take q).filter az.runs).map az.id
theorem UD{s:State}{q:Nat}{j:az}(h:s.aj[q]? = some j):lO s (q+1)=match j.runs with|true=>lO s q++[j.id]|false=>lO s q:=by
 unfold lO;rw[eC h,acv,aaC,acL,List.filter_nil];cases j.runs
 ·exact abe _
 ·rfl
theorem ML(s:State)(q:Nat):(lO s q).length≤q:=by
 unfold lO;rw[aao];exact aaJ (abp ..) (by rw[aax];omega)
theorem YA(s:State)(hl:s.aj.length≤67108864):PC 376 [s.pv] (·=sl eJ (running s)):=by
 refine al Tryz.func376<|iO.grow [(3,1,30)] ⟨rfl,trivial⟩<|mb s.aj.length (.of (lO s) (fun l=>[(3,.aH 7 0 l.length)]) [7,8] (fun l=>[(7,.rows 1 (l.map eJ) true none 30)]) []) (fun _=>True) trivial ?_ (fun k hk hj=>?_) (fun hj=>?_)
 ·exact bY rfl (gw.bP _)
 ·obtain⟨x,hx⟩:=get_at hk;have hn:=UD hx;have hl':=ML s k;generalize hL:lO s k=L at hn hl';rw[bR hL];refine bx hx ?_;rcases x with⟨ji,jx,runs,left⟩
  cases runs with
  |true=>
   refine ah<|db.l (ak.mk (dS (f:=eJ) gw L ji (by omega)) ?_);exact bA.of (sw 7 19) hn trivial rfl<|gS ⟨⟨by rw[aap];rfl,rfl⟩,trivial⟩ ⟨⟨BB.aO (by rw[aaC];rfl) (gw.bP _),rfl⟩,trivial⟩
  |false=>
   exact aa<|bA.of id hn trivial rfl<|bY rfl (gw.bP _)
 ·have hh:running s=lO s s.aj.length:=by unfold running lO;rw[aaM]
  rw[hh];generalize hL:lO s s.aj.length=L;rw[bR hL];exact⟨L.length+100,_,_,.inl (aN (cT (l:=L) (f:=eJ) rfl rfl gw.br rfl rfl) rfl),rfl⟩
theorem Kn(j:az)(id:UInt64):PC 377 [j.pv,.ip [pu id] 0] (·=bo (decide (j.id=id))):=al Tryz.func377<|ae.is (decide (j.id=id)) (jP j.id id)<|ab
def State.Lf(s:State):Prop:=∀j∈s.aj,(0≤j.left∧j.left≤100)∧0≤j.x.cN∧j.x.cN≤100
theorem wY(t:State)(id:UInt64){n:Nat}(h:fW t.aj id=(n:Int)):gj t id=match decide ((bK t.aj id).1.left-1≤0)with
 |true=>(({t with aj:=t.aj.set n {(bK t.aj id).1 with left:=(bK t.aj id).1.left-1}}:State).end_ id 3).1
 |false=>{t with aj:=t.aj.set n {(bK t.aj id).1 with left:=(bK t.aj id).1.left-1}}:=by
 unfold gj
 rw[h,aar (by omega)]
 rfl
def iU(s:State)(q:Nat):State:=((running s).take q).foldl gj {s with round:=s.round+1}
theorem State.Sz.set{m:Nat}{s:State}(h:s.Sz m){n:Nat}{j:az}(hj:s.aj[n]? = some j)(v:Int):({s with aj:=s.aj.set n {j with left:=v}}:State).Sz m:=
 h.yl (by rw[aaY];exact h.aj) fun x hx=>by
  rcases abr hx with hx|rfl
  ·exact h.spec x hx
  ·exact h.spec j (aau hj)
theorem State.Sz.gj{m:Nat}{s:State}(h:s.Sz m)(id:UInt64):(gj s id).Sz m:=by
 rcases jW s.aj id with⟨h1,h2⟩|⟨n,h1,h2,h3⟩
 ·unfold Proofs.YtbnonpbnhenkfaaGreatDoor.gj;rw[h1];exact h
 ·rw[wY s id h1];split
  ·exact(h.set h2 _).end_ _ _
  ·exact h.set h2 _
theorem Mg{α:Type}{l:List α}{n:Nat}{x y:α}(h:l[n]? = some x):(l.set n y)[n]? = some y:=by rw[acd,abb rfl,abb (aaq.1 h).1]
theorem C0{t:State}(id:UInt64)(k:Int){n:Nat}(h:fW t.aj id=(n:Int)):(t.end_ id k).1.aj=t.aj.eraseIdx n:=by
 unfold State.end_;rw[h,aar (by omega)];dsimp only;cases(bK t.aj id).1.runs with
 |true=>
  show((t.cP _).aj.eraseIdx (n:Int).toNat)=_
  rw[(p8 t _).2.1];rfl
 |false=>rfl
theorem PG{l:List az}{id:UInt64}{n:Nat}{j j':az}(h:fW l id=(n:Int))(hj:l[n]? = some j)(hid:j'.id=j.id):fW (l.set n j') id=(n:Int):=by
 have key:∀(l:List az) (i n:Nat),l[n]? = some j→idx (fun x:az=>decide (x.id=id)) (l.set n j') i=idx (fun x:az=>decide (x.id=id)) l i:=by
  intro l;induction l with
  |nil=>intro i n h;cases h
  |cons x l ih=>
   intro i n h;cases n with
   |zero=>
    cases h;show idx _ (j'::l) i=idx _ (j::l) i
    unfold idx;rw[hid]
   |succ n=>
    show idx _ (x::l.set n j') i=idx _ (x::l) i
    unfold idx;cases decide (x.id=id)with
    |true=>rfl
    |false=>exact ih (i+1) n (by simpa using h)
 exact(key l 0 n hj).trans h
theorem State.Lf.gj{s:State}(h:s.Lf)(id:UInt64):(gj s id).Lf:=by
 rcases jW s.aj id with⟨h1,h2⟩|⟨n,h1,h2,h3⟩
 ·unfold Proofs.YtbnonpbnhenkfaaGreatDoor.gj;rw[h1];exact h
 ·have hj:=h _ (aau h2);rw[wY s id h1];generalize(bK s.aj id).1=j at h2 hj⊢;cases hd:decide (j.left-1≤0)with
  |true=>
   show State.Lf (State.end_ _ id 3).1
   intro x hx;rw[C0 (t:={s with aj:=s.aj.set n {j with left:=j.left-1}}) id 3 (PG h1 h2 rfl)]at hx;obtain⟨i,hi,hxi⟩:=acJ.1 hx;have hxi:(s.aj.set n {j with left:=j.left-1})[i]? = some x:=hxi;rw[acd,abg (fun e=>hi e.symm)]at hxi;exact h x (aau hxi)
  |false=>
   have hd:=aaw hd;intro x hx;rcases abr hx with hx|rfl
   ·exact h x hx
   ·exact⟨⟨by show 0≤j.left-1;omega,by show j.left-1≤100;omega⟩,hj.2⟩
theorem State.Sz.iU{m:Nat}{s:State}(h:s.Sz m)(q:Nat):(iU s q).Sz m:=by
 unfold Proofs.YtbnonpbnhenkfaaGreatDoor.iU;have h0:({s with round:=s.round+1}:State).Sz m:=⟨h.nodes,h.places,h.tree,h.aj,h.queue,h.ev,h.au,h.spec,h.labels⟩;generalize(running s).take q=l;generalize({s with round:=s.round+1}:State)=t at h0;induction l generalizing t with
 |nil=>exact h0
 |cons i l ih=>exact ih _ (h0.gj i)
theorem State.Lf.iU{s:State}(h:s.Lf)(q:Nat):(iU s q).Lf:=by
 unfold Proofs.YtbnonpbnhenkfaaGreatDoor.iU;have h0:({s with round:=s.round+1}:State).Lf:=h;generalize(running s).take q=l;generalize({s with round:=s.round+1}:State)=t at h0;induction l generalizing t with
 |nil=>exact h0
 |cons i l ih=>exact ih _ (h0.gj i)
def mF(t:State)(id:UInt64)(r:Bool):Bool:=match decide (fW t.aj id<0)with
 |true=>r
 |false=>match decide ((bK t.aj id).1.left-1≤0)with
  |true=>false
  |false=>true
def lS(s:State)(q:Nat):State×Bool:=((running s).take q).foldl (fun p id=>(gj p.1 id,mF p.1 id p.2)) ({s with round:=s.round+1},false)
theorem UN{s:State}{q:Nat}{id:UInt64}(h:(running s)[q]? = some id):lS s (q+1)=(gj (lS s q).1 id,mF (lS s q).1 id (lS s q).2):=by
 unfold lS;rw[eC h,abw];rfl
theorem KM(s:State)(q:Nat):(lS s q).1=iU s q:=by
 unfold lS iU;generalize(running s).take q=l;generalize({s with round:=s.round+1}:State)=t;generalize false=b;induction l generalizing t b with
 |nil=>rfl
 |cons i l ih=>exact ih _ _
def RV(p:State×Bool):List (Nat×aA):=match p.2 with
 |false=>[(0,.rows 11 [p.1.pv] true none 74)]
 |true=>[(0,.rows 11 [.agg [pu p.1.round,pu p.1.next,sl Node.pv p.1.pool.nodes,sl Place.pv p.1.pool.places,sl aD.pv p.1.tree,.aH 5 0 p.1.aj.length,sl QE.pv p.1.queue,pu p.1.events.first,sl cK.pv p.1.events.l,pu p.1.cJ.first,sl cK.pv p.1.cJ.l]] true none 74),(5,.rows 12 (p.1.aj.map az.pv) true none 90)]
theorem aah(s:State){m:Nat}(h:s.Sz m)(hm:m≤50000000)(hL:s.Lf):PC 341 [s.pv] (·=s.count.pv):=by
 refine al Tryz.func341 ?_;have hjl:=h.aj;refine ax (zT s.round) ?_;have hrun:running {s with round:=s.round+1}=running s:=rfl;refine af (YA {s with round:=s.round+1} (by show s.aj.length≤_;omega)) rfl ?_;rw[hrun];have hrl:(running s).length≤32:=by
  unfold running;rw[aao];exact aaJ (abp ..) hjl
 refine cW (running s).length (.of (lS s) (fun _=>[]) [1,2,11,12] RV [1]) (fun _=>True) trivial ?_ (fun k hk hj=>?_) (fun hj=>?_)
 ·exact bC
 ·obtain⟨id,hx⟩:=get_at hk;have hn:=UN hx;have hsz:=h.iU k;have hlf:=hL.iU k;rw[← KM]at hsz hlf;rcases hT:lS s k with⟨t,_|_⟩
  ·rw[hT]at hn hsz hlf;dsimp only at hn hsz hlf;have htl:=hsz.aj;rw[bR hT];refine bx (f:=eJ) hx<|af (vP cA.one t.aj (fun j=>decide (j.id=id)) (by omega) fun j _=>Kn j id) rfl ?_;rcases jW t.aj id with⟨h1,h2⟩|⟨n,h1,h2,h3⟩
   ·have he:gj t id=t:=by unfold gj;rw[h1];rfl
    have hr:mF t id false=false:=by unfold mF;rw[h1];rfl
    rw[he,hr]at hn;have h1:idx (fun j:az=>decide (j.id=id)) t.aj 0=-1:=h1;rw[h1];exact ae.t (by decide)<|ah<|bA.of _root_.id hn trivial rfl<|bC
   ·have he:=wY t id h1;have hr:mF t id false=match decide ((bK t.aj id).1.left-1≤0)with|true=>false|false=>true:=by unfold mF;rw[h1,aar (by omega)]
    have hlt:=(aaq.1 h2).1;have hlj:=hlf _ (aau h2);have h1:idx (fun j:az=>decide (j.id=id)) t.aj 0=(n:Int):=h1;rw[h1];generalize(bK t.aj id).1=j at h2 he hr hlj;refine ae.f (by omega)<|aa<|a_.bB [] (n:=200) (q_ t.aj (by omega) _) rfl trivial<|ak.mk ⟨by omega,by omega⟩ ?_;refine bx (i:=0+n) (by rw[aav];exact h2)<|bN.intro (j.left-1) (wrap_i64 rfl (by omega))<|ak.mk ⟨by omega,by omega⟩ ?_;refine bx (i:=0+n) (by rw[aav];exact h2) ?_;have hset:PV.c9 (t.aj.map az.pv) (0+n) (az.pv {j with left:=j.left-1})=(t.aj.set n {j with left:=j.left-1}).map az.pv:=by rw[aav];exact mg az.pv t.aj n _
    have hsl:(t.aj.set n {j with left:=j.left-1}).length=t.aj.length:=aaY ..;refine ak.mk ⟨by omega,by omega⟩ ?_;refine dC.intro (az.pv {j with left:=j.left-1}) (show PV.nth (PV.c9 (t.aj.map az.pv) (0+n) (az.pv {j with left:=j.left-1})) (0+n)=_ by rw[hset,aav];exact uE az.pv _ _ _ (Mg h2)) (abE _) ?_;refine ae.two (fun h5=>?_) (fun h5=>?_)
    ·have h5:decide (j.left-1≤0)=true:=h5;rw[h5]at he hr;rw[he,hr]at hn;exact ah<|a_.by (n:=(t.aj.set n {j with left:=j.left-1}).length+100) (BQ {t with aj:=t.aj.set n {j with left:=j.left-1}} id 3 (hsz.set h2 _) hm) (aN (iw (aN rfl (aN rfl (aN rfl (aN rfl (aN rfl (aN (cT (l:=t.aj.set n {j with left:=j.left-1}) rfl hset gv.br hsl.symm rfl) rfl))))))) (aN rfl (aN rfl rfl)))<|bA.of _root_.id hn trivial rfl<|bC
    ·have h5:decide (j.left-1≤0)=false:=h5;rw[h5]at he hr;rw[he,hr]at hn;exact aa<|bA.of (sw 5 25) hn trivial rfl<|dv ⟨⟨BB.rn (by show _=some (aA.rows 11 [PV.agg _] true none _);rw[hsl];rfl) rfl,rfl⟩,⟨BB.aO (congrArg (fun r=>some (aA.rows 12 r true none _)) hset) (gv.bP _),rfl⟩,trivial⟩
  ·rw[hT]at hn hsz hlf;dsimp only at hn hsz hlf;have htl:=hsz.aj;rw[bR hT];refine bx (f:=eJ) hx<|a_.by (n:=t.aj.length+100) (vP cA.one t.aj (fun j=>decide (j.id=id)) (by omega) fun j _=>Kn j id) (aN (cT (l:=t.aj) rfl rfl gv.br rfl rfl) (aN rfl rfl)) ?_;rcases jW t.aj id with⟨h1,h2⟩|⟨n,h1,h2,h3⟩
   ·have he:gj t id=t:=by unfold gj;rw[h1];rfl
    have hr:mF t id true=true:=by unfold mF;rw[h1];rfl
    rw[he,hr]at hn;have h1:idx (fun j:az=>decide (j.id=id)) t.aj 0=-1:=h1;rw[h1];exact ae.t (by decide)<|ah<|bA.of _root_.id hn trivial rfl<|dv ⟨⟨BB.rn rfl rfl,rfl⟩,⟨BB.aO rfl (gv.bP _),rfl⟩,trivial⟩
   ·have he:=wY t id h1;have hr:mF t id true=match decide ((bK t.aj id).1.left-1≤0)with|true=>false|false=>true:=by unfold mF;rw[h1,aar (by omega)]
    have hlt:=(aaq.1 h2).1;have hlj:=hlf _ (aau h2);have h1:idx (fun j:az=>decide (j.id=id)) t.aj 0=(n:Int):=h1;rw[h1];generalize(bK t.aj id).1=j at h2 he hr hlj;refine ae.f (by omega)<|aa<|a_.bB [] (n:=t.aj.length+100) (q_ t.aj (by omega) _) (aN (cT (l:=t.aj) rfl rfl gv.br rfl rfl) rfl) trivial<|ak.mk ⟨by omega,by omega⟩ ?_;refine bx (i:=0+n) (by rw[aav];exact h2)<|bN.intro (j.left-1) (wrap_i64 rfl (by omega))<|ak.mk ⟨by omega,by omega⟩ ?_;refine bx (i:=0+n) (by rw[aav];exact h2) ?_;have hset:PV.c9 (t.aj.map az.pv) (0+n) (az.pv {j with left:=j.left-1})=(t.aj.set n {j with left:=j.left-1}).map az.pv:=by rw[aav];exact mg az.pv t.aj n _
    have hsl:(t.aj.set n {j with left:=j.left-1}).length=t.aj.length:=aaY ..;refine ak.mk ⟨by omega,by omega⟩ ?_;refine dC.intro (az.pv {j with left:=j.left-1}) (show PV.nth (PV.c9 (t.aj.map az.pv) (0+n) (az.pv {j with left:=j.left-1})) (0+n)=_ by rw[hset,aav];exact uE az.pv _ _ _ (Mg h2)) (abE _) ?_;refine ae.two (fun h5=>?_) (fun h5=>?_)
    ·have h5:decide (j.left-1≤0)=true:=h5;rw[h5]at he hr;rw[he,hr]at hn;exact ah<|a_.by (n:=(t.aj.set n {j with left:=j.left-1}).length+100) (BQ {t with aj:=t.aj.set n {j with left:=j.left-1}} id 3 (hsz.set h2 _) hm) (aN (iw (aN rfl (aN rfl (aN rfl (aN rfl (aN rfl (aN (cT (l:=t.aj.set n {j with left:=j.left-1}) rfl hset gv.br hsl.symm rfl) rfl))))))) (aN rfl (aN rfl rfl)))<|bA.of _root_.id hn trivial rfl<|bC
    ·have h5:decide (j.left-1≤0)=false:=h5;rw[h5]at he hr;rw[he,hr]at hn;exact aa<|bA.of (sw 5 25) hn trivial rfl<|dv ⟨⟨BB.rn (by show _=some (aA.rows 11 [PV.agg _] true none _);rw[hsl];rfl) rfl,rfl⟩,⟨BB.aO (congrArg (fun r=>some (aA.rows 12 r true none _)) hset) (gv.bP _),rfl⟩,trivial⟩
 ·have hh:s.count=(lS s (running s).length).1:=by rw[KM];unfold State.count iU;rw[aaM]
  rw[hh];rcases hT:lS s (running s).length with⟨t,_|_⟩
  ·rw[bR hT];exact ab
  ·rw[bR hT];exact⟨t.aj.length+100,_,_,.inl (aN (iw (aN rfl (aN rfl (aN rfl (aN rfl (aN rfl (aN (cT (l:=t.aj) rfl rfl gv.br rfl rfl) rfl))))))) rfl),rfl⟩
theorem Jv(s:State)(behind:Nat){m:Nat}(h:s.Sz m)(hb:behind≤1000000):PC 17 [s.pv,i64 behind] (·=.aK [pu (cM s behind).id,i64 ((cM s behind).at_:Nat),bo (cM s behind).ok]):=by
 refine al Tryz.func17 ?_;have hq:=h.queue;have hml:(s.queue.map QE.pv).length=s.queue.length:=aao ..;refine bN.intro ((behind:Nat):Int) (by show(if 0>(behind:Int)then 0 else(behind:Int))=_;split<;>omega)<|cv.inv (ι:={q:Nat//behind≤q∧q≤behind+32∧mr s (s.queue.drop q) q=cM s behind}) ⟨fun q=>[(7,i64 q.1)],[2,4,5,6],fun _=>[],[0]⟩ (fun q=>behind+32-q.1) ⟨behind,aas _,by omega,rfl⟩ ?_ ?_
 ·exact bC
 rintro⟨q,h1,h2,h3⟩;refine ae.two (fun e1=>?_) (fun e1=>?_)
 ·have e1:q<s.queue.length:=by have e1:((q:Nat):Int)<((s.queue.map QE.pv).length:Nat):=aat e1;rw[hml]at e1;exact abG.1 e1
  obtain⟨x,hx⟩:=get_at e1;have hd:s.queue.drop q=x::s.queue.drop (q+1):=by
   obtain⟨hlt,rfl⟩:=aaq.1 hx;exact aaX hlt
  rw[hd]at h3;have h3':(match j1 s x.id with|true=>(⟨x.id,q,true⟩:Nx)|false=>mr s (s.queue.drop (q+1)) (q+1))=cM s behind:=h3;refine ah<|bx hx<|ay (Qi s x.id h) rfl<|ar ?_;cases hc:j1 s x.id with
  |true=>
   rw[hc]at h3';exact ah<|bx hx<|⟨200,_,_,.inl rfl,(show PV.aK [pu x.id,i64 (q:Nat),bo true]=PV.aK [pu (cM s behind).id,i64 ((cM s behind).at_:Nat),bo (cM s behind).ok]by rw[← h3'])⟩
  |false=>
   rw[hc]at h3';refine aa<|ax (cO q)<|⟨⟨q+1,by omega,by omega,h3'⟩,id,?_,?_⟩
   ·show behind+32-(q+1)<behind+32-q;omega
   exact bC
 ·have e1:¬q<s.queue.length:=by
   have e1:¬((q:Nat):Int)<((s.queue.map QE.pv).length:Nat):=aaw e1;rw[hml]at e1;omega
  rw[aaR (by omega)]at h3;have h3:(⟨0,0,false⟩:Nx)=cM s behind:=h3;exact aa<|⟨200,_,_,.inl rfl,(show PV.aK [pu 0,i64 0,bo false]=PV.aK [pu (cM s behind).id,i64 ((cM s behind).at_:Nat),bo (cM s behind).ok]by rw[← h3];rfl)⟩
def fq.pv(t:fq):PV:=.agg [pu t.s.round,pu t.s.next,sl Node.pv t.s.pool.nodes,sl Place.pv t.s.pool.places,sl aD.pv t.s.tree,sl az.pv t.s.aj,sl QE.pv t.s.queue,pu t.s.events.first,sl cK.pv t.s.events.l,pu t.s.cJ.first,sl cK.pv t.s.cJ.l,i64 (t.at_:Nat)]
theorem BR(tr:List UInt64→List BA×Bool):∀(m k:Nat) (l:List UInt64) (nodes:List BA),(fZ tr m k l nodes).1.length≤l.length
 |0,_,_,_=>aas _
 |m+1,k,l,nodes=>by
  unfold fZ
  split
  ·exact aas _
  ·split
   ·exact aaJ (BR tr m k _ _) (acu _ _).length_le
   ·exact BR tr m (k+1) l nodes
theorem Ea(tr:List UInt64→List BA×Bool)(all:List UInt64):∀(m n:Nat) {l:List UInt64} {nodes:List BA},mB tr all m n=some (l,nodes)→l.length≤all.length
 |0,_,_,_,h=>by cases h
 |m+1,n,l,nodes,h=>by
  unfold mB at h
  split at h
  ·cases h;rw[aax];exact abO _ _
  ·exact Ea tr all m (n+1) h
theorem RW{s:State}{id:UInt64}(h:s.aj.length≤32):(dw s id).l.length≤32:=by
 unfold dw;dsimp only;split
 ·exact aaF _
 ·rename_i l nodes e;have h1:=Ea _ _ _ _ e;have h2:=J2 s id;have h3:=BR (fun l=>fits (c8 s l) id) l.length 0 l nodes;dsimp only at h3⊢;omega
theorem Ct(d:V4):∀(n:Nat) (l:List Slot) (out:List BA),(j4 d n l out).2=true→(j4 d n l out).1.length=out.length+n
 |0,_,_,_=>rfl
 |n+1,l,out,h=>by
  unfold j4 at h⊢
  cases hb:(eB l d).ok with
  |false=>rw[hb]at h;cases h
  |true=>
   rw[hb]at h
   dsimp only at h⊢
   rw[Ct d n _ _ h,aap]
   show out.length+1+n=_
   omega
theorem Ui{l:List Slot}{x:List Term}{d:V4}{c:Int}(h:(iQ l x d c).2=true):(iQ l x d c).1.length≤8:=by
 unfold iQ at h⊢;cases hc:decide (8<c)with
 |true=>exact aaF _
 |false=>
  rw[hc]at h;have hc:=aaw hc;show(j4 d (max c 0).toNat (fitting l x) []).1.length≤8
  rw[Ct _ _ _ _ h];show 0+_≤8
  omega
theorem D8{s:State}{id:UInt64}:(fits s id).1.length≤8:=by
 unfold fits asked;split
 ·exact aaF _
 ·dsimp only;split
  ·exact aaF _
  ·split
   ·exact aaF _
   ·rename_i h2;split
    ·exact aaF _
    ·exact Ui h2
theorem Xh(t:fq){m:Nat}(h:t.s.Sz m)(hm:m≤40000000)(ha:t.at_≤1000000):PC 375 [t.pv] (·=.aK [t.next.1.pv,bo t.next.2]):=by
 refine al Tryz.func375 ?_;obtain⟨s,at_⟩:=t;dsimp only at h ha;refine af (Jv s at_ h ha) rfl ?_;rcases hn:cM s at_ with⟨id,a,_|_⟩
 ·rw[show fq.next ⟨s,at_⟩=(⟨s,at_⟩,false)by unfold fq.next;dsimp only;rw[hn]];exact ah<|ab
 refine aa<|af (L5 s id h (by omega)) rfl ?_;have hvl:(dw s id).l.length≤32:=RW h.aj;have hspec:(dw s id).ok=true→(dw s id).nodes.length≤8:=fun e=>by
  have:=(BH e).2;have h8:=D8 (s:=c8 s (dw s id).l) (id:=id);rw[this]at h8;exact h8
 rcases hv:dw s id with⟨l,nodes,_|_⟩
 ·rw[show fq.next ⟨s,at_⟩=(⟨s,at_⟩,false)by unfold fq.next;dsimp only;rw[hn];dsimp only;rw[hv]];exact ah<|ab
 rw[hv]at hvl hspec;dsimp only at hvl hspec;have hnl:=hspec rfl;refine aa<|cW l.length (.of (ib s l) (fun _=>[]) [1,2,4,5,8,36,37] (fun u=>[(0,.rows 12 [fq.pv ⟨u,at_⟩] true none 467)]) [1]) (fun _=>True) trivial ?_ (fun k hk hj=>?_) (fun hj=>?_)
 ·exact bC
 ·obtain⟨x,hx⟩:=get_at hk;have hnx:=J7 (s:=s) hx;have hsz:(ib s l k).Sz m:=h.c8 (l.take k);generalize hL:ib s l k=u at hnx hsz;rw[bR hL];exact bx (f:=eJ) hx<|af (yE u x 5 hsz (by omega)) rfl<|bA.of _root_.id hnx trivial rfl<|bC
 ·have hh:c8 s l=ib s l l.length:=by unfold ib;rw[aaM]
  have hsz:(ib s l l.length).Sz m:=h.c8 (l.take l.length);have hnext:fq.next ⟨s,at_⟩=match State.begin (ib s l l.length) id nodes with
   |(u,e)=>match decide (e=0)with
    |true=>(⟨u,a⟩,true)
    |false=>(⟨ib s l l.length,at_⟩,false):=by
   rw[← hh];unfold fq.next;dsimp only;rw[hn];dsimp only;rw[hv];rfl
  generalize hL:ib s l l.length=u at hsz hnext;rw[bR hL];refine af (PW u id nodes hsz (by omega) (by omega)) rfl ?_;rcases hb:u.begin id nodes with⟨w,e⟩
  rw[hb]at hnext;dsimp only at hnext;refine ae.two (fun h5=>?_) (fun h5=>?_)
  ·have h5:decide (e=0)=true:=h5;rw[h5]at hnext;rw[hnext];exact aa<|ab
  ·have h5:decide (e=0)=false:=h5;rw[h5]at hnext;rw[hnext];exact ah<|ab
theorem EX{t:fq}{m:Nat}(h:t.s.Sz m)(ha:t.at_≤1000000):t.next.1.s.Sz (m+8)∧t.next.1.at_≤1000000:=by
 have hh:=State.Sz.le h (abj m 8);unfold fq.next;cases hn:(cM t.s t.at_).ok with
 |false=>exact⟨hh,ha⟩
 |true=>
 dsimp only;cases hv:(dw t.s (cM t.s t.at_).id).ok with
 |false=>exact⟨hh,ha⟩
 |true=>
 dsimp only;have hat:(cM t.s t.at_).at_≤1000000:=by
  obtain⟨i,e,h1,h2,h3,h4⟩:=zy (s:=t.s) (l:=t.s.queue.drop t.at_) (k:=t.at_) hn;have h3:(cM t.s t.at_).at_=t.at_+i:=h3;have:=(aaq.1 h1).1;rw[aaO]at this;have:=h.queue;omega
 have hnl:(dw t.s (cM t.s t.at_).id).nodes.length≤8:=by
  have:=(BH hv).2;have h8:=D8 (s:=c8 t.s (dw t.s (cM t.s t.at_).id).l) (id:=(cM t.s t.at_).id);rw[this]at h8;exact h8
 have hb:=(h.c8 (dw t.s (cM t.s t.at_).id).l).begin (cM t.s t.at_).id (dw t.s (cM t.s t.at_).id).nodes hnl;have hw:=State.Sz.le (h.c8 (dw t.s (cM t.s t.at_).id).l) (abj m 8);rcases hbe:State.begin (c8 t.s (dw t.s (cM t.s t.at_).id).l) (cM t.s t.at_).id (dw t.s (cM t.s t.at_).id).nodes with⟨u,e⟩
 rw[hbe]at hb;dsimp only at hb⊢;cases decide (e=0)with
 |true=>exact⟨hb,hat⟩
 |false=>exact⟨hw,ha⟩
theorem within_iff{n a b:Int}:within n a b=true↔a≤n∧n≤b:=by
 unfold within;cases h:decide (a≤n)with
 |true=>have:=aat h;simp[this]
 |false=>have:=aaw h;simp;omega
theorem x6{x:Spec}(h:x.check=0):mw x.path x.path=true∧within x.count 1 8=true∧within x.prio 0 9=true∧within x.cN 1 100=true∧ig x.cR=true∧x.total.2=true:=by
 unfold Spec.check at h;cases h1:mw x.path x.path with
 |false=>rw[h1]at h;dsimp only at h;exact absurd h (by decide)
 |true=>
 rw[h1]at h;dsimp only at h;cases h2:within x.count 1 8 with
 |false=>rw[h2]at h;dsimp only at h;exact absurd h (by decide)
 |true=>
 rw[h2]at h;dsimp only at h;cases h3:within x.prio 0 9 with
 |false=>rw[h3]at h;dsimp only at h;exact absurd h (by decide)
 |true=>
 rw[h3]at h;dsimp only at h;cases h4:within x.cN 1 100 with
 |false=>rw[h4]at h;dsimp only at h;exact absurd h (by decide)
 |true=>
 rw[h4]at h;dsimp only at h;cases h5:ig x.cR with
 |false=>rw[h5]at h;dsimp only at h;exact absurd h (by decide)
 |true=>
 rw[h5]at h;dsimp only at h;cases h6:x.total.2 with
 |false=>rw[h6]at h;dsimp only at h;exact absurd h (by decide)
 |true=>exact⟨rfl,rfl,rfl,rfl,rfl,rfl⟩
abbrev az.lf(j:az):Prop:=(0≤j.left∧j.left≤100)∧0≤j.x.cN∧j.x.cN≤100
theorem State.Lf.with{s:State}(h:s.Lf)(k:Nat){j:az}(hj:j.lf):(s.with k j).Lf:=fun x hx=>by
 rcases abr hx with hx|rfl
 ·exact h x hx
 ·exact hj
theorem State.Lf.cP{s:State}(h:s.Lf)(j:az):(s.cP j).Lf:=fun x hx=>by
 rw[(p8 s j).2.1]at hx
 exact h x hx
theorem State.Lf.stop{s:State}(h:s.Lf)(id:UInt64)(k:Int):(s.stop id k).1.Lf:=by
 unfold State.stop;rcases jW s.aj id with⟨h1,h2⟩|⟨n,h1,h2,h3⟩
 ·rw[h1];exact h
 rw[h1,aar (by omega)];dsimp only;have hj:=h _ (aau h2);generalize(bK s.aj id).1=j at hj⊢;cases j.runs with
 |false=>exact h
 |true=>exact State.Lf.with (s:={s.cP j with queue:=_}) (h.cP j) _ (j:={j with runs:=false,left:=0}) ⟨⟨Int.le_refl _,by show(0:Int)≤100;decide⟩,hj.2⟩
theorem State.Lf.end_{s:State}(h:s.Lf)(id:UInt64)(k:Int):(s.end_ id k).1.Lf:=by
 rcases jW s.aj id with⟨h1,h2⟩|⟨n,h1,h2,h3⟩
 ·unfold State.end_;rw[h1];exact h
 ·intro x hx;rw[C0 id k h1]at hx;exact h x (mem_erase hx)
theorem State.Lf.begin{s:State}(h:s.Lf)(id:UInt64)(nodes:List BA):(s.begin id nodes).1.Lf:=by
 unfold State.begin;rcases jW s.aj id with⟨h1,h2⟩|⟨n,h1,h2,h3⟩
 ·rw[h1];exact h
 rw[h1,aar (by omega)];dsimp only;have hj:=h _ (aau h2);generalize(bK s.aj id).1=j at hj⊢;cases j.runs with
 |true=>exact h
 |false=>
 dsimp only;cases decide ((nodes.length:Int)=j.x.count)with
 |false=>exact h
 |true=>
 dsimp only;rcases j.x.total with⟨v,_|_⟩
 ·exact h
 dsimp only;rcases iP s.tree j.x.path v with⟨t,e⟩
 dsimp only;cases decide (e=0)with
 |false=>exact h
 |true=>
 dsimp only;rcases s.pool.lay id nodes j.x.cy with⟨p,e'⟩
 dsimp only;cases decide (e'=0)with
 |false=>exact h
 |true=>exact State.Lf.with (s:={s with tree:=t,pool:=p,queue:=_}) h _ (j:={j with runs:=true,left:=j.x.cN}) ⟨hj.2,hj.2⟩
theorem State.Lf.stops{k:Int}:∀{s:State} (l:List UInt64),s.Lf→(l.foldl (fun s id=>(s.stop id k).1) s).Lf
 |_,[],h=>h
 |_,id::l,h=>State.Lf.stops l (h.stop id k)
theorem State.Sz.stops{m:Nat}{k:Int}:∀{s:State} (l:List UInt64),s.Sz m→(l.foldl (fun s id=>(s.stop id k).1) s).Sz m
 |_,[],h=>h
 |_,id::l,h=>State.Sz.stops l (h.stop id k)
theorem UE{t:fq}(h:t.s.Lf):t.next.1.s.Lf:=by
 unfold fq.next;cases(cM t.s t.at_).ok with
 |false=>exact h
 |true=>
 dsimp only;cases(dw t.s (cM t.s t.at_).id).ok with
 |false=>exact h
 |true=>
 dsimp only;have hw:(c8 t.s (dw t.s (cM t.s t.at_).id).l).Lf:=h.stops _;have hb:=hw.begin (cM t.s t.at_).id (dw t.s (cM t.s t.at_).id).nodes;rcases hbe:State.begin (c8 t.s (dw t.s (cM t.s t.at_).id).l) (cM t.s t.at_).id (dw t.s (cM t.s t.at_).id).nodes with⟨u,e⟩
 rw[hbe]at hb;dsimp only at hb⊢;cases decide (e=0)with
 |true=>exact hb
 |false=>exact hw
theorem Ek:∀(n:Nat) {t:fq} {m:Nat},t.s.Sz m→t.at_≤1000000→t.s.Lf→(kP n t).s.Sz (m+8*n)∧(kP n t).s.Lf
 |0,t,m,h,_,hl=>⟨h,hl⟩
 |n+1,t,m,h,ha,hl=>by
  have h1:=EX h ha
  have h2:=UE hl
  unfold kP
  rcases hn:t.next with⟨u,_|_⟩
  ·rw[hn]at h1 h2
   exact⟨h1.1.le (by omega),h2⟩
  ·rw[hn]at h1 h2
   have:=Ek n h1.1 h1.2 h2
   rw[show m+8+8*n=m+8*(n+1)by omega]at this
   exact this
theorem LN{s:State}{m:Nat}(h:s.Sz m)(hl:s.Lf):s.tick.Sz (m+1024)∧s.tick.Lf:=by
 have hc:s.count.Sz m∧s.count.Lf:=by
  have h1:=h.iU (running s).length;have h2:=hl.iU (running s).length;unfold iU at h1 h2;rw[aaM]at h1 h2;exact⟨h1,h2⟩
 exact Ek 128 hc.1 (by show 0≤1000000;omega) hc.2
structure cB(m:Nat)(s:State):Prop where
 inv:dF s
 sz:s.Sz m
 lf:s.Lf
theorem cB.le{m n:Nat}{s:State}(h:cB m s)(hmn:m≤n):cB n s:=⟨h.inv,h.sz.le hmn,h.lf⟩
theorem Fm(p:aW)(name:BA)(up:Bool):(p.turn name up).1.nodes.length=p.nodes.length∧(p.turn name up).1.places=p.places:=by
 constructor
 ·have:=congrArg List.length (Fb p name up);rwa [aao,aao]at this
 ·unfold aW.turn;cases decide (p.at name<0)with
  |true=>rfl
  |false=>dsimp only;cases(p.find name).1.up==up<;>rfl
theorem YB{p:aW}(name:BA)(up:Bool)(h:∀n∈p.nodes,n.labels.length≤67108864):∀n∈(p.turn name up).1.nodes,n.labels.length≤67108864:=by
 unfold aW.turn;cases hlt:decide (p.at name<0)with
 |true=>exact h
 |false=>
  dsimp only;cases(p.find name).1.up==up with
  |true=>exact h
  |false=>
   dsimp only;intro n hn;rcases abr hn with hn|rfl
   ·exact h n hn
   ·show(p.find name).1.labels.length≤_
    unfold aW.find;cases hf:p.nodes.find? (fun n=>seq n.name name)with
    |none=>exact aaF _
    |some x=>exact h x (aaW hf)
theorem cB.pool{m:Nat}{s:State}(h:cB m s){p:aW}(h1:(p.nodes.map Node.name).Nodup)(h2:p.nodes.length≤16)(h3:p.places=s.pool.places)(h4:∀n∈p.nodes,n.labels.length≤67108864):cB m {s with pool:=p}:=
 ⟨⟨h.inv.ids,h.inv.low,h.inv.i7,h.inv.len,h.inv.iM,h.inv.jy,h1⟩,⟨h2,by show p.places.length≤m;rw[h3];exact h.sz.places,h.sz.tree,h.sz.aj,h.sz.queue,h.sz.ev,h.sz.au,h.sz.spec,h4⟩,h.lf⟩
theorem cB.turn{m:Nat}{s:State}(h:cB m s)(name:BA)(up:Bool):cB m {s with pool:=(s.pool.turn name up).1}:=
 h.pool (by rw[Fb];exact h.inv.ma) (by rw[(Fm s.pool name up).1];exact h.sz.nodes) (Fm s.pool name up).2 (YB name up h.sz.labels)
theorem se{l:List bM}(h:gl l=true):l.length≤8:=by
 unfold gl at h;split at h
 ·have:=aat h;omega
 ·cases h
theorem cB.add{m:Nat}{s:State}(h:cB m s)(n:Node):cB m {s with pool:=(s.pool.add n).1}:=by
 refine h.pool (Sy h.inv.ma n) ?_ ?_ ?_<;>
 ·unfold aW.add;cases cQ n.name with
  |false=>first|exact h.sz.nodes|rfl|exact h.sz.labels
  |true=>
  dsimp only;cases hr:gl n.labels with
  |false=>first|exact h.sz.nodes|rfl|exact h.sz.labels
  |true=>
  dsimp only;cases decide (0≤s.pool.at n.name)with
  |true=>first|exact h.sz.nodes|rfl|exact h.sz.labels
  |false=>
  dsimp only;cases hl:decide (16≤(s.pool.nodes.length:Int))with
  |true=>first|exact h.sz.nodes|rfl|exact h.sz.labels
  |false=>
   first
   |rfl
   |(have hl:=aaw hl
     dsimp only;rw[aap,aaL,aax,aaO];omega)
   |(dsimp only
     intro x hx;rcases aaN.1 hx with hx|hx
     ·exact h.sz.labels x (aaV hx)
     ·rcases aaI.1 hx with rfl|hx
      ·have:=se hr;show n.labels.length≤_
       omega
      ·exact h.sz.labels x (aby hx))
theorem IY{t:List aD}(path:BA)(v:V4)(h:t.length≤16):(eY t path v).1.length≤16:=by
 unfold eY;cases named path with
 |false=>exact h
 |true=>
 dsimp only;cases !seq path aG&&decide (eR t (parent path)<0)with
 |true=>exact h
 |false=>
 dsimp only;cases decide (eR t path<0)with
 |true=>
  dsimp only;cases hl:decide (16≤(t.length:Int))with
  |true=>exact h
  |false=>
   have hl:=aaw hl;dsimp only;rw[aap,aaL,aax,aaO];omega
 |false=>
  dsimp only;cases(dt t path).1.used.fits v with
  |false=>exact h
  |true=>dsimp only;rw[aaY];exact h
theorem cB.tree{m:Nat}{s:State}(h:cB m s){t:List aD}(ht:t.length≤16):cB m {s with tree:=t}:=
 ⟨⟨h.inv.ids,h.inv.low,h.inv.i7,h.inv.len,h.inv.iM,h.inv.jy,h.inv.ma⟩,⟨h.sz.nodes,h.sz.places,ht,h.sz.aj,h.sz.queue,h.sz.ev,h.sz.au,h.sz.spec,h.sz.labels⟩,h.lf⟩
theorem cB.stops{m:Nat}{k:Int}{s:State}(h:cB m s)(l:List UInt64):cB m (l.foldl (fun s id=>(s.stop id k).1) s):=⟨C' h.inv,h.sz.stops l,h.lf.stops l⟩
theorem cB.ew{m:Nat}{s:State}(h:cB m s){x:Spec}(hx:x.Sz):cB m (s.ew x).1:=by
 refine⟨QH h.inv x,h.sz.ew hx,?_⟩;unfold State.ew;cases hc:decide (x.check=0)with
 |false=>exact h.lf
 |true=>
 dsimp only;cases there s.tree x.path with
 |false=>exact h.lf
 |true=>
 dsimp only;cases decide (32≤(s.aj.length:Int))with
 |true=>exact h.lf
 |false=>
 dsimp only;cases decide (s.next=18446744073709551615)with
 |true=>exact h.lf
 |false=>
 dsimp only;cases decide ((fv s.queue ⟨s.next,x.prio⟩).2=0)with
 |false=>exact h.lf
 |true=>
  intro j hj;have ht:=within_iff.1 (x6 (aat hc)).2.2.2.1;rcases aaN.1 (show j∈s.aj++[(⟨s.next,x,false,0⟩:az)]from hj)with hj|hj
  ·exact h.lf j hj
  ·rw[aaD.1 hj];exact⟨⟨Int.le_refl _,by show(0:Int)≤100;decide⟩,by show 0≤x.cN;omega,ht.2⟩
theorem cB.cJ{m:Nat}{s:State}(h:cB m s)(n:cK):cB m {s with cJ:=tell s.cJ n}:=
 ⟨⟨h.inv.ids,h.inv.low,h.inv.i7,h.inv.len,h.inv.iM,h.inv.jy,h.inv.ma⟩,⟨h.sz.nodes,h.sz.places,h.sz.tree,h.sz.aj,h.sz.queue,h.sz.ev,EE n h.sz.au,h.sz.spec,h.sz.labels⟩,h.lf⟩
theorem oV{m:Nat}{s:State}(h:cB m s){o:aw}(ho:o.x.Sz):cB m (turns s o).1:=by
 unfold turns;cases decide (o.kind=1)with
 |true=>exact h.ew ho
 |false=>
 dsimp only;cases decide (o.kind=2)with
 |true=>exact⟨FL h.inv _ _,h.sz.end_ _ _,h.lf.end_ _ _⟩
 |false=>
 dsimp only;cases decide (o.kind=3)with
 |true=>
  dsimp only;unfold bu;cases seq o.path aG with
  |true=>exact h
  |false=>exact h.tree (IY _ _ h.sz.tree)
 |false=>
 dsimp only;cases decide (o.kind=9)with
 |true=>exact h.tree (IY _ _ h.sz.tree)
 |false=>
 dsimp only;cases decide (o.kind=10)with
 |true=>exact h.add _
 |false=>
 dsimp only;cases decide (o.kind=11)with
 |true=>
  have key:cB m {s with pool:=(s.pool.fail o.path).1}:=by
   have:=h.turn o.path false;unfold aW.fail;cases decide ((s.pool.turn o.path false).2=0)<;>exact this
  exact key.stops _
 |false=>exact h.turn o.path true
theorem Bf{m:Nat}{s:State}(h:cB m s){o:aw}(ho:o.x.Sz):cB (m+1024) (apply s o).1:=by
 have hle:=h.le (abj m 1024);unfold apply;cases o.right with
 |false=>exact hle
 |true=>
 dsimp only;cases within o.kind 4 8 with
 |true=>exact hle
 |false=>
 dsimp only;cases decide (o.kind=13)with
 |true=>exact⟨(Jm h.inv).1,(LN h.sz h.lf).1,(LN h.sz h.lf).2⟩
 |false=>
 have ht:=(oV h ho).le (abj m 1024);rcases hts:turns s o with⟨t,id,e⟩
 rw[hts]at ht;dsimp only at ht⊢;cases decide (e=0)with
 |false=>exact hle
 |true=>exact ht.cJ _
theorem SL(s:State):gI.right=true→(apply s gI).1=s.tick∧(apply s gI).2.e=0:=by
 intro h;unfold apply;rw[h];exact⟨rfl,rfl⟩
theorem dj(n:UInt64):PC 138 [pu n] (·=st (an n)):=
 oS Tryz.func138 rfl rfl rfl rfl fun w=>xU n.toNat w (oz n)
theorem jY(t:BA)(h:t.size≤9007199254740992):PC 137 [st t] (·=st (bz t)):=
 oS Tryz.func137 rfl rfl rfl rfl fun w=>Tf t w h
theorem bZ{a b:BA}(ha:a.size≤4611686018427387903)(hb:b.size≤4611686018427387903):a.size+b.size≤9223372036854775807:=by omega
theorem kg{α:Type}{f:BA→α→BA}{l:List α}{s:BA}{q:Nat}{x:α}(h:l[q]? = some x):(l.take (q+1)).foldl f s=f ((l.take q).foldl f s) x:=by rw[eC h,abw];rfl
theorem kM{α:Type}{f:BA→α→BA}{B:Nat}{l:List α}{s:BA}(h:∀s,∀x∈l,(f s x).size≤s.size+B)(q:Nat):((l.take q).foldl f s).size≤s.size+B*l.length:=
 aaJ (jg fun s x hx=>h s x (aaV hx)) (Nat.add_le_add_left (Nat.mul_le_mul_left _ (by rw[aax];exact abO _ _)) _)
theorem l6{α:Type}{f:BA→α→BA}{l:List α}{s:BA}:(l.take l.length).foldl f s=l.foldl f s:=by rw[aaM]
theorem mZ{α:Type}{f:α→PV}{l:List α}{k:Int→Prop}(hk:k (((av ((l.length:Nat):Int)).toNat:Nat):Int)):bN (IntKind.u64.wrap (((l.map f).length:Nat):Int)) k:=.intro _ (by rw[aao];exact ix _) hk
theorem oe:aG.size=0:=rfl
theorem ou(v:V4):PC 143 [v.pv] (·=st (cr v)):=by
 refine al Tryz.func143 ?_;have ha:=bL v.a;have hb:=bL v.b;have hc:=bL v.c;have hd:=bL v.d;refine cv.roll 5<|ae.t (by decide)<|ah<|cj<|af (dj v.a) rfl<|ak.mk (bZ (by rw[oe];omega) (by omega))<|da 1<|ae.t (by decide)<|ah<|cj<|af (dj v.b) rfl<|ak.mk (bZ (by rw[aI,oe];omega) (by omega))<|da 2<|ae.t (by decide) ?_;exact ah<|cj<|af (dj v.c) rfl<|ak.mk (bZ (by rw[aI,aI,oe];omega) (by omega))<|da 3<|ae.t (by decide)<|ah<|cj<|af (dj v.d) rfl<|ak.mk (bZ (by rw[aI,aI,aI,oe];omega) (by omega))<|da 4<|ae.f (by decide)<|aa<|ab
theorem H_{p:bM}(hp:p.k.size≤1000000∧p.v.size≤1000000)(s:BA):(jK s p).size≤s.size+2000020:=by
 unfold jK;have h1:=d_ p.k;have h2:=d_ p.v;rw[aI,aI];omega
theorem zY(l:List bM)(hl:l.length≤67108864)(hs:∀p∈l,p.k.size≤1000000∧p.v.size≤1000000):PC 145 [sl bM.pv l] (·=st (fB l)):=by
 refine al Tryz.func145<|af (rZ l hl hs) rfl ?_;unfold fB;cases hr:gl l with
 |false=>
  exact ah<|ab
 |true=>
 refine aa ?_;have hlen:=se hr;refine mZ<|af (dj (av (l.length:Nat))) rfl ?_;have hw:=bL (av (l.length:Nat));refine cW l.length (.of (fun q=>(l.take q).foldl jK (an (av (l.length:Nat)))) (fun s=>[(3,st s)]) [13,14] (fun _=>[]) []) (fun _=>True) trivial ?_ (fun k hk hj=>?_) (fun hj=>?_)
 ·exact bC
 ·obtain⟨x,hx⟩:=get_at hk;have hxs:=hs x (aau hx);have hn:=kg (f:=jK) (s:=an (av (l.length:Nat))) hx;have hsz:=kM (f:=jK) (s:=an (av (l.length:Nat))) (fun s p hp=>H_ (hs p hp) s) k;generalize hL:(l.take k).foldl jK (an (av (l.length:Nat)))=s at hn hsz;rw[bR hL];have h1:=d_ x.k;have h2:=d_ x.v;exact bx hx<|ay (jY x.k (by omega)) rfl<|ay (jY x.v (by omega)) rfl<|ak.mk (bZ (by omega) (by omega))<|ak.mk (bZ (a:=s) (b:=bz x.k++bz x.v) (by omega) (by rw[aI];omega))<|ar<|bA.of id hn trivial rfl<|bC
 ·rw[← l6];generalize hL:(l.take l.length).foldl jK (an (av (l.length:Nat)))=s;rw[bR hL];exact ab
theorem Kx{v:BA}(h:v.size≤1000000)(s:BA):(fE s v).size≤s.size+1000010:=by
 unfold fE;have h2:=d_ v;rw[aI];omega
theorem Qj(t:Term)(h:t.Sz):PC 270 [t.pv] (·=st t.put):=by
 refine al Tryz.func270 ?_;obtain⟨hl,hkey,hv⟩:=h;refine bN.intro ((2*t.aZ.length:Nat):Int) (wrap_i64 (by rw[aao];omega) (by omega)) ?_;have hk:=d_ t.key;have hw:=bL (av t.n);have fin:∀(s:BA),(t.aZ.take t.aZ.length).foldl fE (bz t.key++an (av t.n))=s→t.put=s:=fun s e=>by
  rw[← e,aaM];rfl
 rcases t with⟨key,no,aZ⟩
 dsimp only at hl hkey hv hk;have round:∀(k:Nat) (x:BA),aZ[k]? = some x→((aZ.take (k+1)).foldl fE (bz key++an (av (Term.n ⟨key,no,aZ⟩)))=fE ((aZ.take k).foldl fE (bz key++an (av (Term.n ⟨key,no,aZ⟩)))) x)∧((aZ.take k).foldl fE (bz key++an (av (Term.n ⟨key,no,aZ⟩)))).size≤1000030+1000010*67108864:=fun k x hx=>by
  refine⟨kg hx,?_⟩;have:=kM (f:=fE) (l:=aZ) (s:=bz key++an (av (Term.n ⟨key,no,aZ⟩))) (B:=1000010) (fun s v hv'=>Kx (hv v hv') s) k;rw[aI]at this;have:1000010*aZ.length≤1000010*67108864:=Nat.mul_le_mul_left _ hl;omega
 cases no with
 |true=>
  refine ah<|bN.intro ((2*aZ.length+1:Nat):Int) (cO (2*aZ.length))<|af (jY key (by omega)) rfl<|ax (ix (Term.n ⟨key,true,aZ⟩))<|af (dj (av (Term.n ⟨key,true,aZ⟩))) rfl<|ak.mk (bZ (by omega) (by omega))<|cW aZ.length (.of (fun q=>(aZ.take q).foldl fE (bz key++an (av (Term.n ⟨key,true,aZ⟩)))) (fun s=>[(4,st s)]) [23,24] (fun _=>[]) []) (fun _=>True) trivial ?_ (fun k hk hj=>?_) (fun hj=>?_)
  ·exact bC
  ·obtain⟨x,hx⟩:=get_at hk;obtain⟨hn,hsz⟩:=round k x hx;have hxs:=hv x (aau hx);have hxw:=d_ x;generalize hL:(aZ.take k).foldl fE (bz key++an (av (Term.n ⟨key,true,aZ⟩)))=s at hn hsz;rw[bR hL];exact bx hx<|af (jY x (by omega)) rfl<|ak.mk (bZ (a:=s) (b:=bz x) (by omega) (by omega))<|bA.of id hn trivial rfl<|bC
  ·generalize hL:(aZ.take aZ.length).foldl fE (bz key++an (av (Term.n ⟨key,true,aZ⟩)))=s;rw[bR hL,fin s hL];exact ab
 |false=>
  refine aa<|af (jY key (by omega)) rfl<|ax (ix (Term.n ⟨key,false,aZ⟩))<|af (dj (av (Term.n ⟨key,false,aZ⟩))) rfl<|ak.mk (bZ (by omega) (by omega))<|cW aZ.length (.of (fun q=>(aZ.take q).foldl fE (bz key++an (av (Term.n ⟨key,false,aZ⟩)))) (fun s=>[(4,st s)]) [23,24] (fun _=>[]) []) (fun _=>True) trivial ?_ (fun k hk hj=>?_) (fun hj=>?_)
  ·exact bC
  ·obtain⟨x,hx⟩:=get_at hk;obtain⟨hn,hsz⟩:=round k x hx;have hxs:=hv x (aau hx);have hxw:=d_ x;generalize hL:(aZ.take k).foldl fE (bz key++an (av (Term.n ⟨key,false,aZ⟩)))=s at hn hsz;rw[bR hL];exact bx hx<|af (jY x (by omega)) rfl<|ak.mk (bZ (a:=s) (b:=bz x) (by omega) (by omega))<|bA.of id hn trivial rfl<|bC
  ·generalize hL:(aZ.take aZ.length).foldl fE (bz key++an (av (Term.n ⟨key,false,aZ⟩)))=s;rw[bR hL,fin s hL];exact ab
theorem Ir{t:Term}(h:t.Sz)(hl:t.aZ.length≤4):t.put.size≤6000000:=by
 unfold Term.put;have:=jg (f:=fE) (l:=t.aZ) (s:=bz t.key++an (av t.n)) (B:=1000010) fun s v hv=>Kx (h.2.2 v hv) s
 have:=d_ t.key;have:=bL (av t.n);have:=h.2.1;rw[aI]at*
 omega
theorem rk{t:Term}(h:t.right=true):t.aZ.length≤4:=by
 unfold Term.right at h;split at h
 ·split at h
  ·have:=aat h;omega
  ·cases h
 ·cases h
theorem u9{l:List Term}(h:ig l=true):l.length≤4∧∀t∈l,t.right=true:=by
 unfold ig at h;split at h
 ·rename_i h4;have h4:=aat h4;refine⟨by omega,fun t ht=>?_⟩;have:=adl.1 (by simpa using h:(l.any fun t=>!t.right)=false) t ht;simpa using this
 ·cases h
theorem JB{t:Term}(h:t.Sz)(hl:t.aZ.length≤4)(s:BA):(jM s t).size≤s.size+6000000:=by
 unfold jM;have:=Ir h hl;rw[aI];omega
theorem MH(l:List Term)(hl:l.length≤67108864)(hs:∀t∈l,t.Sz):PC 209 [sl Term.pv l] (·=st (kH l)):=by
 refine al Tryz.func209<|af (ya l hl hs) rfl ?_;unfold kH;cases hr:ig l with
 |false=>
  exact ah<|ab
 |true=>
 refine aa ?_;obtain⟨hlen,hrt⟩:=u9 hr;refine mZ<|af (dj (av (l.length:Nat))) rfl ?_;have hw:=bL (av (l.length:Nat));refine cW l.length (.of (fun q=>(l.take q).foldl jM (an (av (l.length:Nat)))) (fun s=>[(3,st s)]) [13,14] (fun _=>[]) []) (fun _=>True) trivial ?_ (fun k hk hj=>?_) (fun hj=>?_)
 ·exact bC
 ·obtain⟨x,hx⟩:=get_at hk;have hxm:=aau hx;have hn:=kg (f:=jM) (s:=an (av (l.length:Nat))) hx;have hsz:=kM (f:=jM) (s:=an (av (l.length:Nat))) (fun s t ht=>JB (hs t ht) (rk (hrt t ht)) s) k;have hxp:=Ir (hs x hxm) (rk (hrt x hxm));generalize hL:(l.take k).foldl jM (an (av (l.length:Nat)))=s at hn hsz;rw[bR hL];exact bx hx<|af (Qj x (hs x hxm)) rfl<|ak.mk (bZ (a:=s) (b:=x.put) (by omega) (by omega))<|bA.of id hn trivial rfl<|bC
 ·rw[← l6];generalize hL:(l.take l.length).foldl jM (an (av (l.length:Nat)))=s;rw[bR hL];exact ab
theorem HH{l:List Term}(hs:∀t∈l,t.Sz):(kH l).size≤30000000:=by
 unfold kH;cases hr:ig l with
 |false=>exact aaF _
 |true=>
  obtain⟨hlen,hrt⟩:=u9 hr;have:=jg (f:=jM) (l:=l) (s:=an (av (l.length:Nat))) (B:=6000000) fun s t ht=>JB (hs t ht) (rk (hrt t ht)) s
  have:=bL (av (l.length:Nat));dsimp only;omega
theorem xB{l:List bM}(hs:∀p∈l,p.k.size≤1000000∧p.v.size≤1000000):(fB l).size≤20000000:=by
 unfold fB;cases hr:gl l with
 |false=>exact aaF _
 |true=>
  have hlen:=se hr;have:=jg (f:=jK) (l:=l) (s:=an (av (l.length:Nat))) (B:=2000020) fun s p hp=>H_ (hs p hp) s
  have:=bL (av (l.length:Nat));dsimp only;omega
theorem I1(x:Spec)(h:x.Sz):PC 144 [x.pv] (·=st x.put):=by
 refine al Tryz.func144<|af (tH x h) rfl ?_;unfold Spec.put;obtain⟨hp,hsl,hst⟩:=h;have h1:=d_ x.path;have h2:=iC x.cy;have h3:=bL (av x.count);have h4:=bL (av x.prio);have h5:=bL (av x.cN);have h6:=HH hst;refine ae.two (fun hc=>?_) (fun hc=>?_)
 ·rw[show decide (x.check=0)=true from hc];refine aa<|ay (jY x.path (by omega)) rfl<|ay (ou x.cy) rfl<|ak.mk (bZ (by omega) (by omega))<|ar<|cv.roll 4<|cH<|ah<|dC.intro (i64 x.count) rfl (by decide)<|ax (ix x.count)<|af (dj (av x.count)) rfl<|ak.mk (bZ (by rw[aI];omega) (by omega))<|da 1<|cH ?_;refine ah<|dC.intro (i64 x.prio) rfl (by decide)<|ax (ix x.prio)<|af (dj (av x.prio)) rfl<|ak.mk (bZ (by rw[aI,aI];omega) (by omega))<|da 2<|cH<|ah<|dC.intro (i64 x.cN) rfl (by decide)<|ax (ix x.cN)<|af (dj (av x.cN)) rfl<|ak.mk (bZ (by rw[aI,aI,aI];omega) (by omega))<|da 3<|ao ?_;exact aa<|af (MH x.cR hsl hst) rfl<|ak.mk (bZ (by rw[aI,aI,aI,aI];omega) (by omega))<|ab
 ·rw[show decide (x.check=0)=false from hc];exact ah<|ab
theorem u6{x:Spec}(h:x.Sz):x.put.size≤40000000:=by
 unfold Spec.put;cases decide (x.check=0)with
 |false=>exact aaF _
 |true=>
  obtain⟨hp,hsl,hst⟩:=h;have h1:=d_ x.path;have h2:=iC x.cy;have h3:=bL (av x.count);have h4:=bL (av x.prio);have h5:=bL (av x.cN);have h6:=HH hst;dsimp only;rw[aI,aI,aI,aI,aI];omega
end
end Go.Proofs.YtbnonpbnhenkfaaGreatDoor
