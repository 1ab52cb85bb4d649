/- Part 9 of the proof; the last part says what is proved. -/
import Derived.Test.YtbnonpbnhenkfaaGreatDoorQ08
import Derived.Shelf.Spec.SlicesGrow
import Derived.Laws.AppendOwnNone
import Derived.BigQuiet
import Derived.LoopN
set_option linter.all false
set_option maxRecDepth 1000000
set_option maxHeartbeats 8000000
namespace Go.Proofs.YtbnonpbnhenkfaaGreatDoor
section
open Go.RowKit
theorem jX:Lay aJ.pv 23:=⟨fun _=>⟨rfl,rfl⟩,fun _=>rfl,fun _ _ _=>rfl⟩
theorem VF{g:Nat}{cs:List PV}(hc:cA cs)(l:List bS)(p:bS→Bool)(hl:l.length≤67108864)(hp:∀x∈l,PC g (bS.pv x::cs) (·=bo (p x))):PC 267 [.sl false (l.map bS.pv),.fn g cs] (·=i64 (idx p l 0)):=by
 rcases hc with rfl|⟨a,rfl⟩|⟨a,b,rfl⟩<;>
 ·refine al Tryz.func267<|cW l.length ⟨fun _=>[],[0,1,7],fun _=>[],[]⟩ (fun q=>idx p l 0=idx p (l.drop q) q) rfl ?_ (fun q hq hj=>?_) (fun hj=>?_)
  ·exact bC
  ·obtain⟨x,hx⟩:∃x,l[q]? = some x:=⟨_,aay hq⟩;have hd:=qa p hx;refine bx hx<|af (hp x (aau hx)) rfl ?_;cases hpx:p x with
   |true=>
    rw[hpx]at hd;refine ah ?_;rw[hj,hd];exact ab
   |false=>
    rw[hpx]at hd;exact aa<|bA.is id (hj.trans hd) rfl<|bC
  ·rw[hj,aaR (aas _)];exact ab
theorem Co{g:Nat}{cs:List PV}(hc:cA cs)(l:List aJ)(p:aJ→Bool)(hl:l.length≤67108864)(hp:∀x∈l,PC g (aJ.pv x::cs) (·=bo (p x))):PC 112 [.sl false (l.map aJ.pv),.fn g cs] (·=i64 (idx p l 0)):=by
 rcases hc with rfl|⟨a,rfl⟩|⟨a,b,rfl⟩<;>
 ·refine al Tryz.func112<|cW l.length ⟨fun _=>[],[0,1,7],fun _=>[],[]⟩ (fun q=>idx p l 0=idx p (l.drop q) q) rfl ?_ (fun q hq hj=>?_) (fun hj=>?_)
  ·exact bC
  ·obtain⟨x,hx⟩:∃x,l[q]? = some x:=⟨_,aay hq⟩;have hd:=qa p hx;refine bx hx<|af (hp x (aau hx)) rfl ?_;cases hpx:p x with
   |true=>
    rw[hpx]at hd;refine ah ?_;rw[hj,hd];exact ab
   |false=>
    rw[hpx]at hd;exact aa<|bA.is id (hj.trans hd) rfl<|bC
  ·rw[hj,aaR (aas _)];exact ab
theorem Dp{g:Nat}{cs:List PV}(hc:cA cs)(l:List bS)(p:bS→Bool)(hl:l.length≤67108864)(hp:∀x∈l,PC g (bS.pv x::cs) (·=bo (p x))):PC 204 [.sl false (l.map bS.pv),.fn g cs] (·=bo (l.any p)):=by
 have h:=VF hc l p hl hp;rcases hc with rfl|⟨a,rfl⟩|⟨a,b,rfl⟩<;>
 ·exact al Tryz.func204<|a_.is h<|ae.is (l.any p) (pe p l 0)<|ab
theorem Ag(l:List aJ)(hl:l.length≤67108864)(nx:Nat):LC 155 [.sl false (l.map aJ.pv)] [] nx fun r d=>r=.aH nx 0 l.length∧d=[(nx,some (.rows 23 (l.map aJ.pv) true none 78))]:=by
 refine eK (js:=[]) (bs:=[]) (args:=[.sl false (l.map aJ.pv)]) Tryz.func155 rfl rfl rfl rfl trivial rfl<|qq.all fun b hb=>?_
 refine ae.two (fun h=>?_) (fun h=>?_)
 ·have hl0:l=[]:=abu (by simpa using hb h);subst hl0;refine ah<|nP.mk ⟨[(2,23,78)],⟨rfl,trivial⟩,?_⟩;exact HJ (4,nx) rfl rfl (jX.bP [])<|ar rfl
 ·refine aa<|ak.mk ⟨⟨by simpa using hl,fun _ h=>(by cases h),jX.rows l⟩,fun _=>rfl⟩ ?_;refine du<|dW.mk ⟨[(5,nx)],200,_,_,rfl,rfl,rfl,⟨dz.mk ⟨_,rfl,jX.bP l,.inl rfl⟩,trivial⟩,?_,rfl⟩;simp[fI,PV.wk,PV.rn,kJ,lk]
theorem JA(l:List aJ)(i:Nat)(x:aJ)(hi:i≤l.length)(hl:l.length<67108864)(j nx:Nat)(hne:Nat.beq nx j=false):LC 154 [.aH j 0 l.length,i64 i,.sl false [aJ.pv x]] [(j,.rows 23 (l.map aJ.pv) true none 78)] nx fun r d=>r=.aH nx 0 (l.length+1)∧d=[(nx,some (.rows 23 ((l.take i++x::l.drop i).map aJ.pv) true none 78)),(j,none)]:=by
 have hov:∀{lo len:Nat} {rs:List PV} {cp:Option Nat} {ee:TypeId},XC Tryz.prog 222 [.sl false [aJ.pv x],.aH 0 lo len] [(0,.rows 23 rs true cp ee)] (bo false):=fun{_ _ _ _ _}=>sU (tS:=49) (tR:=4) (e:=78) Tryz.func222 (by kernel_rfl) (by kernel_rfl) (by kernel_rfl) (by kernel_rfl) rfl rfl rfl rfl (fun r hr=>by rw[aaD.1 hr];rfl)
 have hx1:lj [aJ.pv x] 23:=jX.rows [x];refine eK (js:=[j]) (bs:=[.rows 23 (l.map aJ.pv) true none 78]) (args:=[.aH 0 0 l.length,i64 i,.sl false [aJ.pv x]]) Tryz.func154 rfl rfl ?_ rfl ⟨⟨rfl,jX.bP l⟩,trivial⟩ rfl ?_
 ·unfold cf;rw[hne];rfl
 have e2:(l.map aJ.pv).length=l.length:=aao ..;refine ak.mk ⟨by omega,by omega⟩ ?_;refine ae.f (by show¬((1:Int)=0);decide)<|aa<|ae.two (fun he=>?_) (fun he=>?_)
 ·have he:i=l.length:=by have:=aat he;omega
  refine ah<|db.l (ak.mk ⟨⟨by rw[e2];show l.length+1≤_;omega,(jX.rows l).k,hx1⟩,e2.symm⟩ ?_);refine du<|dW.mk ⟨[(18,nx)],200,_,_,rfl,rfl,rfl,⟨dz.mk ⟨_,rfl,?_,.inl rfl⟩,trivial⟩,?_,?_⟩
  ·exact(by rw[he,aaM,abZ,aaC];rfl:l.map aJ.pv++[aJ.pv x]=(l.take i++x::l.drop i).map aJ.pv)▸jX.bP _
  ·rfl
  ·exact congrArg (fun x=>[(nx,some (aA.rows 23 x true none _)),(j,none)]) (by rw[he,aaM,abZ,aaC];rfl:l.map aJ.pv++[aJ.pv x]=(l.take i++x::l.drop i).map aJ.pv)
 ·have he:i<l.length:=by have:=aaw he;omega
  refine aa<|bN.intro ((l.length+1:Nat):Int) (wrap_i64 (by show(l.length:Int)+1=_;omega) (by omega))<|oG<|xW.mk fun c hc=>?_
  refine ae.two (fun hg=>?_) (fun hg=>?_)
  ·have hg:c<l.length+1:=by have:=aat hg;omega
   refine ah<|oG<|ak.mk ⟨by omega,by omega⟩ ?_;refine bN.intro ((l.length+1:Nat):Int) (wrap_i64 (by show(l.length:Int)+1=_;omega) (by omega))<|dH (l.length+1-i)<|ak.mk ⟨by omega,by omega,by omega,by omega⟩ ?_;refine ak.mk ⟨by omega,?_⟩ ?_
   ·show(i:Int)≤((i-0+(l.length+1-i):Nat):Int);omega
   refine ak.mk ⟨hx1,?_⟩ ?_
   ·rw[aap,aax,abh];omega
   refine gp<|bN.intro ((i+1:Nat):Int) (wrap_i64 (by show(i:Int)+1=_;omega) (by omega))<|ak.mk ⟨by omega,?_⟩ ?_
   ·show((i+1:Nat):Int)≤((i-0+(l.length+1-i):Nat):Int);omega
   refine ak.mk ⟨by omega,by omega⟩ ?_;refine ak.mk ?_ ?_
   ·show Nat.min (l.length-i) _≤(l.map aJ.pv).length-(0+i)
    exact aaJ (adu _ _) (by omega)
   refine ak.mk ⟨r_ (jX.rows l) _ _,?_⟩ ?_
   ·rw[vm]
    ·rw[aap,aax,abh];show 0+(i+1)≤min (i-0) (l.map aJ.pv).length+(l.length+1-i);omega
    ·rw[aap,aax,abh,aax,abo];show 0+i+min _ 1≤min (i-0) (l.map aJ.pv).length+(l.length+1-i);omega
   refine gp<|ar<|du<|dW.mk ⟨[(30,nx)],200,_,_,rfl,rfl,rfl,⟨dz.mk ⟨_,rfl,?_,.inl rfl⟩,trivial⟩,?_,?_⟩
   ·exact(vj aJ.pv l i x _ he rfl rfl (aav _) (by show 1≤i-0+(l.length+1-i)-i;omega) (aav _) (aav _) (abU (by show l.length-i≤i-0+(l.length+1-i)-(i+1);omega)) (abO _ _)).symm▸jX.bP _
   ·show PV.aH nx 0 (i-0+(l.length+1-i))=_
    congr 1;omega
   ·exact congrArg (fun x=>[(nx,some (aA.rows 23 x true none _)),(j,none)]) (vj aJ.pv l i x _ he rfl rfl (aav _) (by show 1≤i-0+(l.length+1-i)-i;omega) (aav _) (aav _) (abU (by show l.length-i≤i-0+(l.length+1-i)-(i+1);omega)) (abO _ _))
  ·have hg:l.length+1≤c:=by have:=aaw hg;omega
   refine aa<|bN.intro ((l.length+1:Nat):Int) (wrap_i64 (by show(l.length:Int)+1=_;omega) (by omega))<|oG<|ak.mk ⟨by omega,by omega⟩ ?_;refine bN.intro ((i+1:Nat):Int) (wrap_i64 (by show(i:Int)+1=_;omega) (by omega))<|ak.mk ⟨by omega,?_⟩ ?_
   ·show((i+1:Nat):Int)≤((l.length+1-0:Nat):Int);omega
   refine a_.ext [0] (n:=200) hov rfl ⟨rfl,trivial⟩<|ah<|bN.intro ((i+1:Nat):Int) (wrap_i64 (by show(i:Int)+1=_;omega) (by omega))<|ak.mk ⟨by omega,?_⟩ ?_
   ·show((i+1:Nat):Int)≤((l.length+1-0:Nat):Int);omega
   refine ak.mk ⟨by omega,?_⟩ ?_
   ·show(i:Int)≤((l.length+1-0:Nat):Int);omega
   have hm:Nat.min (l.length+1-0-i) (l.length+1-0-(i+1))=l.length-i:=(Nat.min_eq_right (by omega)).trans (by omega);have hb:0+0+i=i:=by omega
   have hc1:0+0+(i+1)=i+1:=by omega
   refine ak.mk ?_ ?_
   ·exact aaJ (abF hm) (by rw[e2];show l.length-i≤l.length-(0+0+i);omega)
   refine ak.mk ⟨r_ (jX.rows l) _ _,?_⟩ ?_
   ·show 0+0+(i+1)≤_;omega
   refine gp<|ar<|ak.mk ⟨by omega,?_⟩ ?_
   ·show(i:Int)≤((l.length+1-0:Nat):Int);omega
   refine ak.mk ⟨hx1,?_⟩ ?_
   ·unfold dr;rw[aap,aap,aax];show 0+0+i≤min (0+0+(i+1)) (l.map aJ.pv).length+_+_;omega
   refine gp<|du<|dW.mk ⟨[(0,nx)],200,_,_,rfl,rfl,rfl,⟨dz.mk ⟨_,rfl,?_,.inl rfl⟩,trivial⟩,?_,?_⟩
   ·exact(wo aJ.pv l i x he hb (by show 1≤l.length+1-0-i;omega) hc1 hb hm (by show Nat.min _ _≤_;exact abO _ _)).symm▸jX.bP _
   ·rfl
   ·exact congrArg (fun x=>[(nx,some (aA.rows 23 x true none _)),(j,none)]) (wo aJ.pv l i x he hb (by show 1≤l.length+1-0-i;omega) hc1 hb hm (by show Nat.min _ _≤_;exact abO _ _))
end
section
open Go.Shelf Go.RowKit
def DL:Go.Shelf.Ren:=⟨fun|4=>212|n=>n,fun|0=>0|3=>3|4=>4|9=>9|20=>20|22=>109|25=>115|n=>n,fun n=>n⟩
theorem Ge:Lays8.n4 Tryz.prog DL:={
 mixed:=by kernel_rfl
 f4:=Exists.intro "slices.Grow[[]demesne/mac.Caveat,demesne/mac.Caveat]" ⟨by kernel_rfl,Tryz.func212.trans (congrArg some (by kernel_rfl))⟩
 t0:=Tryz.underlying0
 a0:=Tryz.isAgg0
 z0:=Tryz.sizeOf0
 v0:=Tryz.zeroValue0
 t3:=Tryz.underlying3
 a3:=Tryz.isAgg3
 z3:=Tryz.sizeOf3
 v3:=Tryz.zeroValue3
 t4:=Tryz.underlying4
 a4:=Tryz.isAgg4
 z4:=Tryz.sizeOf4
 v4:=Tryz.zeroValue4
 t9:=Tryz.underlying9
 a9:=Tryz.isAgg9
 z9:=Tryz.sizeOf9
 v9:=Tryz.zeroValue9
 t20:=Tryz.underlying20
 a20:=Tryz.isAgg20
 z20:=Tryz.sizeOf20
 v20:=Tryz.zeroValue20
 t22:=Tryz.underlying109
 a22:=Tryz.isAgg109
 z22:=Tryz.sizeOf109
 v22:=Tryz.zeroValue109
 }
theorem Tryz.Fk:(Tryz.prog.info? 115).map (fun i=>(i.zero,i.size,i.bytes))=some (some (.agg #[.int .i64 0,.int .u64 0]),2,16):=by kernel_rfl
def fH(l:List dP):List Value:=l.flatMap dP.cells
theorem F3(l:List dP):(fH l).length=l.length*2:=by
 induction l with
 |nil=>rfl
 |cons c l ih=>unfold fH at *;simp only[adL,aap,ih,aaL];show 2+_=_;omega
theorem Qz(a b:List dP):fH (a++b)=fH a++fH b:=by unfold fH;simp
theorem K0(l:List dP):∀j (h:j<l.length),(fH l)[j*2]? = some (.int .i64 l[j].k)∧(fH l)[j*2+1]? = some (.int .u64 (l[j].n:Int)):=by
 induction l with
 |nil=>intro j h;simp at h
 |cons c l ih=>
  intro j h;have e:fH (c::l)=.int .i64 c.k::.int .u64 (c.n:Int)::fH l:=rfl;rw[e];cases j with
  |zero=>exact⟨rfl,rfl⟩
  |succ j=>
   have h2:=ih j (by simpa using h);rw[show(j+1)*2=j*2+1+1 by omega];exact h2
theorem VU(l:List dP):∀u∈fH l,u.oneCell'=true:=by
 intro u hu;obtain⟨c,_,hc⟩:=List.mem_flatMap.1 hu;simp only[dP.cells,aaI,aaH,acQ]at hc;rcases hc with rfl|rfl<;>rfl
theorem Lp{w:World}{b off:Nat}{l:List dP}(h:∀j (h:j<l.length),uB w b (off+j*2) l[j])(j:Nat)(u:Value)(hj:(fH l)[j]? = some u):w.cell? ((⟨b,off,none⟩:Addr).add j)=some u:=by
 have e:((⟨b,off,none⟩:Addr).add j)=⟨b,off+j,none⟩:=by unfold Addr.add;split<;>simp_all
 rw[e];have hlt:=(aaq.1 hj).1;rw[F3]at hlt;have hc:=h (j / 2) (by omega);have hg:=K0 l (j / 2) (by omega);rcases Nat.mod_two_eq_zero_or_one j with hm|hm
 ·have ej:j / 2*2=j:=by omega
  rw[ej]at hc hg;rw[hg.1]at hj;cases hj;exact hc.1
 ·have ej:j / 2*2+1=j:=by omega
  have ej2:off+j / 2*2+1=off+j:=by omega
  rw[ej]at hg;unfold uB at hc;rw[ej2]at hc;rw[hg.2]at hj;cases hj;exact hc.2
theorem kX.own{w:World}{base:Nat}{v:Value}{l:List dP}(h:w.ownsRow base 115 2 v l.length (fH l)):kX w v l:=by
 rcases h.2 with⟨rfl,h0⟩|⟨g,cap,cur,rfl,hb,hg,_⟩
 ·exact .inl ⟨rfl,abz.1 h0⟩
 ·refine .inr (.inr ⟨g,0,cap,rfl,(aaP.1 hg).1,fun j hj=>?_⟩);have hc:=K0 l j hj;exact⟨by rw[aav,h.cellAt (j*2) (by omega)];exact hc.1,by rw[aav,h.cellAt (j*2+1) (by omega)];exact hc.2⟩
theorem NP(n:Nat)(w:World)(hn:n≤1000000):
 Calls Tryz.prog 212 #[.slice none 0 0,.int .i64 (n:Int)] w fun e w'=>∃v,e=.returned v∧w'.ownsRow w.heap.size 115 2 v 0 []∧Below w.heap.size w w':=by
 obtain⟨i0,hi,hz0,hz1,hz2⟩:=info_parts Tryz.Fk
 by_cases h0:n=0
 ·subst h0
  refine(Any8.slices_Grow_room Ge none 0 0 0 w (by omega) (by omega) (by omega) (by omega)).mono ?_
  rintro e u ⟨rfl,rfl⟩
  exact⟨_,rfl,World.ownsRow_nil _ _ _ _,Below.refl _ _⟩
 ·refine(Any8.slices_Grow_grow Ge i0 _ hi hz0 (by omega) none 0 0 n [] w (by omega) (by omega) (by rw[hz2];omega) (by omega) (by simp) (fun _=>rfl) (fun a h=>by cases h)).mono ?_
  rintro e u ⟨rfl,rfl⟩
  have hge:=grownCap_ge w (0+n) 0 115
  have hle:=grownCap_le_maxLen w (0+n) 0 115 (by unfold maxLen;omega)
  have hc:(Value.agg #[.int .i64 0,.int .u64 0]).cells.size=2:=rfl
  have hb:Below w.heap.size w w.drew:=(Below.refl _ _).drew
  refine⟨_,rfl,World.ownsRow_made w.drew _ _ (aas _) hle ?_,hb.alloc (aas _) _⟩
  have he:DL.t 25=115:=rfl
  rw[he]
  simp only[Array.size_append,size_zeroCells,hc]
  show(0:Nat)+_+_=_
  omega
def qz(b:Nat)(v:Value):Prop:=∀ad n c,v=.slice (some ad) n c→b≤ad.block
theorem qz.le{a b:Nat}{v:Value}(h:qz b v)(hab:a≤b):qz a v:=fun ad n c e=>aaJ hab (h ad n c e)
theorem qz.nil(b n c:Nat):qz b (.slice none n c):=fun _ _ _ e=>by cases e
theorem qz.own{w:World}{base:Nat}{v:Value}{l:List dP}(h:w.ownsRow base 115 2 v l.length (fH l)):qz base v:=by
 intro ad n c e;rcases h.2 with⟨rfl,h0⟩|⟨g,cap,cur,rfl,hb,hg,_⟩
 ·cases e
 ·cases e;exact hb
end
section
open Go.RowKit
def nT(w:World)(v:Value)(l:List dP):Prop:=
 (∃c,v=.slice none 0 c∧l=[])∨(∃ad c,v=.slice (some ad) 0 c∧l=[])∨∃b off cap,v=.slice (some ⟨b,off,none⟩) l.length cap∧b<w.heap.size∧∀j (h:j<l.length),uB w b (off+j*2) l[j]
theorem nT.below{w w':World}{B:Nat}{v:Value}{l:List dP}(h:nT w v l)(hb:Below B w w')(hB:w.heap.size≤B):nT w' v l:=by
 rcases h with h|h|⟨b,off,cap,e,hlt,hc⟩
 ·exact .inl h
 ·exact .inr (.inl h)
 ·exact .inr (.inr ⟨b,off,cap,e,aaS hlt hb.size,fun j hj=>⟨(hb.cell (p:=⟨b,off+j*2,none⟩) (aaS hlt hB)).trans (hc j hj).1,(hb.cell (p:=⟨b,off+j*2+1,none⟩) (aaS hlt hB)).trans (hc j hj).2⟩⟩)
theorem nT.form{w:World}{v:Value}{l:List dP}(h:nT w v l):∃a cap,v=.slice a l.length cap:=by
 rcases h with⟨c,rfl,rfl⟩|⟨a,c,rfl,rfl⟩|⟨b,off,cap,rfl,_⟩
 ·exact⟨_,_,rfl⟩
 ·exact⟨_,_,rfl⟩
 ·exact⟨_,_,rfl⟩
def xF(b:Nat)(v:Value):Prop:=∀ad n c,v=.slice (some ad) n c→b≤ad.block∧n≤c
theorem xF.own{w:World}{base:Nat}{v:Value}{l:List dP}(h:w.ownsRow base 115 2 v l.length (fH l)):xF base v:=by
 intro ad n c e;rcases h.2 with⟨rfl,h0⟩|⟨g,cap,cur,rfl,hb,hg,hc,_⟩
 ·cases e
 ·cases e;exact⟨hb,hc⟩
theorem V5{P:Program}{w:World}(base:Nat)(t ty e:TypeId)(i:TypeInfo)(size c:Nat)(ht:P.underlying t=some (.slice e))(hi:P.info? e=some i)
 (v:Value) (n:Nat) (xs:List Value) (hown:w.ownsRow base e size v n xs):
 (Builtin.append_ #[t,t] ty #[v,.slice none 0 c]).run P w=.ok v w:=by
 rcases hown.2 with⟨rfl,rfl⟩|⟨g,cap,cur,rfl,_,_,hnc,_⟩
 ·simp[Builtin.append_,run_underlying ht,sizeOf,typeInfo,hi,Builtin.lenOf,Builtin.firstCells]
 ·simp[Builtin.append_,run_underlying ht,sizeOf,typeInfo,hi,Builtin.lenOf,Builtin.firstCells,hnc,storeCells]
theorem Xy{P:Program}{w:World}{ops:Array Oper}{rest:List Oper}{o:Oper}{a:Act}{Q:Exit→Act→World→Prop}(hgd:o.guard=none)(s x:Operand)(t:TypeId)
 (ho:o.op=.call {callee:=.builtin .append,args:=#[s,x],argTypes:=#[t,t]})
 (base:Nat) (e:TypeId) (i:TypeInfo) (size:Nat) (ht:P.underlying t=some (.slice e)) (hi:P.info? e=some i)
 (v:Value) (n c:Nat) (xs:List Value) (hs:a.eval s=v) (hown:w.ownsRow base e size v n xs) (hx:a.eval x=.slice none 0 c)
 (h:wpList P ops Q rest (a.put o.dst v) w):wpList P ops Q (o::rest) a w:=by
 refine wpList_plain hgd fun K hK=>?_
 have hrun:=V5 (P:=P) (w:=w) base t o.type e i size c ht hi v n xs hown
 unfold Oper.wp
 simp[execOp,ho,resolve,invoke,builtin,hs,hx,hrun,Result.andThen]
 exact hK _ _ h
theorem Jz{w:World}{ops:Array Oper}{rest:List Oper}{o:Oper}{a:Act}{Q:Exit→Act→World→Prop}(hgd:o.guard=none)(s x:Operand)
 (ho:o.op=.call {callee:=.builtin .append,args:=#[s,x],argTypes:=#[109,109]})
 (base:Nat) (v:Value) (k:List dP) (hs:a.eval s=v) (hown:w.ownsRow base 115 2 v k.length (fH k))
 (u:Value) (l:List dP) (hx:a.eval x=u) (hu:nT w u l) (hn:k.length+l.length≤1000000) (hbase:base≤w.heap.size)
 (h:∀v' w',w'.ownsRow base 115 2 v' (k++l).length (fH (k++l))→w.grownBy w' v.ownBlock→wpList Tryz.prog ops Q rest (a.put o.dst v') w'):wpList Tryz.prog ops Q (o::rest) a w:=by
 obtain⟨i0,hi,hz0,hz1,hz2⟩:=info_parts Tryz.Fk
 have hz:(Value.agg #[.int .i64 0,.int .u64 0]).cells.size=2:=rfl
 rcases hu with⟨c,rfl,rfl⟩|⟨ad,c,rfl,rfl⟩|⟨b,off,cap,rfl,hlt,hc⟩
 ·exact Xy hgd s x 109 ho base 115 i0 2 Tryz.underlying109 hi v k.length c (fH k) hs hown hx<|h v w (by rw[abe];exact hown) (World.grownBy.refl _ _)
 ·refine wpList_append_own _ hgd s x 109 ho base 115 i0 _ 2 16 Tryz.underlying109 hi hz0 hz1 hz2 hz (by decide) v k.length (fH k) hs hown ad 0 c [] hx rfl (fun j u hj=>by cases hj) (fun u hu=>by cases hu) (by unfold maxLen;omega) (by omega) hbase ?_
  intro v' w' h1 h2 _
  exact h v' w' (by rw[abe];simpa using h1) h2
 ·refine wpList_append_own _ hgd s x 109 ho base 115 i0 _ 2 16 Tryz.underlying109 hi hz0 hz1 hz2 hz (by decide) v k.length (fH k) hs hown ⟨b,off,none⟩ l.length cap (fH l) hx (F3 l) (fun j u hj=>Lp hc j u hj) (VU l) (by unfold maxLen;omega) (by omega) hbase ?_
  intro v' w' h1 h2 _
  exact h v' w' (by rw[aap,Qz];exact h1) h2
theorem XG(v1 v2:Value)(l1 l2:List dP)(bs o cp:Nat)(w:World)(c1:w.cell? ⟨bs,o,none⟩=some v1)(c2:w.cell? ⟨bs,o+1,none⟩=some v2)(lb:bs<w.heap.size)
 (h1:nT w v1 l1) (h2:nT w v2 l2) (hn1:l1.length≤1000) (hn2:l2.length≤1000):
 Calls Tryz.prog 148 #[.slice (some ⟨bs,o,none⟩) 2 cp] w fun e w'=>∃v,e=.returned v∧kX w' v (l1++l2)∧Below w.heap.size w w'∧xF w.heap.size v:=by
 obtain⟨n1,hl1⟩:∃n,l1.length=n:=⟨_,rfl⟩
 obtain⟨n2,hl2⟩:∃n,l2.length=n:=⟨_,rfl⟩
 have HG:=Lib.hid (fun u=>NP (n1+n2) u (by omega))
 have H1:=Lib.hid h1
 have H2:=Lib.hid h2
 have C1:=Lib.hid c1
 have C2:=Lib.hid c2
 obtain⟨a1,p1,e1⟩:=h1.form
 obtain⟨a2,p2,e2⟩:=h2.form
 rw[hl1]at e1
 rw[hl2]at e2
 subst e1 e2
 have s1:IntKind.i64.wrap (n1:Int)=(n1:Int):=by rw[IntKind.wrap_i64];omega
 have s2:IntKind.i64.wrap ((n1:Int)+(n2:Int))=((n1+n2:Nat):Int):=by rw[IntKind.wrap_i64];omega
 have s3:¬(n1:Int)<0:=by omega
 have s4:¬(((n1+n2:Nat):Int))<0:=by omega
 have HL:=Lib.hid (⟨hl1,hl2⟩:_∧_)
 clear h1 h2 hl1 hl2
 go_enter Tryz.func148,Tryz.ntmps148
 go_wp2_with fail
 refine wp_loop_rounds 3 ?_
 repeat (rw[rounds_succ];go_wp2_with (go_at_call 212;refine(HG.out _).mono ?_;rintro e u ⟨v,rfl,hown,hbu⟩))
 refine wp_loop_rounds 3 ?_
 rw[rounds_succ]
 have d1:=(hbu.cell (p:=⟨bs,o,none⟩) lb).trans C1.out
 have K1:=Lib.hid (H1.out.below hbu (aas _))
 have HOWN:=Lib.hid hown
 have HBU:=Lib.hid hbu
 clear c1 c2 hown hbu
 have hlen:=HL.out
 go_wp2_with (at_builtin;refine Jz rfl (Operand.tmp 31) (Operand.tmp 32) rfl w.heap.size v [] rfl HOWN.out _ l1 rfl K1.out (by simp;omega) HBU.out.size ?_;intro v' w2 hown2 hg2)
 rw[rounds_succ]
 have hb2:=HBU.out.grown hg2 HBU.out.size (fun j e=>(HOWN.out.lt j e).1)
 have d2:=(hb2.cell (p:=⟨bs,o+1,none⟩) lb).trans C2.out
 have K2:=Lib.hid (H2.out.below hb2 (aas _))
 have HOWN2:=Lib.hid hown2
 have HB2:=Lib.hid hb2
 clear hown2 hg2 hb2 d1 K1 HOWN HBU
 go_wp2_with (at_builtin;refine Jz rfl (Operand.tmp 31) (Operand.tmp 32) rfl w.heap.size v' ([]++l1) rfl HOWN2.out _ l2 rfl K2.out (by simp;omega) HB2.out.size ?_;intro v3 w3 hown3 hg3)
 rw[rounds_succ]
 have ml:=HB2.out.grown hg3 HB2.out.size (fun j e=>(HOWN2.out.lt j e).1)
 have HR:=Lib.hid (kX.own hown3)
 have HF:=Lib.hid (xF.own hown3)
 have HB3:=Lib.hid ml
 clear hown3 hg3 ml d2 K2 HOWN2 HB2
 go_wp2_with fail
 go_ret
 exact⟨_,rfl,HR.out,HB3.out,HF.out⟩
end
end Go.Proofs.YtbnonpbnhenkfaaGreatDoor
section
namespace Go.Proofs.YtbnonpbnhenkfaaGreatDoor
open Go.RowKit
namespace Mc
def known(c:dP):Bool:=c.k==1||c.k==2
def u64(k:Int):Nat:=(k%18446744073709551616).toNat
end Mc
structure zp(w y:World)(k:Int)(n:Nat):Prop where
 c0:y.cell? ⟨w.heap.size,0,none⟩=some (.int .i64 k)
 c1:y.cell? ⟨w.heap.size,1,none⟩=some (.int .u64 (n:Int))
 lt:w.heap.size<y.heap.size
 b:Below w.heap.size w y
theorem zp.below{w y z:World}{k:Int}{n:Nat}(h:zp w y k n)(hb:Below y.heap.size y z):zp w z k n:=
 ⟨(hb.cell (p:=⟨w.heap.size,0,none⟩) h.lt).trans h.c0,(hb.cell (p:=⟨w.heap.size,1,none⟩) h.lt).trans h.c1,aaS h.lt hb.size,h.b.trans (hb.mono h.b.size)⟩
end Go.Proofs.YtbnonpbnhenkfaaGreatDoor
end
section
namespace Go.Proofs.YtbnonpbnhenkfaaGreatDoor
open Go.RowKit
namespace Mc
def fits(l:List dP):Bool:=decide (l.length≤8)&&!(l.any fun c=>!known c)
def stop(r rd:Nat)(c:dP):Bool:=(c.k==1&&!(decide (bits .andNot .u64 (r:Int) (c.n:Int)=0)))||(c.k==2&&decide ((c.n:Int)<(rd:Int)))
def oP(l:List dP)(r rd:Nat):Bool:=!(l.any (stop r rd))
end Mc
end Go.Proofs.YtbnonpbnhenkfaaGreatDoor
end
namespace Go.Proofs.YtbnonpbnhenkfaaGreatDoor
section
open Go.RowKit
theorem fU.sha{w:World}(h:fU w):Laid w:=by
 have hm1:(4,[Sh.H0.a,Sh.H0.b,Sh.H0.c,Sh.H0.d,Sh.H0.e,Sh.H0.f,Sh.H0.g,Sh.H0.h].map fun n=>Value.int .u32 ((n:Nat):Int))∈gE:=by unfold gE;simp
 have hm2:(5,Sh.K.map fun n=>Value.int .u32 ((n:Nat):Int))∈gE:=by unfold gE;simp
 have ht:=h.lL _ hm1;have hk:=h.lL _ hm2;refine⟨fun i hi=>hk i _ ?_,ht 0 _ rfl,ht 1 _ rfl,ht 2 _ rfl,ht 3 _ rfl,ht 4 _ rfl,ht 5 _ rfl,ht 6 _ rfl,ht 7 _ rfl,h.lt _ hm2,h.lt _ hm1⟩;show(Sh.K.map fun n=>Value.int .u32 ((n:Nat):Int))[i]? = _
 have hl:i<Sh.K.length:=hi;rw[aaT,aay hl,aba,aay hl];rfl
theorem JD(k s:BA)(hk:k.size≤281474976710656)(hs:s.size≤281474976710000):PC 66 [st k,st s] (·=st (Mc.jc k s)):=
 JV Tryz.func66 rfl rfl rfl rfl fun w hw=>XT k s w hw.sha hk hs
theorem Bk(c:bS):c.put.size≤20:=by
 have h1:=bL (av c.kind);have h2:=bL c.n;unfold bS.put;rw[aI];omega
theorem Kk(c:bS):PC 139 [c.pv] (·=st c.put):=by
 refine al Tryz.func139 ?_;have h1:=bL (av c.kind);have h2:=bL c.n;exact ax (ix _)<|ay (dj (av c.kind)) rfl<|ay (dj c.n) rfl<|ak.mk (bZ (by omega) (by omega))<|ar<|ab
theorem aaa(c:bS):PC 206 [c.pv] (·=bo c.known):=by
 refine al Tryz.func206 ?_;unfold bS.known;refine ae.two (fun h1=>?_) (fun h1=>?_)
 ·rw[show decide (c.kind=1)=true from h1];exact ab
 ·rw[show decide (c.kind=1)=false from h1];exact ae.is (decide (c.kind=2)) rfl<|ab
theorem Nb(c:bS):PC 205 [c.pv] (·=bo (!c.known)):=al Tryz.func205<|af (aaa c) rfl<|ab
theorem EI(t:bD)(hl:t.bn.length≤67108864):PC 136 [t.pv] (·=bo t.fits):=by
 refine al Tryz.func136 ?_;have e:((t.bn.map bS.pv).length:Int)=(t.bn.length:Int):=by rw[aao]
 unfold bD.fits;refine ae.two (fun h1=>?_) (fun h1=>?_)
 ·rw[e]at h1;rw[h1];exact af (Dp cA.no t.bn (fun c=>!c.known) hl fun c _=>Nb c) rfl<|ab
 ·rw[e]at h1;rw[h1];exact ab
theorem Em(key aq:BA)(hk:key.size≤281474976710656)(hs:aq.size≤281474976710000):PC 30 [st key,st aq] (·=(bD.new key aq).pv):=al Tryz.func30<|af (JD key aq hk hs) rfl<|ab
def bS.mD(c:bS):dP:=⟨c.kind,c.n.toNat⟩
theorem D0{c:RC}{w:World}{b off:Nat}:∀(l:List bS) (vs:List Value),aC (l.map bS.pv) c vs→(∀i x,(flat vs)[i]? = some x→w.cell? ⟨b,off+i,none⟩=some x)→∀j (h:j<(l.map bS.mD).length),uB w b (off+j*2) (l.map bS.mD)[j]
 | [],_,_,_,j,h=>(Nat.not_lt_zero _ h).elim
 |x::l,vs,hr,hc,j,h=>by
  obtain⟨v,vs',rfl,⟨us,rfl,u1,us1,rfl,⟨rfl,_⟩,u2,us2,rfl,⟨rfl,_⟩,h0⟩,hr'⟩:=hr
  cases h0
  cases j with
  |zero=>
   refine⟨?_,?_⟩
   ·have:=hc 0 (.int .i64 x.kind) rfl
    show w.cell? ⟨b,off+0*2,none⟩=some (.int .i64 x.kind)
    rw[abI];exact this
   ·have:=hc 1 (.int .u64 ((x.n.toNat:Nat):Int)) rfl
    show w.cell? ⟨b,off+0*2+1,none⟩=some (.int .u64 ((x.n.toNat:Nat):Int))
    rw[abI];exact this
  |succ j=>
   have ih:=D0 (off:=off+2) l vs' hr' (fun i y hi=>by
    have:=hc (i+2) y hi
    rwa [show off+2+i=off+(i+2)by omega]) j (by simpa using h)
   rw[show off+(j+1)*2=off+2+j*2 by omega]
   exact ih
theorem Lu{c:RC}:∀(l:List bS) (vs:List Value),aC (l.map bS.pv) c vs→vs.length=l.length
 | [],_,h=>by rw[show _=[]from h];rfl
 |_::l,_,⟨_,vs',e,_,h⟩=>by rw[e,aaL,Lu l vs' h];rfl
theorem GA{c:RC}(hz:∀b o,c.Z b o→b<c.w.heap.size){l:List bS}{v:Value}(h:Rel (sl bS.pv l) c v):nT c.w v (l.map bS.mD):=by
 obtain⟨vs,hr,a,cap,rfl,_,_,hs⟩:=h;have hlen:=Lu l vs hr;cases l with
 |nil=>
  obtain rfl:vs=[]:=abu hlen;cases a with
  |none=>exact .inl ⟨cap,rfl,rfl⟩
  |some ad=>exact .inr (.inl ⟨ad,cap,rfl,rfl⟩)
 |cons x l=>
  rcases hs with rfl|⟨b,off,k,rfl,hk,hc⟩
  ·cases hlen
  ·refine .inr (.inr ⟨b,off,cap,by rw[hlen,aao],?_,D0 (x::l) vs hr fun i y hi=>(hc i y hi).2⟩);have:∃y,(flat vs)[0]? = some y:=by
    obtain⟨v,vs',rfl,⟨us,rfl,u1,us1,rfl,⟨rfl,_⟩,_⟩,_⟩:=hr;exact⟨_,rfl⟩
   obtain⟨y,hy⟩:=this;exact hz _ _ (hc 0 y hy).1
theorem Sc{w:World}{Z:Nat→Nat→Prop}{v:Value}{l:List bS}(h:kX w v (l.map bS.mD))(hz:∀b off cap n,v=.slice (some ⟨b,off,none⟩) n cap→b<w.heap.size→∀o,Z b o)(hcap:∀b off cap n,v=.slice (some ⟨b,off,none⟩) n cap→n≤cap):Rel (sl bS.pv l) ⟨w,Z,fun _=>none⟩ v:=by
 have hr:∀l:List bS,aC (l.map bS.pv) (RC.pure ⟨w,Z,fun _=>none⟩) (l.map fun c:bS=>Value.agg #[.int .i64 c.kind,.int .u64 ((c.n.toNat:Nat):Int)]):=by
  intro l;induction l with
  |nil=>rfl
  |cons x l ih=>exact⟨_,_,rfl,⟨[.int .i64 x.kind,.int .u64 ((x.n.toNat:Nat):Int)],rfl,_,_,rfl,⟨rfl,rfl⟩,_,_,rfl,⟨rfl,rfl⟩,rfl⟩,ih⟩
 refine⟨_,hr l,?_⟩;have hl:(l.map fun c:bS=>Value.agg #[.int .i64 c.kind,.int .u64 ((c.n.toNat:Nat):Int)]).length=l.length:=aao ..;rcases h with⟨rfl,e⟩|⟨ad,c,rfl,e⟩|⟨b,off,cap,rfl,hlt,hc⟩
 ·obtain rfl:l=[]:=List.map_eq_nil_iff.1 e;exact⟨none,0,rfl,aas _,fun h=>(by cases h),.inl rfl⟩
 ·obtain rfl:l=[]:=List.map_eq_nil_iff.1 e;exact⟨some ad,c,rfl,aaF _,fun h=>(by cases h),.inl rfl⟩
 ·have hl2:(l.map bS.mD).length=l.length:=aao ..;refine⟨some ⟨b,off,none⟩,cap,by rw[hl,hl2],?_,fun h=>(by cases h),.inr ⟨b,off,2,rfl,fun x hx=>?_,fun i x hi=>⟨hz b off cap _ rfl hlt _,?_⟩⟩⟩
  ·have:=hcap b off cap _ rfl;rw[hl2]at this;rw[hl];exact this
  ·obtain⟨y,_,rfl⟩:=abc.1 hx;rfl
  ·have e:flat (l.map fun c:bS=>Value.agg #[.int .i64 c.kind,.int .u64 ((c.n.toNat:Nat):Int)])=fH (l.map bS.mD):=by
    unfold flat fH;rw[List.flatMap_map,List.flatMap_map];rfl
   rw[e]at hi;have:=Lp hc i x hi;have e2:((⟨b,off,none⟩:Addr).add i)=⟨b,off+i,none⟩:=by unfold Addr.add;split<;>simp_all
   rwa [e2]at this
theorem TV(a b:List bS)(ha:a.length≤1000)(hb:b.length≤1000):PC 148 [.sl false [sl bS.pv a,sl bS.pv b]] (·=sl bS.pv (a++b)):=by
 refine⟨enters_of Tryz.func148 rfl rfl,fun w Z vs hg hz hv=>?_⟩;obtain⟨v,vs',rfl,⟨us,⟨u1,us1,rfl,r1,u2,us2,rfl,r2,h2⟩,ad,cap,rfl,hle,_,hs⟩,h0⟩:=hv;cases h0;cases h2;rcases hs with h|⟨bs,off,k,rfl,hk,hc⟩
 ·cases h
 have g1:=GA (c:=⟨w,Z,fun _=>none⟩) hz r1;have g2:=GA (c:=⟨w,Z,fun _=>none⟩) hz r2;obtain⟨a1,p1,rfl⟩:=g1.form;obtain⟨a2,p2,rfl⟩:=g2.form;have c1:=hc 0 _ rfl;have c2:=hc 1 _ rfl;refine(XG _ _ (a.map bS.mD) (b.map bS.mD) bs off cap w c1.2 c2.2 (hz _ _ c1.1) g1 g2 (by rw[aao];exact ha) (by rw[aao];exact hb)).mono ?_;rintro e w' ⟨v,rfl,hv,hbl,hf⟩;rw[← aaC]at hv;refine⟨_,v,rfl,rfl,Sc hv (fun b off cap n e hlt o=>.inr ⟨(hf _ _ _ e).1,hlt⟩) (fun b off cap n e=>(hf _ _ _ e).2),hbl⟩
theorem IP(t:bD):cE [t.pv]:=fun r hr=>by rw[aaD.1 hr];rfl
abbrev N3(aq:BA)(cs:List bS)(g:BA):aA:=.rows 3 [bD.pv ⟨aq,cs,g⟩] true none 111
theorem QL{g:BA}(hg:g.size≤1000000)(l:List bS)(q:Nat):((l.take q).foldl pg g).size≤1000000:=by
 have key:∀(l:List bS) (g:BA),g.size≤1000000→(l.foldl pg g).size≤1000000:=by
  intro l;induction l with
  |nil=>intro g h;exact h
  |cons c l ih=>intro g _;exact ih _ (by show(Mc.jc g c.put).size≤_;rw[Mc.qx];omega)
 exact key _ g hg
theorem EO(t:bD)(l:List bS)(h1:t.bn.length≤1000)(h2:l.length≤1000)(hg:t.sig.size≤1000000):PC 67 [t.pv,sl bS.pv l] (·=(t.narrowed l).pv):=by
 refine al Tryz.func67<|af (TV t.bn l h1 h2) rfl<|cW l.length (.of (fun q=>(l.take q).foldl pg t.sig) (fun _=>[]) [2,4,13,14] (fun g=>[(0,N3 t.aq (t.bn++l) g)]) [1]) (fun _=>True) trivial ?_ (fun k hk hj=>?_) (fun hj=>?_)
 ·exact bY rfl (IP _)
 ·obtain⟨x,hx⟩:=get_at hk;have hn:=kg (f:=pg) (s:=t.sig) hx;have hsz:=QL hg l k;generalize hL:(l.take k).foldl pg t.sig=g at hn hsz;rw[bR hL];have hx2:=Bk x;exact bx hx<|ay (Kk x) rfl<|ay (JD g x.put (by omega) (by omega)) rfl<|ar<|bA.of id hn trivial rfl<|bY rfl (IP _)
 ·rw[show t.narrowed l=⟨t.aq,t.bn++l,(l.take l.length).foldl pg t.sig⟩by rw[l6];rfl];generalize hL:(l.take l.length).foldl pg t.sig=g;rw[bR hL];exact ab
theorem X6(t:bD)(c:bS)(h1:t.bn.length≤1000)(hg:t.sig.size≤1000000):PC 31 [t.pv,c.pv] (·=(t.narrow c).pv):=al Tryz.func31<|af (EO t [c] h1 (by show 1≤1000;omega) hg) rfl<|ab
theorem BJ(key:BA)(t:bD)(hk:key.size≤1000000)(ht:t.aq.size≤1000000)(hc:t.bn.length≤1000):PC 135 [st key,t.pv] (·=bo (t.check key)):=by
 refine al Tryz.func135 ?_;unfold bD.check;refine ay (EI t (by omega)) rfl ?_;cases t.fits with
 |false=>
  exact ar<|ab
 |true=>
  refine ay (Em key t.aq (by omega) (by omega)) rfl<|ay (EO (bD.new key t.aq) t.bn (aaF _) hc (by show(Mc.jc key t.aq).size≤_;rw[Mc.qx];omega)) rfl<|ae.is _ rfl ?_;exact ar<|ab
theorem Na(c:dP)(r rd:Nat)(g4 g5 o4 o5:Nat)(w:World)(h4:w.cell? ⟨g4,o4,none⟩=some (.int .u64 (r:Int)))(h5:w.cell? ⟨g5,o5,none⟩=some (.int .u64 (rd:Int)))(l4:g4<w.heap.size)(l5:g5<w.heap.size):
 Calls Tryz.prog 283 #[c.val,.pointer (some ⟨g4,o4,none⟩),.pointer (some ⟨g5,o5,none⟩)] w fun e w'=>e=.returned (.bool (Mc.stop r rd c))∧Below w.heap.size w w':=by
 obtain⟨k,n⟩:=c
 have HS:=Lib.hid (show Mc.stop r rd ⟨k,n⟩=((k==1&&!(decide (bits .andNot .u64 (r:Int) (n:Int)=0)))||(k==2&&decide ((n:Int)<(rd:Int))))from rfl)
 generalize hz:bits .andNot .u64 (r:Int) (n:Int)=z at HS
 generalize Mc.stop r rd ⟨k,n⟩=b at HS⊢
 unfold dP.val dP.cells
 go_enter Tryz.func283,Tryz.ntmps283
 go_upto_region 1 with fail
 have cI:Below w.heap.size w (w.alloc (.cells #[.int .i64 k,.int .u64 (n:Int)] 115)):=(Below.refl _ _).alloc (aas _) _
 have c0:(w.alloc (.cells #[.int .i64 k,.int .u64 (n:Int)] 115)).cell? ⟨w.heap.size,0,none⟩=some (.int .i64 k):=by rw[World.cell?_alloc_mark];rfl
 have c1:(w.alloc (.cells #[.int .i64 k,.int .u64 (n:Int)] 115)).cell? ⟨w.heap.size,1,none⟩=some (.int .u64 (n:Int)):=by rw[World.cell?_alloc_mark];rfl
 have h4':=(cI.cell (p:=⟨g4,o4,none⟩) l4).trans h4
 have h5':=(cI.cell (p:=⟨g5,o5,none⟩) l5).trans h5
 generalize w.alloc (.cells #[.int .i64 k,.int .u64 (n:Int)] 115)=x at cI c0 c1 h4' h5'⊢
 clear h4 h5 l4 l5
 by_cases h1:k=1
 ·subst h1
  by_cases hz0:z=0
  ·subst hz0
   go_wp2_with fail
   go_ret
   exact⟨jj (by rw[HS.out];simp),cI⟩
  ·go_wp2_with fail
   go_ret
   exact⟨jj (by rw[HS.out];simp[hz0]),cI⟩
 ·by_cases h2:k=2
  ·subst h2
   by_cases h3:(n:Int)<(rd:Int)
   ·go_wp2_with fail
    go_ret
    exact⟨jj (by rw[HS.out];simp;omega),cI⟩
   ·go_wp2_with fail
    go_ret
    exact⟨jj (by rw[HS.out];simp;omega),cI⟩
  ·go_wp2_with fail
   go_ret
   exact⟨jj (by rw[HS.out];simp[h1,h2]),cI⟩
theorem OT(a b:UInt64):bits .andNot .u64 ((a.toNat:Nat):Int) ((b.toNat:Nat):Int)=(((a &&& ~~~b).toNat:Nat):Int):=by
 show IntKind.u64.wrap (((BitVec.ofInt 64 ((a.toNat:Nat):Int) &&& ~~~BitVec.ofInt 64 ((b.toNat:Nat):Int)).toNat:Nat):Int)=_
 have ha:BitVec.ofInt 64 ((a.toNat:Nat):Int)=a.toBitVec:=by
  apply BitVec.eq_of_toNat_eq;rw[BitVec.ofInt_natCast,BitVec.toNat_ofNat];exact aco a.toNat_lt
 have hb:BitVec.ofInt 64 ((b.toNat:Nat):Int)=b.toBitVec:=by
  apply BitVec.eq_of_toNat_eq;rw[BitVec.ofInt_natCast,BitVec.toNat_ofNat];exact aco b.toNat_lt
 rw[ha,hb];have:(a.toBitVec &&& ~~~b.toBitVec).toNat=(a &&& ~~~b).toNat:=rfl;rw[this];exact yv (a &&& ~~~b).toNat_lt
theorem UQ(right round:UInt64)(c:bS):Mc.stop right.toNat round.toNat c.mD=c.bars right round:=by
 unfold Mc.stop bS.bars bS.mD;dsimp only;rw[OT];have e1:(c.kind==1)=decide (c.kind=1):=by cases h:decide (c.kind=1)<;>simp_all
 have e2:(c.kind==2)=decide (c.kind=2):=by cases h:decide (c.kind=2)<;>simp_all
 have e3:decide ((((right &&& ~~~ c.n).toNat:Nat):Int)=0)=decide (right &&& ~~~ c.n=0):=by
  apply abq.2;constructor
  ·intro h;have h:(right &&& ~~~ c.n).toNat=0:=by omega
   exact acZ.1 (by rw[h];rfl)
  ·intro h;rw[h];rfl
 have e4:decide (((c.n.toNat:Nat):Int)<((round.toNat:Nat):Int))=decide (c.n.toNat<round.toNat):=abq.2 abG;rw[e1,e2,e3,e4];cases decide (c.kind=1)&&!decide (right &&& ~~~ c.n=0)<;>simp
theorem V2(c:bS)(right round:UInt64):PC 283 [c.pv,.ip [pu right] 0,.ip [pu round] 0] (·=bo (c.bars right round)):=by
 refine⟨enters_of Tryz.func283 rfl rfl,fun w Z vs hg hz hv=>?_⟩;obtain⟨v,_,rfl,⟨us,rfl,u1,_,rfl,⟨rfl,_⟩,u2,_,rfl,⟨rfl,_⟩,h0⟩,p4,_,rfl,⟨b4,o4,ws4,rfl,⟨w4,_,rfl,⟨rfl,_⟩,h04⟩,hc4⟩,p5,_,rfl,⟨b5,o5,ws5,rfl,⟨w5,_,rfl,⟨rfl,_⟩,h05⟩,hc5⟩,h1⟩:=hv;cases h0;cases h04;cases h05;cases h1;have c4:=hc4 0 _ rfl;have c5:=hc5 0 _ rfl;refine(Na c.mD right.toNat round.toNat b4 b5 (o4+0) (o5+0) w c4.2 c5.2 (hz _ _ c4.1) (hz _ _ c5.1)).mono ?_;rintro e w' ⟨rfl,hb⟩;rw[UQ];exact⟨_,_,rfl,rfl,⟨rfl,rfl⟩,hb⟩
theorem M6(t:bD)(right round:UInt64)(hc:t.bn.length≤67108864):PC 224 [t.pv,pu right,pu round] (·=bo (t.oP right round)):=al Tryz.func224<|af (Dp cA.two t.bn (fun c=>c.bars right round) hc fun c _=>V2 c right round) rfl<|ab
theorem Lv(l:List bS)(s:BA):(l.foldl dT s).size≤s.size+20*l.length:=jg fun s c _=>by
 have:=Bk c
 unfold dT
 rw[aI];omega
theorem DG{t:bD}(h:t.fits=true):t.bn.length≤8:=by
 unfold bD.fits at h;cases hd:decide ((t.bn.length:Int)≤8)with
 |false=>rw[hd]at h;cases h
 |true=>have:=aat hd;omega
theorem Cb(t:bD)(ht:t.aq.size≤1000000)(hc:t.bn.length≤67108864)(hg:t.sig.size≤1000000):PC 64 [t.pv] (·=st t.put):=by
 refine al Tryz.func64<|af (mm t.aq (by omega)) rfl ?_;unfold bD.put bD.may;cases cQ t.aq with
 |false=>
  exact ah<|ab
 |true=>
 dsimp only;refine af (EI t hc) rfl ?_;cases hf:t.fits with
 |false=>
  exact ah<|ab
 |true=>
 dsimp only;have hlen:=DG hf;refine ae.two (fun h3=>?_) (fun h3=>?_)
 ·rw[show decide ((t.sig.size:Int)=32)=true from h3];refine aa<|ay (jY t.aq (by omega)) rfl<|mZ<|ay (dj (av (t.bn.length:Nat))) rfl ?_;have hw:=bL (av (t.bn.length:Nat));have hw2:=d_ t.aq;refine ak.mk (bZ (a:=bz t.aq) (b:=an (av (t.bn.length:Nat))) (by omega) (by omega))<|ar<|cW t.bn.length (.of (fun q=>(t.bn.take q).foldl dT (bz t.aq++an (av (t.bn.length:Nat)))) (fun s=>[(3,st s)]) [1,31,32] (fun _=>[]) [0]) (fun _=>True) trivial ?_ (fun k hk hj=>?_) (fun hj=>?_)
  ·exact bC
  ·obtain⟨x,hx⟩:=get_at hk;have hn:=kg (f:=dT) (s:=bz t.aq++an (av (t.bn.length:Nat))) hx;have hsz:=Lv (t.bn.take k) (bz t.aq++an (av (t.bn.length:Nat)));have hk8:(t.bn.take k).length≤8:=by rw[aax];omega
   rw[aI]at hsz;generalize hL:(t.bn.take k).foldl dT (bz t.aq++an (av (t.bn.length:Nat)))=s at hn hsz;rw[bR hL];have hx2:=Bk x;exact bx hx<|af (Kk x) rfl<|ak.mk (bZ (a:=s) (b:=x.put) (by omega) (by omega))<|bA.of id hn trivial rfl<|bC
  ·have hsz:=Lv t.bn (bz t.aq++an (av (t.bn.length:Nat)));rw[aI]at hsz;unfold bD.bytes;rw[← l6]at hsz⊢;generalize hL:(t.bn.take t.bn.length).foldl dT (bz t.aq++an (av (t.bn.length:Nat)))=s at hsz⊢;rw[bR hL];exact ak.mk (bZ (a:=s) (b:=t.sig) (by omega) (by omega))<|ab
 ·rw[show decide ((t.sig.size:Int)=32)=false from h3];exact ah<|ab
theorem N5{c:bS}(h:c.known=true):c.kind=1∨c.kind=2:=by
 unfold bS.known at h;rw[adA,acz,acz]at h;exact h
theorem Vw{s:BA}{i:Nat}{c:bS}(h:At s i c.put)(hk:c.known=true)(hs:s.size≤gk):PC 263 [st s,i64 (i:Nat)] (·=.aK [c.pv,i64 ((i+c.put.size:Nat):Int),bo true]):=by
 have hb:=jF (n:=c.n) h.r hs;rw[show i+(an (av c.kind)).size+(an c.n).size=i+c.put.size by unfold bS.put;rw[aI];omega]at hb;have ha:=jF (n:=av c.kind) h.l hs;obtain⟨k,n⟩:=c;have hk:=N5 hk;dsimp only at hk ha hb;rcases hk with rfl|rfl
 ·exact al Tryz.func263<|af ha rfl<|af hb rfl<|da 1<|da 1<|ab
 ·exact al Tryz.func263<|af ha rfl<|af hb rfl<|da 2<|da 2<|ab
theorem EC:∀(s:BA) (x:bS),dT s x=s++x.put:=fun _ _=>rfl
abbrev eZ(t:bD):BA:=bz t.aq++an (av (t.bn.length:Nat))
def YV(aq:BA):List bS→List (Nat×aA)
 | []=>[(0,.rows 3 [.agg [st aq,.sl true [],st aG]] true none 111)]
 |x::M=>[(0,.rows 3 [.agg [st aq,.aH 2 0 (M.length+1),st aG]] true none 111),(2,.rows 2 ((x::M).map bS.pv) true none 115)]
theorem FZ{t:bD}(h:t.may=true):cQ t.aq=true∧t.fits=true∧t.sig.size=32:=by
 unfold bD.may at h;cases h1:cQ t.aq with
 |false=>rw[h1]at h;cases h
 |true=>
  rw[h1]at h;dsimp only at h;cases h2:t.fits with
  |false=>rw[h2]at h;cases h
  |true=>rw[h2]at h;have:=aat h;exact⟨rfl,rfl,by omega⟩
theorem Zf{t:bD}(h:t.fits=true):∀c∈t.bn,c.known=true:=fun c hc=>by
 unfold bD.fits at h
 cases hd:decide ((t.bn.length:Int)≤8)with
 |false=>rw[hd]at h;cases h
 |true=>
  rw[hd]at h
  dsimp only at h
  rw[Bool.not_eq_true',adl]at h
  have:=h c hc
  simpa using this
theorem D7{t:bD}(h:t.may=true):seq t.put aG=false:=by
 obtain⟨_,_,h3⟩:=FZ h;cases hs:seq t.put aG with
 |false=>rfl
 |true=>
  have:=jJ.1 hs;unfold bD.put at this;rw[h]at this;have:=congrArg ByteArray.size this;unfold bD.bytes at this;rw[aI,h3]at this;have h0:aG.size=0:=rfl;omega
theorem YI{s:BA}{i:Nat}{t:bD}(h:At s i t.bytes)(hm:t.may=true)(hs:s.size≤1000000)(h32:t.aq.size≤32):PC 201 [st s,i64 (i:Nat)] (·=.aK [t.pv,i64 ((i+t.bytes.size:Nat):Int),bo true]):=by
 have hb:s.size≤gk:=by show _≤9007199254740992;omega
 obtain⟨_,m2,m3⟩:=FZ hm;have hl:=DG m2;have hkn:=Zf m2;have hL0:At s i (t.bn.foldl dT (eZ t)):=h.l;have hh:At s i (eZ t):=hL0.head EC;have hle:=h.le;have hput:=Cb t (by omega) (by omega) (by omega);have hne:=D7 hm;refine al Tryz.func201<|af (oL (m:=32) hh.l hb (by omega)) rfl ?_;have c0:=jF hh.r hb;rw[pH (by omega)]at c0;refine af c0 rfl<|ae.f (show¬((t.bn.length:Nat):Int)>8 by omega)<|aa ?_;have hp0:i+(bz t.aq).size+(an (av (t.bn.length:Nat))).size=dM dT i (eZ t) t.bn 0:=by
  show _=i+(eZ t).size
  rw[aI];omega
 rw[hp0];have hend:dM dT i (eZ t) t.bn t.bn.length+32=i+t.bytes.size:=by
  rw[At.whole];unfold bD.bytes;rw[aI,m3];show _=i+((t.bn.foldl dT (eZ t)).size+32)
  omega
 refine cv.inv (ι:={p:Nat×List bS//p.1≤t.bn.length∧p.2=t.bn.take p.1}) ⟨fun p=>[(39,qF p.1.1),(1,i64 ((dM dT i (eZ t) t.bn p.1.1:Nat):Int))],[0,4,38],fun p=>YV t.aq p.1.2,[]⟩ (fun p=>t.bn.length-p.1.1) ⟨(0,[]),aaF _,rfl⟩ ?_ ?_
 ·exact bC
 rintro⟨⟨q,L⟩,hq,hL⟩;dsimp only at hq hL;have hlen:L.length=q:=by rw[hL,aax];omega
 refine ae.two (fun h1=>?_) (fun h1=>?_)
 ·have h1':q<t.bn.length:=eg h1;obtain⟨x,hx⟩:=get_at h1';obtain⟨hat,cX⟩:=hL0.fold EC hx;have hc:=Vw hat (hkn x (aau hx)) hb;rw[← cX]at hc;have hn:=eC hx;rw[← hL]at hn;cases L with
  |nil=>
   refine ah<|af hc rfl<|aa<|ak.mk ⟨(dS qX [] x (by show 0<67108864;omega)).1,fun h=>(by cases h)⟩ ?_;refine ax (AD q)<|⟨⟨(q+1,[x]),h1',hn.symm⟩,sw 2 54,by show t.bn.length-(q+1)<t.bn.length-q;omega,?_⟩;exact dv ⟨⟨BB.rn rfl rfl,rfl⟩,⟨BB.aO rfl (qX.bP [x]),rfl⟩,trivial⟩
  |cons y M=>
   refine ah<|af hc rfl<|aa<|db.l (ak.mk (dS qX (y::M) x (by rw[hlen];omega)) ?_);refine ax (AD q)<|⟨⟨(q+1,y::(M++[x])),h1',hn.symm⟩,sw 2 54,by show t.bn.length-(q+1)<t.bn.length-q;omega,?_⟩;have e:(M++[x]).length+1=M.length+1+1:=by rw[aap];rfl
   exact dv ⟨⟨BB.rn (by show _=some (aA.rows 3 [PV.agg [st t.aq,PV.aH _ 0 ((M++[x]).length+1),st aG]] true none _);rw[e];rfl) rfl,rfl⟩,⟨BB.aO (by show some (aA.rows 2 ((y::M).map bS.pv++[bS.pv x]) true none _)=some (aA.rows 2 ((y::(M++[x])).map bS.pv) true none _);rw[aaZ,aaZ,aaC];rfl) (qX.bP _),rfl⟩,trivial⟩
 ·have h1:q=t.bn.length:=by
   have:¬q<t.bn.length:=jn h1;omega
  subst h1;have hLc:L=t.bn:=by rw[hL,aaM]
  have hsig:At s (dM dT i (eZ t) t.bn t.bn.length) t.sig:=by rw[At.whole];exact h.r
  have hsz:=hsig.le;have hext:=hsig.ext;rw[m3]at hsz hext;have htp:t.pv=.agg [st t.aq,sl bS.pv L,st (s.extract (dM dT i (eZ t) t.bn t.bn.length) (dM dT i (eZ t) t.bn t.bn.length+32))]:=by rw[hLc,hext];rfl
  rw[htp]at hput⊢;rw[← hend];cases L with
  |nil=>
   refine aa<|bN.intro ((dM dT i (eZ t) t.bn t.bn.length+32:Nat):Int) (cZ (dM dT i (eZ t) t.bn t.bn.length) 32)<|bN.intro ((dM dT i (eZ t) t.bn t.bn.length+32:Nat):Int) (abg (show¬((s.size:Nat):Int)<((dM dT i (eZ t) t.bn t.bn.length+32:Nat):Int)by omega)) ?_;refine ak.mk (show(0:Int)≤((dM dT i (eZ t) t.bn t.bn.length:Nat):Int)∧((dM dT i (eZ t) t.bn t.bn.length:Nat):Int)≤((dM dT i (eZ t) t.bn t.bn.length+32:Nat):Int)∧((dM dT i (eZ t) t.bn t.bn.length+32:Nat):Int)≤((s.size:Nat):Int)by omega) ?_;exact af hput rfl<|ae.is false hne<|aa<|ab
  |cons y M=>
   refine aa<|bN.intro ((dM dT i (eZ t) t.bn t.bn.length+32:Nat):Int) (cZ (dM dT i (eZ t) t.bn t.bn.length) 32)<|bN.intro ((dM dT i (eZ t) t.bn t.bn.length+32:Nat):Int) (abg (show¬((s.size:Nat):Int)<((dM dT i (eZ t) t.bn t.bn.length+32:Nat):Int)by omega)) ?_;refine ak.mk (show(0:Int)≤((dM dT i (eZ t) t.bn t.bn.length:Nat):Int)∧((dM dT i (eZ t) t.bn t.bn.length:Nat):Int)≤((dM dT i (eZ t) t.bn t.bn.length+32:Nat):Int)∧((dM dT i (eZ t) t.bn t.bn.length+32:Nat):Int)≤((s.size:Nat):Int)by omega) ?_;exact a_.by (n:=(y::M).length+100) hput (aN (iw (aN rfl (aN (cT (l:=y::M) rfl rfl qX.br rfl rfl) (aN rfl rfl)))) rfl)<|ae.is false hne<|aa<|⟨(y::M).length+100,_,_,.inl (aN (iw (aN rfl (aN (cT (l:=y::M) rfl rfl qX.br rfl rfl) (aN rfl rfl)))) (aN rfl (aN rfl rfl))),rfl⟩
theorem WZ(s:BA)(a:Int)(hs:s.size≤gk):PC 263 [st s,i64 a] fun r=>∃c:bS,r=.aK [c.pv,i64 (Wi.get s (Wi.get s a).2.1).2.1,bo ((Wi.get s a).2.2&&(Wi.get s (Wi.get s a).2.1).2.2)]:=by
 have h1:=tn s a hs;have h2:=tn s (Wi.get s a).2.1 hs;have hn1:(Wi.get s a).1<18446744073709551616:=by
  rcases h:Wi.get s a with⟨n,f,_|_⟩
  ·rw[(yN h).1];show(0:Nat)<18446744073709551616;decide
  ·obtain⟨_,_,_,_,h,_⟩:=tN h;exact h
 have hn2:(Wi.get s (Wi.get s a).2.1).1<18446744073709551616:=by
  rcases h:Wi.get s (Wi.get s a).2.1 with⟨n,f,_|_⟩
  ·rw[(yN h).1];show(0:Nat)<18446744073709551616;decide
  ·obtain⟨_,_,_,_,h,_⟩:=tN h;exact h
 have e:PV.at (.int .u64 ((Wi.get s (Wi.get s a).2.1).1:Int))=pu (UInt64.ofNat (Wi.get s (Wi.get s a).2.1).1):=by
  show _=PV.at (.int .u64 (((UInt64.ofNat (Wi.get s (Wi.get s a).2.1).1).toNat:Nat):Int))
  rw[mG hn2]
 rw[e]at h2;refine al Tryz.func263<|af h1 rfl<|af h2 rfl<|gp<|gp ?_;cases(Wi.get s a).2.2 with
 |false=>exact⟨200,_,_,.inl rfl,⟨_,_⟩,rfl⟩
 |true=>exact⟨200,_,_,.inl rfl,⟨_,_⟩,rfl⟩
theorem NQ{s:BA}(h2:s.size=2):PC 201 [st s,i64 0] (·=.aK [bD.z.pv,i64 0,bo false]):=by
 have hb:s.size≤gk:=by rw[h2];decide
 have hc:=yx s 0 32 hb;rcases hT:Wi.li s 0 32 with⟨t,p,ok⟩
 rw[hT]at hc;have hg:=tn s p hb;rcases hG:Wi.get s p with⟨n,a,is⟩
 rw[hG]at hg;refine al Tryz.func201<|af hc rfl<|af hg rfl ?_;cases ok with
 |false=>
  exact ah<|ab
 |true=>
 cases is with
 |false=>
  exact ah<|ab
 |true=>
 obtain⟨p',hp,ha,hle,hn,_⟩:=tN hG;have hp1:1≤p'∧t.size≤2:=by
  unfold Wi.li at hT;split at hT
  ·rename_i hx;obtain⟨e1,e2⟩:=acC hT;obtain⟨e2,_⟩:=acC e2;rcases hG0:Wi.get s 0 with⟨m,f,ok0⟩
   rw[hG0]at hx e1 e2;dsimp only at hx e1 e2;rw[hx.1]at hG0;obtain⟨q,hq,hf,hfl,_⟩:=tN hG0;have:=(Wi.qJ m).1;refine⟨by omega,?_⟩;rw[← e1,abY];omega
  ·obtain⟨_,e2⟩:=acC hT;obtain⟨_,e2⟩:=acC e2;cases e2
 have hwl:=(Wi.qJ n).1;have ha2:a=2:=by omega
 subst ha2;have hend:Wi.get s 2=(0,0,false):=xQ (.inr (by omega));refine ae.two (fun h8=>?_) (fun h8=>?_)
 ·exact ah<|ab
 refine aa<|cv.roll 1<|ae.two (fun h0=>?_) (fun h0=>?_)
 ·refine ah ?_;have hcv:=WZ s 2 hb;rw[hend]at hcv;refine a_.some hcv (fun r hr=>?_);obtain⟨c,rfl⟩:=hr;exact ah<|ab
 ·refine aa<|da 34<|bN.intro 2 (by show(if((s.size:Nat):Int)<34 then((s.size:Nat):Int)else 34)=2;rw[h2];rfl)<|ak.mk (show(0:Int)≤2∧(2:Int)≤2∧(2:Int)≤((s.size:Nat):Int)by omega) ?_;have hp:=Cb ⟨t,[],s.extract 2 2⟩ (by show t.size≤_;omega) (aaF _) (by show(s.extract 2 2).size≤_;rw[abY];omega);have hz:(⟨t,[],s.extract 2 2⟩:bD).put=aG:=by
   unfold bD.put bD.may;dsimp only;cases cQ t with
   |false=>rfl
   |true=>
    dsimp only;cases bD.fits ⟨t,[],s.extract 2 2⟩with
    |false=>rfl
    |true=>
     dsimp only;rw[aar (by rw[abY];omega)]
  rw[hz]at hp;exact af hp rfl<|ae.is true rfl<|ah<|ab
theorem Po(t:bD)(o:aw)(ht:t.aq.size≤1000000)(hc:t.bn.length≤67108864)(hg:t.sig.size≤1000000)(ho:eM o)(h1:t.put.size≤1000000000)(h2:o.put.size≤1000000000):PC 29 [t.pv,o.pv] (·=st (kr t o)):=by
 refine al Tryz.func29<|ay (Cb t ht hc hg) rfl<|ay (Ie o ho) rfl<|ar ?_;unfold kr;refine ae.two (fun h1=>?_) (fun h1=>?_)
 ·rw[show seq t.put aG=true from h1];exact ah<|ab
 ·rw[show seq t.put aG=false from h1];refine ae.two (fun h2=>?_) (fun h2=>?_)
  ·rw[show seq o.put aG=true from h2];exact ah<|ab
  ·rw[show seq o.put aG=false from h2];exact aa<|ak.mk (bZ (a:=t.put) (b:=o.put) (by omega) (by omega))<|ab
def ot(q:Option (bD×aw)):PV:=match q with
 |none=>.aK [bD.z.pv,aw.z.pv,bo false]
 |some (t,o)=>.aK [t.pv,o.pv,bo true]
theorem Dw:PC 200 [] (·=ot none):=al Tryz.func200<|ab
theorem Rp{s:BA}(h2:s.size=2):PC 133 [st s] (·=ot none):=al Tryz.func133<|af (NQ h2) rfl<|ah<|af Dw rfl<|ab
def mc(k:Int):Nat:=(o_ k).toNat
theorem YO(k:Int)(a1 a2 a3 a4 a5 a6 a7 a8 a9 a10 a11 a12 a13 a14 a15 a16 a17:Value)(w:World)(hL:fU w):
 Calls Tryz.prog 28 #[.agg #[.int .i64 k,a1,a2,a3,a4,a5,a6,a7,a8,a9,a10,a11,a12,a13,a14,a15,a16,a17]] w fun e w'=>e=.returned (.tuple #[.int .u64 ((mc k:Nat):Int),.bool (!decide (mc k=0))])∧Below w.heap.size w w':=by
 have hm:(1,vz.map (Value.int .u64))∈gE:=by unfold gE;simp
 have ht:=hL.lL _ hm
 have hlt:=hL.lt _ hm
 go_enter Tryz.func28,Tryz.ntmps28
 go_upto_region 1 with fail
 have cI:Below w.heap.size w (w.alloc (.cells #[.int .i64 k,a1,a2,a3,a4,a5,a6,a7,a8,a9,a10,a11,a12,a13,a14,a15,a16,a17] 38)):=(Below.refl _ _).alloc (aas _) _
 have c0:(w.alloc (.cells #[.int .i64 k,a1,a2,a3,a4,a5,a6,a7,a8,a9,a10,a11,a12,a13,a14,a15,a16,a17] 38)).cell? ⟨w.heap.size,0,none⟩=some (.int .i64 k):=by rw[World.cell?_alloc_mark];rfl
 have cg:∀i v,(vz.map (Value.int .u64))[i]? = some v→(w.alloc (.cells #[.int .i64 k,a1,a2,a3,a4,a5,a6,a7,a8,a9,a10,a11,a12,a13,a14,a15,a16,a17] 38)).cell? ⟨1,i,none⟩=some v:=fun i v hi=>(cI.cell (p:=⟨1,i,none⟩) hlt).trans (ht i v hi)
 generalize w.alloc (.cells #[.int .i64 k,a1,a2,a3,a4,a5,a6,a7,a8,a9,a10,a11,a12,a13,a14,a15,a16,a17] 38)=x at cI c0 cg⊢
 by_cases h0:k<0
 ·have hz:mc k=0:=by unfold mc o_;split<;>first|omega|rfl
  go_wp2_with fail
  refine bodyPost_ret (by simp[results,Tryz.results28,go_sem];try rfl) rfl ?_
  exact⟨rfl,cI⟩
 by_cases h9:9≤k
 ·have hz:mc k=0:=by unfold mc o_;split<;>first|omega|rfl
  go_wp2_with fail
  refine bodyPost_ret (by simp[results,Tryz.results28,go_sem];try rfl) rfl ?_
  exact⟨rfl,cI⟩
 have hk:k=0∨k=1∨k=2∨k=3∨k=4∨k=5∨k=6∨k=7∨k=8:=by omega
 rcases hk with rfl|rfl|rfl|rfl|rfl|rfl|rfl|rfl|rfl
 ·have cc:=cg 0 _ rfl
  clear cg
  go_wp2_with fail
  refine bodyPost_ret (by simp[results,Tryz.results28,go_sem];try rfl) rfl ?_
  exact⟨rfl,cI⟩
 ·have cc:=cg 1 _ rfl
  clear cg
  go_wp2_with fail
  refine bodyPost_ret (by simp[results,Tryz.results28,go_sem];try rfl) rfl ?_
  exact⟨rfl,cI⟩
 ·have cc:=cg 2 _ rfl
  clear cg
  go_wp2_with fail
  refine bodyPost_ret (by simp[results,Tryz.results28,go_sem];try rfl) rfl ?_
  exact⟨rfl,cI⟩
 ·have cc:=cg 3 _ rfl
  clear cg
  go_wp2_with fail
  refine bodyPost_ret (by simp[results,Tryz.results28,go_sem];try rfl) rfl ?_
  exact⟨rfl,cI⟩
 ·have cc:=cg 4 _ rfl
  clear cg
  go_wp2_with fail
  refine bodyPost_ret (by simp[results,Tryz.results28,go_sem];try rfl) rfl ?_
  exact⟨rfl,cI⟩
 ·have cc:=cg 5 _ rfl
  clear cg
  go_wp2_with fail
  refine bodyPost_ret (by simp[results,Tryz.results28,go_sem];try rfl) rfl ?_
  exact⟨rfl,cI⟩
 ·have cc:=cg 6 _ rfl
  clear cg
  go_wp2_with fail
  refine bodyPost_ret (by simp[results,Tryz.results28,go_sem];try rfl) rfl ?_
  exact⟨rfl,cI⟩
 ·have cc:=cg 7 _ rfl
  clear cg
  go_wp2_with fail
  refine bodyPost_ret (by simp[results,Tryz.results28,go_sem];try rfl) rfl ?_
  exact⟨rfl,cI⟩
 ·have cc:=cg 8 _ rfl
  clear cg
  go_wp2_with fail
  refine bodyPost_ret (by simp[results,Tryz.results28,go_sem];try rfl) rfl ?_
  exact⟨rfl,cI⟩
theorem gg(o:aw):PC 28 [o.pv] (·=.aK [pu (dn o).1,bo (dn o).2]):=by
 refine⟨enters_of Tryz.func28 rfl rfl,fun w Z vs hg hz hv=>?_⟩;obtain⟨v,_,rfl,⟨us,rfl,hus⟩,h1⟩:=hv;cases h1;obtain⟨u0,_,rfl,⟨rfl,_⟩,hus⟩:=hus;obtain⟨a1,_,rfl,_,hus⟩:=hus;obtain⟨a2,_,rfl,_,hus⟩:=hus;obtain⟨a3,_,rfl,_,hus⟩:=hus;obtain⟨a4,_,rfl,_,hus⟩:=hus;obtain⟨a5,_,rfl,_,hus⟩:=hus;obtain⟨a6,_,rfl,_,hus⟩:=hus;obtain⟨a7,_,rfl,_,hus⟩:=hus;obtain⟨a8,_,rfl,_,hus⟩:=hus;obtain⟨a9,_,rfl,_,hus⟩:=hus;obtain⟨a10,_,rfl,_,hus⟩:=hus;obtain⟨a11,_,rfl,_,hus⟩:=hus;obtain⟨a12,_,rfl,_,hus⟩:=hus;obtain⟨a13,_,rfl,_,hus⟩:=hus;obtain⟨a14,_,rfl,_,hus⟩:=hus;obtain⟨a15,_,rfl,_,hus⟩:=hus;obtain⟨a16,_,rfl,_,hus⟩:=hus;obtain⟨a17,_,rfl,_,hus⟩:=hus;cases hus;refine(YO o.kind a1 a2 a3 a4 a5 a6 a7 a8 a9 a10 a11 a12 a13 a14 a15 a16 a17 w hg).mono ?_;rintro e w' ⟨rfl,hb⟩;refine⟨_,_,rfl,rfl,?_,hb⟩;have e1:mc o.kind=(dn o).1.toNat∧(!decide (mc o.kind=0))=(dn o).2:=by
  unfold mc dn;by_cases h:o_ o.kind=0
  ·rw[h,aaB rfl];exact⟨rfl,rfl⟩
  ·rw[aar h];refine ar ?_;show(!decide ((o_ o.kind).toNat=0))=true
   rw[aar (p:=(o_ o.kind).toNat=0) fun hz=>h (acZ.1 hz)];rfl
 have hv:Value.tuple #[.int .u64 ((mc o.kind:Nat):Int),.bool (!decide (mc o.kind=0))]=.tuple #[.int .u64 (((dn o).1.toNat:Nat):Int),.bool (dn o).2]:=by rw[e1.2,e1.1]
 rw[hv];exact⟨_,rfl,_,_,rfl,⟨rfl,rfl⟩,_,_,rfl,⟨rfl,rfl⟩,rfl⟩
theorem TC(key:BA)(t:bD)(o:aw)(round:UInt64)(hk:key.size≤1000000)(ht:t.aq.size≤1000000)(hc:t.bn.length≤1000):PC 156 [st key,t.pv,o.pv,pu round] (·=i64 (gM key t o round)):=by
 refine al Tryz.func156<|af (BJ key t hk ht hc) rfl ?_;unfold gM;cases t.check key with
 |false=>
  exact ah<|ab
 |true=>
 refine aa<|af (gg o) rfl ?_;rcases dn o with⟨r,_|_⟩
 ·exact ah<|ab
 ·refine af (M6 t r round (by omega)) rfl ?_;dsimp only;cases t.oP r round with
  |false=>
   exact ah<|ab
  |true=>
   exact aa<|ab
theorem NX:PC 201 [st aG,i64 0] (·=.aK [bD.z.pv,i64 0,bo false]):=by
 have hb:aG.size≤gk:=by decide
 have hg0:Wi.get aG 0=(0,0,false):=xQ (.inr (by decide));have hc:=yx aG 0 32 hb;have hT:Wi.li aG 0 32=(aG,0,false):=by unfold Wi.li;rw[hg0,abg (fun h=>by cases h.1)]
 rw[hT]at hc;have hg:=tn aG 0 hb;rw[hg0]at hg;exact al Tryz.func201<|af hc rfl<|af hg rfl<|ah<|ab
theorem Ii:PC 133 [st aG] (·=ot none):=al Tryz.func133<|af NX rfl<|ah<|af Dw rfl<|ab
theorem Tv{t:bD}(h:t.may=true):t.put=t.bytes:=by unfold bD.put;rw[h]
theorem OR{o:aw}(h:o.right=true):seq o.put aG=false:=by
 cases hs:seq o.put aG with
 |false=>rfl
 |true=>
  exfalso;have h2:=jJ.1 hs;obtain⟨f,hi⟩:=AJ h;unfold aw.put at h2;rw[h,hi.k]at h2;have h3:=congrArg ByteArray.size h2;have hc:∀(b:Bool) (s t:BA),s.size≤(cat b s t).size:=by
   intro b s t;cases b with
   |true=>show _≤(s++t).size;rw[aI];omega
   |false=>exact aas _
  have h4:(an (av o.kind)).size≤(o.bytes f).size:=by
   unfold aw.bytes;exact aaJ (hc _ _ _) (aaJ (hc _ _ _) (aaJ (hc _ _ _) (aaJ (hc _ _ _) (aaJ (hc _ _ _) (hc _ _ _)))))
  have h5:=(bL (av o.kind)).1;have h6:(o.bytes f).size=0:=h3;omega
theorem Yl(t:bD)(o:aw)(h32:t.aq.size≤32)(ho:sc o)(hs:t.put.size+o.put.size≤1000000):PC 133 [st (kr t o)] (·=ot (match t.may&&o.right with|true=>some (t,o)|false=>none)):=by
 cases hm:t.may with
 |false=>
  have e:kr t o=aG:=by unfold kr;rw[show t.put=aG by unfold bD.put;rw[hm]];rfl
  rw[e];exact Ii
 |true=>
 cases hr:o.right with
 |false=>
  have e:kr t o=aG:=by
   unfold kr;rw[show o.put=aG by unfold aw.put;rw[hr],show seq aG aG=true from rfl,Bool.or_true]
  rw[e];exact Ii
 |true=>
 obtain⟨f,hi⟩:=AJ hr;have ep:=Tv hm;have eo:o.put=o.bytes f:=by unfold aw.put;rw[hr,hi.k];rfl
 have e:kr t o=t.bytes++o.bytes f:=by
  unfold kr;rw[D7 hm,OR hr,ep,eo];rfl
 rw[ep,eo]at hs;rw[e];have hsz:(t.bytes++o.bytes f).size≤1000000:=by rw[aI];exact hs
 have h1:=YI (At.zero t.bytes (o.bytes f)) hm hsz h32;rw[aav]at h1;have h2:=Ol (At.behind t.bytes (o.bytes f)) hi hr (aaJ hsz (by decide)) ho;have he:((t.bytes++o.bytes f).size:Int)=((t.bytes.size+(o.bytes f).size:Nat):Int):=by rw[aI]
 exact al Tryz.func133<|af h1 rfl<|aa<|af h2 rfl<|ae.is true (aaB he.symm)<|aa<|ar<|ab
abbrev ol(h s:BA):PV:=.agg [st h,st s]
structure aS.Sz(d:aS):Prop where
 h0:d.h0.size≤1000000000000
 s0:d.s0.size≤1000000000000
 h1:d.h1.size≤1000000000000
 s1:d.s1.size≤1000000000000
 size:0≤d.size∧d.size≤1000000000
 b_:-1≤d.b_∧d.b_≤1000000000
theorem VY(n:Int):PC 218 [i64 n] (·=(aS.new n).pv):=al Tryz.func218<|ab
theorem sC(h s:BA)(hh:h.size≤1000000000000)(hs:s.size≤1000000000000):PC 288 [ol h s] (·=st (h++s)):=al Tryz.func288<|ak.mk (bZ (by omega) (by omega))<|ab
theorem rA(f:Int):PC 287 [i64 f] (·=bo (g_ f)):=by
 refine al Tryz.func287 ?_;unfold g_;refine ae.two (fun h1=>?_) (fun h1=>?_)
 ·rw[show decide (f=0)=true from h1];exact ab
 ·rw[show decide (f=0)=false from h1];exact ae.is (decide (f=1)) rfl<|ab
theorem Tk(d:aS)(h:d.Sz):PC 319 [d.pv] (·=i64 (d.used:Nat)):=by
 have g1:=h.h0;have g2:=h.s0;have g3:=h.h1;have g4:=h.s1;refine al Tryz.func319<|cv.roll 3<|cH<|ah<|cj<|af (sC d.h0 d.s0 h.h0 h.s0) rfl<|bN.intro ((d.h0.size+d.s0.size:Nat):Int) (by rw[aI];exact wrap_i64 (by omega) (by omega))<|da 1<|cH<|ah<|cj<|af (sC d.h1 d.s1 h.h1 h.s1) rfl<|bN.intro ((d.used:Nat):Int) (by rw[aI];unfold aS.used;exact wrap_i64 (by omega) (by omega))<|da 2 ?_;exact ao<|aa<|ab
theorem SP(d:aS)(h:d.Sz)(f:Int):PC 229 [d.pv,i64 f] (·=st (d.read f)):=by
 refine al Tryz.func229<|af (rA f) rfl ?_;by_cases h0:f=0
 ·subst h0;exact aa<|cj<|af (sC d.h0 d.s0 h.h0 h.s0) rfl<|ab
 by_cases h1:f=1
 ·subst h1;exact aa<|cj<|af (sC d.h1 d.s1 h.h1 h.s1) rfl<|ab
 have ht:g_ f=false:=by unfold g_;rw[aar h0,aar h1];rfl
 have hr:d.read f=aG:=by unfold aS.read;rw[aar h0,aar h1]
 rw[ht,hr];exact ah<|ab
theorem yS(k:Int):(if k<0 then(0:Int)else k)=((k.toNat:Nat):Int):=by split<;>omega
theorem AK(k:Int)(s:BA):(if((s.size:Nat):Int)<((k.toNat:Nat):Int)then((s.size:Nat):Int)else((k.toNat:Nat):Int))=((jH k s:Nat):Int):=by
 unfold jH;split<;>omega
theorem vw(k:Int)(s:BA):jH k s≤s.size:=abO _ _
theorem vT(s:BA)(n:Nat)(h:n≤s.size):(s.extract 0 n).size=n:=by rw[abY];omega
theorem td(d:aS)(h:d.Sz)(k:Int):PC 161 [d.pv,i64 k] (·=(d.gq k).pv):=by
 have k0:=vw k d.s0;have k1:=vw k d.s1;have g1:=h.h0;have g2:=h.s0;have g3:=h.h1;have g4:=h.s1;refine al Tryz.func161<|cv.roll 3<|cH<|ah<|cj<|bN.intro ((k.toNat:Nat):Int) (yS k)<|bN.intro ((jH k d.s0:Nat):Int) (AK k d.s0)<|ak.mk (show(0:Int)≤((jH k d.s0:Nat):Int)∧((jH k d.s0:Nat):Int)≤((d.s0.size:Nat):Int)by omega)<|ak.mk (bZ (a:=d.h0) (b:=d.s0.extract 0 (jH k d.s0)) (by omega) (by rw[vT _ _ k0];omega)) ?_;refine cj<|ar<|da 1<|cH<|ah<|cj<|bN.intro ((k.toNat:Nat):Int) (yS k)<|bN.intro ((jH k d.s1:Nat):Int) (AK k d.s1)<|ak.mk (show(0:Int)≤((jH k d.s1:Nat):Int)∧((jH k d.s1:Nat):Int)≤((d.s1.size:Nat):Int)by omega)<|ak.mk (bZ (a:=d.h1) (b:=d.s1.extract 0 (jH k d.s1)) (by omega) (by rw[vT _ _ k1];omega)) ?_;exact cj<|ar<|da 2<|ao<|aa<|ab
abbrev f2(p:BA×BA):PV:=ol p.1 p.2
theorem Nd(d:aS)(f:Int)(torn:Bool){g:Nat}{cs:List PV}(hc:cA cs)(G:BA×BA→BA×BA)(hf:g_ f=false):PC 291 [d.pv,i64 f,bo torn,.fn g cs] (·=.aK [(d.ft f torn G).1.pv,i64 (d.ft f torn G).2]):=by
 have e:d.ft f torn G=(d,1):=by unfold aS.ft;rw[hf]
 have ht:=rA f;rw[hf]at ht;rw[e];rcases hc with rfl|⟨a,rfl⟩|⟨a,b,rfl⟩<;>
 ·exact al Tryz.func291<|af ht rfl<|ah<|ab
theorem Rz(size:Int)(h0 s0 h1 s1:BA)(b_ aQ:Int)(torn:Bool){g:Nat}{cs:List PV}(hc:cA cs)(G:BA×BA→BA×BA)(hg:PC g (ol h0 s0::cs) (·=f2 (G (h0,s0))))(h:aS.Sz ⟨size,h0,s0,h1,s1,false,b_,aQ⟩)(hn:aS.Sz ⟨size,(G (h0,s0)).1,(G (h0,s0)).2,h1,s1,false,b_,aQ⟩):PC 291 [aS.pv ⟨size,h0,s0,h1,s1,false,b_,aQ⟩,i64 0,bo torn,.fn g cs] (·=.aK [(aS.ft ⟨size,h0,s0,h1,s1,false,b_,aQ⟩ 0 torn G).1.pv,i64 (aS.ft ⟨size,h0,s0,h1,s1,false,b_,aQ⟩ 0 torn G).2]):=by
 have hcr:=td ⟨size,(G (h0,s0)).1,(G (h0,s0)).2,h1,s1,false,b_,aQ⟩ hn aQ;have hco:=td ⟨size,h0,s0,h1,s1,false,b_,aQ⟩ h aQ;have hfs:aS.gJ ⟨size,h0,s0,h1,s1,false,b_,aQ⟩ 0 G=⟨size,(G (h0,s0)).1,(G (h0,s0)).2,h1,s1,false,b_,aQ⟩:=rfl;have hft:=rA 0;have hfz:=h.b_;dsimp only at hfz;unfold aS.ft;rw[show g_ 0=true from rfl,hfs];dsimp only;by_cases hz:b_=0
 ·subst hz;cases torn with
  |true=>
   rcases hc with rfl|⟨a,rfl⟩|⟨a,b,rfl⟩<;>
   ·exact al Tryz.func291<|af hft rfl<|aa<|aa<|cj<|af hg rfl<|cj<|ae.t (show(0:Int)=0 by rfl)<|aa<|ae.t (show(0:Int)=0 by rfl)<|ah<|af hcr rfl<|ab
  |false=>
   rcases hc with rfl|⟨a,rfl⟩|⟨a,b,rfl⟩<;>
   ·exact al Tryz.func291<|af hft rfl<|aa<|aa<|cj<|af hg rfl<|cj<|ae.t (show(0:Int)=0 by rfl)<|ah<|ae.t (show(0:Int)=0 by rfl)<|ah<|af hco rfl<|ab
 ·rw[aar hz];dsimp only;by_cases hp:0<b_
  ·rw[aaB hp];rcases hc with rfl|⟨a,rfl⟩|⟨a,b,rfl⟩<;>
   ·refine al Tryz.func291<|af hft rfl<|aa<|aa<|cj<|af hg rfl<|cj<|ae.f hz<|aa<|ae.f hz<|aa<|ae.t hp<|ah<|bN.intro (b_-1) (wrap_i64 rfl (by omega)) ?_;exact ab
  ·rw[aar hp];rcases hc with rfl|⟨a,rfl⟩|⟨a,b,rfl⟩<;>
   ·exact al Tryz.func291<|af hft rfl<|aa<|aa<|cj<|af hg rfl<|cj<|ae.f hz<|aa<|ae.f hz<|aa<|ae.f hp<|aa<|ab
theorem WK(size:Int)(h0 s0 h1 s1:BA)(b_ aQ:Int)(torn:Bool){g:Nat}{cs:List PV}(hc:cA cs)(G:BA×BA→BA×BA)(hg:PC g (ol h1 s1::cs) (·=f2 (G (h1,s1))))(h:aS.Sz ⟨size,h0,s0,h1,s1,false,b_,aQ⟩)(hn:aS.Sz ⟨size,h0,s0,(G (h1,s1)).1,(G (h1,s1)).2,false,b_,aQ⟩):PC 291 [aS.pv ⟨size,h0,s0,h1,s1,false,b_,aQ⟩,i64 1,bo torn,.fn g cs] (·=.aK [(aS.ft ⟨size,h0,s0,h1,s1,false,b_,aQ⟩ 1 torn G).1.pv,i64 (aS.ft ⟨size,h0,s0,h1,s1,false,b_,aQ⟩ 1 torn G).2]):=by
 have hcr:=td ⟨size,h0,s0,(G (h1,s1)).1,(G (h1,s1)).2,false,b_,aQ⟩ hn aQ;have hco:=td ⟨size,h0,s0,h1,s1,false,b_,aQ⟩ h aQ;have hfs:aS.gJ ⟨size,h0,s0,h1,s1,false,b_,aQ⟩ 1 G=⟨size,h0,s0,(G (h1,s1)).1,(G (h1,s1)).2,false,b_,aQ⟩:=rfl;have hft:=rA 1;have hfz:=h.b_;dsimp only at hfz;unfold aS.ft;rw[show g_ 1=true from rfl,hfs];dsimp only;by_cases hz:b_=0
 ·subst hz;cases torn with
  |true=>
   rcases hc with rfl|⟨a,rfl⟩|⟨a,b,rfl⟩<;>
   ·exact al Tryz.func291<|af hft rfl<|aa<|aa<|cj<|af hg rfl<|cj<|ae.t (show(0:Int)=0 by rfl)<|aa<|ae.t (show(0:Int)=0 by rfl)<|ah<|af hcr rfl<|ab
  |false=>
   rcases hc with rfl|⟨a,rfl⟩|⟨a,b,rfl⟩<;>
   ·exact al Tryz.func291<|af hft rfl<|aa<|aa<|cj<|af hg rfl<|cj<|ae.t (show(0:Int)=0 by rfl)<|ah<|ae.t (show(0:Int)=0 by rfl)<|ah<|af hco rfl<|ab
 ·rw[aar hz];dsimp only;by_cases hp:0<b_
  ·rw[aaB hp];rcases hc with rfl|⟨a,rfl⟩|⟨a,b,rfl⟩<;>
   ·refine al Tryz.func291<|af hft rfl<|aa<|aa<|cj<|af hg rfl<|cj<|ae.f hz<|aa<|ae.f hz<|aa<|ae.t hp<|ah<|bN.intro (b_-1) (wrap_i64 rfl (by omega)) ?_;exact ab
  ·rw[aar hp];rcases hc with rfl|⟨a,rfl⟩|⟨a,b,rfl⟩<;>
   ·exact al Tryz.func291<|af hft rfl<|aa<|aa<|cj<|af hg rfl<|cj<|ae.f hz<|aa<|ae.f hz<|aa<|ae.f hp<|aa<|ab
theorem AQ(d:aS)(f:Int)(torn:Bool){g:Nat}{cs:List PV}(hc:cA cs)(G:BA×BA→BA×BA)(h:d.Sz)(h0:PC g (ol d.h0 d.s0::cs) (·=f2 (G (d.h0,d.s0))))(h1:PC g (ol d.h1 d.s1::cs) (·=f2 (G (d.h1,d.s1))))(hn:g_ f=true→d.down=false→(d.gJ f G).Sz):PC 291 [d.pv,i64 f,bo torn,.fn g cs] (·=.aK [(d.ft f torn G).1.pv,i64 (d.ft f torn G).2]):=by
 cases hf:g_ f with
 |false=>exact Nd d f torn hc G hf
 |true=>
 have hft:=rA f;rw[hf]at hft;cases hd:d.down with
 |true=>
  have e:d.ft f torn G=(d,12):=by unfold aS.ft;rw[hf,hd]
  rw[e];obtain⟨size,h0',s0,h1',s1,down,b_,aQ⟩:=d;dsimp only at hd;subst hd;rcases hc with rfl|⟨a,rfl⟩|⟨a,b,rfl⟩<;>
  ·exact al Tryz.func291<|af hft rfl<|aa<|ah<|ab
 |false=>
 have hn:=hn hf hd;obtain⟨size,h0',s0,h1',s1,down,b_,aQ⟩:=d;dsimp only at hd;subst hd;have hff:f=0∨f=1:=by
  unfold g_ at hf;rw[adA,acz,acz]at hf;exact hf
 rcases hff with rfl|rfl
 ·exact Rz size h0' s0 h1' s1 b_ aQ torn hc G h0 h hn
 ·exact WK size h0' s0 h1' s1 b_ aQ torn hc G h1 h hn
structure aS.Us(d:aS):Prop where
 used:d.used≤1000000000
 size:0≤d.size∧d.size≤1000000000
 b_:-1≤d.b_∧d.b_≤1000000000
theorem aS.Us.sz{d:aS}(h:d.Us):d.Sz:=by
 have:=h.used;unfold aS.used at this;exact⟨by omega,by omega,by omega,by omega,h.size,h.b_⟩
theorem aS.Us.gq{d:aS}(h:d.Us)(k:Int):(d.gq k).Us:=by
 have h1:=h.used;refine⟨?_,h.size,⟨Int.le_refl _,by show(-1:Int)≤1000000000;decide⟩⟩;have k0:=vw k d.s0;have k1:=vw k d.s1;unfold aS.used at h1⊢;show(d.h0++d.s0.extract 0 (jH k d.s0)).size+aG.size+((d.h1++d.s1.extract 0 (jH k d.s1)).size+aG.size)≤_
 rw[aI,aI,vT _ _ k0,vT _ _ k1,oe];omega
theorem aS.Us.ft{d:aS}(h:d.Us)(f:Int)(torn:Bool)(G:BA×BA→BA×BA)(hn:g_ f=true→d.down=false→(d.gJ f G).used≤1000000000):(d.ft f torn G).1.Us:=by
 unfold aS.ft;cases hf:g_ f with
 |false=>exact h
 |true=>
 dsimp only;cases hd:d.down with
 |true=>exact h
 |false=>
 have hn:=hn hf hd;have hfs:(d.gJ f G).size=d.size∧(d.gJ f G).b_=d.b_:=by
  unfold aS.gJ;cases decide (f=0)<;>exact⟨rfl,rfl⟩
 have hu:(d.gJ f G).Us:=⟨hn,by rw[hfs.1];exact h.size,by rw[hfs.2];exact h.b_⟩;dsimp only;cases decide (d.b_=0)with
 |true=>
  cases torn with
  |true=>exact hu.gq _
  |false=>exact h.gq _
 |false=>
  dsimp only;cases hp:decide (0<d.b_)with
  |true=>
   have:=aat hp;have:=h.b_;exact⟨hn,hu.size,by show -1≤d.b_-1∧d.b_-1≤1000000000;omega⟩
  |false=>exact hu
theorem rM{d:aS}{f:Int}{G:BA×BA→BA×BA}{n:Nat}(h:∀x:BA×BA,(G x).1.size+(G x).2.size≤x.1.size+x.2.size+n):(d.gJ f G).used≤d.used+n:=by
 unfold aS.gJ aS.used;have a:=h (d.h0,d.s0);have b:=h (d.h1,d.s1);dsimp only at a b;cases decide (f=0)with
 |true=>dsimp only;omega
 |false=>dsimp only;omega
theorem Kw(s:BA)(x:BA×BA):(qW s x).1.size+(qW s x).2.size≤x.1.size+x.2.size+s.size:=by
 show x.1.size+(x.2++s).size≤_
 rw[aI];omega
theorem GU(x:BA×BA):(ik x).1.size+(ik x).2.size≤x.1.size+x.2.size+0:=by
 unfold ik;cases seq x.1 aG&&seq x.2 aG with
 |true=>exact aas _
 |false=>show(x.1++x.2).size+aG.size≤_;rw[aI,oe];omega
theorem J8(n:Int)(x:BA×BA):(sR n x).1.size+(sR n x).2.size≤x.1.size+x.2.size+0:=by
 show(x.1.extract 0 (jo n x)).size+(x.2.extract 0 (min (n.toNat-jo n x) x.2.size)).size≤_
 rw[abY,abY];omega
theorem J_{d:aS}{s:BA}(h:d.full s=false):(d.used:Int)+(s.size:Int)≤d.size:=by
 unfold aS.full at h;rw[adq,acg,acg]at h;omega
theorem aS.Us.write{d:aS}(h:d.Us)(f:Int)(s:BA):(d.write f s).1.Us:=by
 unfold aS.write;cases hc:g_ f&&!d.down&&d.full s with
 |true=>exact h
 |false=>
  refine h.ft f true _ fun h1 h2=>?_
  rw[h1,h2]at hc;have hc:d.full s=false:=hc;have:=J_ hc;have:=rM (d:=d) (f:=f) (Kw s);have:=h.size;omega
theorem aS.Us.sync{d:aS}(h:d.Us)(f:Int):(d.sync f).1.Us:=h.ft f false _ fun _ _=>aaJ (rM GU) h.used
theorem aS.Us.cut{d:aS}(h:d.Us)(f n:Int):(d.cut f n).1.Us:=h.ft f false _ fun _ _=>aaJ (rM (J8 n)) h.used
theorem Ax{d:aS}(h:d.Us){f:Int}{G:BA×BA→BA×BA}(hn:(d.gJ f G).used≤1000000000):(d.gJ f G).Sz:=by
 have hfs:(d.gJ f G).size=d.size∧(d.gJ f G).b_=d.b_:=by
  unfold aS.gJ;cases decide (f=0)<;>exact⟨rfl,rfl⟩
 exact aS.Us.sz ⟨hn,by rw[hfs.1];exact h.size,by rw[hfs.2];exact h.b_⟩
theorem CY(h s t:BA)(hs:s.size≤1000000000000)(ht:t.size≤1000000000000):PC 320 [ol h s,.ip [st t] 0] (·=f2 (qW t (h,s))):=al Tryz.func320<|ak.mk (bZ (by omega) (by omega))<|ab
theorem T0(d:aS)(h:d.Us)(f:Int)(s:BA)(hs:s.size≤1000000000):PC 277 [d.pv,i64 f,st s] (·=.aK [(d.write f s).1.pv,i64 (d.write f s).2]):=by
 have hz:=h.sz;have hsz:=h.size;have hus:=h.used;have hdeed:(g_ f&&!d.down&&d.full s)=false→PC 291 [d.pv,i64 f,bo true,.fn 320 [.ip [st s] 0]] (·=.aK [(d.write f s).1.pv,i64 (d.write f s).2]):=fun hc=>by
  have e:d.write f s=d.ft f true (qW s):=by unfold aS.write;rw[hc]
  rw[e];refine AQ d f true cA.one (qW s) hz (CY d.h0 d.s0 s hz.s0 (by omega)) (CY d.h1 d.s1 s hz.s1 (by omega)) fun h1 h2=>?_
  rw[h1,h2]at hc;have hc:d.full s=false:=hc;have:=J_ hc;exact Ax h (aaJ (rM (Kw s)) (by omega))
 have hful:(g_ f&&!d.down&&d.full s)=true→d.write f s=(d,9):=fun hc=>by unfold aS.write;rw[hc]
 have hu:=Tk d hz;have ht:=rA f;have hfl:d.full s=(decide (d.size<(s.size:Int))||decide (d.size-(s.size:Int)<(d.used:Int))):=rfl;have hus2:(d.used:Int)≤1000000000:=by omega
 generalize d.full s=b at hdeed hful hfl;generalize d.write f s=W at hdeed hful⊢;generalize d.used=U at hu hfl;obtain⟨size,h0,s0,h1,s1,down,b_,aQ⟩:=d;dsimp only at hfl hsz;cases hf:g_ f with
 |false=>
  rw[hf]at ht hdeed;have hd:=hdeed rfl;refine al Tryz.func277<|ae.two (fun e1=>?_) (fun e1=>?_)
  ·exact ar<|af ht rfl<|aa<|af hd rfl<|ab
  ·exact ay hu rfl<|bN.intro (size-(s.size:Int)) (wrap_i64 rfl (by omega))<|ae.is (decide (size-(s.size:Int)<(U:Int))) rfl<|ar<|af ht rfl<|aa<|af hd rfl<|ab
 |true=>
  rw[hf]at ht hdeed hful;cases down with
  |true=>
   have hd:=hdeed rfl;refine al Tryz.func277<|ae.two (fun e1=>?_) (fun e1=>?_)
   ·exact ar<|af ht rfl<|aa<|af hd rfl<|ab
   ·exact ay hu rfl<|bN.intro (size-(s.size:Int)) (wrap_i64 rfl (by omega))<|ae.is (decide (size-(s.size:Int)<(U:Int))) rfl<|ar<|af ht rfl<|aa<|af hd rfl<|ab
  |false=>
   refine al Tryz.func277<|ae.two (fun e1=>?_) (fun e1=>?_)
   ·rw[show decide (size<(s.size:Int))=true from e1]at hfl;have hw:=hful (by rw[hfl];rfl);rw[hw];exact ar<|af ht rfl<|ah<|ab
   ·rw[show decide (size<(s.size:Int))=false from e1]at hfl;refine ay hu rfl<|bN.intro (size-(s.size:Int)) (wrap_i64 rfl (by omega)) ?_;cases h2:decide (size-(s.size:Int)<(U:Int))with
    |true=>
     rw[h2]at hfl;have hw:=hful (by rw[hfl];rfl);rw[hw];exact ae.is true h2<|ar<|af ht rfl<|ah<|ab
    |false=>
     rw[h2]at hfl;have hd:=hdeed (by rw[hfl];rfl);exact ae.is false h2<|ar<|af ht rfl<|aa<|af hd rfl<|ab
theorem Fs(h s:BA)(hh:h.size≤1000000000000)(hs:s.size≤1000000000000):PC 326 [ol h s] (·=f2 (ik (h,s))):=by
 refine al Tryz.func326 ?_;unfold ik;refine ae.is (seq h aG&&seq s aG) (by show(seq h aG&&(seq s aG&&true))=_;rw[Bool.and_true]) ?_;cases seq h aG&&seq s aG with
 |true=>
  exact ah<|ab
 |false=>
  exact aa<|af (sC h s hh hs) rfl<|ab
theorem VV(d:aS)(h:d.Us)(f:Int):PC 281 [d.pv,i64 f] (·=.aK [(d.sync f).1.pv,i64 (d.sync f).2]):=by
 have hz:=h.sz;have hd:=AQ d f false cA.no ik hz (Fs d.h0 d.s0 hz.h0 hz.s0) (Fs d.h1 d.s1 hz.h1 hz.s1) fun _ _=>Ax h (aaJ (rM GU) h.used)
 exact al Tryz.func281<|af hd rfl<|ab
theorem Hq(h s:BA)(n:Int)(hn:n≤1000000000000):PC 292 [ol h s,.ip [i64 n] 0] (·=f2 (sR n (h,s))):=by
 refine al Tryz.func292 ?_;have hc:jo n (h,s)≤h.size:=abO _ _;have hc2:jo n (h,s)≤n.toNat:=adu _ _;refine bN.intro ((n.toNat:Nat):Int) (yS n)<|bN.intro ((jo n (h,s):Nat):Int) (AK n h)<|ak.mk (show(0:Int)≤((jo n (h,s):Nat):Int)∧((jo n (h,s):Nat):Int)≤((h.size:Nat):Int)by omega) ?_;refine dH (n.toNat-jo n (h,s)) ?_;refine bN.intro ((min (n.toNat-jo n (h,s)) s.size:Nat):Int) (by show(if((s.size:Nat):Int)<((n.toNat-jo n (h,s):Nat):Int)then((s.size:Nat):Int)else((n.toNat-jo n (h,s):Nat):Int))=_;split<;>omega)<|ak.mk (show(0:Int)≤((min (n.toNat-jo n (h,s)) s.size:Nat):Int)∧((min (n.toNat-jo n (h,s)) s.size:Nat):Int)≤((s.size:Nat):Int)by omega) ?_;exact ar<|ab
theorem S9(d:aS)(h:d.Us)(f n:Int)(hn:n≤1000000000000):PC 234 [d.pv,i64 f,i64 n] (·=.aK [(d.cut f n).1.pv,i64 (d.cut f n).2]):=by
 have hz:=h.sz;have hd:=AQ d f false cA.one (sR n) hz (Hq d.h0 d.s0 n hn) (Hq d.h1 d.s1 n hn) fun _ _=>Ax h (aaJ (rM (J8 n)) h.used)
 exact al Tryz.func234<|af hd rfl<|ab
theorem O7(x:Nat)(h:x<4294967296):bits .xor .u32 ((x:Int) / 2) (3988292384*bits .and .u32 (x:Int) 1%4294967296)=((Fr.bit x:Nat):Int):=by
 have h1:bits .and .u32 (x:Int) 1=((x%2:Nat):Int):=by
  have:=u32_and_nat x 1 h (by omega);rw[nat_mask1]at this;exact this
 rw[h1];have h2:((x:Int) / 2)=((x / 2:Nat):Int):=by omega
 have h3:(3988292384*((x%2:Nat):Int)%4294967296)=((3988292384*(x%2):Nat):Int):=by omega
 rw[h2,h3,u32_xor_nat _ _ (by omega) (by omega)];rfl
theorem Wo(r b:Nat)(w:World)(hr:r<4294967296)(hb:b<256):
 Calls Tryz.prog 366 #[.int .u32 (r:Int),.int .u8 (b:Int)] w fun e w'=>e=.returned (.int .u32 (Fr.step r b:Nat))∧w=w':=by
 have hx:=u32_xor_nat r b hr (by omega)
 go_enter Tryz.func366,Tryz.ntmps366
 go_wp2
 go_loop [0,9] (fun s i=>∃k:Nat,k≤8∧i=.int .i64 k∧s=.int .u32 (Fr.bits (r ^^^ b) k:Nat)) (fun _ i=>8-(intOf i).toNat)
 case atStart=>exact⟨0,by omega,rfl,rfl⟩
 case round=>
  obtain⟨k,hk,rfl,rfl⟩:=hrel
  clear hx
  have hlt:=Fr.CB (r ^^^ b) (acR (n:=32) hr (by omega)) k
  have hs:Fr.bits (r ^^^ b) (k+1)=Fr.bit (Fr.bits (r ^^^ b) k):=rfl
  have he:k=8→Fr.bits (r ^^^ b) k=Fr.step r b:=by rintro rfl;rfl
  generalize Fr.bits (r ^^^ b) k=x at hlt hs he
  have hb:=Lib.hid (O7 x hlt)
  have HS:=Lib.hid hs;clear hs
  have HE:=Lib.hid he;clear he
  go_wp2
  ·go_round
   case rel=>exact⟨k+1,by omega,by go_num,by rw[HS.out,hb.out]⟩
   case measure=>simp[intOf];omega
  ·go_ret
   exact⟨vv (by rw[HE.out (by omega)]),rfl⟩
theorem Tc(s:ByteArray)(w:World)(hs:s.size≤maxLen):
 Calls Tryz.prog 322 #[.string s] w fun e w'=>e=.returned (.int .u32 (Fr.sum s.data.toList:Nat))∧w=w':=by
 unfold maxLen at hs
 go_enter Tryz.func322,Tryz.ntmps322
 go_wp2
 go_loop [3,4,7] (fun r _ i=>∃k:Nat,k≤s.size∧i=.int .i64 k∧r=.int .u32 (Fr.run 4294967295 (s.data.toList.take k):Nat)) (fun _ _ i=>s.size-(intOf i).toNat)
 case atStart=>exact⟨0,by omega,rfl,rfl⟩
 case round=>
  obtain⟨k,hk,rfl,rfl⟩:=hrel
  have hlt:=Fr.Fi (s.data.toList.take k) 4294967295 (by omega)
  by_cases hk':k<s.size
  ·have hs:Fr.run 4294967295 (s.data.toList.take (k+1))=Fr.step (Fr.run 4294967295 (s.data.toList.take k)) s[k].toNat:=by
    rw[YZ s k hk',Fr.UF]
   have hu:s[k].toNat<256:=s[k].toNat_lt
   generalize Fr.run 4294967295 (s.data.toList.take k)=x at hlt hs
   have HS:=Lib.hid hs;clear hs
   go_wp2_with (go_at_call 366;refine(Wo _ _ _ hlt hu).mono ?_;rintro e w' ⟨rfl,rfl⟩)
   go_round
   case rel=>exact⟨k+1,by omega,by go_num,by rw[HS.out]⟩
   case measure=>simp[intOf];omega
  ·have he:Fr.sum s.data.toList=4294967295 ^^^ Fr.run 4294967295 (s.data.toList.take k):=by
    rw[aaQ (by simp;omega)];rfl
   generalize Fr.run 4294967295 (s.data.toList.take k)=x at hlt he
   have HN:=Lib.hid (C4 x hlt)
   have HE:=Lib.hid he;clear he
   go_wp2
   go_ret
   exact⟨vv (by rw[HE.out,← HN.out]),rfl⟩
theorem Uq(x k:Nat)(hx:x<4294967296):bits .or .u32 ((x:Int)*2^(k%32)%4294967296) ((x:Int) / 2^(32-k%32))=((Fr.ie x k:Nat):Int):=by
 have h1:((x:Int)*2^(k%32)%4294967296)=((x*2^(k%32)%4294967296:Nat):Int):=by
  rw[Int.natCast_emod,Int.natCast_mul,acU];rfl
 have h2:((x:Int) / 2^(32-k%32))=((x / 2^(32-k%32):Nat):Int):=by
  rw[Int.natCast_ediv,acU];rfl
 have h3:x / 2^(32-k%32)≤x:=adv _ _;rw[h1,h2,u32_or_nat _ _ (acM _ (by omega)) (by omega)];rfl
theorem QY(x:Nat)(k:Nat)(w:World)(hx:x<4294967296)(hk:k≤32):
 Calls Tryz.prog 318 #[.int .u32 (x:Int),.int .i64 (k:Int)] w fun e w'=>e=.returned (.int .u32 (Fr.ie x k:Nat))∧w=w':=by
 have h1:bits .and .u64 (k:Int) 31=((k%32:Nat):Int):=by
  have:=u64_and_nat k 31 (by omega) (by omega)
  rw[nat_mask5]at this
  exact this
 have H:=Lib.hid (Uq x k hx)
 go_enter Tryz.func318,Tryz.ntmps318
 go_wp2
 go_ret
 exact⟨vv H.out,rfl⟩
theorem WD(x:Nat)(k:Int)(w:World)(hx:x<4294967296)(h0:0≤k)(hk:k≤32):
 Calls Tryz.prog 318 #[.int .u32 (x:Int),.int .i64 k] w fun e w'=>e=.returned (.int .u32 (Fr.ie x k.toNat:Nat))∧w=w':=by
 obtain⟨n,rfl⟩:=ack h0
 exact QY x n w hx (by omega)
theorem R4(w:World)(t:TypeId)(a b c d:Int):
 (convert 116 9 (.slice (some ⟨w.heap.size,0,none⟩) 4 4)).run Tryz.prog (w.alloc (.cells #[.int .u8 a,.int .u8 b,.int .u8 c,.int .u8 d] t))=.ok (.string ⟨#[UInt8.ofNat a.toNat,UInt8.ofNat b.toNat,UInt8.ofNat c.toNat,UInt8.ofNat d.toNat]⟩) (w.alloc (.cells #[.int .u8 a,.int .u8 b,.int .u8 c,.int .u8 d] t)):=by
 have h:=run_convert_bytes_arg (P:=Tryz.prog) (w.alloc (.cells #[.int .u8 a,.int .u8 b,.int .u8 c,.int .u8 d] t)) 116 5 Tryz.underlying116 Tryz.underlying5 w.heap.size 0 4 4 [a,b,c,d] rfl (fun i hi=>by
  rw[World.cell?_alloc_mark]
  match i,hi with
  |0,_=>rfl
  |1,_=>rfl
  |2,_=>rfl
  |3,_=>rfl) 9 Tryz.underlying9
 exact h
theorem XJ(n:Nat)(hn:n<4294967296):Fr.ie n 8%256=n / 16777216%256∧Fr.ie n 16%256=n / 65536%256∧Fr.ie n 24%256=n / 256%256∧Fr.ie n 32%256=n%256:=by
 have h:∀a b:Nat,(a ||| b)%256=(a%256) ||| (b%256):=fun a b=>Nat.or_mod_two_pow (n:=8)
 have z:∀b:Nat,0 ||| b=b:=Nat.zero_or
 refine⟨?_,?_,?_,?_⟩
 ·show((n*256%4294967296) ||| (n / 16777216))%256=_
  rw[h,show n*256%4294967296%256=0 from by omega,z]
 ·show((n*65536%4294967296) ||| (n / 65536))%256=_
  rw[h,show n*65536%4294967296%256=0 from by omega,z]
 ·show((n*16777216%4294967296) ||| (n / 256))%256=_
  rw[h,show n*16777216%4294967296%256=0 from by omega,z]
 ·show((n*1%4294967296) ||| (n / 4294967296))%256=_
  rw[h,show n / 4294967296%256=0 from by omega,Nat.or_zero];omega
theorem uO(a b:Nat)(h:a%256=b%256):UInt8.ofNat (a%256)=UInt8.ofNat b:=by
 rw[h];apply UInt8.toNat_inj.1;simp
theorem Jh(n:Nat)(w:World)(hn:n<4294967296):
 Calls Tryz.prog 321 #[.int .u32 (n:Int)] w fun e w'=>e=.returned (.string ⟨(Fr.four n).toArray⟩)∧Below w.heap.size w w':=by
 have kc:=R4
 go_enter Tryz.func321,Tryz.ntmps321
 go_wp2
 refine wp_loop_rounds 5 ?_
 iterate 5
  rw[rounds_succ]
  go_wp2_with (go_at_call 318;refine(WD _ _ _ hn (by omega) (by omega)).mono ?_;rintro e w' ⟨rfl,rfl⟩)
 go_ret
 obtain⟨r1,r2,r3,r4⟩:=XJ n hn
 exact⟨pM (by rw[uO _ _ r1,uO _ _ r2,uO _ _ r3,uO _ _ r4];rfl),(Below.refl _ _).alloc (aas _) _⟩
theorem Qf(s:ByteArray)(w:World)(hs:65536<s.size):
 Calls Tryz.prog 278 #[.string s] w fun e w'=>e=.returned (.string ⟨(Fr.put s.data.toList).toArray⟩)∧Below w.heap.size w w':=by
 have HE:Hid (Fr.put s.data.toList=[]):=by
  show _=_
  unfold Fr.put;rw[abb (by simpa using hs)]
 go_enter Tryz.func278,Tryz.ntmps278
 go_wp2
 go_ret
 exact⟨pM (by rw[HE.out]),Below.refl _ _⟩
theorem PP(a b c:List UInt8)(s:ByteArray)(h:s.data.toList=c):(⟨a.toArray⟩++⟨b.toArray⟩++s:ByteArray)=⟨(a++b++c).toArray⟩:=by
 apply adi;apply adp.1;simp[← h]
theorem Ml(s:ByteArray)(w:World)(hs:s.size≤65536):
 Calls Tryz.prog 278 #[.string s] w fun e w'=>e=.returned (.string ⟨(Fr.put s.data.toList).toArray⟩)∧Below w.heap.size w w':=by
 have HE:Hid (Fr.put s.data.toList=Fr.four s.size++Fr.four (Fr.sum s.data.toList)++s.data.toList):=by
  show _=_
  unfold Fr.put;rw[abg (by simp;omega)]
  simp
 have hl:=Fr.Wk s.data.toList
 have h4:=Fr.KT
 go_enter Tryz.func278,Tryz.ntmps278
 go_wp2_with fail
 refine(Jh _ _ (by omega)).mono ?_
 rintro e w1 ⟨rfl,hb1⟩
 go_wp2_with fail
 refine(Tc _ _ (by unfold maxLen;omega)).mono ?_
 rintro e w1 ⟨rfl,rfl⟩
 go_wp2_with fail
 refine(Jh _ _ (by omega)).mono ?_
 rintro e w2 ⟨rfl,hb2⟩
 go_wp2_with fail
 go_ret
 exact⟨pM (by rw[HE.out];exact PP _ _ _ _ rfl),hb1.trans (hb2.mono hb1.size)⟩
theorem Pw(s:ByteArray)(w:World):
 Calls Tryz.prog 278 #[.string s] w fun e w'=>e=.returned (.string ⟨(Fr.put s.data.toList).toArray⟩)∧Below w.heap.size w w':=by
 by_cases hs:s.size≤65536
 ·exact Ml s w hs
 ·exact Qf s w (by omega)
theorem GK(b:BA):PC 278 [st b] (·=st (qv b)):=
 oS Tryz.func278 rfl rfl rfl rfl fun w=>Pw b w
theorem Kc(b:BA):(qv b).size≤65544:=by
 have h:(qv b).size=(Fr.put b.data.toList).length:=by rw[← iz];rfl
 rw[h];exact Fr.R9 _
theorem TA{s:State}(h:s.jC):s.put.size≤200000000000000:=by
 unfold State.put;have b1:=bL s.round;have b2:=bL s.next;have b3:=LU h.pool;have b4:=El h.tree h.sy;have b5:=bL (av (s.aj.length:Nat));have b6:=vK s.events h.ev;have b7:=vK s.cJ h.au;have b8:=h.aj;have h1:=jg (f:=ld) (l:=s.aj) (s:=an s.round++an s.next++s.pool.put++lY s.tree++an (av (s.aj.length:Nat))) fun s j hj=>Br (h.aM j hj) s
 rw[aI,aI,aI,aI]at h1;rw[aI,aI];omega
theorem K4(gen:UInt64)(s:State)(h:s.jC):PC 220 [pu gen,s.pv] (·=st (fC gen s)):=by
 have b1:=bL gen;have b2:=TA h;have b0:uA.size=1:=rfl;exact al Tryz.func220<|ay (dj gen) rfl<|ak.mk (bZ (a:=uA) (b:=an gen) (by omega) (by omega))<|ay (ME s h) rfl<|ak.mk (bZ (a:=uA++an gen) (b:=s.put) (by rw[aI];omega) (by omega))<|ay (GK (uA++an gen++s.put)) rfl<|ar<|ab
theorem M_{o:aw}(h:eM o):o.put.size≤100000000:=by
 unfold aw.put;cases o.right with
 |false=>dsimp only;rw[oe];omega
 |true=>
  dsimp only;unfold aw.bytes;generalize(known o.kind).getD fx.z=f;have hc:∀(b:Bool) (s t:BA),(cat b s t).size≤s.size+t.size:=fun b s t=>by
   cases b with
   |true=>show(s++t).size≤_;rw[aI];exact aas _
   |false=>show s.size≤_;omega
  have a1:=hc f.id (an (av o.kind)) (an o.id);generalize cat f.id (an (av o.kind)) (an o.id)=b1 at a1⊢;have a2:=hc f.n b1 (an o.n);generalize cat f.n b1 (an o.n)=b2 at a2⊢;have a3:=hc f.path b2 (bz o.path);generalize cat f.path b2 (bz o.path)=b3 at a3⊢;have a4:=hc f.v b3 (cr o.v);generalize cat f.v b3 (cr o.v)=b4 at a4⊢;have a5:=hc f.x b4 o.x.put;generalize cat f.x b4 o.x.put=b5 at a5⊢;have a6:=hc f.labels b5 (fB o.labels);have:=bL (av o.kind);have:=bL o.id;have:=bL o.n;have:=d_ o.path;have:=h.path;have:=iC o.v;have:=u6 h.x;have:=xB h.fA;omega
theorem XB(o:aw)(h:eM o):PC 228 [o.pv] (·=st (fN o)):=by
 have b1:=M_ h;have b0:wt.size=1:=rfl;refine al Tryz.func228<|af (Ie o h) rfl ?_;unfold fN;refine ae.two (fun h1=>?_) (fun h1=>?_)
 ·rw[show seq o.put aG=true from h1];exact ah<|ab
 ·rw[show seq o.put aG=false from h1];exact aa<|ak.mk (bZ (a:=wt) (b:=o.put) (by omega) (by omega))<|af (GK (wt++o.put)) rfl<|ab
theorem UG(o:aw):(fN o).size≤65544:=by
 unfold fN;cases seq o.put aG with
 |true=>exact aaF _
 |false=>exact Kc _
theorem AY(t:aE):PC 230 [t.pv] (·=i64 t.f):=by
 refine al Tryz.func230 ?_;unfold aE.f;refine ae.two (fun h1=>?_) (fun h1=>?_)
 ·rw[show decide (t.file=1)=true from h1];exact ah<|ab
 ·rw[show decide (t.file=1)=false from h1];exact aa<|ab
structure fQ where
 g:Nat
 cs:List PV
 f:aS→aS×Int
def fQ.pv(x:fQ):PV:=.fn x.g x.cs
abbrev d2(r:aS×Int):PV:=.aK [r.1.pv,i64 r.2]
def oF(f:Int)(s:BA):fQ:=⟨276,[.ip [i64 f] 0,.ip [st s] 0],fun d=>d.write f s⟩
def pE(f:Int):fQ:=⟨280,[.ip [i64 f] 0],fun d=>d.sync f⟩
def rR(f n:Int):fQ:=⟨342,[.ip [i64 f] 0,.ip [i64 n] 0],fun d=>d.cut f n⟩
structure fQ.Ok(x:fQ):Prop where
 fe:cA x.cs
 run:∀d:aS,d.Us→PC x.g (d.pv::x.cs) (·=d2 (x.f d))
 us:∀d:aS,d.Us→(x.f d).1.Us
theorem yj(f:Int)(s:BA)(hs:s.size≤1000000000):(oF f s).Ok:=by
 refine⟨cA.two,fun d hd=>?_,fun d hd=>hd.write f s⟩;show PC 276 [d.pv,.ip [i64 f] 0,.ip [st s] 0] (·=d2 (d.write f s))
 exact al Tryz.func276<|af (T0 d hd f s hs) rfl<|ab
theorem zE(f:Int):(pE f).Ok:=by
 refine⟨cA.one,fun d hd=>?_,fun d hd=>hd.sync f⟩;show PC 280 [d.pv,.ip [i64 f] 0] (·=d2 (d.sync f))
 exact al Tryz.func280<|af (VV d hd f) rfl<|ab
theorem Ei(f n:Int)(hn:n≤1000000000000):(rR f n).Ok:=by
 refine⟨cA.two,fun d hd=>?_,fun d hd=>hd.cut f n⟩;show PC 342 [d.pv,.ip [i64 f] 0,.ip [i64 n] 0] (·=d2 (d.cut f n))
 exact al Tryz.func342<|af (S9 d hd f n hn) rfl<|ab
theorem uH(f:Int)(s:BA):PC 219 [i64 f,st s] (·=(oF f s).pv):=al Tryz.func219<|ab
theorem vD(f:Int):PC 221 [i64 f] (·=(pE f).pv):=al Tryz.func221<|ab
theorem Hk(f n:Int):PC 289 [i64 f,i64 n] (·=(rR f n).pv):=al Tryz.func289<|ab
def nY(d:aS)(l:List fQ)(q:Nat):aS:=(l.take q).foldl (fun d x=>(x.f d).1) d
theorem ZM{d:aS}{l:List fQ}{q:Nat}{x:fQ}(h:l[q]? = some x):nY d l (q+1)=(x.f (nY d l q)).1:=by
 unfold nY;rw[eC h,abw];rfl
theorem VP{d:aS}(hd:d.Us):∀(l:List fQ) (q:Nat),(∀x∈l,x.Ok)→(nY d l q).Us:=by
 intro l q h;have key:∀(l:List fQ) (d:aS),d.Us→(∀x∈l,x.Ok)→(l.foldl (fun d x=>(x.f d).1) d).Us:=by
  intro l;induction l with
  |nil=>intro d hd _;exact hd
  |cons x l ih=>intro d hd h;exact ih _ ((h x aaA).us d hd) fun y hy=>h y (aaz _ hy)
 exact key _ d hd fun x hx=>h x (aaV hx)
abbrev M0(d:aS):aA:=.rows 8 [d.pv] true none 62
theorem Fq(d:aS):cE [d.pv]:=fun r hr=>by rw[aaD.1 hr];rfl
theorem zn(l:List fQ)(hl:l.length≤1000)(d:aS)(hd:d.Us)(h:∀x∈l,x.Ok):PC 217 [d.pv,.sl false (l.map fQ.pv)] (·=d2 (steps d (l.map fQ.f))):=by
 refine al Tryz.func217<|cW l.length (.of (nY d l) (fun _=>[]) [2,4,10,11] (fun e=>[(0,M0 e)]) [1]) (fun q=>steps d (l.map fQ.f)=steps (nY d l q) ((l.drop q).map fQ.f)) rfl ?_ (fun k hk hj=>?_) (fun hj=>?_)
 ·exact bY rfl (Fq _)
 ·obtain⟨x,hx⟩:=get_at hk;have hok:=h x (aau hx);have hn:=ZM (d:=d) hx;have hus:=VP hd l k h;have hdr:l.drop k=x::l.drop (k+1):=by
   obtain⟨hlt,rfl⟩:=aaq.1 hx;exact aaX hlt
  rw[hdr,aaZ]at hj;generalize hL:nY d l k=e at hn hus hj;rw[bR hL];have hrun:=hok.run e hus;have hcaps:=hok.fe;clear hok;obtain⟨g,cs,f⟩:=x;dsimp only at hn hrun hcaps hj;have hst:steps e (f::(l.drop (k+1)).map fQ.f)=match decide ((f e).2=0)with|true=>steps (f e).1 ((l.drop (k+1)).map fQ.f)|false=>f e:=by
   show(match f e with|(a,b)=>match decide (b=0)with|true=>steps a _|false=>(a,b))=_
   rfl
  rw[hst]at hj;refine bx hx ?_;rcases hcaps with rfl|⟨a,rfl⟩|⟨a,b,rfl⟩<;>
  ·refine af hrun rfl<|ae.two (fun h0=>?_) (fun h0=>?_)
   ·rw[show decide ((f e).2=0)=true from h0]at hj;exact aa<|bA.of id hn (by rw[hj,hn]) rfl<|bY rfl (Fq _)
   ·rw[show decide ((f e).2=0)=false from h0]at hj;refine ah ?_;rw[hj];exact ab
 ·rw[aaR (aas _)]at hj;have hj:steps d (l.map fQ.f)=(nY d l l.length,0):=hj;rw[hj];generalize hL:nY d l l.length=e;rw[bR hL];exact ab
theorem Uj:State.new.jC:=⟨⟨aaF _,aaF _,fun _ h=>(aaH h).elim,fun _ h=>(aaH h).elim⟩,by show 1≤16;omega,fun e he=>by rw[aaD.1 he];exact aaF _,aaF _,fun _ h=>(aaH h).elim,aaF _,aaF _⟩
theorem EF(gen:UInt64)(s:State):(fC gen s).size≤65544:=Kc _
theorem Nr{n:Int}(h:1≤n∧n≤1048576):(aS.new n).Us:=⟨by show 0+0+(0+0)≤_;omega,by show 0≤n∧n≤1000000000;omega,by show -1≤(-1:Int)∧(-1:Int)≤1000000000;decide⟩
theorem QN(key:BA)(n:Int):PC 152 [st key,i64 n] (·=.aK [(aE.new key n).1.pv,i64 (aE.new key n).2]):=by
 unfold aE.new;cases e1:decide ((key.size:Int)<1)with
 |true=>
  exact al Tryz.func152<|ae.is true e1<|ah<|ab
 |false=>
 cases e2:decide ((64:Int)<key.size)with
 |true=>
  exact al Tryz.func152<|ae.is false e1<|ae.is true e2<|ah<|ab
 |false=>
 cases e3:decide (n<1)with
 |true=>
  exact al Tryz.func152<|ae.is false e1<|ae.is false e2<|ae.is true e3<|ah<|ab
 |false=>
 cases e4:decide (1048576<n)with
 |true=>
  exact al Tryz.func152<|ae.is false e1<|ae.is false e2<|ae.is false e3<|ae.is true e4<|ah<|ab
 |false=>
 have hn:1≤n∧n≤1048576:=by
  have:=aaw e3;have:=aaw e4;omega
 dsimp only[Bool.or_false];have hall:=zn [oF 0 (fC 1 State.new),pE 0] (by show 2≤1000;omega) (aS.new n) (Nr hn) fun x hx=>by
  rcases aaI.1 hx with rfl|hx
  ·exact yj _ _ (aaJ (EF _ _) (by decide))
  ·rw[aaD.1 hx];exact zE _
 have hst:steps (aS.new n) ([oF 0 (fC 1 State.new),pE 0].map fQ.f)=steps (aS.new n) [fun d=>d.write 0 (fC 1 State.new),fun d=>d.sync 0]:=rfl;rw[hst]at hall;have hsn:=K4 1 State.new Uj;generalize fC 1 State.new=sn at hall hsn⊢;rcases hx:steps (aS.new n) [fun d=>d.write 0 sn,fun d=>d.sync 0]with⟨d,e⟩
 rw[hx]at hall;dsimp only;refine al Tryz.func152<|ae.is false e1<|ae.is false e2<|ae.is false e3<|ae.is false e4<|aa<|af U8 rfl<|ay (VY n) rfl<|ay hsn rfl<|ay (uH 0 sn) rfl<|ay (vD 0) rfl<|ay hall rfl<|ar<|ae.two (fun h0=>?_) (fun h0=>?_)
 ·rw[show decide (e=0)=true from h0];exact aa<|ab
 ·rw[show decide (e=0)=false from h0];exact ah<|ab
theorem MX(t:aE)(hd:t.d.Us)(hs:t.s.jC):PC 231 [t.pv] (·=.aK [t.ka.1.pv,i64 t.ka.2]):=by
 have hf:0≤t.f∧t.f≤1:=by unfold aE.f;cases decide (t.file=1)<;>decide
 have hall:=zn [rR (1-t.f) 0,oF (1-t.f) (fC (t.gen+1) t.s),pE (1-t.f),rR t.f 0] (by show 4≤1000;omega) t.d hd fun x hx=>by
  simp only[aaI,aaH,acQ]at hx;rcases hx with rfl|rfl|rfl|rfl
  ·exact Ei _ _ (by decide)
  ·exact yj _ _ (aaJ (EF _ _) (by decide))
  ·exact zE _
  ·exact Ei _ _ (by decide)
 have hst:steps t.d ([rR (1-t.f) 0,oF (1-t.f) (fC (t.gen+1) t.s),pE (1-t.f),rR t.f 0].map fQ.f)=steps t.d [fun d=>d.cut (1-t.f) 0,fun d=>d.write (1-t.f) (fC (t.gen+1) t.s),fun d=>d.sync (1-t.f),fun d=>d.cut t.f 0]:=rfl;rw[hst]at hall;have hsn:=K4 (t.gen+1) t.s hs;have hfl:=AY t;unfold aE.ka;generalize fC (t.gen+1) t.s=sn at hall hsn⊢;generalize t.f=f at hf hall hfl⊢;rcases hx:steps t.d [fun d=>d.cut (1-f) 0,fun d=>d.write (1-f) sn,fun d=>d.sync (1-f),fun d=>d.cut f 0]with⟨d,e⟩
 rw[hx]at hall;dsimp only;refine al Tryz.func231<|af hfl rfl<|bN.intro (1-f) (wrap_i64 rfl (by omega))<|ay (Hk (1-f) 0) rfl<|bN.intro (1-f) (wrap_i64 rfl (by omega))<|ax (xT t.gen)<|ay hsn rfl<|ay (uH (1-f) sn) rfl<|bN.intro (1-f) (wrap_i64 rfl (by omega))<|ay (vD (1-f)) rfl<|ay (Hk f 0) rfl<|ay hall rfl<|ar<|ae.two (fun h0=>?_) (fun h0=>?_)
 ·rw[show decide (e=0)=true from h0];exact aa<|bN.intro (1-f) (wrap_i64 rfl (by omega))<|ax (xT t.gen)<|ab
 ·rw[show decide (e=0)=false from h0];exact ah<|ab
abbrev pz(e:Int):aA:=.rows 1 [i64 e] true none 93
abbrev pS(a:aP):aA:=.rows 14 [a.pv] true none 95
theorem BD(e:Int):cE [i64 e]:=fun r hr=>by rw[aaD.1 hr];rfl
theorem M8(a:aP):cE [a.pv]:=fun r hr=>by rw[aaD.1 hr];rfl
def Ft(e:Int):PV:=.agg [i64 e,pu 0,pu 0,i64 0,pu 0,pu 0,pu 0,pu 0,pu 0,pu 0,pu 0,pu 0,.sl true [],.sl true []]
def wS(e:Int)(a:aP):PV:=match decide (e=0)with
 |true=>a.pv
 |false=>Ft e
abbrev UM(p:PV):aA:=.rows 14 [p] true none 95
theorem sk(e:Int)(a:aP)(j k nx:Nat)(hjk:Nat.beq j k=false)(h1:Nat.beq nx j=false)(h2:Nat.beq nx k=false):oJ Tryz.prog GT 227 [.lp j 0 0,.lp k 0 0] [(j,pz e),(k,pS a)] nx fun r d=>r=.aK []∧d=[(j,some (pz e)),(k,some (UM (wS e a))),(j,none),(k,none)]:=by
 refine Oh (js:=[j,k]) (bs:=[pz e,pS a]) (args:=[.lp 0 0 0,.lp 1 0 0]) Tryz.func227 rfl ?_ ?_ rfl ⟨⟨rfl,BD e⟩,⟨rfl,M8 a⟩,trivial⟩ rfl ?_
 ·unfold nodup cf;rw[hjk];rfl
 ·unfold cf;rw[h1];unfold cf;rw[h2];rfl
 have hnd:nodup [j,k]=true:=by unfold nodup cf;rw[hjk];rfl
 unfold wS;refine ae.two (fun h0=>?_) (fun h0=>?_)
 ·rw[show decide (e=0)=true from h0];refine aa<|du<|dW.mk ⟨[(0,j),(1,k)],200,_,_,rfl,rfl,hnd,⟨dz.mk ⟨_,rfl,BD e,.inr rfl⟩,dz.mk ⟨_,rfl,fun r hr=>(by rw[aaD.1 hr];rfl),.inr rfl⟩,trivial⟩,rfl,rfl⟩
 ·rw[show decide (e=0)=false from h0];refine ah<|du<|dW.mk ⟨[(0,j),(1,k)],200,_,_,rfl,rfl,hnd,⟨dz.mk ⟨_,rfl,BD e,.inr rfl⟩,dz.mk ⟨_,rfl,fun r hr=>(by rw[aaD.1 hr];rfl),.inr rfl⟩,trivial⟩,rfl,rfl⟩
theorem wL:∀(l:List (aS→aS×Int)) {d:aS},d.Us→(∀g∈l,∀d:aS,d.Us→(g d).1.Us)→(steps d l).1.Us
 | [],_,h,_=>h
 |g::l,d,h,hl=>by
  have h1:=hl g aaA d h
  have h2:=wL l (d:=(g d).1) h1 fun x hx=>hl x (aaz _ hx)
  have e:steps d (g::l)=match decide ((g d).2=0)with|true=>steps (g d).1 l|false=>g d:=by
   show(match g d with|(a,b)=>match decide (b=0)with|true=>steps a l|false=>(a,b))=_
   rfl
  rw[e]
  cases decide ((g d).2=0)with
  |true=>exact h2
  |false=>exact h1
theorem ye{t:aE}(h:t.d.Us):t.ka.1.d.Us:=by
 unfold aE.ka;have hs:=wL [fun d=>d.cut (1-t.f) 0,fun d=>d.write (1-t.f) (fC (t.gen+1) t.s),fun d=>d.sync (1-t.f),fun d=>d.cut t.f 0] h fun g hg d hd=>by
  simp only[aaI,aaH,acQ]at hg;rcases hg with rfl|rfl|rfl|rfl
  ·exact hd.cut _ _
  ·exact hd.write _ _
  ·exact hd.sync _
  ·exact hd.cut _ _
 rcases hx:steps t.d [fun d=>d.cut (1-t.f) 0,fun d=>d.write (1-t.f) (fC (t.gen+1) t.s),fun d=>d.sync (1-t.f),fun d=>d.cut t.f 0]with⟨d,e⟩
 rw[hx]at hs;dsimp only;cases decide (e=0)<;>exact hs
theorem IH{t:aE}(h:t.d.Us)(s:State)(a:aP)(r:BA):(t.nn s a r).1.d.Us:=by
 unfold aE.nn;have hs:=wL [fun d=>d.write t.f r,fun d=>d.sync t.f] h fun g hg d hd=>by
  simp only[aaI,aaH,acQ]at hg;rcases hg with rfl|rfl
  ·exact hd.write _ _
  ·exact hd.sync _
 rcases hx:steps t.d [fun d=>d.write t.f r,fun d=>d.sync t.f]with⟨d,e⟩
 rw[hx]at hs;dsimp only;cases decide (e=0)<;>exact hs
theorem NV{t:aE}(h:t.d.Us)(o:aw):(t.do o).1.d.Us:=by
 unfold aE.do;cases t.d.down with
 |true=>exact h
 |false=>
 dsimp only;cases decide ((apply t.s o).2.e=0)&&o.writes with
 |false=>exact h
 |true=>
 dsimp only;cases t.full (fN o)with
 |false=>exact IH h _ _ _
 |true=>
 dsimp only;cases decide (t.ka.2=12)with
 |true=>exact ye h
 |false=>exact IH (ye h) _ _ _
theorem yn{e:Int}(a:aP)(h:decide (e=0)=false):wS e a=Ft e:=by unfold wS;rw[h]
theorem Zy(t:aE)(o:aw){m:Nat}(hd:t.d.Us)(h:cB m t.s)(hm:m≤20000000)(ho:eM o)(hf:o.kind=11→rG t.s.pool o.path)(hP:t.full (fN o)=true→t.s.jC):PC 159 [t.pv,o.pv] (·=.aK [(t.do o).1.pv,(t.do o).2.pv]):=by
 have hap:=W5 t.s o h hm ho hf;have hwr:=UA o;have hrc:=XB o ho;have hrl:=UG o;have hfl:=AY t;have hrd:=SP t.d hd.sz t.f;have hcp:t.full (fN o)=true→_:=fun hx=>MX t hd (hP hx)
 have hlog:∀(f:Int) (d:aS),d.Us→PC 217 [d.pv,.sl false [(oF f (fN o)).pv,(pE f).pv]] (·=d2 (steps d [fun d=>d.write f (fN o),fun d=>d.sync f])):=fun f d hu=>zn [oF f (fN o),pE f] (by show 2≤1000;omega) d hu fun x hx=>by
  rcases aaI.1 hx with rfl|hx
  ·exact yj _ _ (by omega)
  ·rw[aaD.1 hx];exact zE _
 have hful:t.full (fN o)=decide (t.d.size.tdiv 2<((t.d.read t.f).size:Int)+((fN o).size:Int)):=rfl;have hrs:(t.d.read t.f).size≤1000000000:=by
  have hu:=hd.used;unfold aS.used at hu;unfold aS.read;cases decide (t.f=0)with
  |true=>dsimp only;rw[aI];omega
  |false=>
   dsimp only;cases decide (t.f=1)with
   |true=>dsimp only;rw[aI];omega
   |false=>exact aaF _
 have hds:=hd.size;unfold aE.do;generalize hR:fN o=r at*
 cases hdn:t.d.down with
 |true=>
  dsimp only;obtain⟨key,⟨size,h0,s0,h1,s1,down,b_,aQ⟩,s,file,gen⟩:=t;dsimp only at hdn;subst hdn;exact rf Tryz.func159 rfl<|ah<|ab
 |false=>
 dsimp only;rcases hx:apply t.s o with⟨s',a⟩
 rw[hx]at hap;dsimp only;obtain⟨key,⟨size,h0,s0,h1,s1,down,b_,aQ⟩,s,file,gen⟩:=t;dsimp only at hdn hds;subst hdn;have hap:PC 225 [s.pv,o.pv] (·=.aK [s'.pv,a.pv]):=hap;cases he:decide (a.e=0)with
 |false=>
  exact rf Tryz.func159 rfl<|aa<|af hap rfl<|ae.is false he<|ah<|ar<|ab
 |true=>
 cases hw:o.writes with
 |false=>
  rw[hw]at hwr;exact rf Tryz.func159 rfl<|aa<|af hap rfl<|ae.is true he<|af hwr rfl<|ah<|ar<|ab
 |true=>
 rw[hw]at hwr;have ha0:a.e=0:=aat he;cases hfu:aE.full ⟨key,⟨size,h0,s0,h1,s1,false,b_,aQ⟩,s,file,gen⟩ r with
 |false=>
  have hl:=hlog (aE.f ⟨key,⟨size,h0,s0,h1,s1,false,b_,aQ⟩,s,file,gen⟩) ⟨size,h0,s0,h1,s1,false,b_,aQ⟩ hd;rw[hfu]at hful;have hfl2:=hfl;dsimp only;unfold aE.nn;generalize aE.f ⟨key,⟨size,h0,s0,h1,s1,false,b_,aQ⟩,s,file,gen⟩=f at hfl hfl2 hrd hl hful hrs⊢;generalize aS.read ⟨size,h0,s0,h1,s1,false,b_,aQ⟩ f=rd at hrd hful hrs;dsimp only at hl hful⊢;rcases hst:steps ⟨size,h0,s0,h1,s1,false,b_,aQ⟩ [fun d=>d.write f r,fun d=>d.sync f]with⟨d',e⟩
  rw[hst]at hl;dsimp only;refine rf Tryz.func159 rfl<|aa<|af hap rfl<|ae.is true he<|af hwr rfl<|aa<|af hrc rfl<|ay hfl rfl<|ay hrd rfl<|bN.intro ((rd.size:Int)+(r.size:Int)) (wrap_i64 rfl (by omega))<|cj<|bN.intro (size.tdiv 2) (wrap_i64 rfl (by rw[acp (by omega)];omega))<|ae.is false hful.symm<|ar ?_;refine aa<|ay hfl2 rfl<|ay (uH f r) rfl<|ay hfl2 rfl<|ay (vD f) rfl<|ay hl rfl<|ar<|ae.two (fun h0=>?_) (fun h0=>?_)
  ·have hq:=sk e a 25 3;obtain rfl:e=0:=aat h0;refine ah<|ar<|nB.mk ⟨[(25,pz 0),(3,pS a)],_,⟨rfl,rfl,trivial⟩,hq _ rfl rfl rfl,?_⟩;rintro _ _ ⟨rfl,rfl⟩;exact ab
  ·have hq:=sk e a 25 3;have h0:decide (e=0)=false:=h0;rw[yn a h0]at hq;rw[h0];refine aa<|ar<|nB.mk ⟨[(25,pz e),(3,pS a)],_,⟨rfl,rfl,trivial⟩,hq _ rfl rfl rfl,?_⟩;rintro _ _ ⟨rfl,rfl⟩;exact ab
 |true=>
  have hcp:=hcp hfu;have hus2:=ye (t:=⟨key,⟨size,h0,s0,h1,s1,false,b_,aQ⟩,s,file,gen⟩) hd;rw[hfu]at hful;dsimp only;rcases hcc:aE.ka ⟨key,⟨size,h0,s0,h1,s1,false,b_,aQ⟩,s,file,gen⟩with⟨t2,ec⟩
  rw[hcc]at hcp hus2;dsimp only at hcp hus2⊢;have hfl2:=AY t2;have hl:=hlog t2.f t2.d hus2;generalize aE.f ⟨key,⟨size,h0,s0,h1,s1,false,b_,aQ⟩,s,file,gen⟩=f at hfl hrd hful hrs;generalize aS.read ⟨size,h0,s0,h1,s1,false,b_,aQ⟩ f=rd at hrd hful hrs;dsimp only at hful;unfold aE.nn;rcases hst:steps t2.d [fun d=>d.write t2.f r,fun d=>d.sync t2.f]with⟨d',e⟩
  rw[hst]at hl;dsimp only;refine rf Tryz.func159 rfl<|aa<|af hap rfl<|ae.is true he<|af hwr rfl<|aa<|af hrc rfl<|ay hfl rfl<|ay hrd rfl<|bN.intro ((rd.size:Int)+(r.size:Int)) (wrap_i64 rfl (by omega))<|cj<|bN.intro (size.tdiv 2) (wrap_i64 rfl (by rw[acp (by omega)];omega))<|ae.is true hful.symm<|ar ?_;refine ah<|af hcp rfl<|ae.two (fun h12=>?_) (fun h12=>?_)
  ·have hq:=sk ec a 25 3;obtain rfl:ec=12:=aat h12;rw[yn a rfl]at hq;refine ah<|ar<|nB.mk ⟨[(25,pz 12),(3,pS a)],_,⟨rfl,rfl,trivial⟩,hq _ rfl rfl rfl,?_⟩;rintro _ _ ⟨rfl,rfl⟩;exact ab
  ·rw[show decide (ec=12)=false from h12];refine aa<|ay hfl2 rfl<|ay (uH t2.f r) rfl<|ay hfl2 rfl<|ay (vD t2.f) rfl<|ay hl rfl<|ar<|ae.two (fun h0=>?_) (fun h0=>?_)
   ·have hq:=sk e a 25 3;obtain rfl:e=0:=aat h0;refine ah<|ar<|nB.mk ⟨[(25,pz 0),(3,pS a)],_,⟨rfl,rfl,trivial⟩,hq _ rfl rfl rfl,?_⟩;rintro _ _ ⟨rfl,rfl⟩;exact ab
   ·have hq:=sk e a 25 3;have h0:decide (e=0)=false:=h0;rw[yn a h0]at hq;rw[h0];refine aa<|ar<|nB.mk ⟨[(25,pz e),(3,pS a)],_,⟨rfl,rfl,trivial⟩,hq _ rfl rfl rfl,?_⟩;rintro _ _ ⟨rfl,rfl⟩;exact ab
def ed(R:aE→aE×aP)(c:List aJ)(e:bV)(q:Option (bD×aw)):lX:=match decide (e.kind=1)with
 |true=>nl c e
 |false=>match decide (e.kind=2)with
  |true=>qb c e
  |false=>match decide (e.kind=3)with
   |true=>j2 c fun t=>t.do gI
   |false=>match decide (e.kind=4)with
    |true=>nf c q
    |false=>match decide (e.kind=5)with
     |true=>((j2 c fun t=>({t with d:=t.d.gq e.aQ},aP.z)).1,[])
     |false=>match decide (e.kind=6)with
      |true=>gG c e.aq fun t=>({t with d:=t.d.gq e.aQ},aP.z)
      |false=>match decide (e.kind=7)with
       |true=>gG c e.aq fun t=>({t with d:=t.d.wj e.n e.aQ},aP.z)
       |false=>match decide (e.kind=8)with
        |true=>j2 c R
        |false=>match decide (e.kind=9)with
         |true=>gG c e.aq R
         |false=>(c,say aG 1)
structure bG where
 name:BA
 key:BA
 s:State
abbrev kp:=List bG×List cw
def i_(i:List bG)(name:BA):Int:=idx (fun x:bG=>seq x.name name) i 0
def gT(i:List bG)(name:BA)(f:State→State×aP):kp:=match i.find? (fun x=>seq x.name name)with
 |none=>(i,say aG 16)
 |some x=>(i.set (i_ i name).toNat ⟨x.name,x.key,(f x.s).1⟩,[⟨x.name,(f x.s).2⟩])
def oE(i:List bG)(f:State→State×aP):kp:=(i.map fun x=>⟨x.name,x.key,(f x.s).1⟩,i.map fun x=>⟨x.name,(f x.s).2⟩)
def rK(i:List bG)(name:BA):Nat:=i.findIdx fun x=>!dL x.name name
def iy(key:BA)(size:Int):Bool:=decide ((key.size:Int)<1)||decide ((64:Int)<key.size)||decide (size<1)||decide (1048576<size)
def lF(i:List bG)(e:bV):kp:=match cQ e.aq with
 |false=>(i,say e.aq 6)
 |true=>match decide (0≤i_ i e.aq)with
  |true=>(i,say e.aq 8)
  |false=>match decide (8≤(i.length:Int))with
   |true=>(i,say e.aq 9)
   |false=>match iy e.key e.n with
    |true=>(i,say e.aq 1)
    |false=>(i.take (rK i e.aq)++⟨e.aq,e.key,State.new⟩::i.drop (rK i e.aq),say e.aq 0)
def mQ(i:List bG)(e:bV):kp:=match decide (0≤i_ i e.aq)&&!within e.o.kind 9 12 with
 |true=>(i,say e.aq 14)
 |false=>gT i e.aq fun s=>apply s e.o
def iZ(i:List bG):Option (bD×aw)→kp
 |none=>(i,say aG 2)
 |some (k,o)=>match i.find? (fun x=>seq x.name k.aq)with
  |none=>(i,say aG 16)
  |some x=>match k.check x.key with
   |false=>(i,say aG 13)
   |true=>match gM x.key k o x.s.round with
     |no=>match decide (no=0)with
      |false=>(i,say k.aq no)
      |true=>gT i k.aq fun s=>apply s o
def fi(i:List bG)(e:bV)(q:Option (bD×aw)):kp:=match decide (e.kind=1)with
 |true=>lF i e
 |false=>match decide (e.kind=2)with
  |true=>mQ i e
  |false=>match decide (e.kind=3)with
   |true=>oE i fun s=>apply s gI
   |false=>match decide (e.kind=4)with
    |true=>iZ i q
    |false=>match decide (e.kind=8)with
     |true=>oE i fun s=>(s,.err 15)
     |false=>match decide (e.kind=9)with
      |true=>gT i e.aq fun s=>(s,.err 15)
      |false=>(i,say aG 1)
structure jV(M B:Nat)(t:aE):Prop where
 down:t.d.down=false
 b_:t.d.b_=-1
 file:t.file=0
 h0:t.d.h0.size≤B
 s0:t.d.s0=aG
 h1:t.d.h1=aG
 s1:t.d.s1=aG
 room:2*(M:Int)≤t.d.size
theorem jV.le{M B C:Nat}{t:aE}(h:jV M B t)(hBC:B≤C):jV M C t:=⟨h.down,h.b_,h.file,aaJ h.h0 hBC,h.s0,h.h1,h.s1,h.room⟩
theorem Qn(h0 r:BA):(ik (h0,aG++r)).2=aG∧(ik (h0,aG++r)).1.size≤h0.size+r.size:=by
 unfold ik;cases hs:seq h0 aG&&seq (aG++r) aG with
 |true=>
  rw[abm]at hs;exact⟨jJ.1 hs.2,by show h0.size≤_;omega⟩
 |false=>
  refine ar ?_;show(h0++(aG++r)).size≤_
  rw[aI,aI];show h0.size+(0+r.size)≤_
  omega
theorem E4{d e:aS}{g:aS→aS×Int}{l:List (aS→aS×Int)}(h:g d=(e,0)):steps d (g::l)=steps e l:=by
 show(match g d with|(e,x)=>match decide (x=0)with|true=>steps e l|false=>(e,x))=_
 rw[h];rfl
theorem JN{M B:Nat}{t:aE}(h:jV M B t){r:BA}(hB:B+r.size≤2*M)(s:State)(a:aP):∃d,t.nn s a r=({t with d:=d,s:=s},a)∧jV M (B+r.size) {t with d:=d,s:=s}:=by
 obtain⟨e1,e2,e3,e4,e5,e6,e7,e8⟩:=h;rcases t with⟨key,⟨size,h0,s0,h1,s1,down,b_,aQ⟩,s',file,gen⟩
 dsimp only at e1 e2 e3 e4 e5 e6 e7 e8;subst e1 e2 e3 e5 e6 e7;obtain⟨y1,y2⟩:=Qn h0 r;have hw:aS.write ⟨size,h0,aG,aG,aG,false,-1,aQ⟩ 0 r=(⟨size,h0,aG++r,aG,aG,false,-1,aQ⟩,0):=by
  have hf:aS.full ⟨size,h0,aG,aG,aG,false,-1,aQ⟩ r=false:=by
   unfold aS.full aS.used;show(decide (size<(r.size:Int))||decide (size-(r.size:Int)<((h0.size+0+(0+0):Nat):Int)))=false
   rw[aar (by omega),aar (by omega)];rfl
  unfold aS.write;rw[hf];rfl
 have hy:aS.sync ⟨size,h0,aG++r,aG,aG,false,-1,aQ⟩ 0=(⟨size,(ik (h0,aG++r)).1,(ik (h0,aG++r)).2,aG,aG,false,-1,aQ⟩,0):=rfl;refine⟨⟨size,(ik (h0,aG++r)).1,(ik (h0,aG++r)).2,aG,aG,false,-1,aQ⟩,?_,⟨rfl,rfl,rfl,?_,y1,rfl,rfl,e8⟩⟩
 ·have hst:steps ⟨size,h0,aG,aG,aG,false,-1,aQ⟩ [fun d=>d.write 0 r,fun d=>d.sync 0]=(⟨size,(ik (h0,aG++r)).1,(ik (h0,aG++r)).2,aG,aG,false,-1,aQ⟩,0):=
   (E4 hw).trans ((E4 hy).trans rfl)
  show(match steps ⟨size,h0,aG,aG,aG,false,-1,aQ⟩ [fun d=>d.write 0 r,fun d=>d.sync 0]with
   |(d,e)=>match decide (e=0)with
    |false=>((⟨key,d,s',0,gen⟩:aE),aP.err e)
    |true=>(⟨key,d,s,0,gen⟩,a))=_
  rw[hst];rfl
 ·show(ik (h0,aG++r)).1.size≤B+r.size
  omega
theorem CZ(b:BA):(qv b).size≤b.size+8:=by
 have h:(qv b).size=(Fr.put b.data.toList).length:=by rw[← iz];rfl
 rw[h];by_cases hl:b.data.toList.length≤65536
 ·rw[Fr.De _ hl,iz];exact aas _
 ·unfold Fr.put;rw[abb (by omega)];exact aaF _
theorem CO{o:aw}{K:Nat}(h:o.put.size≤K):(fN o).size≤K+9:=by
 unfold fN;cases seq o.put aG with
 |true=>exact aaF _
 |false=>
  refine aaJ (CZ _) ?_;rw[aI];show 1+o.put.size+8≤K+9
  omega
theorem Oz(s:State)(o:aw):(apply s o).1=s∨((apply s o).2.e=0∧o.writes=true):=by
 unfold apply;cases hr:o.right with
 |false=>exact .inl rfl
 |true=>
 dsimp only;cases h4:within o.kind 4 8 with
 |true=>exact .inl rfl
 |false=>
 dsimp only;have hk:(known o.kind).isSome=true:=by
  unfold aw.right at hr;cases hk:known o.kind with
  |none=>rw[hk]at hr;cases hr
  |some f=>rfl
 have hw:o.writes=true:=by
  have hrange:1≤o.kind∧o.kind≤13:=by
   unfold known at hk;rw[Option.isSome_map,List.find?_isSome]at hk;obtain⟨x,hx,e⟩:=hk;have e:=aat e;have:∀x∈pn,1≤x.1∧x.1≤13:=by decide
   have:=this x hx;omega
  have hn:¬(4≤o.kind∧o.kind≤8):=fun e=>by rw[within_iff.2 e]at h4;cases h4
  unfold aw.writes;rw[adA,within_iff,within_iff];omega
 cases decide (o.kind=13)with
 |true=>exact .inr ⟨rfl,hw⟩
 |false=>
 dsimp only;rcases turns s o with⟨t,id,e⟩
 dsimp only;cases decide (e=0)with
 |false=>exact .inl rfl
 |true=>exact .inr ⟨rfl,hw⟩
theorem NC{s:State}{o:aw}(h:(decide ((apply s o).2.e=0)&&o.writes)=false):(apply s o).1=s:=by
 rcases Oz s o with h1|⟨h1,h2⟩
 ·exact h1
 ·rw[h2,aaB h1]at h;cases h
theorem NH{M B K:Nat}{t:aE}(h:jV M B t){o:aw}(ho:o.put.size≤K)(hB:B+(K+9)≤M):(t.do o).1.key=t.key∧(t.do o).1.s=(apply t.s o).1∧(t.do o).2=(apply t.s o).2∧jV M (B+(K+9)) (t.do o).1:=by
 have hr:=CO ho;unfold aE.do;rw[h.down];dsimp only;cases hc:decide ((apply t.s o).2.e=0)&&o.writes with
 |false=>exact⟨rfl,(NC hc).symm,rfl,h.le (by omega)⟩
 |true=>
  have hf:t.f=0:=by unfold aE.f;rw[h.file];rfl
  have hfull:t.full (fN o)=false:=by
   unfold aE.full;rw[hf];refine aar ?_;have e:(t.d.read 0).size≤B:=by
    show(t.d.h0++t.d.s0).size≤B
    rw[h.s0,aI];exact h.h0
   have e2:(M:Int)≤t.d.size.tdiv 2:=by
    have:=h.room;rw[acp (by omega)];omega
   omega
  dsimp only;rw[hfull];dsimp only;obtain⟨d,e1,e2⟩:=JN h (r:=fN o) (by omega) (apply t.s o).1 (apply t.s o).2;rw[e1];exact⟨rfl,rfl,rfl,e2.le (by omega)⟩
def abs(n:aJ):bG:=⟨n.name,n.t.key,n.t.s⟩
structure eH(M B:Nat)(c:List aJ)(i:List bG):Prop where
 eq:c.map abs=i
 ok:∀n∈c,jV M B n.t
theorem BO{α β:Type}(f:α→β)(p:β→Bool):∀(l:List α) (k:Int),idx p (l.map f) k=idx (fun x=>p (f x)) l k
 | [],_=>rfl
 |x::l,k=>by
  show idx p (f x::l.map f) k=idx (fun x=>p (f x)) (x::l) k
  unfold idx
  rw[BO f p l (k+1)]
theorem AA(c:List aJ)(name:BA):i_ (c.map abs) name=gN c name:=BO abs (fun x:bG=>seq x.name name) c 0
theorem zI(c:List aJ)(name:BA):(c.map abs).find? (fun x=>seq x.name name)=(c.find? fun n=>seq n.name name).map abs:=by rw[List.find?_map];rfl
theorem eH.le{M B C:Nat}{c:List aJ}{i:List bG}(h:eH M B c i)(hBC:B≤C):eH M C c i:=⟨h.eq,fun n hn=>(h.ok n hn).le hBC⟩
def xd(M B C:Nat)(f:aE→aE×aP)(g:State→State×aP):Prop:=∀t,jV M B t→(f t).1.key=t.key∧(f t).1.s=(g t.s).1∧(f t).2=(g t.s).2∧jV M C (f t).1
theorem yB{M B C:Nat}{c:List aJ}{i:List bG}(h:eH M B c i)(hBC:B≤C)(name:BA){f:aE→aE×aP}{g:State→State×aP}(hfg:xd M B C f g):eH M C (gG c name f).1 (gT i name g).1∧(gG c name f).2=(gT i name g).2:=by
 obtain⟨rfl,hok⟩:=h;unfold gG gT;rw[zI,AA];cases hf:c.find? (fun n=>seq n.name name)with
 |none=>exact⟨⟨rfl,fun n hn=>(hok n hn).le hBC⟩,rfl⟩
 |some n=>
  obtain⟨h1,h2,h3,h4⟩:=hfg n.t (hok n (aaW hf));refine⟨⟨?_,fun x hx=>?_⟩,?_⟩
  ·show(c.set _ _).map abs=(c.map abs).set _ _
   rw[List.map_set];show(c.map abs).set _ ⟨n.name,(f n.t).1.key,(f n.t).1.s⟩=(c.map abs).set _ ⟨n.name,n.t.key,(g n.t.s).1⟩
   rw[h1,h2]
  ·rcases abr hx with hx|rfl
   ·exact(hok x hx).le hBC
   ·exact h4
  ·show[(⟨n.name,(f n.t).2⟩:cw)]=[⟨n.name,(g n.t.s).2⟩]
   rw[h3]
theorem Lo{M B C:Nat}{c:List aJ}{i:List bG}(h:eH M B c i){f:aE→aE×aP}{g:State→State×aP}(hfg:xd M B C f g):eH M C (j2 c f).1 (oE i g).1∧(j2 c f).2=(oE i g).2:=by
 obtain⟨rfl,hok⟩:=h;unfold j2 oE;refine⟨⟨?_,fun x hx=>?_⟩,?_⟩
 ·dsimp only;rw[abX,abX];refine acb fun n hn=>?_
  obtain⟨h1,h2,h3,h4⟩:=hfg n.t (hok n hn);show(⟨n.name,(f n.t).1.key,(f n.t).1.s⟩:bG)=⟨n.name,n.t.key,(g n.t.s).1⟩
  rw[h1,h2]
 ·obtain⟨n,hn,rfl⟩:=abc.1 hx;exact(hfg n.t (hok n hn)).2.2.2
 ·dsimp only;rw[abX];refine acb fun n hn=>?_
  show(⟨n.name,(f n.t).2⟩:cw)=⟨n.name,(g n.t.s).2⟩
  rw[(hfg n.t (hok n hn)).2.2.1]
theorem Yo:(fC 1 State.new).size≤220:=by
 unfold fC;refine aaJ (CZ _) ?_;rw[aI,aI];have h1:=bL 1;have h0:=bL 0;have hu0:=bL (av ((0:Nat):Int));have hu1:=bL (av ((1:Nat):Int));have ht:=d_ aG;have hz:aG.size=0:=rfl;have hv:=iC V4.z;have h2:State.new.put.size≤190:=by
  unfold State.put;rw[aI,aI];have e1:State.new.events.put.size≤20:=by
   show(an 0++an (av ((0:Nat):Int))).size≤20
   rw[aI];omega
  have e2:State.new.cJ.put.size≤20:=e1;have e3:(State.new.aj.foldl ld (an State.new.round++an State.new.next++State.new.pool.put++lY State.new.tree++an (av (State.new.aj.length:Nat)))).size≤150:=by
   show(an 0++an 1++(an (av ((0:Nat):Int))++an (av ((0:Nat):Int)))++(an (av ((1:Nat):Int))++(bz aG++cr V4.z++cr V4.z))++an (av ((0:Nat):Int))).size≤150
   rw[aI,aI,aI,aI,aI,aI,aI,aI];omega
  omega
 show 1+(an 1).size+State.new.put.size+8≤220
 omega
theorem UO{M:Nat}{key:BA}{n:Int}(hM:220≤2*M)(h:iy key n=false)(hn:2*(M:Int)≤n):∃d,aE.new key n=(⟨key,d,State.new,0,1⟩,0)∧jV M 220 ⟨key,d,State.new,0,1⟩:=by
 have hs:=Yo;obtain⟨d,e1,e2⟩:=JN (M:=M) (B:=0) (t:=⟨key,aS.new n,State.new,0,1⟩) ⟨rfl,rfl,rfl,aas _,rfl,rfl,rfl,hn⟩ (r:=fC 1 State.new) (by omega) State.new aP.z;refine⟨d,?_,e2.le (by omega)⟩;unfold aE.new;unfold iy at h;rw[h];dsimp only;unfold aE.nn at e1;have hst:(steps (aS.new n) [fun d=>d.write 0 (fC 1 State.new),fun d=>d.sync 0])=(d,0):=by
  have e1':(match steps (aS.new n) [fun d=>d.write 0 (fC 1 State.new),fun d=>d.sync 0]with
   |(d,e)=>match decide (e=0)with
    |false=>((⟨key,d,State.new,0,1⟩:aE),aP.err e)
    |true=>(⟨key,d,State.new,0,1⟩,aP.z))=(⟨key,d,State.new,0,1⟩,aP.z):=e1
  rcases hx:steps (aS.new n) [fun d=>d.write 0 (fC 1 State.new),fun d=>d.sync 0]with⟨d',e'⟩
  rw[hx]at e1';dsimp only at e1';cases he:decide (e'=0)with
  |true=>
   rw[he]at e1';have:=aat he;have e3:d'=d:=congrArg (fun x:aE×aP=>x.1.d) e1';rw[e3,this]
  |false=>
   rw[he]at e1';have:e'=0:=congrArg (fun x:aE×aP=>x.2.e) e1';rw[this]at he;cases he
 rw[hst];rfl
theorem UT{key:BA}{n:Int}(h:iy key n=true):aE.new key n=(aE.z,1):=by
 unfold aE.new;unfold iy at h;rw[h]
theorem Tm(c:List aJ)(name:BA):rK (c.map abs) name=kS c name:=by
 unfold rK kS;rw[List.findIdx_map];rfl
structure uq(M K:Nat)(e:bV)(q:Option (bD×aw)):Prop where
 oH:e.kind≠5∧e.kind≠6∧e.kind≠7
 room:e.kind=1→2*(M:Int)≤e.n∨iy e.key e.n=true
 op:e.o.put.size≤K
 ask:∀k o,q=some (k,o)→o.put.size≤K
theorem Sk:gI.put.size≤1:=by decide
theorem ZN{M B K:Nat}{c:List aJ}{i:List bG}{e:bV}{q:Option (bD×aw)}(h:eH M B c i)(he:uq M K e q)(hk:e.kind=1)(hB:220≤B)(hM:B≤M):eH M B (nl c e).1 (lF i e).1∧(nl c e).2=(lF i e).2:=by
 obtain⟨rfl,hok⟩:=h;unfold nl lF;rw[AA,aao,Tm];cases cQ e.aq with
 |false=>exact⟨⟨rfl,hok⟩,rfl⟩
 |true=>
 dsimp only;cases decide (0≤gN c e.aq)with
 |true=>exact⟨⟨rfl,hok⟩,rfl⟩
 |false=>
 dsimp only;cases decide (8≤(c.length:Int))with
 |true=>exact⟨⟨rfl,hok⟩,rfl⟩
 |false=>
 dsimp only;cases hb:iy e.key e.n with
 |true=>rw[UT hb];exact⟨⟨rfl,hok⟩,rfl⟩
 |false=>
  have hn:2*(M:Int)≤e.n:=by
   rcases he.room hk with h|h
   ·exact h
   ·rw[hb]at h;cases h
  obtain⟨d,e1,e2⟩:=UO (by omega) hb hn;rw[e1];refine⟨⟨?_,fun x hx=>?_⟩,rfl⟩
  ·show(c.take _++_::c.drop _).map abs=(c.map abs).take _++_::(c.map abs).drop _
   rw[aaC,aaZ,acB,adr];rfl
  ·have hx:x∈c.take (kS c e.aq)++(⟨e.aq,⟨e.key,d,State.new,0,1⟩⟩:aJ)::c.drop (kS c e.aq):=hx;rcases aaN.1 hx with hx|hx
   ·exact hok x (aaV hx)
   ·rcases aaI.1 hx with rfl|hx
    ·exact e2.le hB
    ·exact hok x (aby hx)
theorem B5{M B K:Nat}{o:aw}(ho:o.put.size≤K)(hB:B+(K+9)≤M):xd M B (B+(K+9)) (fun t=>t.do o) fun s=>apply s o:=fun _ ht=>NH ht ho hB
theorem QU{M B K:Nat}{c:List aJ}{i:List bG}{e:bV}{q:Option (bD×aw)}(h:eH M B c i)(he:uq M K e q)(hM:B+(K+9)≤M):eH M (B+(K+9)) (nf c q).1 (iZ i q).1∧(nf c q).2=(iZ i q).2:=by
 have h':=h.le (abj B (K+9));rcases q with _|⟨k,o⟩
 ·exact⟨h',rfl⟩
 have hs:=yB h (abj B (K+9)) k.aq (B5 (he.ask k o rfl) hM);obtain⟨rfl,hok⟩:=h;unfold nf iZ ic;dsimp only;rw[zI];cases hf:c.find? (fun n=>seq n.name k.aq)with
 |none=>exact⟨h',rfl⟩
 |some n=>
  dsimp only[Option.map];have hn:=hok n (aaW hf);show eH M (B+(K+9)) (match k.check n.t.key with|false=>((c,say aG 13):lX)|true=>_).1 (match k.check n.t.key with|false=>((c.map abs,say aG 13):kp)|true=>_).1∧(match k.check n.t.key with|false=>((c,say aG 13):lX)|true=>_).2=(match k.check n.t.key with|false=>((c.map abs,say aG 13):kp)|true=>_).2
  cases k.check n.t.key with
  |false=>exact⟨h',rfl⟩
  |true=>
  rw[hn.down];dsimp only;show eH M (B+(K+9)) (match decide (gM n.t.key k o n.t.s.round=0)with|false=>((c,say k.aq _):lX)|true=>_).1 (match decide (gM n.t.key k o n.t.s.round=0)with|false=>((c.map abs,say k.aq _):kp)|true=>_).1∧(match decide (gM n.t.key k o n.t.s.round=0)with|false=>((c,say k.aq _):lX)|true=>_).2=(match decide (gM n.t.key k o n.t.s.round=0)with|false=>((c.map abs,say k.aq _):kp)|true=>_).2
  cases decide (gM n.t.key k o n.t.s.round=0)with
  |false=>exact⟨h',rfl⟩
  |true=>exact hs
theorem Rg{M B K:Nat}{R:aE→aE×aP}(hR:∀t,t.d.down=false→R t=(t,.err 15)){c:List aJ}{i:List bG}{e:bV}{q:Option (bD×aw)}(h:eH M B c i)(he:uq M K e q)(hK:1≤K)(hB:220≤B)(hM:B+(K+9)≤M):eH M (B+(K+9)) (ed R c e q).1 (fi i e q).1∧(ed R c e q).2=(fi i e q).2:=by
 have h':=h.le (abj B (K+9));have hwake:xd M B (B+(K+9)) R fun s=>(s,.err 15):=fun t ht=>by
  rw[hR t ht.down];exact⟨rfl,rfl,rfl,ht.le (abj _ _)⟩
 obtain⟨p5,p6,p7⟩:=he.oH;unfold ed fi;cases h1:decide (e.kind=1)with
 |true=>
  have:=ZN h he (aat h1) hB (by omega);exact⟨this.1.le (abj _ _),this.2⟩
 |false=>
 dsimp only;cases h2:decide (e.kind=2)with
 |true=>
  dsimp only;unfold qb mQ;have hat:i_ i e.aq=gN c e.aq:=by rw[← h.eq];exact AA c e.aq
  rw[hat];cases decide (0≤gN c e.aq)&&!within e.o.kind 9 12 with
  |true=>exact⟨h',rfl⟩
  |false=>exact yB h (abj _ _) _ (B5 he.op hM)
 |false=>
 dsimp only;cases h3:decide (e.kind=3)with
 |true=>exact Lo h (B5 (aaJ Sk hK) hM)
 |false=>
 dsimp only;cases h4:decide (e.kind=4)with
 |true=>exact QU h he hM
 |false=>
 dsimp only;rw[aar p5,aar p6,aar p7];dsimp only;cases h8:decide (e.kind=8)with
 |true=>exact Lo h hwake
 |false=>
 dsimp only;cases h9:decide (e.kind=9)with
 |true=>exact yB h (abj _ _) _ hwake
 |false=>exact⟨h',rfl⟩
abbrev rY:=Option (bD×aw)
abbrev aU:=bV×rY
structure bf where
 k:UInt8
 a:UInt8
 b:UInt8
 c:UInt8
 d:UInt8
 kind:UInt8
 t:UInt8
 n:UInt8
abbrev sA:BA:=⟨#[97]⟩
abbrev mA:BA:=⟨#[97,47,98]⟩
abbrev sB:BA:=⟨#[98]⟩
abbrev jU:BA:=⟨#[206,179]⟩
abbrev sW:BA:=⟨#[206,177,206,178]⟩
abbrev sX:BA:=⟨#[120]⟩
abbrev rQ:BA:=⟨#[110,49]⟩
abbrev sM:BA:=⟨#[110,50]⟩
abbrev DY:BA:=⟨#[110,51]⟩
abbrev FV:BA:=⟨#[208,180,208,190,208,188]⟩
abbrev qy:BA:=⟨#[122,111,110,101]⟩
abbrev cG:BA:=⟨#[107,101,121]⟩
abbrev sK:BA:=⟨#[107]⟩
abbrev sD:BA:=⟨#[100]⟩
abbrev uW:BA:=⟨#[120,32,121]⟩
def pick(l:List BA)(i:Nat):BA:=(l[i]?).getD aG
abbrev cq:List BA:=[sA,sB,jU]
def bf.name(x:bf):BA:=pick cq (x.t.toNat%3)
def bf.cR(x:bf):List Term:=match decide (200<x.d.toNat)with
 |true=>[⟨qy,decide (x.d.toNat%2=1),[sA]⟩]
 |false=>[]
def bf.aM(x:bf):Spec:=⟨pick [sA,mA,sB,sW] (x.a.toNat%4),⟨UInt64.ofNat (x.b.toNat%5),UInt64.ofNat (x.b.toNat / 5%5),0,UInt64.ofNat (x.b.toNat / 25%3)⟩,((1+x.c.toNat%3:Nat):Int),((x.c.toNat / 3%4:Nat):Int),((1+x.d.toNat%5:Nat):Int),x.cR⟩
def bf.node(x:bf):BA:=pick [rQ,sM,DY,FV] (x.b.toNat%4)
def bf.path(x:bf):BA:=pick [sA,mA,sB,sW,sX] (x.a.toNat%5)
def bf.labels(x:bf):List bM:=match decide (0<x.c.toNat%3)with
 |true=>[⟨qy,pick [sA,sB] (x.c.toNat%2)⟩]
 |false=>[]
def bf.fr(x:bf)(k:Nat):aw:=
 match decide (k≤4)with
 |true=>{aw.z with kind:=1,x:=x.aM}
 |false=>match decide (k=5)with
  |true=>{aw.z with kind:=2,id:=UInt64.ofNat (x.a.toNat%12)}
  |false=>match decide (k=6)with
   |true=>{aw.z with kind:=3,path:=x.path,v:=⟨UInt64.ofNat (x.c.toNat%24),20,20,20⟩}
   |false=>match decide (k=7)with
    |true=>{aw.z with kind:=4,id:=UInt64.ofNat (x.a.toNat%14)}
    |false=>match decide (k=8)with
     |true=>{aw.z with kind:=5,n:=UInt64.ofNat x.a.toNat}
     |false=>match decide (k=9)with
      |true=>{aw.z with kind:=6,n:=UInt64.ofNat (x.a.toNat%40)}
      |false=>match decide (k=10)with
       |true=>{aw.z with kind:=7,path:=pick [aG,x.path] (x.b.toNat%2)}
       |false=>match decide (k=11)with
        |true=>{aw.z with kind:=8,path:=x.node}
        |false=>match decide (k=12)with
         |true=>{aw.z with kind:=9,v:=⟨UInt64.ofNat (20+x.c.toNat%20),30,30,30⟩}
         |false=>match decide (k≤14)with
          |true=>{aw.z with kind:=10,path:=x.node,v:=⟨UInt64.ofNat (2+x.c.toNat%6),9,9,9⟩,labels:=x.labels}
          |false=>match decide (k=15)with
           |true=>{aw.z with kind:=11,path:=x.node}
           |false=>match decide (k=16)with
            |true=>{aw.z with kind:=12,path:=x.node}
            |false=>gI
def bf.op(x:bf):aw:=x.fr (x.k.toNat%20)
def bV.z:bV:=⟨0,aG,aG,0,0,aw.z,aG⟩
def sG(t:bD)(o:aw):rY:=match t.may&&o.right with
 |true=>some (t,o)
 |false=>none
def dx(t:bD)(o:aw):aU:=({bV.z with kind:=4,bytes:=kr t o},sG t o)
def dK(name:BA):bD:=bD.new (cG++name) name
def lz(loss:Bool)(k:Nat):Int:=match !loss&&(decide (5≤k)&&decide (k≤7))with
 |true=>0
 |false=>(k:Int)
def bf.di(x:bf)(loss:Bool)(k:Nat):aU:=match decide (k<4)with
 |true=>({bV.z with kind:=3},none)
 |false=>match decide (k=4)&&loss with
  |true=>({bV.z with kind:=7,aq:=x.name,n:=((x.n.toNat%9:Nat):Int),aQ:=(x.c.toNat:Int)},none)
  |false=>match decide (k=5)&&loss with
   |true=>({bV.z with kind:=6,aq:=x.name,aQ:=(x.c.toNat:Int)},none)
   |false=>match decide (k=6)&&loss with
    |true=>({bV.z with kind:=5,aQ:=(x.c.toNat:Int)},none)
    |false=>match decide (k<10)&&loss with
     |true=>({bV.z with kind:=((8+x.n.toNat%2:Nat):Int),aq:=x.name},none)
     |false=>match decide (k=10)with
      |true=>({bV.z with kind:=1,aq:=pick [sA,sD,uW,jU] (x.n.toNat%4),key:=sK,n:=50000},none)
      |false=>match decide (k=11)with
       |true=>dx (bD.new (cG++x.name) (pick cq (x.n.toNat%3))) x.op
       |false=>match decide (k=12)with
        |true=>dx ((dK x.name).narrow ⟨((1+x.n.toNat%2:Nat):Int),UInt64.ofNat (x.n.toNat / 2%9)⟩) x.op
        |false=>match decide (k=13)with
         |true=>({bV.z with kind:=lz loss (x.n.toNat%12),aq:=x.name,o:=x.op,bytes:=⟨#[x.n,x.t]⟩},none)
         |false=>match(dn x.op).2 with
          |false=>({bV.z with kind:=2,aq:=x.name,o:=x.op},none)
          |true=>dx (dK x.name) x.op
def bf.dV(loss:Bool)(x:bf):aU:=x.di loss (x.kind.toNat%24)
def jD(p:BA):aw:={aw.z with kind:=3,path:=p,v:=⟨12,20,20,20⟩}
def ul(p:BA)(n:UInt64):aw:={aw.z with kind:=10,path:=p,v:=⟨n,9,9,9⟩}
def iL:List aw:=[{aw.z with kind:=9,v:=⟨30,30,30,30⟩},jD sA,jD mA,jD sB,ul rQ 4,ul sM 6]
def ju(name:BA)(o:aw):aU:=match decide (o.kind=3)with
 |true=>dx (dK name) o
 |false=>({bV.z with kind:=2,aq:=name,o:=o},none)
def lZ(size:Int)(name:BA):List aU:=({bV.z with kind:=1,aq:=name,key:=cG++name,n:=size},none)::iL.map (ju name)
def opened(size:Int):List aU:=lZ size sA++(lZ size sB++lZ size jU)
def lH(l:List bf)(loss:Bool)(size:Int):List aU:=opened size++(l.take 40).map (bf.dV loss)
def fM:aU:=({bV.z with kind:=3},none)
def iY{α:Type}(play:α→aU→α×List cw):α→List aU→α×List (List cw)
 |c,[]=>(c,[])
 |c,x::l=>match play c x with
  |(d,r)=>match iY play d l with
   |(e,rs)=>(e,r::rs)
abbrev dg(i:List bG)(l:List aU):List bG×List (List cw):=iY (fun i x=>fi i x.1 x.2) i l
abbrev dc(R:aE→aE×aP)(c:List aJ)(l:List aU):List aJ×List (List cw):=iY (fun c x=>ed R c x.1 x.2) c l
theorem vn{α:Type}(play:α→aU→α×List cw):∀(l m:List aU) (c:α),iY play c (l++m)=((iY play (iY play c l).1 m).1,(iY play c l).2++(iY play (iY play c l).1 m).2)
 | [],m,c=>rfl
 |x::l,m,c=>by
  have ih:=vn play l m (play c x).1
  show((iY play (play c x).1 (l++m)).1,(play c x).2::(iY play (play c x).1 (l++m)).2)=_
  rw[ih]
  rfl
theorem qg{M K:Nat}{R:aE→aE×aP}(hR:∀t,t.d.down=false→R t=(t,.err 15))(hK:1≤K):∀(l:List aU) {B:Nat} {c:List aJ} {i:List bG},eH M B c i→(∀x∈l,uq M K x.1 x.2)→220≤B→B+l.length*(K+9)≤M→
 eH M (B+l.length*(K+9)) (dc R c l).1 (dg i l).1∧(dc R c l).2=(dg i l).2
 | [],B,c,i,h,_,_,_=>⟨h.le (abj _ _),rfl⟩
 |x::l,B,c,i,h,he,hB,hM=>by
  rw[aaL,abL]at hM⊢
  have h1:=Rg hR h (he x aaA) hK hB (by omega)
  have h2:=qg hR hK l h1.1 (fun y hy=>he y (aaz _ hy)) (by omega) (by omega)
  have e1:(dc R c (x::l))=((dc R (ed R c x.1 x.2).1 l).1,(ed R c x.1 x.2).2::(dc R (ed R c x.1 x.2).1 l).2):=rfl
  have e2:(dg i (x::l))=((dg (fi i x.1 x.2).1 l).1,(fi i x.1 x.2).2::(dg (fi i x.1 x.2).1 l).2):=rfl
  rw[e1,e2]
  refine⟨?_,?_⟩
  ·rw[show B+(l.length*(K+9)+(K+9))=B+(K+9)+l.length*(K+9)by omega]
   exact h2.1
  ·dsimp only
   rw[h1.2,h2.2]
end
end Go.Proofs.YtbnonpbnhenkfaaGreatDoor
