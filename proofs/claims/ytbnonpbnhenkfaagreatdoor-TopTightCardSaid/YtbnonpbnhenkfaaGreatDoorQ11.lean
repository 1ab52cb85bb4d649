/- Part 11 of the proof; the last part says what is proved. -/
import Derived.Test.YtbnonpbnhenkfaaGreatDoorQ10
import Derived.Sort.AssemblyPlain
import Derived.Sort.LotD4
import Derived.Laws.Bits64b
import Derived.Sort.LotD3
import Derived.Sort.LotC
import Derived.OrdersIn
set_option linter.all false
set_option maxRecDepth 1000000
set_option maxHeartbeats 8000000
namespace Go.Proofs.YtbnonpbnhenkfaaGreatDoor
section
open Go.RowKit Go.Shelf
attribute [local go_sem] Oper.semAt_some
theorem WS:(Tryz.prog.info? 30).map (fun i=>(i.zero,i.size,i.bytes))=some (some (.int .u64 0),1,8):=by kernel_rfl
theorem X_(Bm o B:Nat)(es:Array MapEntry)(cl:Nat)(K:List UInt64)(hK:es.toList.map (·.key)=K.map uV)(hmk:gY es cl)(hKl:K.length≤67108864)(w:World)(hc0:w.cell? ⟨Bm,o,none⟩=some (.map (some B)))(hB:w.heap[B]? = some (.map es cl)):
 CallsIn Fence.wide 2 Tryz.prog 424 #[.slice none 0 0,.func (.func 412) #[] #[.pointer (some ⟨Bm,o,none⟩)]] w fun e W'=>∃(v:Value) (ys:List UInt64),e=.returned v∧ys.Perm K∧W'.ownsRow w.heap.size 30 1 v ys.length (ys.map uV)∧Below w.heap.size w W':=by
 obtain⟨i0,hi,hz0,hz1,hz2⟩:=info_parts WS
 refine callsIn_of_wp_marks Tryz.func424 rfl trivial ?_ rfl
 simp only[Tryz.ntmps424,abv,aaL,abQ,Nat.reduceAdd,Nat.reduceSub,Array.replicate_succ,Array.replicate_zero,List.push_toArray,List.append_toArray,aci,aca]
 gi_wp2
 have bO:=Boxed.new w 82 (.slice none 0 0)
 have hB0:Below w.heap.size w (w.alloc (.cells #[.slice none 0 0] 82)):=(Below.refl _ w).alloc (aas _) _
 have hc1:(w.alloc (.cells #[.slice none 0 0] 82)).cell? ⟨Bm,o,none⟩=some (.map (some B)):=(hB0.cell (p:=⟨Bm,o,none⟩) (qp hc0)).trans hc0
 have hB1:(w.alloc (.cells #[.slice none 0 0] 82)).heap[B]? = some (.map es cl):=(hB0.block B (aaP.1 hB).1).trans hB
 refine wpIn_rangeFunc_ownG rfl (by omega) (gf:=412) (lb:=#[.pointer (some ⟨Bm,o,none⟩)]) rfl trivial (enters_of Tryz.func412 (by kernel_rfl) rfl)
  (Y9 Bm o B es cl K hK hmk _ hc1 hB1) (fun h k=>h.trans k) (fun W l o o' h1 h2 h3 h4=>KeepsWalks.putObj _ h2 h4) (Below.refl _ _) (fun _=>rfl)
  (fun pre W=>(∃v,Boxed W w.heap.size 82 v∧W.ownsRow (w.heap.size+1) 30 1 v pre.length (pre.map uV)∧True)∧Below w.heap.size w W)
  (fun _ _ _=>False)
  (OwnFrom.and (Own.from (holdsRow_own (w.heap.size+1) w.heap.size 82 30 1 (fun pre:List UInt64=>pre.length) (fun pre=>pre.map uV) (fun _ _=>True)) _) (ownFrom_below (aas _) (by simp)))
  (fun _ _ _ _ _ hs _ _=>hs)
  ⟨⟨_,bO,World.ownsRow_nil _ _ _ _,trivial⟩,hB0⟩
  (fun x=>{tmps:=#[.slice none 0 0,.func (.func 412) #[] #[.pointer (some ⟨Bm,o,none⟩)],.pointer (some ⟨w.heap.size,0,none⟩),undef,.slice none 0 0,uV x,.func (.func 412) #[] #[.pointer (some ⟨Bm,o,none⟩)],uV x,undef,undef,undef,undef,undef],defers:=[]}) ?assign ?body ?done ?stop
 case assign=>
  intro l x W K hK
  gi_wp2
  exact hK
 case body=>
  rintro l pre x W ⟨⟨v,hv,hrow,-⟩,hB⟩ hlt
  have hc:=hv.cell
  have hlen:pre.length<K.length:=hlt
  have hsz:=hB.size
  have hblk:=hrow.lt
  have HBLK:=Lib.hid hblk;clear hblk
  gi_wp2_with (gi_at_builtin;refine wpListIn_append_own _ rfl _ _ 82 rfl (w.heap.size+1) 30 i0 (.int .u64 0) 1 8 Tryz.underlying82 hi hz0 hz1 hz2 rfl (by decide) _ _ _ rfl (hrow.alloc _) ⟨W.heap.size,0,none⟩ 1 1 [uV x] rfl rfl (cell_one_new _ _ _) (by simp[Value.oneCell']) (by unfold maxLen;omega) (by omega) (by have:=hv.lt;simp;omega) ?_;intro v' w1 hown' hgrow _;obtain⟨g',cap',rfl⟩:=ownsRow_succ hown';obtain⟨hv1,hv2,hr2,hk2,hb2⟩:=hv.appended (by decide) (hrow.mono (by omega)) hB.size (aas _) (hown'.mono (by omega)) hgrow;have hr3:=hown'.kept (grownBy_setCell' w1 w.heap.size (.slice (some ⟨g',0,none⟩) (pre.length+1) cap')) (.inr (hv1.not_row (by decide) hown').symm);have hc1:=hv1.cell;have hf1:=hv1.frozen;have HGR:=Lib.hid hgrow;clear hgrow)
  refine⟨hk2.from _,hk2.walks,⟨⟨_,hv2,?_,trivial⟩,hB.trans hb2⟩⟩
  simpa using hr3
 case done=>
  rintro D ys W hD hS ⟨⟨v,hv,hrow,-⟩,hB⟩ hK
  have hc:=hv.cell
  have hf:=hv.frozen
  obtain⟨a,n,c,rfl⟩:∃a n c,v=.slice a n c:=by
   rcases hrow.2 with⟨rfl,_⟩|⟨g,cap,_,rfl,_⟩
   ·exact⟨_,_,_,rfl⟩
   ·exact⟨_,_,_,rfl⟩
  gi_wp2
  refine⟨by simp,.inl ⟨_,_,rfl,run_takeDeferred hK,?_⟩⟩
  have hDlt:w.heap.size+1≤D:=by simpa using hD
  have hr3:=ownsRow_putObj (W:=W) (hrow.mono (show w.heap.size≤w.heap.size+1 by omega)) (.deferred none) hK rfl
  have hB3:=hB.trans (belowK_b (w:=w) (aas _) W D _ (.deferred none) (by omega) hK rfl rfl)
  refine⟨.slice a n c,?_,_,ys,rfl,hS,hr3,hB3⟩
  simp[results,Tryz.results424,go_sem]
 case stop=>
  rintro D c pre W _ _ h _
  exact h.elim
theorem MI(Bm o B:Nat)(es:Array MapEntry)(cl:Nat)(K:List UInt64)(hK:es.toList.map (·.key)=K.map uV)(hmk:gY es cl)(hKl:K.length≤67108864)(w:World)(hc0:w.cell? ⟨Bm,o,none⟩=some (.map (some B)))(hB:w.heap[B]? = some (.map es cl)):
 Calls Tryz.prog 410 #[.func (.func 412) #[] #[.pointer (some ⟨Bm,o,none⟩)]] w fun e W'=>∃(v:Value) (ys:List UInt64),e=.returned v∧ys.Perm K∧W'.ownsRow w.heap.size 30 1 v ys.length (ys.map uV)∧Below w.heap.size w W':=by
 have hA:=callsIn_wide.1 (X_ Bm o B es cl K hK hmk hKl w hc0 hB)
 have eA:∀args w,(callFunc 424 args).run Tryz.prog w=.ok (.enter 424 args) w:=enters_of Tryz.func424 (by kernel_rfl) rfl
 go_enter Tryz.func410,Tryz.ntmps410
 go_wp2_with (go_at_call 424;refine hA.mono ?_;rintro e w1 ⟨v,ys,rfl,h1,h2,h3⟩)
 go_ret
 exact⟨_,ys,rfl,h1,h2,h3⟩
end
section
open Go.RowKit
abbrev uI(x:Int):PV:=.at (.int .u64 x)
abbrev UB(d:Array Int):aA:=.rows 1 (d.toList.map uI) true none 30
theorem bJ(d:Array Int):cE (d.toList.map uI):=Iq (fun _=>rfl) _
theorem T3{d:Array Int}{i:Nat}(h:i<d.size):d.toList[i]? = some d[i]!:=by rw[aaU,adG h,adC d i h]
theorem ZB(d:Array Int){i:Nat}(h:i<d.size):PV.nth (d.toList.map uI) (0+i)=some (uI d[i]!):=by rw[aav];exact uE uI _ _ _ (T3 h)
theorem bQ(d:Array Int){i:Nat}(h:i<d.size){k:PV→Prop}(hk:k (uI d[i]!)):dC (d.toList.map uI) ((0+i:Nat):Int) k:=
 dC.intro _ (by rw[abk];exact ZB d h) (abE _) hk
theorem G'{α:Type}(f:α→PV)(x:α):∀(l:List α) (i:Nat),PV.c9 (l.map f) i (f x)=(l.set i x).map f
 | [],i=>by cases i<;>rfl
 |_::_,0=>rfl
 |a::l,i+1=>congrArg (f a::·) (G' f x l i)
theorem y5(d:Array Int)(i:Nat)(x:Int):PV.c9 (d.toList.map uI) (0+i) (uI x)=(d.setIfInBounds i x).toList.map uI:=by rw[aav,G' uI x,Array.toList_setIfInBounds]
theorem gL(d:Array Int){i j:Nat}(x:Int)(h:j<d.size){k:PV→Prop}(hk:∀z,k (uI z)):dC (PV.c9 (d.toList.map uI) (0+i) (uI x)) ((0+j:Nat):Int) k:=by
 rw[y5];exact bQ _ (by rw[Array.size_setIfInBounds];exact h) (hk _)
theorem PH(d:Array Int)(i j:Nat):PV.c9 (PV.c9 (d.toList.map uI) (0+i) (uI d[j]!)) (0+j) (uI d[i]!)=(Sort.swp d i j).toList.map uI:=by rw[y5,y5];rfl
theorem gZ(d:Array Int)(i j:Nat){hp:Option aA}(h:hp=some (.rows 1 (PV.c9 (PV.c9 (d.toList.map uI) (0+i) (uI d[j]!)) (0+j) (uI d[i]!)) true none 30)):hp=some (UB (Sort.swp d i j)):=by rw[h,PH]
end
section
open Go.RowKit Go.Sort
theorem Xc(x:Int):PC 186 [uI x] (·=bo false):=al Tryz.func186<|ae.is true (aaB rfl)<|ab
theorem gn(x y:Int):PC 441 [uI x,uI y] (·=bo (ltInt x y)):=al Tryz.func441<|af (Xc x) rfl<|ae.is (ltInt x y) rfl<|ab
abbrev UL(f:FuncId)(args:List PV)(d d':Array Int)(r:PV)(j nx:Nat):Prop:=LC f (.aH j 0 d.size::args) [(j,UB d)] nx fun q e=>q=r∧e=[(j,some (UB d')),(j,none)]
theorem sb{f:FuncId}{fn:Func}{args:List PV}{d d':Array Int}{r:PV}{j nx:Nat}(hf:Tryz.prog.funcs[f]? = some fn)(hn:(fn.name== "runtime.NumGoroutine")=false)(hne:Nat.beq nx j=false)(hr:PV.fD (fun i=>(PV.nth [j] i).getD 0) args=args)(hl:PV.h_ 1 args=true)
 (h:vL 1 Tryz.prog GT tt fn (.aH 0 0 d.size::args) [UB d] [j] nx fun q e=>q=r∧e=[(j,some (UB d')),(j,none)]):UL f args d d' r j nx:=by
 have:=eK (js:=[j]) (bs:=[UB d]) (args:=.aH 0 0 d.size::args) hf hn rfl (by unfold cf;rw[hne];rfl) rfl ⟨⟨rfl,bJ d⟩,trivial⟩ hl (sS h)
 have e2:PV.fD (fun i=>(PV.nth [j] i).getD 0) (.aH 0 0 d.size::args)=.aH j 0 d.size::args:=by
  show PV.aH j 0 d.size::PV.fD _ args=_
  rw[hr]
 rw[e2]at this
 exact this
theorem UL.at{f:FuncId}{args:List PV}{d d':Array Int}{r:PV}{j nx n:Nat}(h:UL f args d d' r j nx)(e:d.size=n):LC f (.aH j 0 n::args) [(j,UB d)] nx fun q e=>q=r∧e=[(j,some (UB d')),(j,none)]:=e▸h
theorem gh{d d':Array Int}{r:PV}{j nx m:Nat}{s:AS}{fn:Func}(hh:s.hp 0=some (UB d))(hd:d=d')(hr:gX tt s fn.results.toList fun vs=>cY [0] 200 s.hp vs=some (vs,[])∧fI (vs.map PV.wk)=r∧PV.rn (kJ [(0,j)]) r=r):nP tt fn [j] nx (fun q e=>q=r∧e=[(j,some (UB d')),(j,none)]) m s:=by
 subst hd;refine du ?_;show gX tt s fn.results.toList _
 have mono:∀(l:List ResultVar) {k k':List PV→Prop},(∀vs,k vs→k' vs)→gX tt s l k→gX tt s l k':=by
  intro l;induction l with
  |nil=>intro k k' hk h;exact hk _ h
  |cons x l ih=>
   intro k k' hk h;cases x with
   |tmp t=>
    unfold gX at h⊢;split at h
    ·exact ih (fun vs=>hk _) h
    ·exact h.elim
   |cell a t=>
    unfold gX at h⊢;split at h
    ·exact Tr.wp_mono (fun p _ h=>ih (fun vs=>hk _) h) h
    ·exact h.elim
 refine mono _ (fun vs h=>?_) hr;obtain⟨h1,h2,h3⟩:=h;refine dW.mk ⟨[(0,j)],200,vs,[],h1,rfl,rfl,⟨dz.mk ⟨_,hh,bJ d,.inr rfl⟩,trivial⟩,?_,?_⟩
 ·rw[h2,h3]
 ·show[(j,wA (s.hp 0))]++_=_
  rw[hh];rfl
theorem ga(d:Array Int)(i j:Nat):(Sort.swp d i j).size=d.size:=Sort.size_swp d i j
theorem NA(d:Array Int)(a b:Nat)(hb:b≤d.size)(hs:d.size≤67108864)(hab:a<b)(j nx:Nat)(hne:Nat.beq nx j=false):UL 439 [i64 a,i64 b] d (reverseRange d a b) (.aK []) j nx:=by
 refine sb Tryz.func439 rfl hne rfl rfl ?_;obtain⟨b,rfl⟩:∃b',b=b'+1:=⟨b-1,by omega⟩;refine ax (dD b) ?_;refine cv.inv (ι:={p:Nat×Nat×Array Int//p.2.2.size=d.size∧p.2.1≤b∧p.1≤p.2.1+2∧reverseLoop p.1 p.2.1 p.2.2=reverseRange d a (b+1)}) ⟨fun p=>[(6,i64 p.1.1),(7,i64 p.1.2.1)],[0,1,2],fun p=>[(0,UB p.1.2.2)],[]⟩ (fun p=>p.1.2.1+2-p.1.1) ⟨(a,b,d),rfl,aas _,by show a≤b+2;omega,rfl⟩ ?_ ?_
 ·exact bY rfl (bJ _)
 rintro⟨⟨i,k,M⟩,hM,hk,hik,hR⟩;dsimp only at hM hk hik hR;refine ae.two (fun h1=>?_) (fun h1=>?_)
 ·have h1:i<k:=eg h1;obtain⟨k,rfl⟩:∃k',k=k'+1:=⟨k-1,by omega⟩;rw[reverseLoop,abb h1]at hR;refine ah<|ak.mk (bg (show k+1<d.size by omega))<|bQ M (i:=k+1) (by omega)<|ak.mk (bg (show i<d.size by omega))<|bQ M (i:=i) (by omega)<|ak.mk (bg (show i<d.size by omega))<|bQ M (i:=i) (by omega)<|ak.mk (bg (show k+1<d.size by omega))<|gL M (i:=i) (j:=k+1) _ (by omega) fun z=>?_
  refine ar<|ax (cO i)<|ax (dD k)<|⟨⟨(i+1,k,Sort.swp M i (k+1)),by show(Sort.swp M i (k+1)).size=_;rw[ga,hM],by show k≤b;omega,by show i+1≤k+2;omega,hR⟩,id,?_,?_⟩
  ·show k+2-(i+1)<k+1+2-i;omega
  exact dv ⟨⟨BB.aO (gZ M i (k+1) rfl) (bJ _),rfl⟩,trivial⟩
 ·have h1:¬i<k:=fun h=>aaw h1 (abG.2 h)
  rw[reverseLoop,abg h1]at hR;exact aa<|gh rfl hR ⟨rfl,rfl,rfl⟩
theorem insInner_stop{a k:Nat}{N:Array Int}(h:k=0∨¬a<k∨ltInt N[k]! N[k-1]! = false):insInner ltInt a k N=N:=by
 cases k with
 |zero=>rfl
 |succ k=>
  unfold insInner;rw[abg];intro hc;simp only[abm,adH]at hc;rcases h with h|h|h
  ·omega
  ·omega
  ·rw[show k+1-1=k by omega]at h;rw[h]at hc;cases hc.2
theorem insInner_go{a k:Nat}{N:Array Int}(h1:a<k+1)(h2:ltInt N[k+1]! N[k]! = true):insInner ltInt a (k+1) N=insInner ltInt a k (Sort.swp N (k+1) k):=by
 conv=>lhs;unfold insInner
 rw[abb];rw[h2];simp;omega
theorem TO(d:Array Int)(a b:Nat)(hb:b≤d.size)(hs:d.size≤67108864)(ha:a≤67108864)(j nx:Nat)(hne:Nat.beq nx j=false):UL 435 [i64 a,i64 b] d (Sort.insertionSort ltInt d a b) (.aK []) j nx:=by
 refine sb Tryz.func435 rfl hne rfl rfl<|ax (cO a)<|cv.inv (ι:={p:Nat×Array Int//p.2.size=d.size∧a+1≤p.1∧insOuter ltInt a b p.1 p.2=Sort.insertionSort ltInt d a b}) ⟨fun p=>[(6,i64 p.1.1)],[0,1,2],fun p=>[(0,UB p.1.2)],[]⟩ (fun p=>b-p.1.1) ⟨(a+1,d),rfl,aas _,rfl⟩ ?_ ?_
 ·exact bY rfl (bJ _)
 rintro⟨⟨i,M⟩,hM,hi,hR⟩;dsimp only at hM hi hR;refine ae.two (fun h1=>?_) (fun h1=>?_)
 ·have h1:i<b:=eg h1;rw[insOuter,abb h1]at hR;refine ah<|cv.inv (ι:={p:Nat×Array Int//p.2.size=d.size∧p.1≤i∧insInner ltInt a p.1 p.2=insInner ltInt a i M}) ⟨fun p=>[(7,i64 p.1.1)],[0,1,2,6],fun p=>[(0,UB p.1.2)],[]⟩ (fun p=>p.1.1) ⟨(i,M),hM,aas _,rfl⟩ ?_ ?_
  ·exact bY rfl (bJ _)
  rintro⟨⟨k,N⟩,hN,hk,hQ⟩;dsimp only at hN hk hQ;refine ae.two (fun h2=>?_) (fun h2=>?_)
  ·have h2:a<k:=eg h2;obtain⟨k,rfl⟩:∃k',k=k'+1:=⟨k-1,by omega⟩;have hl:=gn N[k+1]! N[k]!;refine ak.mk (bg (show k+1<d.size by omega))<|bQ N (i:=k+1) (by omega)<|ax (dD k)<|ak.mk (bg (show k<d.size by omega))<|bQ N (i:=k) (by omega) ?_;cases h3:ltInt N[k+1]! N[k]! with
   |true=>
    rw[h3]at hl;rw[insInner_go h2 h3]at hQ;refine ay hl rfl<|ar<|ah<|ax (dD k)<|ax (dD k)<|ak.mk (bg (show k<d.size by omega))<|bQ N (i:=k) (by omega)<|ak.mk (bg (show k+1<d.size by omega))<|bQ N (i:=k+1) (by omega)<|ak.mk (bg (show k+1<d.size by omega))<|bQ N (i:=k+1) (by omega)<|ak.mk (bg (show k<d.size by omega))<|gL N (i:=k+1) (j:=k) _ (by omega) fun z=>?_
    refine ar<|ax (dD k)<|⟨⟨(k,Sort.swp N (k+1) k),by show(Sort.swp N (k+1) k).size=_;rw[ga,hN],by show k≤i;omega,hQ⟩,id,abW k,?_⟩;exact dv ⟨⟨BB.aO (gZ N (k+1) k rfl) (bJ _),rfl⟩,trivial⟩
   |false=>
    rw[h3]at hl;rw[insInner_stop (.inr (.inr h3))]at hQ;refine ay hl rfl<|ar<|aa<|ax (cO i)<|⟨⟨(i+1,N),hN,by show a+1≤i+1;omega,by rw[← hQ]at hR;exact hR⟩,id,?_,?_⟩
    ·show b-(i+1)<b-i;omega
    exact bY rfl (bJ _)
  ·have h2:¬a<k:=fun h=>aaw h2 (abG.2 h)
   rw[insInner_stop (.inr (.inl h2))]at hQ;refine ar<|aa<|ax (cO i)<|⟨⟨(i+1,N),hN,by show a+1≤i+1;omega,by rw[← hQ]at hR;exact hR⟩,id,?_,?_⟩
   ·show b-(i+1)<b-i;omega
   exact bY rfl (bJ _)
 ·have h1:¬i<b:=fun h=>aaw h1 (abG.2 h)
  rw[insOuter,abg h1]at hR;exact aa<|gh rfl hR ⟨rfl,rfl,rfl⟩
theorem Wr(a:Nat)(h:a≤67108864):IntKind.i64.wrap (2*(a:Int))=((2*a:Nat):Int):=wrap_i64 (by omega) (by omega)
theorem vV{hi first root:Nat}{d:Array Int}(h:¬hi≤2*root+1)(c:Nat)(hc:c<hi)(hcc:(c=2*root+2∧ltInt d[first+(2*root+1)]! d[first+(2*root+1)+1]! = true)∨(c=2*root+1∧¬(2*root+2<hi∧ltInt d[first+(2*root+1)]! d[first+(2*root+1)+1]! = true))):
 siftDown ltInt hi first root d=if ltInt d[first+root]! d[first+c]! = true then siftDown ltInt hi first c (Sort.swp d (first+root) (first+c))else d:=by
 conv=>lhs;unfold siftDown
 rw[dif_neg h]
 rcases hcc with⟨rfl,hl⟩|⟨rfl,hn⟩
 ·rw[abb (by rw[hl];simp;omega),dif_pos hc]
  cases ltInt d[first+root]! d[first+(2*root+2)]!<;>rfl
 ·rw[abg (by simpa using hn)]
  cases ltInt d[first+root]! d[first+(2*root+1)]!<;>rfl
theorem KR(d:Array Int)(lo hi first:Nat)(hf:first+hi≤d.size)(hs:d.size≤67108864)(hlo:lo≤67108864)(j nx:Nat)(hne:Nat.beq nx j=false):UL 446 [i64 lo,i64 hi,i64 first] d (siftDown ltInt hi first lo d) (.aK []) j nx:=by
 refine sb Tryz.func446 rfl hne rfl rfl<|cv.inv (ι:={p:Nat×Array Int//p.2.size=d.size∧p.1≤67108864∧siftDown ltInt hi first p.1 p.2=siftDown ltInt hi first lo d}) ⟨fun p=>[(8,i64 p.1.1)],[0,1,2,3],fun p=>[(0,UB p.1.2)],[]⟩ (fun p=>hi-p.1.1) ⟨(lo,d),rfl,hlo,rfl⟩ ?_ ?_
 ·exact bY rfl (bJ _)
 rintro⟨⟨root,M⟩,hM,hr,hR⟩;dsimp only at hM hr hR;refine ax (Wr root hr)<|ax (cO (2*root))<|ae.two (fun h1=>?_) (fun h1=>?_)
 ·have h1:hi≤2*root+1:=nN h1;refine ah ?_;have hst:siftDown ltInt hi first root M=M:=by unfold siftDown;rw[dif_pos h1]
  exact gh rfl (hst.symm.trans hR) ⟨rfl,rfl,rfl⟩
 ·have h1:¬hi≤2*root+1:=fun h=>aaw h1 (abS.2 h)
  refine aa<|ax (cO (2*root+1))<|ae.two (fun h2=>?_) (fun h2=>?_)
  ·have h2:2*root+1+1<hi:=eg h2;refine ax (cZ first (2*root+1))<|ak.mk (bg (show first+(2*root+1)<d.size by omega))<|bQ M (i:=first+(2*root+1)) (by omega)<|ax (cZ first (2*root+1))<|ax (cO (first+(2*root+1)))<|ak.mk (bg (show first+(2*root+1)+1<d.size by omega))<|bQ M (i:=first+(2*root+1)+1) (by omega) ?_;cases h4:ltInt M[first+(2*root+1)]! M[first+(2*root+1)+1]! with
   |true=>
    have hl:=gn M[first+(2*root+1)]! M[first+(2*root+1)+1]!;rw[h4]at hl;have hgo:=vV (first:=first) (d:=M) h1 (2*root+2) (by omega) (.inl ⟨rfl,h4⟩);refine ay hl rfl<|ar<|ah<|ax (cO (2*root+1))<|ax (cZ first root)<|ak.mk (bg (show first+root<d.size by omega))<|bQ M (i:=first+root) (by omega)<|ax (cZ first (2*root+2))<|ak.mk (bg (show first+(2*root+2)<d.size by omega))<|bQ M (i:=first+(2*root+2)) (by omega) ?_;cases h3:ltInt M[first+root]! M[first+(2*root+2)]! with
    |true=>
     have hl:=gn M[first+root]! M[first+(2*root+2)]!;rw[h3]at hl hgo;rw[abb rfl]at hgo;refine ay hl rfl<|ar<|aa<|ax (cZ first root)<|ax (cZ first (2*root+2))<|ax (cZ first (2*root+2))<|ak.mk (bg (show first+(2*root+2)<d.size by omega))<|bQ M (i:=first+(2*root+2)) (by omega)<|ax (cZ first root)<|ak.mk (bg (show first+root<d.size by omega))<|bQ M (i:=first+root) (by omega)<|ak.mk (bg (show first+root<d.size by omega))<|bQ M (i:=first+root) (by omega)<|ak.mk (bg (show first+(2*root+2)<d.size by omega)) ?_;refine gL M (i:=first+root) (j:=first+(2*root+2)) _ (by omega) fun z=>?_
     refine ar<|⟨⟨(2*root+2,Sort.swp M (first+root) (first+(2*root+2))),by show(Sort.swp M (first+root) (first+(2*root+2))).size=_;rw[ga,hM],by show 2*root+2≤_;omega,hgo.symm.trans hR⟩,id,by show hi-(2*root+2)<hi-root;omega,?_⟩;exact dv ⟨⟨BB.aO (gZ M (first+root) (first+(2*root+2)) rfl) (bJ _),rfl⟩,trivial⟩
    |false=>
     have hl:=gn M[first+root]! M[first+(2*root+2)]!;rw[h3]at hl hgo;rw[abg acm]at hgo;exact ay hl rfl<|ar<|ah<|gh rfl (hgo.symm.trans hR) ⟨rfl,rfl,rfl⟩
   |false=>
    have hl:=gn M[first+(2*root+1)]! M[first+(2*root+1)+1]!;rw[h4]at hl;have hgo:=vV (first:=first) (d:=M) h1 (2*root+1) (by omega) (.inr ⟨rfl,fun h=>by rw[h4]at h;cases h.2⟩);refine ay hl rfl<|ar<|aa<|ax (cZ first root)<|ak.mk (bg (show first+root<d.size by omega))<|bQ M (i:=first+root) (by omega)<|ax (cZ first (2*root+1))<|ak.mk (bg (show first+(2*root+1)<d.size by omega))<|bQ M (i:=first+(2*root+1)) (by omega) ?_;cases h3:ltInt M[first+root]! M[first+(2*root+1)]! with
    |true=>
     have hl:=gn M[first+root]! M[first+(2*root+1)]!;rw[h3]at hl hgo;rw[abb rfl]at hgo;refine ay hl rfl<|ar<|aa<|ax (cZ first root)<|ax (cZ first (2*root+1))<|ax (cZ first (2*root+1))<|ak.mk (bg (show first+(2*root+1)<d.size by omega))<|bQ M (i:=first+(2*root+1)) (by omega)<|ax (cZ first root)<|ak.mk (bg (show first+root<d.size by omega))<|bQ M (i:=first+root) (by omega)<|ak.mk (bg (show first+root<d.size by omega))<|bQ M (i:=first+root) (by omega)<|ak.mk (bg (show first+(2*root+1)<d.size by omega)) ?_;refine gL M (i:=first+root) (j:=first+(2*root+1)) _ (by omega) fun z=>?_
     refine ar<|⟨⟨(2*root+1,Sort.swp M (first+root) (first+(2*root+1))),by show(Sort.swp M (first+root) (first+(2*root+1))).size=_;rw[ga,hM],by show 2*root+1≤_;omega,hgo.symm.trans hR⟩,id,by show hi-(2*root+1)<hi-root;omega,?_⟩;exact dv ⟨⟨BB.aO (gZ M (first+root) (first+(2*root+1)) rfl) (bJ _),rfl⟩,trivial⟩
    |false=>
     have hl:=gn M[first+root]! M[first+(2*root+1)]!;rw[h3]at hl hgo;rw[abg acm]at hgo;exact ay hl rfl<|ar<|ah<|gh rfl (hgo.symm.trans hR) ⟨rfl,rfl,rfl⟩
  ·have h2:¬2*root+1+1<hi:=fun h=>aaw h2 (abG.2 h)
   have hgo:=vV (first:=first) (d:=M) h1 (2*root+1) (by omega) (.inr ⟨rfl,fun h=>h2 h.1⟩);refine ar<|aa<|ax (cZ first root)<|ak.mk (bg (show first+root<d.size by omega))<|bQ M (i:=first+root) (by omega)<|ax (cZ first (2*root+1))<|ak.mk (bg (show first+(2*root+1)<d.size by omega))<|bQ M (i:=first+(2*root+1)) (by omega) ?_;cases h3:ltInt M[first+root]! M[first+(2*root+1)]! with
   |true=>
    have hl:=gn M[first+root]! M[first+(2*root+1)]!;rw[h3]at hl hgo;rw[abb rfl]at hgo;refine ay hl rfl<|ar<|aa<|ax (cZ first root)<|ax (cZ first (2*root+1))<|ax (cZ first (2*root+1))<|ak.mk (bg (show first+(2*root+1)<d.size by omega))<|bQ M (i:=first+(2*root+1)) (by omega)<|ax (cZ first root)<|ak.mk (bg (show first+root<d.size by omega))<|bQ M (i:=first+root) (by omega)<|ak.mk (bg (show first+root<d.size by omega))<|bQ M (i:=first+root) (by omega)<|ak.mk (bg (show first+(2*root+1)<d.size by omega)) ?_;refine gL M (i:=first+root) (j:=first+(2*root+1)) _ (by omega) fun z=>?_
    refine ar<|⟨⟨(2*root+1,Sort.swp M (first+root) (first+(2*root+1))),by show(Sort.swp M (first+root) (first+(2*root+1))).size=_;rw[ga,hM],by show 2*root+1≤_;omega,hgo.symm.trans hR⟩,id,by show hi-(2*root+1)<hi-root;omega,?_⟩;exact dv ⟨⟨BB.aO (gZ M (first+root) (first+(2*root+1)) rfl) (bJ _),rfl⟩,trivial⟩
   |false=>
    have hl:=gn M[first+root]! M[first+(2*root+1)]!;rw[h3]at hl hgo;rw[abg acm]at hgo;exact ay hl rfl<|ar<|ah<|gh rfl (hgo.symm.trans hR) ⟨rfl,rfl,rfl⟩
def pm:Nat→Int
 |0=>-1
 |k+1=>(k:Int)
theorem Cc(k:Nat)(h:k≤67108864):IntKind.i64.wrap ((k:Int)-1)=pm k:=by
 cases k with
 |zero=>rfl
 |succ k=>exact dD k (by omega)
theorem TK(k:Nat)(h:k≤67108864):IntKind.i64.wrap ((k:Int).tdiv 2)=pm (k / 2+1):=wrap_i64 (show Int.tdiv (Int.ofNat k) (Int.ofNat 2)=pm (k / 2+1)from rfl) (by show _≤((k / 2:Nat):Int)∧((k / 2:Nat):Int)≤_;omega)
theorem BE(hi first:Nat):∀(n root:Nat) (d:Array Int),hi-root≤n→(siftDown ltInt hi first root d).size=d.size
 |n,root,d,hn=>by
  by_cases h:hi≤2*root+1
  ·unfold siftDown;rw[dif_pos h]
  ·obtain⟨c,hc,hcr,hcc⟩:∃c,c<hi∧root<c∧((c=2*root+2∧ltInt d[first+(2*root+1)]! d[first+(2*root+1)+1]! = true)∨(c=2*root+1∧¬(2*root+2<hi∧ltInt d[first+(2*root+1)]! d[first+(2*root+1)+1]! = true))):=by
    by_cases h2:2*root+2<hi∧ltInt d[first+(2*root+1)]! d[first+(2*root+1)+1]! = true
    ·exact⟨2*root+2,h2.1,by omega,.inl ⟨rfl,h2.2⟩⟩
    ·exact⟨2*root+1,by omega,by omega,.inr ⟨rfl,h2⟩⟩
   rw[vV h c hc hcc]
   split
   ·cases n with
    |zero=>omega
    |succ n=>rw[BE hi first n c _ (by omega),ga]
   ·rfl
theorem Ue(d:Array Int)(a b:Nat)(hb:b≤d.size)(hs:d.size≤67108864)(hab:a<b)(j nx:Nat)(hne:Nat.beq nx j=false):UL 436 [i64 a,i64 b] d (heapSort ltInt d a b) (.aK []) j nx:=by
 refine sb Tryz.func436 rfl hne rfl rfl ?_;obtain⟨n,hn⟩:∃n,b-a=n+1:=⟨b-a-1,by omega⟩;have hT:heapSort ltInt d a b=heapPop ltInt a (n+1) (heapBuild ltInt (n+1) a (n / 2+1) d):=by unfold heapSort;rw[hn];rfl
 rw[hT];have hsub:=dY b a (by omega) (by omega);rw[hn]at hsub;refine ax hsub<|ax (dD n)<|cj<|ax (TK n (by omega))<|cv.inv (ι:={p:Nat×Array Int//p.2.size=d.size∧p.1≤n / 2+1∧heapBuild ltInt (n+1) a p.1 p.2=heapBuild ltInt (n+1) a (n / 2+1) d}) ⟨fun p=>[(9,i64 (pm p.1.1))],[0,6,7,8],fun p=>[(0,UB p.1.2)],[]⟩ (fun p=>p.1.1) ⟨(n / 2+1,d),rfl,aas _,rfl⟩ ?_ ?_
 ·exact bY rfl (bJ _)
 rintro⟨⟨k,M⟩,hM,hk,hR⟩;dsimp only at hM hk hR;cases k with
 |succ k=>
  refine ae.t (show(0:Int)≤(k:Int)by omega)<|ah<|a_.bB [0] (n:=200) ((KR M k (n+1) a (by omega) (by omega) (by omega) 0 _ rfl).at hM) rfl ⟨rfl,trivial⟩ ?_;refine ax (Cc k (by omega))<|⟨⟨(k,siftDown ltInt (n+1) a k M),by show(siftDown ltInt (n+1) a k M).size=_;rw[BE _ _ _ _ _ (aas _),hM],by show k≤_;omega,hR⟩,id,abW k,?_⟩;exact bY rfl (bJ _)
 |zero=>
  refine ao<|aa ?_;have hR:M=heapBuild ltInt (n+1) a (n / 2+1) d:=hR;refine ax (Cc (n+1) (by omega))<|cv.inv (ι:={p:Nat×Array Int//p.2.size=d.size∧p.1≤n+1∧heapPop ltInt a p.1 p.2=heapPop ltInt a (n+1) M}) ⟨fun p=>[(10,i64 (pm p.1.1))],[0,6,7],fun p=>[(0,UB p.1.2)],[]⟩ (fun p=>p.1.1) ⟨(n+1,M),hM,aas _,rfl⟩ ?_ ?_
  ·exact bY rfl (bJ _)
  rintro⟨⟨k,N⟩,hN,hk,hQ⟩;dsimp only at hN hk hQ;cases k with
  |succ k=>
   refine ae.t (show(0:Int)≤(k:Int)by omega)<|ah<|ax (cZ a k)<|ax (cZ a k)<|ak.mk (bg (show a+k<d.size by omega))<|bQ N (i:=a+k) (by omega)<|ak.mk (bg (show a<d.size by omega))<|bQ N (i:=a) (by omega)<|ak.mk (bg (show a<d.size by omega))<|bQ N (i:=a) (by omega)<|ak.mk (bg (show a+k<d.size by omega))<|gL N (i:=a) (j:=a+k) _ (by omega) fun z=>?_
   refine ar<|a_.bB [0] (n:=200) ((KR (Sort.swp N a (a+k)) 0 k a (by rw[ga];omega) (by rw[ga];omega) (by omega) 0 _ rfl).at ((ga _ _ _).trans hN)) rfl ⟨gZ N a (a+k) rfl,trivial⟩ ?_;refine ax (Cc k (by omega))<|⟨⟨(k,siftDown ltInt k a 0 (Sort.swp N a (a+k))),by show(siftDown ltInt k a 0 (Sort.swp N a (a+k))).size=_;rw[BE _ _ _ _ _ (aas _),ga,hN],by show k≤_;omega,hQ⟩,id,abW k,?_⟩;exact bY rfl (bJ _)
  |zero=>
   exact ao<|aa<|gh rfl (hQ.trans (congrArg (heapPop ltInt a (n+1)) hR)) ⟨rfl,rfl,rfl⟩
theorem ue{f:FuncId}{fn:Func}{body:Code}{args:List PV}{d d':Array Int}{r:PV}{j nx:Nat}(hf:Tryz.prog.funcs[f]? = some fn)(hn:(fn.name== "runtime.NumGoroutine")=false)(hc:fn.body=some body)(hle:args.length+1≤fn.ntmps)(hne:Nat.beq nx j=false)(hr:PV.fD (fun i=>(PV.nth [j] i).getD 0) args=args)(hl:PV.h_ 1 args=true)
 (h:SV Tryz.prog GT 1 fn.ntmps body 1 ⟨iF (.aH 0 0 d.size::args) 0,ng [UB d] 0⟩ (r9 tt fn [j] nx fun q e=>q=r∧e=[(j,some (UB d')),(j,none)])):UL f args d d' r j nx:=by
 have:=Jo (js:=[j]) (bs:=[UB d]) (args:=.aH 0 0 d.size::args) bH hf (enters_of hf hn hc) rfl (by unfold cf;rw[hne];rfl) rfl ⟨⟨rfl,bJ d⟩,trivial⟩ hl hc hle h
 have e2:PV.fD (fun i=>(PV.nth [j] i).getD 0) (.aH 0 0 d.size::args)=.aH j 0 d.size::args:=by
  show PV.aH j 0 d.size::PV.fD _ args=_
  rw[hr]
 rw[e2]at this
 exact this
theorem Cj{p:Int→Bool}{d:Array Int}{j i:Nat}(h:i≤j)(hp:p d[i]! = true):scanUp p d j i=scanUp p d j (i+1):=by
 conv=>lhs;unfold scanUp
 rw[abb (by rw[hp];simpa using h)]
theorem rB{p:Int→Bool}{d:Array Int}{j i:Nat}(h:¬i≤j∨p d[i]! = false):scanUp p d j i=i:=by
 unfold scanUp;rw[abg];rcases h with h|h
 ·simp[h]
 ·simp[h]
theorem B9{p:Int→Bool}{d:Array Int}{i j:Nat}(h:i≤j+1)(hp:p d[j+1]! = true):scanDown p d i (j+1)=scanDown p d i j:=by
 conv=>lhs;unfold scanDown
 rw[abb (by rw[hp];simpa using h)]
theorem re{p:Int→Bool}{d:Array Int}{i j:Nat}(h:¬i≤j∨p d[j]! = false):scanDown p d i j=j:=by
 cases j with
 |zero=>rfl
 |succ j=>
  unfold scanDown;rw[abg];rcases h with h|h
  ·simp[h]
  ·simp[h]
theorem Ns(d:Array Int)(a b pivot:Nat)(ha:a≤pivot)(hp:pivot<b)(hb:b≤d.size)(hs:d.size≤67108864)(j nx:Nat)(hne:Nat.beq nx j=false):UL 443 [i64 a,i64 b,i64 pivot] d (partition ltInt d a b pivot).2.2 (.aK [i64 ((partition ltInt d a b pivot).1:Nat),bo (partition ltInt d a b pivot).2.1]) j nx:=by
 refine ue Tryz.func443 rfl rfl (aaG rfl) hne rfl rfl ?_;obtain⟨b,rfl⟩:∃b',b=b'+1:=⟨b-1,by omega⟩;obtain⟨M,hMd⟩:∃M,M=Sort.swp d a pivot:=⟨_,rfl⟩;have hM:M.size=d.size:=by rw[hMd,ga]
 refine SV.seq bH bU<|SV.cut (⟨fun _=>[],[0,1,2],fun _=>[(0,UB M)],[]⟩:Inv Unit) (fun _=>True) (SV.of bH bU ?_) ?_
 ·show vc _ _ _ _ _ _ _ _ _
  refine ak.mk (bg (show pivot<d.size by omega))<|bQ d (i:=pivot) (by omega)<|ak.mk (bg (show a<d.size by omega))<|bQ d (i:=a) (by omega)<|ak.mk (bg (show a<d.size by omega))<|bQ d (i:=a) (by omega)<|ak.mk (bg (show pivot<d.size by omega))<|gL d (i:=a) (j:=pivot) _ (by omega) fun z=>?_
  exact ar<|⟨(),id,trivial,trivial,⟨⟨_,rfl,rfl,rfl⟩,⟨_,rfl,rfl,rfl⟩,⟨_,rfl,rfl,rfl⟩,trivial⟩,⟨⟨BB.aO (by rw[hMd];exact gZ d a pivot rfl) (bJ _),rfl⟩,trivial⟩,trivial,rfl,rfl,rfl⟩
 rintro⟨⟩ -
 refine SV.seq bH bU<|ax (cO a)<|ax (dD b)<|SV.cut (⟨fun i=>[(10,i64 i)],[0,1,11],fun _=>[],[0]⟩:Inv Nat) (fun i=>a+1≤i∧i≤b+1∧i=scanUp (fun x=>ltInt x M[a]!) M (b) (a+1)) (SV.of bH bU ?_) ?_
 ·refine cv.inv (ι:={i:Nat//a+1≤i∧i≤b+1∧scanUp (fun x=>ltInt x M[a]!) M (b) i=scanUp (fun x=>ltInt x M[a]!) M (b) (a+1)}) ⟨fun i=>[(10,i64 i.1)],[0,1,11],fun _=>[],[0]⟩ (fun i=>(b)+1-i.1) ⟨a+1,by omega,by omega,rfl⟩ ?_ ?_
  ·exact eI ⟨⟨_,rfl,BB.aO rfl (bJ _),rfl⟩,trivial⟩
  rintro⟨i,hi,hib,hR⟩;refine ae.two (fun h1=>?_) (fun h1=>?_)
  ·have h1:(i≤b):=nN h1;refine ak.mk (bg (show i<d.size by omega))<|bQ M (i:=i) (by omega)<|ak.mk (bg (show a<d.size by omega))<|bQ M (i:=a) (by omega) ?_;have hl:=gn M[i]! M[a]!;cases h3:ltInt M[i]! M[a]! with
   |true=>
    rw[h3]at hl;rw[Cj (p:=fun x=>ltInt x M[a]!) (by omega) h3]at hR;refine ay hl rfl<|ar<|ah<|ax (cO i)<|⟨⟨i+1,by omega,by omega,hR⟩,id,by show(b)+1-(i+1)<(b)+1-i;omega,?_⟩;exact eI ⟨⟨_,rfl,BB.aO rfl (bJ _),rfl⟩,trivial⟩
   |false=>
    rw[h3]at hl;rw[rB (p:=fun x=>ltInt x M[a]!) (.inr h3)]at hR;exact ay hl rfl<|ar<|aa<|⟨i,id,⟨by omega,by omega,hR⟩,(eI ⟨⟨_,rfl,BB.aO rfl (bJ _),rfl⟩,trivial⟩)⟩
  ·have h1:¬(i≤b):=fun h=>aaw h1 (abS.2 h)
   rw[rB (p:=fun x=>ltInt x M[a]!) (.inl (by omega))]at hR;exact ar<|aa<|⟨i,id,⟨by omega,by omega,hR⟩,(eI ⟨⟨_,rfl,BB.aO rfl (bJ _),rfl⟩,trivial⟩)⟩
 rintro I ⟨hi1,hi2,hi3⟩;refine SV.cut (⟨fun i=>[(11,i64 i)],[0,1,10],fun _=>[],[0]⟩:Inv Nat) (fun i=>I-1≤i∧i≤b∧i=scanDown (fun x=>!ltInt x M[a]!) M (I) (b)) (SV.of bH bU ?_) ?_
 ·refine cv.inv (ι:={i:Nat//I-1≤i∧i≤b∧scanDown (fun x=>!ltInt x M[a]!) M (I) i=scanDown (fun x=>!ltInt x M[a]!) M (I) (b)}) ⟨fun i=>[(11,i64 i.1)],[0,1,10],fun _=>[],[0]⟩ (fun i=>i.1) ⟨b,by omega,by omega,rfl⟩ ?_ ?_
  ·exact eI ⟨⟨_,rfl,BB.aO rfl (bJ _),rfl⟩,trivial⟩
  rintro⟨i,hi,hib,hR⟩;refine ae.two (fun h1=>?_) (fun h1=>?_)
  ·have h1:(I≤i):=nN h1;obtain⟨i,rfl⟩:∃i',i=i'+1:=⟨i-1,by omega⟩;refine ak.mk (bg (show i+1<d.size by omega))<|bQ M (i:=i+1) (by omega)<|ak.mk (bg (show a<d.size by omega))<|bQ M (i:=a) (by omega) ?_;have hl:=gn M[i+1]! M[a]!;cases h3:ltInt M[i+1]! M[a]! with
   |false=>
    rw[h3]at hl;rw[B9 (p:=fun x=>!ltInt x M[a]!) (by omega) (congrArg Bool.not h3)]at hR;refine ay hl rfl<|ar<|ah<|ax (dD i)<|⟨⟨i,by omega,by omega,hR⟩,id,by exact abW i,?_⟩;exact eI ⟨⟨_,rfl,BB.aO rfl (bJ _),rfl⟩,trivial⟩
   |true=>
    rw[h3]at hl;rw[re (p:=fun x=>!ltInt x M[a]!) (.inr (congrArg Bool.not h3))]at hR;exact ay hl rfl<|ar<|aa<|⟨(i+1),id,⟨by omega,by omega,hR⟩,(eI ⟨⟨_,rfl,BB.aO rfl (bJ _),rfl⟩,trivial⟩)⟩
  ·have h1:¬(I≤i):=fun h=>aaw h1 (abS.2 h)
   rw[re (p:=fun x=>!ltInt x M[a]!) (.inl (by omega))]at hR;exact ar<|aa<|⟨i,id,⟨by omega,by omega,hR⟩,(eI ⟨⟨_,rfl,BB.aO rfl (bJ _),rfl⟩,trivial⟩)⟩
 rintro k ⟨hk1,hk2,hk3⟩;have hP:partition ltInt d a (b+1) pivot=if I>k then(k,true,Sort.swp M k a)else((partLoop ltInt a (I+1) (k-1) (Sort.swp M I k)).1,false,Sort.swp (partLoop ltInt a (I+1) (k-1) (Sort.swp M I k)).2 (partLoop ltInt a (I+1) (k-1) (Sort.swp M I k)).1 a):=by
  rw[hk3,hi3,hMd];rfl
 rw[hP];clear hP;refine SV.seq bH bU<|ae.two (fun h1=>?_) (fun h1=>?_)
 ·have h1:k<I:=eg h1;rw[abb h1];refine ah<|ak.mk (bg (show a<d.size by omega))<|bQ M (i:=a) (by omega)<|ak.mk (bg (show k<d.size by omega))<|bQ M (i:=k) (by omega)<|ak.mk (bg (show k<d.size by omega))<|bQ M (i:=k) (by omega)<|ak.mk (bg (show a<d.size by omega))<|gL M (i:=k) (j:=a) _ (by omega) fun z=>?_
  exact ar<|gh (gZ M k a rfl) rfl ⟨rfl,rfl,rfl⟩
 have h1:¬k<I:=fun h=>aaw h1 (abG.2 h)
 rw[abg h1];obtain⟨k,rfl⟩:∃k',k=k'+1:=⟨k-1,by omega⟩;refine aa ?_;obtain⟨L,hL⟩:∃L,L=Sort.swp M I (k+1):=⟨_,rfl⟩;have hLs:L.size=d.size:=by rw[hL,ga,hM]
 rw[show k+1-1=k from rfl,← hL];refine SV.cut (⟨fun _=>[],[0,1,10,11],fun _=>[(0,UB L)],[]⟩:Inv Unit) (fun _=>True) (SV.of bH bU ?_) ?_
 ·show vc _ _ _ _ _ _ _ _ _
  refine ak.mk (bg (show k+1<d.size by omega))<|bQ M (i:=k+1) (by omega)<|ak.mk (bg (show I<d.size by omega))<|bQ M (i:=I) (by omega)<|ak.mk (bg (show I<d.size by omega))<|bQ M (i:=I) (by omega)<|ak.mk (bg (show k+1<d.size by omega))<|gL M (i:=I) (j:=k+1) _ (by omega) fun z=>?_
  exact ar<|⟨(),id,trivial,trivial,⟨⟨_,rfl,rfl,rfl⟩,⟨_,rfl,rfl,rfl⟩,⟨_,rfl,rfl,rfl⟩,⟨_,rfl,rfl,rfl⟩,trivial⟩,⟨⟨BB.aO (by rw[hL];exact gZ M I (k+1) rfl) (bJ _),rfl⟩,trivial⟩,trivial,rfl,rfl,rfl⟩
 rintro⟨⟩ -
 refine SV.seq bH bU<|ax (cO I)<|SV.seq bH bU<|ax (dD k) ?_;obtain⟨R,hR⟩:∃R,R=partLoop ltInt a (I+1) k L:=⟨_,rfl⟩;rw[← hR];refine SV.cut (⟨fun _=>[(11,i64 (R.1:Nat))],[0,1],fun _=>[(0,UB R.2)],[]⟩:Inv Unit) (fun _=>R.1≤b∧R.2.size=d.size) (SV.block ?_) ?_
 ·refine SV.loop (ι:={p:Nat×Nat×Array Int//p.2.2.size=d.size∧a+1≤p.1∧p.1≤p.2.1+2∧p.2.1≤b∧partLoop ltInt a p.1 p.2.1 p.2.2=R}) ⟨fun p=>[(10,i64 p.1.1),(11,i64 p.1.2.1)],[0,1],fun p=>[(0,UB p.1.2.2)],[]⟩ (fun p=>p.1.2.1+1-p.1.1) ⟨(I+1,k,L),hLs,by show a+1≤I+1;omega,by show I+1≤k+2;omega,by show k≤b;omega,hR.symm⟩ ?_ ?_
  ·exact bY rfl (bJ _)
  rintro⟨⟨i0,j0,N⟩,hN,h1,h2,h3,hQ⟩;dsimp only at hN h1 h2 h3 hQ;refine SV.block<|SV.cut (⟨fun i=>[(10,i64 i)],[0,1,11],fun _=>[],[0]⟩:Inv Nat) (fun i=>i0≤i∧i≤j0+2∧i=scanUp (fun x=>ltInt x N[a]!) N (j0) (i0)) (SV.of bH bU ?_) ?_
  ·refine cv.inv (ι:={i:Nat//i0≤i∧i≤j0+2∧scanUp (fun x=>ltInt x N[a]!) N (j0) i=scanUp (fun x=>ltInt x N[a]!) N (j0) (i0)}) ⟨fun i=>[(10,i64 i.1)],[0,1,11],fun _=>[],[0]⟩ (fun i=>(j0)+1-i.1) ⟨i0,by omega,by omega,rfl⟩ ?_ ?_
   ·exact eI ⟨⟨_,rfl,BB.aO rfl (bJ _),rfl⟩,trivial⟩
   rintro⟨i,hi,hib,hR⟩;refine ae.two (fun h9=>?_) (fun h9=>?_)
   ·have h9:(i≤j0):=nN h9;refine ak.mk (bg (show i<d.size by omega))<|bQ N (i:=i) (by omega)<|ak.mk (bg (show a<d.size by omega))<|bQ N (i:=a) (by omega) ?_;have hl:=gn N[i]! N[a]!;cases h3:ltInt N[i]! N[a]! with
    |true=>
     rw[h3]at hl;rw[Cj (p:=fun x=>ltInt x N[a]!) (by omega) h3]at hR;refine ay hl rfl<|ar<|ah<|ax (cO i)<|⟨⟨i+1,by omega,by omega,hR⟩,id,by show(j0)+1-(i+1)<(j0)+1-i;omega,?_⟩;exact eI ⟨⟨_,rfl,BB.aO rfl (bJ _),rfl⟩,trivial⟩
    |false=>
     rw[h3]at hl;rw[rB (p:=fun x=>ltInt x N[a]!) (.inr h3)]at hR;exact ay hl rfl<|ar<|aa<|⟨i,id,⟨by omega,by omega,hR⟩,(eI ⟨⟨_,rfl,BB.aO rfl (bJ _),rfl⟩,trivial⟩)⟩
   ·have h9:¬(i≤j0):=fun h=>aaw h9 (abS.2 h)
    rw[rB (p:=fun x=>ltInt x N[a]!) (.inl (by omega))]at hR;exact ar<|aa<|⟨i,id,⟨by omega,by omega,hR⟩,(eI ⟨⟨_,rfl,BB.aO rfl (bJ _),rfl⟩,trivial⟩)⟩
  rintro I2 ⟨hi1,hi2,hi3⟩;refine SV.cut (⟨fun i=>[(11,i64 i)],[0,1,10],fun _=>[],[0]⟩:Inv Nat) (fun i=>I2-2≤i∧i≤j0∧i=scanDown (fun x=>!ltInt x N[a]!) N (I2) (j0)) (SV.of bH bU ?_) ?_
  ·refine cv.inv (ι:={i:Nat//I2-2≤i∧i≤j0∧scanDown (fun x=>!ltInt x N[a]!) N (I2) i=scanDown (fun x=>!ltInt x N[a]!) N (I2) (j0)}) ⟨fun i=>[(11,i64 i.1)],[0,1,10],fun _=>[],[0]⟩ (fun i=>i.1) ⟨j0,by omega,by omega,rfl⟩ ?_ ?_
   ·exact eI ⟨⟨_,rfl,BB.aO rfl (bJ _),rfl⟩,trivial⟩
   rintro⟨i,hi,hib,hR⟩;refine ae.two (fun h9=>?_) (fun h9=>?_)
   ·have h9:(I2≤i):=nN h9;obtain⟨i,rfl⟩:∃i',i=i'+1:=⟨i-1,by omega⟩;refine ak.mk (bg (show i+1<d.size by omega))<|bQ N (i:=i+1) (by omega)<|ak.mk (bg (show a<d.size by omega))<|bQ N (i:=a) (by omega) ?_;have hl:=gn N[i+1]! N[a]!;cases h3:ltInt N[i+1]! N[a]! with
    |false=>
     rw[h3]at hl;rw[B9 (p:=fun x=>!ltInt x N[a]!) (by omega) (congrArg Bool.not h3)]at hR;refine ay hl rfl<|ar<|ah<|ax (dD i)<|⟨⟨i,by omega,by omega,hR⟩,id,by exact abW i,?_⟩;exact eI ⟨⟨_,rfl,BB.aO rfl (bJ _),rfl⟩,trivial⟩
    |true=>
     rw[h3]at hl;rw[re (p:=fun x=>!ltInt x N[a]!) (.inr (congrArg Bool.not h3))]at hR;exact ay hl rfl<|ar<|aa<|⟨(i+1),id,⟨by omega,by omega,hR⟩,(eI ⟨⟨_,rfl,BB.aO rfl (bJ _),rfl⟩,trivial⟩)⟩
   ·have h9:¬(I2≤i):=fun h=>aaw h9 (abS.2 h)
    rw[re (p:=fun x=>!ltInt x N[a]!) (.inl (by omega))]at hR;exact ar<|aa<|⟨i,id,⟨by omega,by omega,hR⟩,(eI ⟨⟨_,rfl,BB.aO rfl (bJ _),rfl⟩,trivial⟩)⟩
  rintro K ⟨hk1,hk2,hk3⟩;rw[partLoop_eq,← hi3,← hk3]at hQ;refine SV.seq bH bU<|ae.two (fun h9=>?_) (fun h9=>?_)
  ·have h9:K<I2:=eg h9;rw[abb h9]at hQ;refine ah ?_;subst hQ;refine⟨(),id,⟨by show K≤b;omega,hN⟩,?_⟩;exact bY rfl (bJ _)
  have h9:¬K<I2:=fun h=>aaw h9 (abG.2 h)
  rw[abg h9]at hQ;obtain⟨K,rfl⟩:∃k',K=k'+1:=⟨K-1,by omega⟩;refine aa<|SV.of bH bU<|ak.mk (bg (show K+1<d.size by omega))<|bQ N (i:=K+1) (by omega)<|ak.mk (bg (show I2<d.size by omega))<|bQ N (i:=I2) (by omega)<|ak.mk (bg (show I2<d.size by omega))<|bQ N (i:=I2) (by omega)<|ak.mk (bg (show K+1<d.size by omega))<|gL N (i:=I2) (j:=K+1) _ (by omega) fun z=>?_
  refine ar<|ax (cO I2)<|ax (dD K)<|⟨⟨(I2+1,K,Sort.swp N I2 (K+1)),by show(Sort.swp N I2 (K+1)).size=_;rw[ga,hN],by show a+1≤I2+1;omega,by show I2+1≤K+2;omega,by show K≤b;omega,hQ⟩,id,by show K+1-(I2+1)<j0+1-i0;omega,?_⟩;exact dv ⟨⟨BB.aO (gZ N I2 (K+1) rfl) (bJ _),rfl⟩,trivial⟩
 rintro⟨⟩ ⟨hRb,hRs⟩;refine SV.of bH bU<|ak.mk (bg (show a<d.size by omega))<|bQ R.2 (i:=a) (by omega)<|ak.mk (bg (show R.1<d.size by omega))<|bQ R.2 (i:=R.1) (by omega)<|ak.mk (bg (show R.1<d.size by omega))<|bQ R.2 (i:=R.1) (by omega)<|ak.mk (bg (show a<d.size by omega))<|gL R.2 (i:=R.1) (j:=a) _ (by omega) fun z=>?_
 exact ar<|gh (gZ R.2 R.1 a rfl) rfl ⟨rfl,rfl,rfl⟩
theorem Mr(d:Array Int)(a b pivot:Nat)(ha:a≤pivot)(hp:pivot<b)(hb:b≤d.size)(hs:d.size≤67108864)(j nx:Nat)(hne:Nat.beq nx j=false):UL 442 [i64 a,i64 b,i64 pivot] d (partitionEqual ltInt d a b pivot).2 (i64 ((partitionEqual ltInt d a b pivot).1:Nat)) j nx:=by
 refine ue Tryz.func442 rfl rfl (aaG rfl) hne rfl rfl ?_;obtain⟨b,rfl⟩:∃b',b=b'+1:=⟨b-1,by omega⟩;obtain⟨M,hMd⟩:∃M,M=Sort.swp d a pivot:=⟨_,rfl⟩;have hM:M.size=d.size:=by rw[hMd,ga]
 refine SV.seq bH bU<|SV.cut (⟨fun _=>[],[0,1,2],fun _=>[(0,UB M)],[]⟩:Inv Unit) (fun _=>True) (SV.of bH bU ?_) ?_
 ·show vc _ _ _ _ _ _ _ _ _
  refine ak.mk (bg (show pivot<d.size by omega))<|bQ d (i:=pivot) (by omega)<|ak.mk (bg (show a<d.size by omega))<|bQ d (i:=a) (by omega)<|ak.mk (bg (show a<d.size by omega))<|bQ d (i:=a) (by omega)<|ak.mk (bg (show pivot<d.size by omega))<|gL d (i:=a) (j:=pivot) _ (by omega) fun z=>?_
  exact ar<|⟨(),id,trivial,trivial,⟨⟨_,rfl,rfl,rfl⟩,⟨_,rfl,rfl,rfl⟩,⟨_,rfl,rfl,rfl⟩,trivial⟩,⟨⟨BB.aO (by rw[hMd];exact gZ d a pivot rfl) (bJ _),rfl⟩,trivial⟩,trivial,rfl,rfl,rfl⟩
 rintro⟨⟩ -
 refine SV.seq bH bU<|ax (cO a)<|ax (dD b) ?_;obtain⟨R,hR⟩:∃R,R=partEqLoop ltInt a (a+1) b M:=⟨_,rfl⟩;have hP:partitionEqual ltInt d a (b+1) pivot=R:=by
  rw[hR,hMd];rfl
 rw[hP];refine SV.cut (⟨fun _=>[(9,i64 (R.1:Nat))],[0,1],fun _=>[(0,UB R.2)],[]⟩:Inv Unit) (fun _=>True) (SV.block ?_) ?_
 ·refine SV.loop (ι:={p:Nat×Nat×Array Int//p.2.2.size=d.size∧a+1≤p.1∧p.1≤p.2.1+2∧p.2.1≤b∧partEqLoop ltInt a p.1 p.2.1 p.2.2=R}) ⟨fun p=>[(9,i64 p.1.1),(10,i64 p.1.2.1)],[0,1],fun p=>[(0,UB p.1.2.2)],[]⟩ (fun p=>p.1.2.1+1-p.1.1) ⟨(a+1,b,M),hM,aas _,by show a+1≤b+2;omega,aas _,hR.symm⟩ ?_ ?_
  ·exact bY rfl (bJ _)
  rintro⟨⟨i0,j0,N⟩,hN,h1,h2,h3,hQ⟩;dsimp only at hN h1 h2 h3 hQ;refine SV.block<|SV.cut (⟨fun i=>[(9,i64 i)],[0,1,10],fun _=>[],[0]⟩:Inv Nat) (fun i=>i0≤i∧i≤j0+2∧i=scanUp (fun x=>!ltInt N[a]! x) N (j0) (i0)) (SV.of bH bU ?_) ?_
  ·refine cv.inv (ι:={i:Nat//i0≤i∧i≤j0+2∧scanUp (fun x=>!ltInt N[a]! x) N (j0) i=scanUp (fun x=>!ltInt N[a]! x) N (j0) (i0)}) ⟨fun i=>[(9,i64 i.1)],[0,1,10],fun _=>[],[0]⟩ (fun i=>(j0)+1-i.1) ⟨i0,by omega,by omega,rfl⟩ ?_ ?_
   ·exact eI ⟨⟨_,rfl,BB.aO rfl (bJ _),rfl⟩,trivial⟩
   rintro⟨i,hi,hib,hR⟩;refine ae.two (fun h9=>?_) (fun h9=>?_)
   ·have h9:(i≤j0):=nN h9;refine ak.mk (bg (show a<d.size by omega))<|bQ N (i:=a) (by omega)<|ak.mk (bg (show i<d.size by omega))<|bQ N (i:=i) (by omega) ?_;have hl:=gn N[a]! N[i]!;cases h3:ltInt N[a]! N[i]! with
    |false=>
     rw[h3]at hl;rw[Cj (p:=fun x=>!ltInt N[a]! x) (by omega) (congrArg Bool.not h3)]at hR;refine ay hl rfl<|ar<|ah<|ax (cO i)<|⟨⟨i+1,by omega,by omega,hR⟩,id,by show(j0)+1-(i+1)<(j0)+1-i;omega,?_⟩;exact eI ⟨⟨_,rfl,BB.aO rfl (bJ _),rfl⟩,trivial⟩
    |true=>
     rw[h3]at hl;rw[rB (p:=fun x=>!ltInt N[a]! x) (.inr (congrArg Bool.not h3))]at hR;exact ay hl rfl<|ar<|aa<|⟨i,id,⟨by omega,by omega,hR⟩,(eI ⟨⟨_,rfl,BB.aO rfl (bJ _),rfl⟩,trivial⟩)⟩
   ·have h9:¬(i≤j0):=fun h=>aaw h9 (abS.2 h)
    rw[rB (p:=fun x=>!ltInt N[a]! x) (.inl (by omega))]at hR;exact ar<|aa<|⟨i,id,⟨by omega,by omega,hR⟩,(eI ⟨⟨_,rfl,BB.aO rfl (bJ _),rfl⟩,trivial⟩)⟩
  rintro I2 ⟨hi1,hi2,hi3⟩;refine SV.cut (⟨fun i=>[(10,i64 i)],[0,1,9],fun _=>[],[0]⟩:Inv Nat) (fun i=>I2-2≤i∧i≤j0∧i=scanDown (fun x=>ltInt N[a]! x) N (I2) (j0)) (SV.of bH bU ?_) ?_
  ·refine cv.inv (ι:={i:Nat//I2-2≤i∧i≤j0∧scanDown (fun x=>ltInt N[a]! x) N (I2) i=scanDown (fun x=>ltInt N[a]! x) N (I2) (j0)}) ⟨fun i=>[(10,i64 i.1)],[0,1,9],fun _=>[],[0]⟩ (fun i=>i.1) ⟨j0,by omega,by omega,rfl⟩ ?_ ?_
   ·exact eI ⟨⟨_,rfl,BB.aO rfl (bJ _),rfl⟩,trivial⟩
   rintro⟨i,hi,hib,hR⟩;refine ae.two (fun h9=>?_) (fun h9=>?_)
   ·have h9:(I2≤i):=nN h9;obtain⟨i,rfl⟩:∃i',i=i'+1:=⟨i-1,by omega⟩;refine ak.mk (bg (show a<d.size by omega))<|bQ N (i:=a) (by omega)<|ak.mk (bg (show i+1<d.size by omega))<|bQ N (i:=i+1) (by omega) ?_;have hl:=gn N[a]! N[i+1]!;cases h3:ltInt N[a]! N[i+1]! with
    |true=>
     rw[h3]at hl;rw[B9 (p:=fun x=>ltInt N[a]! x) (by omega) h3]at hR;refine ay hl rfl<|ar<|ah<|ax (dD i)<|⟨⟨i,by omega,by omega,hR⟩,id,by exact abW i,?_⟩;exact eI ⟨⟨_,rfl,BB.aO rfl (bJ _),rfl⟩,trivial⟩
    |false=>
     rw[h3]at hl;rw[re (p:=fun x=>ltInt N[a]! x) (.inr h3)]at hR;exact ay hl rfl<|ar<|aa<|⟨(i+1),id,⟨by omega,by omega,hR⟩,(eI ⟨⟨_,rfl,BB.aO rfl (bJ _),rfl⟩,trivial⟩)⟩
   ·have h9:¬(I2≤i):=fun h=>aaw h9 (abS.2 h)
    rw[re (p:=fun x=>ltInt N[a]! x) (.inl (by omega))]at hR;exact ar<|aa<|⟨i,id,⟨by omega,by omega,hR⟩,(eI ⟨⟨_,rfl,BB.aO rfl (bJ _),rfl⟩,trivial⟩)⟩
  rintro K ⟨hk1,hk2,hk3⟩;rw[partEqLoop_eq,← hi3,← hk3]at hQ;refine SV.seq bH bU<|ae.two (fun h9=>?_) (fun h9=>?_)
  ·have h9:K<I2:=eg h9;rw[abb h9]at hQ;refine ah ?_;subst hQ;refine⟨(),id,trivial,?_⟩;exact bY rfl (bJ _)
  have h9:¬K<I2:=fun h=>aaw h9 (abG.2 h)
  rw[abg h9]at hQ;obtain⟨K,rfl⟩:∃k',K=k'+1:=⟨K-1,by omega⟩;refine aa<|SV.of bH bU<|ak.mk (bg (show K+1<d.size by omega))<|bQ N (i:=K+1) (by omega)<|ak.mk (bg (show I2<d.size by omega))<|bQ N (i:=I2) (by omega)<|ak.mk (bg (show I2<d.size by omega))<|bQ N (i:=I2) (by omega)<|ak.mk (bg (show K+1<d.size by omega))<|gL N (i:=I2) (j:=K+1) _ (by omega) fun z=>?_
  refine ar<|ax (cO I2)<|ax (dD K)<|⟨⟨(I2+1,K,Sort.swp N I2 (K+1)),by show(Sort.swp N I2 (K+1)).size=_;rw[ga,hN],by show a+1≤I2+1;omega,by show I2+1≤K+2;omega,by show K≤b;omega,hQ⟩,id,by show K+1-(I2+1)<j0+1-i0;omega,?_⟩;exact dv ⟨⟨BB.aO (gZ N I2 (K+1) rfl) (bJ _),rfl⟩,trivial⟩
 rintro⟨⟩ -
 exact SV.of bH bU<|gh rfl rfl ⟨rfl,rfl,rfl⟩
theorem Sj{d:Array Int}{b i:Nat}(h:i<b)(hl:ltInt d[i]! d[i-1]! = false):scanSorted ltInt d b i=scanSorted ltInt d b (i+1):=by
 conv=>lhs;unfold scanSorted
 rw[abb (by rw[hl];simpa using h)]
theorem DQ{d:Array Int}{b i:Nat}(h:¬i<b∨ltInt d[i]! d[i-1]! = true):scanSorted ltInt d b i=i:=by
 unfold scanSorted;rw[abg];rcases h with h|h
 ·simp[h]
 ·simp[h]
theorem Hx:∀(k:Nat) (d:Array Int),(shiftDown ltInt k d).size=d.size
 |0,_=>rfl
 |k+1,d=>by
  unfold shiftDown
  split
  ·rfl
  ·rw[Hx k,ga]
theorem EM(b:Nat):∀(n k:Nat) (d:Array Int),b-k≤n→(shiftUp ltInt b k d).size=d.size
 |n,k,d,hn=>by
  unfold shiftUp
  split
  ·split
   ·rfl
   ·cases n with
    |zero=>omega
    |succ n=>rw[EM b n (k+1) _ (by omega),ga]
  ·rfl
theorem TU(d:Array Int)(a b:Nat)(hab:a<b)(hb:b≤d.size)(hs:d.size≤67108864)(j nx:Nat)(hne:Nat.beq nx j=false):UL 440 [i64 a,i64 b] d (partialInsertionSort ltInt d a b).1 (bo (partialInsertionSort ltInt d a b).2) j nx:=by
 refine ue Tryz.func440 rfl rfl (aaG rfl) hne rfl rfl ?_;obtain⟨R,hR⟩:∃R,R=partialInsertionSort ltInt d a b:=⟨_,rfl⟩;rw[← hR];refine SV.seq bH bU<|SV.seq bH bU<|ax (cO a)<|SV.cut (⟨fun _=>[],[],fun _=>[(0,UB R.1)],[]⟩:Inv Unit) (fun _=>R.2=false) (SV.seq bH bU ?_) ?_
 ·refine SV.block ?_;refine SV.loop (ι:={p:Nat×Nat×Array Int//p.2.2.size=d.size∧p.1≤5∧a+1≤p.2.1∧p.2.1≤b∧partialIns ltInt a b (5-p.1) p.2.1 p.2.2=R}) ⟨fun p=>[(7,i64 p.1.2.1),(8,i64 p.1.1)],[0,1,2],fun p=>[(0,UB p.1.2.2)],[]⟩ (fun p=>5-p.1.1) ⟨(0,a+1,d),rfl,aaF _,aas _,by show a+1≤b;omega,hR.symm⟩ ?_ ?_
  ·exact bY rfl (bJ _)
  rintro⟨⟨q,i0,M⟩,hM,hq,hi0,hib,hQ⟩;dsimp only at hM hq hi0 hib hQ;refine SV.seq bH bU<|ae.two (fun h1=>?_) (fun h1=>?_);rotate_left
  ·
   have h1:¬q<5:=fun h=>aaw h1 (abG.2 h)
   obtain rfl:q=5:=by omega
   have hQ:(M,false)=R:=hQ;subst hQ;exact aa<|⟨(),id,rfl,trivial,trivial,⟨⟨BB.aO rfl (bJ _),rfl⟩,trivial⟩,trivial,rfl,rfl,rfl⟩
  have h1:q<5:=eg h1;obtain⟨s,hsq⟩:∃s,5-q=s+1:=⟨4-q,by omega⟩;rw[hsq]at hQ;refine ah<|SV.cut (⟨fun p=>[(7,i64 p.1)],[0,1,2,8],fun p=>[(0,UB p.2)],[]⟩:Inv (Nat×Array Int)) (fun p=>p.2.size=d.size∧a+1≤p.1∧p.1≤b∧partialIns ltInt a b s p.1 p.2=R) (SV.block ?_) ?_
  ·refine SV.cut (⟨fun i=>[(7,i64 i)],[0,1,2,8],fun _=>[],[0]⟩:Inv Nat) (fun i=>i0≤i∧i≤b∧i=scanSorted ltInt M b i0) (SV.of bH bU ?_) ?_
   ·refine cv.inv (ι:={i:Nat//i0≤i∧i≤b∧scanSorted ltInt M b i=scanSorted ltInt M b i0}) ⟨fun i=>[(7,i64 i.1)],[0,1,2,8],fun _=>[],[0]⟩ (fun i=>b-i.1) ⟨i0,aas _,hib,rfl⟩ ?_ ?_
    ·exact eI ⟨⟨_,rfl,BB.aO rfl (bJ _),rfl⟩,trivial⟩
    rintro⟨i,hi,hib,hE⟩;refine ae.two (fun h2=>?_) (fun h2=>?_)
    ·have h2:i<b:=eg h2;obtain⟨i,rfl⟩:∃i',i=i'+1:=⟨i-1,by omega⟩;refine ak.mk (bg (show i+1<d.size by omega))<|bQ M (i:=i+1) (by omega)<|ax (dD i)<|ak.mk (bg (show i<d.size by omega))<|bQ M (i:=i) (by omega) ?_;have hl:=gn M[i+1]! M[i]!;cases h3:ltInt M[i+1]! M[i]! with
     |true=>
      rw[h3]at hl;rw[DQ (i:=i+1) (.inr h3)]at hE;exact ay hl rfl<|ar<|aa<|⟨i+1,id,⟨hi,by omega,hE⟩,⟨⟨rfl,rfl⟩,trivial⟩,⟨⟨_,rfl,rfl,rfl⟩,⟨_,rfl,rfl,rfl⟩,⟨_,rfl,rfl,rfl⟩,⟨_,rfl,rfl,rfl⟩,trivial⟩,trivial,⟨⟨_,rfl,BB.aO rfl (bJ _),rfl⟩,trivial⟩,rfl,rfl,rfl⟩
     |false=>
      rw[h3]at hl;rw[Sj (i:=i+1) h2 h3]at hE;refine ay hl rfl<|ar<|ah<|ax (cO (i+1))<|⟨⟨i+1+1,by omega,by omega,hE⟩,id,by show b-(i+1+1)<b-(i+1);omega,?_⟩;exact eI ⟨⟨_,rfl,BB.aO rfl (bJ _),rfl⟩,trivial⟩
    ·have h2:¬i<b:=fun h=>aaw h2 (abG.2 h)
     rw[DQ (.inl h2)]at hE;exact ar<|aa<|⟨i,id,⟨hi,by omega,hE⟩,⟨⟨rfl,rfl⟩,trivial⟩,⟨⟨_,rfl,rfl,rfl⟩,⟨_,rfl,rfl,rfl⟩,⟨_,rfl,rfl,rfl⟩,⟨_,rfl,rfl,rfl⟩,trivial⟩,trivial,⟨⟨_,rfl,BB.aO rfl (bJ _),rfl⟩,trivial⟩,rfl,rfl,rfl⟩
   rintro i ⟨hi1,hi2,hi3⟩;have hu:partialIns ltInt a b (s+1) i0 M=if i=b then(M,true)else if b-a<50 then(M,false)else partialIns ltInt a b s i (if b-i≥2 then shiftUp ltInt b (i+1) (if i-a≥2 then shiftDown ltInt (i-1) (Sort.swp M i (i-1))else Sort.swp M i (i-1))else(if i-a≥2 then shiftDown ltInt (i-1) (Sort.swp M i (i-1))else Sort.swp M i (i-1))):=by
    rw[hi3];rfl
   rw[hu]at hQ;refine SV.seq bH bU<|ae.two (fun h2=>?_) (fun h2=>?_)
   ·have h2:i=b:=Int.ofNat.inj (aat h2);rw[abb h2]at hQ;subst hQ;exact ah<|gh rfl rfl ⟨rfl,rfl,rfl⟩
   have h2:¬i=b:=fun h=>aaw h2 (congrArg Int.ofNat h)
   rw[abg h2]at hQ;refine aa<|SV.seq bH bU<|ax (dY b a)<|ae.two (fun h5=>?_) (fun h5=>?_)
   ·have h5:b-a<50:=by have:=aat h5;omega
    rw[abb h5]at hQ;subst hQ;exact ah<|gh rfl rfl ⟨rfl,rfl,rfl⟩
   have h5:¬b-a<50:=fun h=>aaw h5 (by omega)
   rw[abg h5]at hQ;refine aa ?_;obtain⟨i,rfl⟩:∃i',i=i'+1:=⟨i-1,by omega⟩;obtain⟨L,hL⟩:∃L,L=Sort.swp M (i+1) i:=⟨_,rfl⟩;have hLs:L.size=d.size:=by rw[hL,ga,hM]
   rw[show i+1-1=i from rfl,← hL]at hQ;refine SV.cut (⟨fun _=>[],[0,1,2,7,8],fun _=>[(0,UB L)],[]⟩:Inv Unit) (fun _=>True) (SV.of bH bU ?_) ?_
   ·show vc _ _ _ _ _ _ _ _ _
    refine ax (dD i)<|ax (dD i)<|ak.mk (bg (show i<d.size by omega))<|bQ M (i:=i) (by omega)<|ak.mk (bg (show i+1<d.size by omega))<|bQ M (i:=i+1) (by omega)<|ak.mk (bg (show i+1<d.size by omega))<|bQ M (i:=i+1) (by omega)<|ak.mk (bg (show i<d.size by omega))<|gL M (i:=i+1) (j:=i) _ (by omega) fun z=>?_
    exact ar<|⟨(),id,trivial,trivial,⟨⟨_,rfl,rfl,rfl⟩,⟨_,rfl,rfl,rfl⟩,⟨_,rfl,rfl,rfl⟩,⟨_,rfl,rfl,rfl⟩,⟨_,rfl,rfl,rfl⟩,trivial⟩,⟨⟨BB.aO (by rw[hL];exact gZ M (i+1) i rfl) (bJ _),rfl⟩,trivial⟩,trivial,rfl,rfl,rfl⟩
   rintro⟨⟩ -
   obtain⟨K,hK⟩:∃K,K=(if i+1-a≥2 then shiftDown ltInt i L else L):=⟨_,rfl⟩;rw[← hK]at hQ;have hKs:K.size=d.size:=by
    rw[hK];split
    ·rw[Hx,hLs]
    ·exact hLs
   refine SV.cut (⟨fun _=>[],[0,1,2,7,8],fun _=>[(0,UB K)],[]⟩:Inv Unit) (fun _=>True) (SV.of bH bU ?_) ?_
   ·refine ax (dY (i+1) a)<|ae.two (fun h6=>?_) (fun h6=>?_)
    ·have h6:i+1-a≥2:=by have:=aat h6;omega
     rw[abb h6]at hK;refine ah<|ax (dD i)<|cv.inv (ι:={p:Nat×Array Int//p.2.size=d.size∧p.1≤i∧shiftDown ltInt p.1 p.2=K}) ⟨fun p=>[(9,i64 p.1.1)],[0,1,2,7,8],fun p=>[(0,UB p.1.2)],[]⟩ (fun p=>p.1.1) ⟨(i,L),hLs,aas _,hK.symm⟩ ?_ ?_
     ·exact bY rfl (bJ _)
     rintro⟨⟨k,N⟩,hN,hk,hE⟩;dsimp only at hN hk hE;cases k with
     |zero=>
      have hE:N=K:=hE;subst hE;exact ao<|aa<|⟨(),id,trivial,trivial,⟨⟨_,rfl,rfl,rfl⟩,⟨_,rfl,rfl,rfl⟩,⟨_,rfl,rfl,rfl⟩,⟨_,rfl,rfl,rfl⟩,⟨_,rfl,rfl,rfl⟩,trivial⟩,⟨⟨BB.aO rfl (bJ _),rfl⟩,trivial⟩,trivial,rfl,rfl,rfl⟩
     |succ k=>
      refine ae.t (show(1:Int)≤((k+1:Nat):Int)by omega)<|ah<|ak.mk (bg (show k+1<d.size by omega))<|bQ N (i:=k+1) (by omega)<|ax (dD k)<|ak.mk (bg (show k<d.size by omega))<|bQ N (i:=k) (by omega) ?_;have hl:=gn N[k+1]! N[k]!;unfold shiftDown at hE;cases h3:ltInt N[k+1]! N[k]! with
      |false=>
       rw[h3]at hl hE;have hE:N=K:=hE;subst hE;exact ay hl rfl<|ar<|ah<|⟨(),id,trivial,trivial,⟨⟨_,rfl,rfl,rfl⟩,⟨_,rfl,rfl,rfl⟩,⟨_,rfl,rfl,rfl⟩,⟨_,rfl,rfl,rfl⟩,⟨_,rfl,rfl,rfl⟩,trivial⟩,⟨⟨BB.aO rfl (bJ _),rfl⟩,trivial⟩,trivial,rfl,rfl,rfl⟩
      |true=>
       rw[h3]at hl hE;have hE:shiftDown ltInt k (Sort.swp N (k+1) k)=K:=hE;refine ay hl rfl<|ar<|aa<|ax (dD k)<|ax (dD k)<|ak.mk (bg (show k<d.size by omega))<|bQ N (i:=k) (by omega)<|ak.mk (bg (show k+1<d.size by omega))<|bQ N (i:=k+1) (by omega)<|ak.mk (bg (show k+1<d.size by omega))<|bQ N (i:=k+1) (by omega)<|ak.mk (bg (show k<d.size by omega))<|gL N (i:=k+1) (j:=k) _ (by omega) fun z=>?_
       refine ar<|ax (dD k)<|⟨⟨(k,Sort.swp N (k+1) k),by show(Sort.swp N (k+1) k).size=_;rw[ga,hN],by show k≤i;omega,hE⟩,id,abW k,?_⟩;exact dv ⟨⟨BB.aO (gZ N (k+1) k rfl) (bJ _),rfl⟩,trivial⟩
    ·have h6:¬i+1-a≥2:=fun h=>aaw h6 (by omega)
     rw[abg h6]at hK;subst hK;exact aa<|⟨(),id,trivial,trivial,⟨⟨_,rfl,rfl,rfl⟩,⟨_,rfl,rfl,rfl⟩,⟨_,rfl,rfl,rfl⟩,⟨_,rfl,rfl,rfl⟩,⟨_,rfl,rfl,rfl⟩,trivial⟩,⟨⟨BB.aO rfl (bJ _),rfl⟩,trivial⟩,trivial,rfl,rfl,rfl⟩
   rintro⟨⟩ -
   refine SV.of bH bU<|ax (dY b (i+1))<|ae.two (fun h6=>?_) (fun h6=>?_)
   ·have h6:b-(i+1)≥2:=by have:=aat h6;omega
    rw[abb h6]at hQ;obtain⟨E,hE0⟩:∃E,E=shiftUp ltInt b (i+1+1) K:=⟨_,rfl⟩;have hEs:E.size=d.size:=by rw[hE0,EM _ _ _ _ (aas _),hKs]
    rw[← hE0]at hQ;refine ah<|ax (cO (i+1))<|cv.inv (ι:={p:Nat×Array Int//p.2.size=d.size∧i+1+1≤p.1∧shiftUp ltInt b p.1 p.2=E}) ⟨fun p=>[(10,i64 p.1.1)],[0,1,2,7,8],fun p=>[(0,UB p.1.2)],[]⟩ (fun p=>b-p.1.1) ⟨(i+1+1,K),hKs,aas _,hE0.symm⟩ ?_ ?_
    ·exact bY rfl (bJ _)
    rintro⟨⟨k,N⟩,hN,hk,hE⟩;dsimp only at hN hk hE;unfold shiftUp at hE;refine ae.two (fun h7=>?_) (fun h7=>?_)
    ·have h7:k<b:=eg h7;rw[abb h7]at hE;obtain⟨k,rfl⟩:∃k',k=k'+1:=⟨k-1,by omega⟩;rw[show k+1-1=k from rfl]at hE;refine ah<|ak.mk (bg (show k+1<d.size by omega))<|bQ N (i:=k+1) (by omega)<|ax (dD k)<|ak.mk (bg (show k<d.size by omega))<|bQ N (i:=k) (by omega) ?_;have hl:=gn N[k+1]! N[k]!;cases h3:ltInt N[k+1]! N[k]! with
     |false=>
      rw[h3]at hl hE;have hE:N=E:=hE;subst hE;exact ay hl rfl<|ar<|ah<|⟨(i+1,N),id,⟨hN,by show a+1≤i+1;omega,hi2,hQ⟩,⟨⟨rfl,rfl⟩,trivial⟩,⟨⟨_,rfl,rfl,rfl⟩,⟨_,rfl,rfl,rfl⟩,⟨_,rfl,rfl,rfl⟩,⟨_,rfl,rfl,rfl⟩,trivial⟩,⟨⟨BB.aO rfl (bJ _),rfl⟩,trivial⟩,trivial,rfl,rfl,rfl⟩
     |true=>
      rw[h3]at hl hE;have hE:shiftUp ltInt b (k+1+1) (Sort.swp N (k+1) k)=E:=hE;refine ay hl rfl<|ar<|aa<|ax (dD k)<|ax (dD k)<|ak.mk (bg (show k<d.size by omega))<|bQ N (i:=k) (by omega)<|ak.mk (bg (show k+1<d.size by omega))<|bQ N (i:=k+1) (by omega)<|ak.mk (bg (show k+1<d.size by omega))<|bQ N (i:=k+1) (by omega)<|ak.mk (bg (show k<d.size by omega))<|gL N (i:=k+1) (j:=k) _ (by omega) fun z=>?_
      refine ar<|ax (cO (k+1))<|⟨⟨(k+1+1,Sort.swp N (k+1) k),by show(Sort.swp N (k+1) k).size=_;rw[ga,hN],by show i+1+1≤k+1+1;omega,hE⟩,id,by show b-(k+1+1)<b-(k+1);omega,?_⟩;exact dv ⟨⟨BB.aO (gZ N (k+1) k rfl) (bJ _),rfl⟩,trivial⟩
    ·have h7:¬k<b:=fun h=>aaw h7 (abG.2 h)
     rw[abg h7]at hE;subst hE;exact aa<|⟨(i+1,N),id,⟨hN,by show a+1≤i+1;omega,hi2,hQ⟩,⟨⟨rfl,rfl⟩,trivial⟩,⟨⟨_,rfl,rfl,rfl⟩,⟨_,rfl,rfl,rfl⟩,⟨_,rfl,rfl,rfl⟩,⟨_,rfl,rfl,rfl⟩,trivial⟩,⟨⟨BB.aO rfl (bJ _),rfl⟩,trivial⟩,trivial,rfl,rfl,rfl⟩
   ·have h6:¬b-(i+1)≥2:=fun h=>aaw h6 (by omega)
    rw[abg h6]at hQ;exact aa<|⟨(i+1,K),id,⟨hKs,by show a+1≤i+1;omega,hi2,hQ⟩,⟨⟨rfl,rfl⟩,trivial⟩,⟨⟨_,rfl,rfl,rfl⟩,⟨_,rfl,rfl,rfl⟩,⟨_,rfl,rfl,rfl⟩,⟨_,rfl,rfl,rfl⟩,trivial⟩,⟨⟨BB.aO rfl (bJ _),rfl⟩,trivial⟩,trivial,rfl,rfl,rfl⟩
  rintro⟨i,N⟩ ⟨hN,hi1,hi2,hE⟩;dsimp only at hN hi1 hi2 hE;refine SV.of bH bU<|ax (cO q)<|⟨⟨(q+1,i,N),hN,by show q+1≤5;omega,hi1,hi2,by show partialIns ltInt a b (5-(q+1)) i N=R;rw[show 5-(q+1)=s by omega];exact hE⟩,id,by show 5-(q+1)<5-q;omega,?_⟩;exact bY rfl (bJ _)
 rintro⟨⟩ hR2;refine SV.of bH bU ?_;rw[hR2];exact gh rfl rfl ⟨rfl,rfl,rfl⟩
abbrev SW(s:Nat):aA:=.rows 1 [i64 s] true none 3
theorem vG(s:Nat):cE [i64 s]:=fun r hr=>by rw[aaD.1 hr];rfl
abbrev wG(f:FuncId)(args:List PV)(d:Array Int)(s s':Nat)(r:PV)(j k nx:Nat):Prop:=LC f (.aH j 0 d.size::(args++[.lp k 0 0])) [(j,UB d),(k,SW s)] nx fun q e=>q=r∧e=[(j,some (UB d)),(k,some (SW s')),(j,none),(k,none)]
theorem N7{P:Program}{G:World→Prop}{T:TT}{fn:Func}{args:List PV}{bs:List aA}{j k nx:Nat}{post:PV→bW→Prop}(h:vL 2 P G T fn args bs [j,k] nx post):ni P G T fn args bs [j,k] nx post:=h
theorem zB{f:FuncId}{fn:Func}{args:List PV}{d:Array Int}{s s':Nat}{r:PV}{j k nx:Nat}(hf:Tryz.prog.funcs[f]? = some fn)(hn:(fn.name== "runtime.NumGoroutine")=false)(hjk:nodup [j,k]=true)(hne:cf nx [j,k]=false)(hr:PV.fD (fun i=>(PV.nth [j,k] i).getD 0) (.aH 0 0 d.size::(args++[.lp 1 0 0]))=.aH j 0 d.size::(args++[.lp k 0 0]))(hl:PV.h_ 2 (.aH 0 0 d.size::(args++[.lp 1 0 0]))=true)
 (h:vL 2 Tryz.prog GT tt fn (.aH 0 0 d.size::(args++[.lp 1 0 0])) [UB d,SW s] [j,k] nx fun q e=>q=r∧e=[(j,some (UB d)),(k,some (SW s')),(j,none),(k,none)]):wG f args d s s' r j k nx:=by
 have:=eK (js:=[j,k]) (bs:=[UB d,SW s]) (args:=.aH 0 0 d.size::(args++[.lp 1 0 0])) hf hn hjk hne rfl ⟨⟨rfl,bJ d⟩,⟨rfl,vG s⟩,trivial⟩ hl (N7 h)
 rw[hr]at this
 exact this
theorem uQ{d:Array Int}{s':Nat}{vs:List PV}{r:PV}{j k nx:Nat}{hp:Nat→Option aA}(hjk:nodup [j,k]=true)(hh:hp 0=some (UB d))(hk:hp 1=some (SW s'))(hr:cY [0,1] 200 hp vs=some (vs,[])∧fI (vs.map PV.wk)=r∧PV.rn (kJ [(0,j),(1,k)]) r=r):dW [j,k] nx hp vs (fun q e=>q=r∧e=[(j,some (UB d)),(k,some (SW s')),(j,none),(k,none)]):=by
 obtain⟨h1,h2,h3⟩:=hr;refine dW.mk ⟨[(0,j),(1,k)],200,vs,[],h1,rfl,hjk,⟨dz.mk ⟨_,hh,bJ d,.inr rfl⟩,dz.mk ⟨_,hk,vG s',.inr rfl⟩,trivial⟩,?_,?_⟩
 ·rw[h2,h3]
 ·show[(j,wA (hp 0)),(k,wA (hp 1))]++_=_
  rw[hh,hk];rfl
theorem A9(d:Array Int)(a b s:Nat)(ha:a<d.size)(hb:b<d.size)(hs:s≤1000)(j k nx:Nat)(hjk:nodup [j,k]=true)(hne:cf nx [j,k]=false):wG 451 [i64 a,i64 b] d s (order2 ltInt d a b s).2.2 (.aK [i64 ((order2 ltInt d a b s).1:Nat),i64 ((order2 ltInt d a b s).2.1:Nat)]) j k nx:=by
 refine zB Tryz.func451 rfl hjk hne rfl rfl<|ak.mk (bg hb)<|bQ d (i:=b) hb<|ak.mk (bg ha)<|bQ d (i:=a) ha ?_;have hl:=gn d[b]! d[a]!;unfold order2;cases h3:ltInt d[b]! d[a]! with
 |true=>
  rw[h3]at hl;exact ay hl rfl<|ar<|ah<|ax (cO s)<|nP.mk ⟨[],trivial,uQ hjk rfl rfl ⟨rfl,rfl,rfl⟩⟩
 |false=>
  rw[h3]at hl;exact ay hl rfl<|ar<|aa<|nP.mk ⟨[],trivial,uQ hjk rfl rfl ⟨rfl,rfl,rfl⟩⟩
theorem CE(d:Array Int)(a b s:Nat)(ha:a<d.size)(hb:b<d.size):(order2 ltInt d a b s).1<d.size∧(order2 ltInt d a b s).2.1<d.size:=by rcases order2_mem ltInt d a b s with⟨h1,h2⟩|⟨h1,h2⟩<;>rw[h1,h2]<;>omega
theorem A1(d:Array Int)(a b c s:Nat)(ha:a<d.size)(hb:b<d.size)(hc:c<d.size)(hs:s≤900)(j k nx:Nat)(hjk:nodup [j,k]=true)(hne:cf nx [j,k]=false):wG 450 [i64 a,i64 b,i64 c] d s (median ltInt d a b c s).2 (i64 ((median ltInt d a b c s).1:Nat)) j k nx:=by
 refine zB Tryz.func450 rfl hjk hne rfl rfl ?_;obtain⟨o1,e1⟩:∃o,o=order2 ltInt d a b s:=⟨_,rfl⟩;obtain⟨o2,e2⟩:∃o,o=order2 ltInt d o1.2.1 c o1.2.2:=⟨_,rfl⟩;obtain⟨o3,e3⟩:∃o,o=order2 ltInt d o1.1 o2.1 o2.2.2:=⟨_,rfl⟩;have hm:median ltInt d a b c s=(o3.2.1,o3.2.2):=by rw[e3,e2,e1];rfl
 rw[hm];have l1:=CE d a b s ha hb;have c1:=order2_count (lt:=ltInt) d a b s;have u1:=A9 d a b s ha hb (by omega);rw[← e1]at l1 c1 u1;have l2:=CE d o1.2.1 c o1.2.2 l1.2 hc;have c2:=order2_count (lt:=ltInt) d o1.2.1 c o1.2.2;have u2:=A9 d o1.2.1 c o1.2.2 l1.2 hc (by omega);rw[← e2]at l2 c2 u2;have u3:=A9 d o1.1 o2.1 o2.2.2 l1.1 l2.1 (by omega);rw[← e3]at u3;exact a_.bB [0,1] (n:=200) (u1 0 1 _ rfl rfl) rfl ⟨rfl,rfl,trivial⟩<|a_.bB [0,1] (n:=200) (u2 0 1 _ rfl rfl) rfl ⟨rfl,rfl,trivial⟩<|a_.bB [0,1] (n:=200) (u3 0 1 _ rfl rfl) rfl ⟨rfl,rfl,trivial⟩<|nP.mk ⟨[],trivial,uQ hjk rfl rfl ⟨rfl,rfl,rfl⟩⟩
theorem yy(d:Array Int)(a s:Nat)(ha:1≤a)(hb:a+1<d.size)(hd:d.size≤67108864)(hs:s≤900)(j k nx:Nat)(hjk:nodup [j,k]=true)(hne:cf nx [j,k]=false):wG 449 [i64 a] d s (medianAdjacent ltInt d a s).2 (i64 ((medianAdjacent ltInt d a s).1:Nat)) j k nx:=by
 refine zB Tryz.func449 rfl hjk hne rfl rfl ?_;obtain⟨a,rfl⟩:∃a',a=a'+1:=⟨a-1,by omega⟩;refine ax (dD a)<|ax (cO (a+1))<|a_.bB [0,1] (n:=200) (A1 d a (a+1) (a+1+1) s (by omega) (by omega) hb hs 0 1 _ rfl rfl) rfl ⟨rfl,rfl,trivial⟩ ?_;exact nP.mk ⟨[],trivial,uQ hjk rfl rfl ⟨rfl,rfl,rfl⟩⟩
def hv:Hint→Int
 |.unknown=>0
 |.increasing=>1
 |.decreasing=>2
theorem Ad(a c:Nat)(h:a≤67108864):IntKind.i64.wrap (Int.tdiv (a:Int) (c:Int))=((a / c:Nat):Int):=
 wrap_i64 rfl (by have:=adv a c;generalize a / c=z at this⊢;omega)
theorem tO(a c:Nat)(h:a*c≤4611686018427387904:=by omega):IntKind.i64.wrap ((a:Int)*(c:Int))=((a*c:Nat):Int):=wrap_i64 (Int.natCast_mul a c).symm (by omega)
theorem XK(d:Array Int)(a b:Nat)(hab:8≤b-a)(hb:b≤d.size)(hd:d.size≤67108864)(j nx:Nat)(hne:Nat.beq nx j=false):UL 438 [i64 a,i64 b] d d (.aK [i64 ((choosePivot ltInt d a b).1:Nat),i64 (hv (choosePivot ltInt d a b).2)]) j nx:=by
 refine ue Tryz.func438 rfl rfl (aaG rfl) hne rfl rfl ?_;obtain⟨l,hl⟩:∃l,l=b-a:=⟨_,rfl⟩;obtain⟨q,hq⟩:∃q,q=l / 4:=⟨_,rfl⟩;have h1:q*4≤l:=by omega
 have h2:l<q*4+4:=by omega
 refine SV.seq bH bU<|SV.seq bH bU<|ax (dY b a) ?_;rw[← hl];have quo:IntKind.i64.wrap (Int.tdiv (l:Int) 4)=(q:Int):=by rw[hq];exact Ad l 4 (by omega)
 refine SV.seq bH bU<|SV.seq bH bU<|cj<|ax quo<|ax (tO q 1)<|ax (cZ a (q*1))<|SV.seq bH bU<|cj<|ax quo<|ax (tO q 2)<|ax (cZ a (q*2))<|SV.seq bH bU<|cj<|ax quo ?_;refine ax (tO q 3)<|ax (cZ a (q*3)) ?_;obtain⟨R,hR⟩:∃R:Nat×Nat,R=(if l≥50 then median ltInt d (medianAdjacent ltInt d (a+q*1) 0).1 (medianAdjacent ltInt d (a+q*2) (medianAdjacent ltInt d (a+q*1) 0).2).1 (medianAdjacent ltInt d (a+q*3) (medianAdjacent ltInt d (a+q*2) (medianAdjacent ltInt d (a+q*1) 0).2).2).1 (medianAdjacent ltInt d (a+q*3) (medianAdjacent ltInt d (a+q*2) (medianAdjacent ltInt d (a+q*1) 0).2).2).2 else median ltInt d (a+q*1) (a+q*2) (a+q*3) 0):=⟨_,rfl⟩;have hP:choosePivot ltInt d a b=(R.1,if R.2=0 then .increasing else if R.2=12 then .decreasing else .unknown):=by
  unfold choosePivot;dsimp only;rw[← hl,← hq,abb (show l≥8 by omega),hR]
 rw[hP];refine SV.cut (⟨fun _=>[(11,i64 (R.1:Nat))],[9],fun _=>[(0,UB d),(7,SW R.2)],[]⟩:Inv Unit) (fun _=>True) (SV.of bH bU ?_) ?_
 ·refine ae.t (show(8:Int)≤(l:Int)by omega)<|ah<|ae.two (fun h5=>?_) (fun h5=>?_)
  ·have h5:l≥50:=by have:=aat h5;omega
   rw[abb h5]at hR;refine ah ?_;obtain⟨m1,e1⟩:∃m,m=medianAdjacent ltInt d (a+q*1) 0:=⟨_,rfl⟩;obtain⟨m2,e2⟩:∃m,m=medianAdjacent ltInt d (a+q*2) m1.2:=⟨_,rfl⟩;obtain⟨m3,e3⟩:∃m,m=medianAdjacent ltInt d (a+q*3) m2.2:=⟨_,rfl⟩;have c1:=medianAdjacent_count (lt:=ltInt) d (a+q*1) 0;have u1:=yy d (a+q*1) 0 (by omega) (by omega) hd (by omega);have k1:=medianAdjacent_mem ltInt d (a+q*1) 0;rw[← e1]at c1 u1 k1;have c2:=medianAdjacent_count (lt:=ltInt) d (a+q*2) m1.2;have u2:=yy d (a+q*2) m1.2 (by omega) (by omega) hd (by omega);have k2:=medianAdjacent_mem ltInt d (a+q*2) m1.2;rw[← e2]at c2 u2 k2;have c3:=medianAdjacent_count (lt:=ltInt) d (a+q*3) m2.2;have u3:=yy d (a+q*3) m2.2 (by omega) (by omega) hd (by omega);have k3:=medianAdjacent_mem ltInt d (a+q*3) m2.2;rw[← e3]at c3 u3 k3;rw[← e1,← e2,← e3]at hR;have u4:=A1 d m1.1 m2.1 m3.1 m3.2 (by omega) (by omega) (by omega) (by omega);rw[← hR]at u4;exact a_.bB [0,7] (n:=200) (u1 0 7 _ rfl rfl) rfl ⟨rfl,rfl,trivial⟩<|a_.bB [0,7] (n:=200) (u2 0 7 _ rfl rfl) rfl ⟨rfl,rfl,trivial⟩<|a_.bB [0,7] (n:=200) (u3 0 7 _ rfl rfl) rfl ⟨rfl,rfl,trivial⟩<|a_.bB [0,7] (n:=200) (u4 0 7 _ rfl rfl) rfl ⟨rfl,rfl,trivial⟩<|⟨(),id,trivial,⟨⟨rfl,rfl⟩,trivial⟩,⟨⟨_,rfl,rfl,rfl⟩,trivial⟩,⟨⟨BB.aO rfl (bJ _),rfl⟩,⟨BB.aO rfl (vG _),rfl⟩,trivial⟩,trivial,rfl,rfl,rfl⟩
  ·have h5:¬l≥50:=fun h=>aaw h5 (by omega)
   rw[abg h5]at hR;refine aa ?_;have u4:=A1 d (a+q*1) (a+q*2) (a+q*3) 0 (by omega) (by omega) (by omega) (by omega);rw[← hR]at u4;exact a_.bB [0,7] (n:=200) (u4 0 7 _ rfl rfl) rfl ⟨rfl,rfl,trivial⟩<|⟨(),id,trivial,⟨⟨rfl,rfl⟩,trivial⟩,⟨⟨_,rfl,rfl,rfl⟩,trivial⟩,⟨⟨BB.aO rfl (bJ _),rfl⟩,⟨BB.aO rfl (vG _),rfl⟩,trivial⟩,trivial,rfl,rfl,rfl⟩
 rintro⟨⟩ -
 refine SV.of bH bU<|ae.two (fun h5=>?_) (fun h5=>?_)
 ·have h5:R.2=0:=by have:=aat h5;omega
  rw[abb h5];exact ah<|gh rfl rfl ⟨rfl,rfl,rfl⟩
 ·have h5:¬R.2=0:=fun h=>aaw h5 (by rw[h];rfl)
  rw[abg h5];refine aa<|ae.two (fun h6=>?_) (fun h6=>?_)
  ·have h6:R.2=12:=by have:=aat h6;omega
   rw[abb h6];exact ah<|gh rfl rfl ⟨rfl,rfl,rfl⟩
  ·have h6:¬R.2=12:=fun h=>aaw h6 (by rw[h];rfl)
   rw[abg h6];exact aa<|gh rfl rfl ⟨rfl,rfl,rfl⟩
theorem BG(k n:Nat)(h:2^k≤n):bitsLen n=k+bitsLen (n / 2^k):=by
 have hk:0<2^k:=Nat.two_pow_pos k;have h1:k<bitsLen n:=by
  have:=mt (bitsLen_le_iff n k).1 (by omega);omega
 refine Nat.le_antisymm ((bitsLen_le_iff n _).2 ?_) ?_
 ·rw[Nat.pow_add,ade];exact(Nat.div_lt_iff_lt_mul hk).1 (lt_two_pow_bitsLen _)
 ·have:bitsLen (n / 2^k)≤bitsLen n-k:=by
   refine(bitsLen_le_iff _ _).2 ((Nat.div_lt_iff_lt_mul hk).2 ?_);rw[← Nat.pow_add,show bitsLen n-k+k=bitsLen n by omega];exact lt_two_pow_bitsLen n
  omega
def IL:List UInt8:=[0,1]++List.replicate 2 2++List.replicate 4 3++List.replicate 8 4++List.replicate 16 5++List.replicate 32 6++List.replicate 64 7++List.replicate 128 8
theorem Nl:(List.range 256).all (fun x=>(IL.getD x 0).toNat==bitsLen x)=true:=by kernel_rfl
theorem xN{x:Nat}(h:x<256):(IL.getD x 0).toNat=bitsLen x:=by
 have:=abn.1 Nl x (acN.2 h);exact eq_of_beq this
theorem Av(a k:Nat){z:Int}(hz:z=k)(hk:k≤64):Int.fdiv (a:Int) (2^(min z.toNat IntKind.u64.bits))=((a / 2^k:Nat):Int):=by
 subst hz;rw[show min ((k:Int)).toNat IntKind.u64.bits=k by show min k 64=k;omega];have:((2:Int)^k)=((2^k:Nat):Int):=(acU 2 k).symm;rw[this];exact(Int.ofNat_fdiv a (2^k)).symm
theorem Vz(n:Nat)(h:n≤67108864):PC 445 [u64 n] (·=i64 (bitsLen n:Nat)):=by
 refine al Tryz.func445 ?_;have fin:∀(m x:Nat),x<256→bitsLen n=m+bitsLen x→m≤100→IntKind.i64.wrap ((m:Int)+((bitsLen x:Nat):Int))=((bitsLen n:Nat):Int):=fun m x hx e hm=>by
  rw[e];exact cZ m (bitsLen x) (by have:bitsLen x≤8:=(bitsLen_le_iff x 8).2 (by omega);omega)
 have wr:∀x:Nat,x<256→IntKind.u8.wrap (x:Int)=(x:Int):=fun x hx=>by rw[IntKind.wrap_u8];omega
 have wi:∀x:Nat,x<256→IntKind.i64.wrap ((bitsLen x:Nat):Int)=((bitsLen x:Nat):Int):=fun x hx=>wrap_i64 rfl (by have:bitsLen x≤8:=(bitsLen_le_iff x 8).2 (by omega);omega)
 refine ae.f (show¬(4294967296:Int)≤(n:Int)by omega)<|aa<|ae.two (fun h1=>?_) (fun h1=>?_)
 ·have h1:65536≤n:=by have:=aat h1;omega
  have e1:=BG 16 n h1;have l1:n / 2^16≤1024:=by omega
  refine ah<|cj<|ax (Av n 16 rfl (by decide))<|bN.intro ((16:Nat):Int) (by decide)<|ae.two (fun h2=>?_) (fun h2=>?_)
  ·have h2:2^8≤n / 2^16:=by have:=aat h2;omega
   have e2:=BG 8 (n / 2^16) h2;have l2:n / 2^16 / 2^8<256:=by omega
   refine ah<|cj<|ax (Av (n / 2^16) 8 rfl (by decide))<|bN.intro ((24:Nat):Int) (by decide)<|ax (wr _ l2) ?_;refine ak.mk ⟨by omega,show((n / 2^16 / 2^8:Nat):Int)<((256:Nat):Int)by omega⟩ ?_;refine bN.intro ((bitsLen (n / 2^16 / 2^8):Nat):Int) (congrArg Int.ofNat (xN l2))<|ax (wi _ l2)<|ax (fin 24 _ l2 (by omega) (by decide)) ?_;exact ab
  ·have l2:n / 2^16<256:=by
    have:¬(256:Int)≤((n / 2^16:Nat):Int):=aaw h2;omega
   refine aa<|ax (wr _ l2)<|ak.mk ⟨by omega,show((n / 2^16:Nat):Int)<((256:Nat):Int)by omega⟩ ?_;refine bN.intro ((bitsLen (n / 2^16):Nat):Int) (congrArg Int.ofNat (xN l2))<|ax (wi _ l2)<|ax (fin 16 _ l2 e1 (by decide)) ?_;exact ab
 ·have h1:n<65536:=by
   have:¬(65536:Int)≤(n:Int):=aaw h1;omega
  refine aa<|ae.two (fun h2=>?_) (fun h2=>?_)
  ·have h2:2^8≤n:=by have:=aat h2;omega
   have e2:=BG 8 n h2;have l2:n / 2^8<256:=by omega
   refine ah<|cj<|ax (Av n 8 rfl (by decide))<|bN.intro ((8:Nat):Int) (by decide)<|ax (wr _ l2) ?_;refine ak.mk ⟨by omega,show((n / 2^8:Nat):Int)<((256:Nat):Int)by omega⟩ ?_;refine bN.intro ((bitsLen (n / 2^8):Nat):Int) (congrArg Int.ofNat (xN l2))<|ax (wi _ l2)<|ax (fin 8 _ l2 e2 (by decide)) ?_;exact ab
  ·have l2:n<256:=by
    have:¬(256:Int)≤(n:Int):=aaw h2;omega
   refine aa<|ax (wr _ l2)<|ak.mk ⟨by omega,show(n:Int)<((256:Nat):Int)by omega⟩ ?_;refine bN.intro ((bitsLen n:Nat):Int) (congrArg Int.ofNat (xN l2))<|ax (wi _ l2)<|ax (fin 0 _ l2 (aav _).symm (by decide)) ?_;exact ab
theorem Kt(n:Nat)(h:n≤67108864):PC 426 [u64 n] (·=i64 (bitsLen n:Nat)):=al Tryz.func426<|aa<|af (Vz n h) rfl<|ab
theorem R5(n:Nat)(h:n≤67108864):PC 447 [i64 n] (·=u64 (2^bitsLen n)):=by
 refine al Tryz.func447 ?_;have hb:bitsLen n≤27:=(bitsLen_le_iff n 27).2 (by omega);have hp:2^bitsLen n≤2^27:=Nat.pow_le_pow_right (by decide) hb;refine bN.intro (n:Int) (by rw[IntKind.wrap_u64];omega)<|af (Kt n h) rfl<|oG<|bN.intro ((2^bitsLen n:Nat):Int) ?_ ?_
 ·rw[show min (((bitsLen n:Nat):Int)).toNat IntKind.u64.bits=bitsLen n by show min (bitsLen n) 64=_;omega,IntKind.wrap_u64,Int.one_mul,show((2:Int)^bitsLen n)=((2^bitsLen n:Nat):Int)from(acU 2 _).symm];generalize 2^bitsLen n=w at hp⊢;omega
 exact ab
abbrev XW(x:Int):aA:=.rows 1 [uI x] true none 543
theorem sY(x:Int):cE [uI x]:=fun r hr=>by rw[aaD.1 hr];rfl
theorem u64_in(z:Int):0≤IntKind.u64.wrap z∧IntKind.u64.wrap z<18446744073709551616:=by rw[IntKind.wrap_u64];omega
theorem Tl(x:Int)(j nx:Nat)(hne:Nat.beq nx j=false):LC 448 [.lp j 0 0] [(j,XW x)] nx fun q e=>∃y,(0≤y∧y<18446744073709551616)∧q=uI y∧e=[(j,some (XW y)),(j,none)]:=by
 refine eK (js:=[j]) (bs:=[XW x]) (args:=[.lp 0 0 0]) Tryz.func448 rfl rfl (by unfold cf;rw[hne];rfl) rfl ⟨⟨rfl,sY x⟩,trivial⟩ rfl (sS ?_);refine cj<|gp<|gp<|ar<|cj<|gp<|gp<|ar<|cj<|gp<|gp<|ar<|du<|dW.mk ⟨[(0,j)],200,_,_,rfl,rfl,rfl,⟨dz.mk ⟨_,rfl,sY _,.inr rfl⟩,trivial⟩,?_⟩;exact⟨_,u64_in _,rfl,rfl⟩
theorem a_.xR(X:List Nat){P:Program}{G:World→Prop}{hp:Nat→Option aA}{nx n:Nat}{f:FuncId}{args rs':List PV}{l':List Nat}{k:PV→bW→Prop}{bs:List (Nat×aA)}{post:PV→bW→Prop}(h:HC P G f rs' bs nx post)(hr:cY X n hp args=.some (rs',l'))(hb:cC (fun x:Nat×aA=>dE hp l' x.1=.some x.2) bs)(hk:∀r d,post r d→k r (d++jt hp l')):a_ P G hp nx f args k:=
 ⟨.inr (.inl ⟨X,n,rs',l',bs,_,hr,hb,h,hk⟩)⟩
theorem P4(x:Int)(m:Nat)(hx:0≤x∧x<18446744073709551616)(hm:m<18446744073709551616):∃z:Nat,z≤m∧IntKind.u64.wrap ((BitVec.ofInt IntKind.u64.bits x &&& BitVec.ofInt IntKind.u64.bits (m:Int)).toNat:Int)=(z:Int):=by
 obtain⟨n,rfl⟩:=ack hx.1;exact⟨n &&& m,Nat.and_le_right,bits_and_u64_nat n m (by omega) hm⟩
theorem Pq(d:Array Int)(a b:Nat)(hab:8≤b-a)(hb:b≤d.size)(hs:d.size≤67108864)(j nx:Nat)(hne:Nat.beq nx j=false):LC 437 [.aH j 0 d.size,i64 a,i64 b] [(j,UB d)] nx fun q e=>∃d',PermIn a b d d'∧q=.aK []∧e=[(j,some (UB d')),(j,none)]:=by
 refine eK (js:=[j]) (bs:=[UB d]) (args:=[.aH 0 0 d.size,i64 a,i64 b]) Tryz.func437 rfl rfl (by unfold cf;rw[hne];rfl) rfl ⟨⟨rfl,bJ d⟩,trivial⟩ rfl (sS ?_);obtain⟨l,hl⟩:∃l,l=b-a:=⟨_,rfl⟩;obtain⟨q,hq⟩:∃q,q=l / 4:=⟨_,rfl⟩;have h1:q*4≤l:=by omega
 have h2:l<q*4+4:=by omega
 have quo:IntKind.i64.wrap (Int.tdiv (l:Int) 4)=(q:Int):=by rw[hq];exact Ad l 4 (by omega)
 have hm1:2^bitsLen l≤2*l:=two_pow_bitsLen_le (by omega);obtain⟨m,hm⟩:∃m,2^bitsLen l=m+1:=⟨2^bitsLen l-1,by have:=Nat.two_pow_pos (bitsLen l);omega⟩;have hpw:=R5 l (by omega);rw[hm]at hpw hm1;refine bN.intro (l:Int) (by rw[hl];exact dY b a (by omega) (by omega))<|ae.t (show(8:Int)≤(l:Int)by omega)<|ah<|bN.intro (l:Int) (by rw[IntKind.wrap_u64];omega)<|af hpw rfl<|cj<|ax quo<|ax (tO q 2)<|ax (cZ a (q*2)) ?_;obtain⟨i0,hi0⟩:∃i0,a+q*2=i0+1:=⟨a+q*2-1,by omega⟩;refine bN.intro (i0:Int) (by rw[hi0];exact dD i0 (by omega)) ?_;refine cv.inv (ι:={p:Nat×Int×Array Int//p.1≤3∧(0≤p.2.1∧p.2.1<18446744073709551616)∧PermIn a b d p.2.2}) ⟨fun p=>[(9,i64 ((i0+p.1.1:Nat):Int))],[0,1,6,7,8],fun p=>[(0,UB p.1.2.2),(9,XW p.1.2.1)],[]⟩ (fun p=>3-p.1.1) ⟨(0,(l:Int),d),aaF _,⟨by show(0:Int)≤(l:Int);omega,by show(l:Int)<_;omega⟩,permIn_refl d a b⟩ ?_ ?_
 ·exact dv ⟨⟨BB.aO rfl (bJ _),rfl⟩,⟨BB.aO rfl (sY _),rfl⟩,trivial⟩
 rintro⟨⟨k,x,M⟩,hk,hx,hP⟩;dsimp only at hk hx hP;have hM:M.size=d.size:=hP.1;refine cj<|ax quo<|ax (tO q 2)<|ax (cZ a (q*2))<|ax (cO (a+q*2))<|ae.two (fun h3=>?_) (fun h3=>?_);rotate_left
 ·
  refine aa<|du<|dW.mk ⟨[(0,j)],200,_,_,rfl,rfl,rfl,⟨dz.mk ⟨_,rfl,bJ M,.inr rfl⟩,trivial⟩,M,hP,rfl,rfl⟩
 have h3:i0+k≤a+q*2+1:=nN h3;refine ah<|a_.xR [0,9] (n:=200) (Tl x 9 _ rfl) rfl ⟨rfl,trivial⟩ ?_;rintro _ _ ⟨y,hy,rfl,rfl⟩;refine bN.intro (m:Int) (by rw[IntKind.wrap_u64];omega) ?_;obtain⟨z,hz,hzw⟩:=P4 y m hy (by omega);refine ax hzw<|bN.intro (z:Int) (wrap_i64 rfl (by omega)) ?_;have go:∀o:Nat,o<l→∀M',M'=Sort.swp M (i0+k) (a+o)→PermIn a b d M':=fun o ho M' e=>by
  rw[e];exact permIn_trans _ _ _ a b hP (swp_permIn M a b (i0+k) (a+o) (by omega) (by omega) (by omega) (by omega) (by rw[hM];exact hb))
 refine ae.two (fun h4=>?_) (fun h4=>?_)
 ·have h4:l≤z:=nN h4;refine ah<|ax (dY z l h4)<|ax (cZ a (z-l))<|ax (cZ a (z-l))<|ak.mk (bg (show a+(z-l)<d.size by omega))<|bQ M (i:=a+(z-l)) (by omega)<|ak.mk (bg (show i0+k<d.size by omega))<|bQ M (i:=i0+k) (by omega)<|ak.mk (bg (show i0+k<d.size by omega))<|bQ M (i:=i0+k) (by omega)<|ak.mk (bg (show a+(z-l)<d.size by omega))<|gL M (i:=i0+k) (j:=a+(z-l)) _ (by omega) fun w=>?_
  refine ar<|ax (cO (i0+k))<|⟨⟨(k+1,y,Sort.swp M (i0+k) (a+(z-l))),by show k+1≤3;omega,hy,go _ (by omega) _ rfl⟩,id,by show 3-(k+1)<3-k;omega,?_⟩;exact dv ⟨⟨BB.aO (gZ M (i0+k) (a+(z-l)) rfl) (bJ _),rfl⟩,⟨BB.aO rfl (sY _),rfl⟩,trivial⟩
 ·have h4:¬l≤z:=fun h=>aaw h4 (abS.2 h)
  refine aa<|ax (cZ a z)<|ax (cZ a z)<|ak.mk (bg (show a+z<d.size by omega))<|bQ M (i:=a+z) (by omega)<|ak.mk (bg (show i0+k<d.size by omega))<|bQ M (i:=i0+k) (by omega)<|ak.mk (bg (show i0+k<d.size by omega))<|bQ M (i:=i0+k) (by omega)<|ak.mk (bg (show a+z<d.size by omega))<|gL M (i:=i0+k) (j:=a+z) _ (by omega) fun w=>?_
  refine ar<|ax (cO (i0+k))<|⟨⟨(k+1,y,Sort.swp M (i0+k) (a+z)),by show k+1≤3;omega,hy,go _ (by omega) _ rfl⟩,id,by show 3-(k+1)<3-k;omega,?_⟩;exact dv ⟨⟨BB.aO (gZ M (i0+k) (a+z) rfl) (bJ _),rfl⟩,⟨BB.aO rfl (sY _),rfl⟩,trivial⟩
theorem Bc{d R S:Array Int}{a b:Nat}(hb:b≤d.size)(h1:PermIn a b d R)(h2:SortedIn ltInt a b R)(h3:PermIn a b d S)(h4:SortedIn ltInt a b S):R=S:=by
 have pw:∀{R:Array Int},R.size=d.size→SortedIn ltInt a b R→(R.extract a b).toList.Pairwise (·≤·):=by
  intro R hR h;rw[extract_toList R a b (by omega)];refine List.pairwise_map.2<|(List.pairwise_lt_range' (s:=a) (n:=b-a)).imp_of_mem fun{i k} hi hk hlt=>?_
  have hi:=List.mem_range'_1.1 hi;have hk:=List.mem_range'_1.1 hk;have:=h i k hi.1 hlt (by omega);unfold ltInt at this;have:=aaw this;omega
 have hp:(R.extract a b).toList.Perm (S.extract a b).toList:=h1.2.2.trans h3.2.2.symm;have he:=hp.eq_of_pairwise (le:=fun(x y:Int)=>x≤y) (fun x y _ _ h1 h2=>Int.le_antisymm h1 h2) (pw h1.1 h2) (pw h3.1 h4);rw[extract_toList R a b (by have:=h1.1;omega),extract_toList S a b (by have:=h3.1;omega)]at he;have hin:=List.map_inj_left.1 he;refine Array.ext (h1.1.trans h3.1.symm) fun i hi1 hi2=>?_
 have key:R[i]! = S[i]!:=by
  by_cases hab:a≤i∧i<b
  ·exact hin i (List.mem_range'_1.2 ⟨hab.1,by omega⟩)
  ·have:=h1.2.1 i (by omega);rw[this,h3.2.1 i (by omega)]
 rwa [adC R i hi1,adC S i hi2]at key
theorem lM:SWO ltInt:=swo_ltInt
theorem WG(a:Nat)(h:a≤67108864):IntKind.i64.wrap (Int.tdiv (a:Int) 8)=((a / 8:Nat):Int):=Ad a 8 h
theorem Pv(F:Nat):∀(d:Array Int) (a b bu:Nat),b-a≤F→a≤b→b≤d.size→d.size≤67108864→bu≤1000→Below ltInt a b d→∀(j nx:Nat),Nat.beq nx j=false→UL 425 [i64 a,i64 b,i64 bu] d (Sort.insertionSort ltInt d a b) (.aK []) j nx:=by
 induction F using Nat.strongRecOn with
 |_ F ih=>
 intro d a b bu hF hab hb hs hlm hB j nx hne;have hT:=insertionSort_holds (lt:=ltInt) lM d a b hab hb;obtain⟨T,hTd⟩:∃T,T=Sort.insertionSort ltInt d a b:=⟨_,rfl⟩;rw[← hTd]at hT⊢;have fin:∀R,PermIn a b d R∧SortedIn ltInt a b R→R=T:=fun R h=>Bc hb h.1 h.2 hT.1 hT.2
 refine ue Tryz.func425 rfl rfl (aaG rfl) hne rfl rfl<|SV.seq bH bU<|SV.seq bH bU<|SV.block<|SV.loop (ι:={p:Nat×Nat×Nat×Bool×Bool×Array Int//p.2.2.2.2.2.size=d.size∧p.1≤p.2.1∧p.2.1≤d.size∧p.2.1-p.1≤b-a∧p.2.2.1≤1000∧Below ltInt p.1 p.2.1 p.2.2.2.2.2∧∀R,PermIn p.1 p.2.1 p.2.2.2.2.2 R→SortedIn ltInt p.1 p.2.1 R→PermIn a b d R∧SortedIn ltInt a b R}) ⟨fun p=>[(1,i64 p.1.1),(2,i64 p.1.2.1),(3,i64 p.1.2.2.1),(8,bo p.1.2.2.2.1),(9,bo p.1.2.2.2.2.1)],[0],fun p=>[(0,UB p.1.2.2.2.2.2)],[]⟩ (fun p=>p.1.2.1-p.1.1) ⟨(a,b,bu,true,true,d),rfl,hab,hb,aas _,hlm,hB,fun R h1 h2=>⟨h1,h2⟩⟩ ?_ ?_
 ·exact bY rfl (bJ _)
 rintro⟨⟨A,B,L,wb,wp,M⟩,hM,hAB,hBs,hBA,hL,hBel,hI⟩;dsimp only at hM hAB hBs hBA hL hBel hI;refine SV.block<|SV.seq bH bU<|ax (dY B A hAB)<|SV.seq bH bU<|ae.two (fun h1=>?_) (fun h1=>?_)
 ·refine ah<|a_.bB [0] (n:=200) ((TO M A B (by omega) (by omega) (by omega) 0 _ rfl).at hM) rfl ⟨rfl,trivial⟩ ?_;have hi:=insertionSort_holds (lt:=ltInt) lM M A B hAB (by omega);exact gh rfl (fin _ (hI _ hi.1 hi.2)) ⟨rfl,rfl,rfl⟩
 have h1:12<B-A:=by
  have:¬((B-A:Nat):Int)≤12:=aaw h1;omega
 refine aa<|SV.seq bH bU<|ae.two (fun h2=>?_) (fun h2=>?_)
 ·refine ah<|a_.bB [0] (n:=200) ((Ue M A B (by omega) (by omega) (by omega) 0 _ rfl).at hM) rfl ⟨rfl,trivial⟩ ?_;have hi:=heapSort_holds (lt:=ltInt) lM M A B hAB (by omega);exact gh rfl (fin _ (hI _ hi.1 hi.2)) ⟨rfl,rfl,rfl⟩
 have h2:L≠0:=fun h=>aaw h2 (congrArg Int.ofNat h)
 obtain⟨L,rfl⟩:∃l,L=l+1:=⟨L-1,by omega⟩;refine aa<|SV.cut (⟨fun p=>[(3,i64 p.1)],[0,1,2,8,9,10],fun p=>[(0,UB p.2)],[]⟩:Inv (Nat×Array Int)) (fun p=>p.1≤1000∧PermIn A B M p.2) (SV.of bH bU ?_) ?_
 ·cases wb with
  |true=>
   exact aa<|⟨(L+1,M),id,⟨hL,permIn_refl M A B⟩,⟨⟨rfl,rfl⟩,trivial⟩,⟨⟨_,rfl,rfl,rfl⟩,⟨_,rfl,rfl,rfl⟩,⟨_,rfl,rfl,rfl⟩,⟨_,rfl,rfl,rfl⟩,⟨_,rfl,rfl,rfl⟩,⟨_,rfl,rfl,rfl⟩,trivial⟩,⟨⟨BB.aO rfl (bJ _),rfl⟩,trivial⟩,trivial,rfl,rfl,rfl⟩
  |false=>
   refine ah ?_;have hbr:=Pq M A B (by omega) (by omega) (by omega) 0;rw[hM]at hbr;refine a_.xR [0] (n:=200) (hbr _ rfl) rfl ⟨rfl,trivial⟩ ?_;rintro _ _ ⟨M1,hP1,rfl,rfl⟩;exact ax (dD L)<|⟨(L,M1),id,⟨by show L≤1000;omega,hP1⟩,⟨⟨rfl,rfl⟩,trivial⟩,⟨⟨_,rfl,rfl,rfl⟩,⟨_,rfl,rfl,rfl⟩,⟨_,rfl,rfl,rfl⟩,⟨_,rfl,rfl,rfl⟩,⟨_,rfl,rfl,rfl⟩,⟨_,rfl,rfl,rfl⟩,trivial⟩,⟨⟨BB.aO rfl (bJ _),rfl⟩,trivial⟩,trivial,rfl,rfl,rfl⟩
 rintro⟨L1,M1⟩ ⟨hL1,hP1⟩;dsimp only at hL1 hP1;have hM1:M1.size=d.size:=hP1.1.trans hM;refine SV.seq bH bU ?_;have hpv:=choosePivot_holds ltInt M1 A B (by omega);have hup:=fun nx hn=>(XK M1 A B (by omega) (by omega) (by omega) 0 nx hn).at hM1
 rcases hcp:choosePivot ltInt M1 A B with⟨pv,hint⟩
 rw[hcp]at hpv hup;dsimp only at hpv hup;refine a_.bB [0] (n:=200) (hup _ rfl) rfl ⟨rfl,trivial⟩<|SV.cut (⟨fun p=>[(11,i64 p.1),(12,i64 p.2.1)],[0,1,2,3,8,9,10],fun p=>[(0,UB p.2.2)],[]⟩:Inv (Nat×Int×Array Int)) (fun p=>A≤p.1∧p.1<B∧PermIn A B M p.2.2) (SV.of bH bU ?_) ?_
 ·refine ae.two (fun h3=>?_) (fun h3=>?_)
  ·refine ah<|a_.bB [0] (n:=200) ((NA M1 A B (by omega) (by omega) (by omega) 0 _ rfl).at hM1) rfl ⟨rfl,trivial⟩ ?_;exact bN.intro ((B-1:Nat):Int) (wrap_i64 (show(B:Int)-1=((B-1:Nat):Int)by omega) (by omega))<|ax (dY pv A hpv.1)<|ax (dY (B-1) (pv-A))<|⟨(B-1-(pv-A),1,reverseRange M1 A B),id,⟨by show A≤B-1-(pv-A);omega,by show B-1-(pv-A)<B;omega,permIn_trans _ _ _ A B hP1 (reverseRange_holds M1 A B hAB (by omega))⟩,⟨⟨rfl,rfl⟩,⟨rfl,rfl⟩,trivial⟩,⟨⟨_,rfl,rfl,rfl⟩,⟨_,rfl,rfl,rfl⟩,⟨_,rfl,rfl,rfl⟩,⟨_,rfl,rfl,rfl⟩,⟨_,rfl,rfl,rfl⟩,⟨_,rfl,rfl,rfl⟩,⟨_,rfl,rfl,rfl⟩,trivial⟩,⟨⟨BB.aO rfl (bJ _),rfl⟩,trivial⟩,trivial,rfl,rfl,rfl⟩
  ·exact aa<|⟨(pv,hv hint,M1),id,⟨hpv.1,hpv.2,hP1⟩,⟨⟨rfl,rfl⟩,⟨rfl,rfl⟩,trivial⟩,⟨⟨_,rfl,rfl,rfl⟩,⟨_,rfl,rfl,rfl⟩,⟨_,rfl,rfl,rfl⟩,⟨_,rfl,rfl,rfl⟩,⟨_,rfl,rfl,rfl⟩,⟨_,rfl,rfl,rfl⟩,⟨_,rfl,rfl,rfl⟩,trivial⟩,⟨⟨BB.aO rfl (bJ _),rfl⟩,trivial⟩,trivial,rfl,rfl,rfl⟩
 clear hup hcp hpv hP1 hM1;rintro⟨pv,hi,M2⟩ ⟨hp1,hp2,hP2⟩;dsimp only at hp1 hp2 hP2;have hM2:M2.size=d.size:=hP2.1.trans hM;have hB2:Below ltInt A B M2:=hBel.perm (by omega) hP2;refine SV.cut (⟨fun _=>[],[0,1,2,3,8,9,10,11],fun M=>[(0,UB M)],[]⟩:Inv (Array Int)) (fun M3=>PermIn A B M M3) (SV.of bH bU ?_) ?_
 ·have no:∀{nx:Nat} {s s':AS},dQ 1 nx id (⟨fun _=>[],[0,1,2,3,8,9,10,11],fun M=>[(0,UB M)],[]⟩:Inv (Array Int)) s M2 s'→∃(i:Array Int) (ρ:Nat→Nat),PermIn A B M i∧dQ 1 nx ρ (⟨fun _=>[],[0,1,2,3,8,9,10,11],fun M=>[(0,UB M)],[]⟩:Inv (Array Int)) s i s':=fun h=>⟨M2,id,hP2,h⟩
  cases wb with
  |false=>
   exact aa<|no (bY rfl (bJ _))
  |true=>
   cases wp with
   |false=>
    exact aa<|no (bY rfl (bJ _))
   |true=>
    refine ae.two (fun h3=>?_) (fun h3=>?_)
    ·refine ah ?_;have hpi:=partialInsertionSort_holds (lt:=ltInt) lM M2 A B (by omega) (by omega) hB2;have hul:=fun nx hn=>(TU M2 A B (by omega) (by omega) (by omega) 0 nx hn).at hM2
     rcases hR:partialInsertionSort ltInt M2 A B with⟨M3,ok⟩
     rw[hR]at hpi hul;dsimp only at hpi hul;have hP3:=permIn_trans _ _ _ A B hP2 hpi.1;refine a_.bB [0] (n:=200) (hul _ rfl) rfl ⟨rfl,trivial⟩ ?_;cases ok with
     |true=>
      exact ah<|gh rfl (fin _ (hI _ hP3 (hpi.2 rfl))) ⟨rfl,rfl,rfl⟩
     |false=>
      exact aa<|⟨M3,id,hP3,trivial,⟨⟨_,rfl,rfl,rfl⟩,⟨_,rfl,rfl,rfl⟩,⟨_,rfl,rfl,rfl⟩,⟨_,rfl,rfl,rfl⟩,⟨_,rfl,rfl,rfl⟩,⟨_,rfl,rfl,rfl⟩,⟨_,rfl,rfl,rfl⟩,⟨_,rfl,rfl,rfl⟩,trivial⟩,⟨⟨BB.aO rfl (bJ _),rfl⟩,trivial⟩,trivial,rfl,rfl,rfl⟩
    ·exact aa<|no (bY rfl (bJ _))
 clear hB2 hM2 hP2;intro M3 hP3;have hM3:M3.size=d.size:=hP3.1.trans hM;have hB3:Below ltInt A B M3:=hBel.perm (by omega) hP3;refine SV.cut (⟨fun _=>[],[0,1,2,3,8,9,10,11],fun _=>[],[0]⟩:Inv Unit) (fun _=>True) (SV.of bH bU ?_) ?_
 ·refine ae.two (fun h3=>?_) (fun h3=>?_)
  ·have h3:0<A:=eg h3;refine bN.intro ((A-1:Nat):Int) (wrap_i64 (show(A:Int)-1=((A-1:Nat):Int)by omega) (by omega))<|ak.mk (bg (show A-1<d.size by omega))<|bQ M3 (i:=A-1) (by omega)<|ak.mk (bg (show pv<d.size by omega))<|bQ M3 (i:=pv) (by omega) ?_;have hl:=gn M3[A-1]! M3[pv]!;cases h4:ltInt M3[A-1]! M3[pv]! with
   |true=>
    rw[h4]at hl;exact ay hl rfl<|ar<|aa<|⟨(),id,trivial,trivial,⟨⟨_,rfl,rfl,rfl⟩,⟨_,rfl,rfl,rfl⟩,⟨_,rfl,rfl,rfl⟩,⟨_,rfl,rfl,rfl⟩,⟨_,rfl,rfl,rfl⟩,⟨_,rfl,rfl,rfl⟩,⟨_,rfl,rfl,rfl⟩,⟨_,rfl,rfl,rfl⟩,trivial⟩,trivial,⟨⟨_,rfl,BB.aO rfl (bJ _),rfl⟩,trivial⟩,rfl,rfl,rfl⟩
   |false=>
    rw[h4]at hl;refine ay hl rfl<|ar<|ah ?_;have hul:=fun nx hn=>(Mr M3 A B pv hp1 hp2 (by omega) (by omega) 0 nx hn).at hM3
    rcases hx:partitionEqual ltInt M3 A B pv with⟨mid,d4⟩
    obtain⟨g1,g2,g3,g4,g5⟩:=round_eq lM (partitionEqual_holds ltInt) h3 hp1 hp2 (by omega) hB3 h4 hx;rw[hx]at hul;dsimp only at hul;refine a_.bB [0] (n:=200) (hul _ rfl) rfl ⟨rfl,trivial⟩<|⟨⟨(mid,B,L1,wb,wp,d4),g3.trans hM3,g2,hBs,by show B-mid≤b-a;omega,hL1,g4,fun R h1 h2=>?_⟩,id,by show B-mid<B-A;omega,?_⟩
    ·have:=g5 R h1 h2;exact hI R (permIn_trans _ _ _ A B hP3 this.1) this.2
    exact bY rfl (bJ _)
  ·exact ar<|aa<|⟨(),id,trivial,trivial,⟨⟨_,rfl,rfl,rfl⟩,⟨_,rfl,rfl,rfl⟩,⟨_,rfl,rfl,rfl⟩,⟨_,rfl,rfl,rfl⟩,⟨_,rfl,rfl,rfl⟩,⟨_,rfl,rfl,rfl⟩,⟨_,rfl,rfl,rfl⟩,⟨_,rfl,rfl,rfl⟩,trivial⟩,trivial,⟨⟨_,rfl,BB.aO rfl (bJ _),rfl⟩,trivial⟩,rfl,rfl,rfl⟩
 rintro⟨⟩ -
 have hul:=fun nx hn=>(Ns M3 A B pv hp1 hp2 (by omega) (by omega) 0 nx hn).at hM3
 rcases hx:partition ltInt M3 A B pv with⟨mid,ap,d4⟩
 obtain⟨g1,g2,g3,gA,gR,hl,hr⟩:=round_part lM (partition_holds ltInt) hp1 hp2 (by omega) hB3 hx;rw[hx]at hul;dsimp only at hul;have hd4:d4.size=d.size:=g3.trans hM3;refine SV.seq bH bU<|a_.bB [0] (n:=200) (hul _ rfl) rfl ⟨rfl,trivial⟩<|SV.seq bH bU<|SV.seq bH bU<|ax (dY mid A g1)<|ax (dY B mid)<|SV.seq bH bU<|cj<|ax (WG (B-A) (by omega)) ?_;refine SV.of bH bU<|ae.two (fun h3=>?_) (fun h3=>?_)
 ·refine ah ?_;obtain⟨w,hw⟩:∃w:Bool,w=decide ((((B-A) / 8:Nat):Int)≤((mid-A:Nat):Int)):=⟨_,rfl⟩;refine ae.is w hw.symm ?_;have hi:=insertionSort_holds (lt:=ltInt) lM d4 A mid g1 (by omega);obtain⟨hBL,hfin⟩:=hl _ hi.1 hi.2;refine a_.bB [0] (n:=200) ((ih (mid-A) (by omega) d4 A mid L1 (aas _) g1 (by omega) (by omega) hL1 gA 0 _ rfl).at hd4) rfl ⟨rfl,trivial⟩ ?_;refine ax (cO mid)<|⟨⟨(mid+1,B,L1,w,ap,Sort.insertionSort ltInt d4 A mid),hi.1.1.trans hd4,g2,hBs,by show B-(mid+1)≤b-a;omega,hL1,hBL,fun R h1 h2=>?_⟩,id,by show B-(mid+1)<B-A;omega,?_⟩
  ·have:=hfin R h1 h2;exact hI R (permIn_trans _ _ _ A B hP3 this.1) this.2
  exact bY rfl (bJ _)
 ·refine aa ?_;obtain⟨w,hw⟩:∃w:Bool,w=decide ((((B-A) / 8:Nat):Int)≤((B-mid:Nat):Int)):=⟨_,rfl⟩;refine ae.is w hw.symm ?_;have hi:=insertionSort_holds (lt:=ltInt) lM d4 (mid+1) B g2 (by omega);obtain⟨hBL,hfin⟩:=hr _ hi.1 hi.2;refine ax (cO mid)<|a_.bB [0] (n:=200) ((ih (B-(mid+1)) (by omega) d4 (mid+1) B L1 (aas _) g2 (by omega) (by omega) hL1 gR 0 _ rfl).at hd4) rfl ⟨rfl,trivial⟩ ?_;refine⟨⟨(A,mid,L1,w,ap,Sort.insertionSort ltInt d4 (mid+1) B),hi.1.1.trans hd4,g1,by show mid≤d.size;omega,by show mid-A≤b-a;omega,hL1,hBL,fun R h1 h2=>?_⟩,id,by show mid-A<B-A;omega,?_⟩
  ·have:=hfin R h1 h2;exact hI R (permIn_trans _ _ _ A B hP3 this.1) this.2
  exact bY rfl (bJ _)
theorem TW(d:Array Int)(hs:d.size≤67108864)(j nx:Nat)(hne:Nat.beq nx j=false):UL 411 [] d (Sort.insertionSort ltInt d 0 d.size) (.aK []) j nx:=by
 refine sb Tryz.func411 rfl hne rfl rfl ?_;have hb:bitsLen d.size≤27:=(bitsLen_le_iff d.size 27).2 (by omega);refine bN.intro (d.size:Int) (by rw[IntKind.wrap_u64];omega)<|af (Kt d.size hs) rfl<|a_.bB [0] (n:=200) (Pv (d.size-0) d 0 d.size (bitsLen d.size) (aas _) (aaF _) (aas _) hs (by omega) (.inl rfl) 0 _ rfl) rfl ⟨rfl,trivial⟩ ?_;exact gh rfl rfl ⟨rfl,rfl,rfl⟩
end
section
open Go.RowKit
theorem AV:∀{xs:List Value},(∀x∈xs,x.oneCell'=true)→flat xs=xs
 | [],_=>rfl
 |x::xs,h=>by rw[gV,ry (h x aaA),AV fun y hy=>h y (aaz _ hy)];rfl
theorem Z2{S:ct}{F:Nat→Prop}{hp:Nat→Option aA}{c:RC}{nx:Nat}(h:Sat S F hp c)(hF:F nx){w':World}(hb:Below c.w.heap.size c.w w'){e:TypeId}{v:Value}{xs:List Value}{rs:List PV}(hr:w'.ownsRow c.w.heap.size e 1 v xs.length xs)(hrel:∀d,aC rs d xs)(h1:∀x∈xs,x.oneCell'=true):
 ∃c',c'.w=w'∧Good S (less F nx) (ck hp nx (some (.rows 1 rs true none e))) c c' (.aH nx 0 rs.length) v:=by
 have hx1:=pT (Z':=c.Z) h.dG hb (fun _ _ z=>z)
 have hs1:=qH (Z':=c.Z) h hb (fun _ _ z=>z) (fun _ _ z=>.inl z)
 have hlen:xs.length=rs.length:=(hrel c).length
 rcases hr.2 with⟨rfl,h0⟩|⟨g,cap,cur,rfl,hg,hcur,hcap,hmax,hsz,htk⟩
 ·have hn:rs=[]:=abu (by omega)
  subst hn
  have hx2:=qk (c:=⟨w',c.Z,c.hb⟩) (x:=none) (hs1.fresh _ hF)
  exact⟨RC.named ⟨w',c.Z,c.hb⟩ nx none,rfl,hx1.trans hx2,qC hs1 hF (.inl ⟨rfl,rfl,dm _ _ _⟩) (fun j bj y z _ _ _ hz=>by cases hz),.inl ⟨rfl,none,rfl⟩⟩
 ·have hx2:=qk (c:=⟨w',c.Z,c.hb⟩) (x:=some (g,1)) (hs1.fresh _ hF)
  refine⟨RC.named ⟨w',c.Z,c.hb⟩ nx (some (g,1)),rfl,hx1.trans hx2,qC hs1 hF (.inr ⟨g,cur,xs,dm _ _ _,.inl (aaJ h.keeps.size hg),hcur,hrel _,fun x hx=>?_,fun i x hi=>?_,fun _ o z=>?_,fun h=>(by cases h),fun _ h=>(by cases h)⟩) fun j bj y z hj hpj hy hz=>?_,.inr ⟨g,1,cap,cur,e,(0,0),dm _ _ _,?_,?_,hmax,hcur,?_⟩⟩
  ·have:=ry (h1 x hx)
   rw[← aaK,this];rfl
  ·rw[AV h1]at hi
   rw[← htk,abT]at hi
   split at hi
   ·rw[aaU]at hi;exact hi
   ·cases hi
  ·have:=h.dG g o z
   omega
  ·cases hz
   have:=((h.cD j bj hpj).at (B:=y.1) (n:=y.2) hy).2.lt
   show y.1≠g
   omega
  ·rw[hlen]
  ·rw[← hlen];exact hcap
  ·rw[aav];exact hsz.symm
def dX(ys:List UInt64):Array Int:=(ys.map fun u=>(u.toNat:Int)).toArray
theorem Vc(ys:List UInt64):(dX ys).toList.map uI=ys.map pu:=by
 unfold dX;rw[abX];rfl
theorem iq(ys:List UInt64):(dX ys).size=ys.length:=by unfold dX;simp
theorem TS(ys:List UInt64):∀d,aC (ys.map pu) d (ys.map uV):=fun d=>by
 induction ys with
 |nil=>rfl
 |cons y ys ih=>exact⟨uV y,_,rfl,⟨rfl,rfl⟩,ih⟩
abbrev yJ(ks:List Value)(vs:List PV):PV:=.fn 412 [.ip [.mp ks vs] 0]
theorem OS(K:List UInt64)(ps:List PV)(hK:K.length≤67108864)(nx:Nat):LC 410 [yJ (K.map uV) ps] [] nx fun r d=>∃ys:List UInt64,ys.Perm K∧r=.aH nx 0 ys.length∧d=[(nx,some (UB (dX ys)))]:=by
 refine⟨enters_of Tryz.func410 (by kernel_rfl) rfl,?_⟩;intro S F hp c vs hG hF hs hb hr;obtain⟨v,vs',rfl,⟨cs,rfl,u,us,rfl,⟨b,base,xs,rfl,⟨m,ms,rfl,⟨r,es,cl,rfl,hz,hm,hmk,hks,_⟩,hms⟩,hc⟩,hus⟩,hvs⟩:=hr;obtain rfl:us=[]:=hus;obtain rfl:vs'=[]:=hvs;have hc0:=(hc 0 _ rfl).2;refine(MI b (base+0) r es cl K hks hmk hK c.w hc0 hm).mono ?_;rintro e w' ⟨v,ys,rfl,hp1,hrow,hbl⟩;have hl:(ys.map uV).length=ys.length:=aao ..;obtain⟨c',hw,hg⟩:=Z2 hs hF hbl (rs:=ys.map pu) (by rw[hl];exact hrow) (TS ys) fun x hx=>by
  obtain⟨y,_,rfl⟩:=abc.1 hx;rfl
 rw[aao]at hg;refine⟨_,_,v,c',rfl,hw,⟨ys,hp1,rfl,rfl⟩,?_⟩;show Good S (less F nx) (ck hp nx (some (.rows 1 ((dX ys).toList.map uI) true none 30))) c c' _ v
 rw[Vc];exact hg
theorem MA{ys zs:List UInt64}(h:ys.Perm zs):Sort.insertionSort Sort.ltInt (dX ys) 0 ys.length=Sort.insertionSort Sort.ltInt (dX zs) 0 zs.length:=by
 have hl:=h.length_eq;have h1:=Sort.insertionSort_holds (lt:=Sort.ltInt) lM (dX ys) 0 ys.length (aaF _) (by rw[iq];exact aas _);have h2:=Sort.insertionSort_holds (lt:=Sort.ltInt) lM (dX zs) 0 zs.length (aaF _) (by rw[iq];exact aas _);have hP:Sort.PermIn 0 zs.length (dX zs) (dX ys):=by
  refine⟨by rw[iq,iq,hl],fun i hi=>?_,?_⟩
  ·have hi:zs.length≤i:=by omega
   rw[getElem!_neg (dX ys) i (by rw[iq];omega),getElem!_neg (dX zs) i (by rw[iq];omega)]
  ·have e:∀ws:List UInt64,ws.length=zs.length→((dX ws).extract 0 zs.length).toList=ws.map fun u=>(u.toNat:Int):=fun ws hw=>by
    unfold dX;rw[← hw];simp;exact aaQ (by rw[aao];exact aas _)
   rw[e ys hl,e zs rfl];exact h.map _
 rw[hl]at h1;have:=Bc (b:=zs.length) (d:=dX zs) (by rw[iq];exact aas _) (Sort.permIn_trans _ _ _ _ _ hP h1.1) h1.2 h2.1 h2.2;rw[hl];exact this
theorem Nc(zs:List UInt64):(gW zs).Pairwise fun a b=>a.toNat≤b.toNat:=by
 refine(List.pairwise_mergeSort (le:=fun a b:UInt64=>decide (a.toNat≤b.toNat)) (fun a b c h1 h2=>?_) (fun a b=>?_) zs).imp fun h=>aat h
 ·have h1:=aat h1;have h2:=aat h2;exact aaB (aaJ h1 h2)
 ·rw[adA];exact(Nat.le_total a.toNat b.toNat).imp (fun h=>aaB h) (fun h=>aaB h)
theorem Qd(zs:List UInt64):(Sort.insertionSort Sort.ltInt (dX zs) 0 zs.length).toList=(gW zs).map fun u=>(u.toNat:Int):=by
 have h2:=Sort.insertionSort_holds (lt:=Sort.ltInt) lM (dX zs) 0 zs.length (aaF _) (by rw[iq];exact aas _);have hp:(gW zs).Perm zs:=List.mergeSort_perm ..;have hl:=hp.length_eq;have h1:Sort.PermIn 0 zs.length (dX zs) (dX (gW zs)):=by
  refine⟨by rw[iq,iq,hl],fun i hi=>?_,?_⟩
  ·rw[getElem!_neg (dX (gW zs)) i (by rw[iq];omega),getElem!_neg (dX zs) i (by rw[iq];omega)]
  ·have e:∀ws:List UInt64,ws.length=zs.length→((dX ws).extract 0 zs.length).toList=ws.map fun u=>(u.toNat:Int):=fun ws hw=>by
    unfold dX;rw[← hw];simp;exact aaQ (by rw[aao];exact aas _)
   rw[e _ hl,e zs rfl];exact hp.map _
 have h3:Sort.SortedIn Sort.ltInt 0 zs.length (dX (gW zs)):=fun i k _ hik hk=>by
  have hs:=Nc zs;have e:∀q (hq:q<(gW zs).length),(dX (gW zs))[q]! = ((gW zs)[q].toNat:Int):=fun q hq=>by
   rw[adC (dX (gW zs)) q (by rw[iq];exact hq)];unfold dX;simp
  rw[e i (by omega),e k (by omega)];have:=acX.1 hs i k (by omega) (by omega) hik;unfold Sort.ltInt;exact aar (by omega)
 rw[Bc (b:=zs.length) (d:=dX zs) (by rw[iq];exact aas _) h2.1 h2.2 h1 h3];rfl
theorem QJ(K:List UInt64)(ps:List PV)(hK:K.length≤67108864):PC 396 [yJ (K.map uV) ps] (·=sl eJ (gW K)):=by
 refine al Tryz.func396<|a_.xR [] (n:=200) (OS K ps hK _) rfl trivial ?_;rintro _ _ ⟨ys,hp,rfl,rfl⟩;have hl:=hp.length_eq;have hu:=fun nx hn=>(TW (dX ys) (by rw[iq];omega) 2 nx hn).at (iq ys)
 rw[iq,MA hp]at hu;refine a_.bB [2] (n:=200) (hu _ rfl) rfl ⟨rfl,trivial⟩ ?_;have hr:(Sort.insertionSort Sort.ltInt (dX K) 0 K.length).toList.map uI=(gW K).map pu:=by
  rw[Qd,abX];rfl
 have hls:ys.length=(gW K).length:=by rw[hl];exact(List.mergeSort_perm ..).length_eq.symm
 exact⟨(gW K).length+100,_,_,.inl (aN (cT (l:=gW K) (f:=pu) rfl hr gw.br hls rfl) rfl),rfl⟩
theorem Xb(ks:List Value)(ps:List PV):PC 397 [.mp ks ps] (·=yJ ks ps):=al Tryz.func397<|ab
abbrev jB:Type:=List UInt64×(UInt64→Int)
def qU(a:jB)(x:UInt64):jB:=(j3 a.1 x,eW a.2 x (IntKind.i64.wrap ((match decide (x∈a.1)with|true=>a.2 x|false=>0)+1)))
def mX(p:aW)(name:BA)(q:Nat):jB:=(((p.places.take q).filter fun x=>seq x.node name).map Place.aM).foldl qU ([],fun _=>0)
theorem Xo{p:aW}{name:BA}{q:Nat}{x:Place}(h:p.places[q]? = some x):mX p name (q+1)=match seq x.node name with|true=>qU (mX p name q) x.aM|false=>mX p name q:=by
 unfold mX;rw[eC h,acv,aaC,abw,acL,List.filter_nil];cases seq x.node name<;>rfl
theorem J3:∀(l:List UInt64) (a:jB),(l.foldl qU a).1=l.foldl (fun ks x=>if x∈ks then ks else ks++[x]) a.1
 | [],_=>rfl
 |x::l,a=>by
  rw[acj,acj,J3 l]
  congr 1
  show j3 a.1 x=_
  unfold j3
  by_cases h:x∈a.1
  ·rw[aaB h,abb h]
  ·rw[aar h,abg h]
theorem Gr:∀(l:List UInt64) (a:jB),a.1.Nodup→(l.foldl qU a).1.Nodup
 | [],_,h=>h
 |x::l,a,h=>Gr l _ (IQ h x)
theorem Vu(p:aW)(name:BA)(q:Nat):(mX p name q).1.Nodup:=Gr _ _ acY
theorem M9(p:aW)(name:BA):(mX p name p.places.length).1=uG (met p name):=by
 unfold mX uG met;rw[J3,aaM]
abbrev MB(a:jB):aA:=.map (a.1.map uV) (a.1.map fun k=>i64 (a.2 k)) true
theorem oC(a:jB):(MB a).cE:=fun _ h=>by
 obtain⟨_,_,rfl⟩:=abc.1 h;rfl
theorem Oa{α:Type}{f:α→PV}{hp:Nat→Option aA}{j:Nat}{ow:Bool}{ks:List Value}{rs:List PV}{l:List α}(hj:hp j=some (.map ks rs ow))(hrs:rs=l.map f)(hf:∀x n hp,br [] (n+40) hp (f x)=some (f x,[])){n:Nat}:
 br [] (l.length+(n+42)) hp (.fy j)=some (.mp ks rs,[j]):=by
 subst hrs
 have h:=tv (hp:=hp) (fun x n=>hf x n hp) l n
 rw[show l.length+(n+42)=(l.length+(n+40+1))+1 by omega]
 unfold br
 dsimp only
 rw[hj]
 dsimp only[cf]
 rw[h]
theorem Yk(p:aW)(name:BA)(hl:p.nodes.length≤67108864)(hp:p.places.length≤67108864):rG p name:=by
 unfold rG aW.fail;refine al Tryz.func373<|af (JF p name false hl) rfl ?_;rcases ht:p.turn name false with⟨p',e⟩
 dsimp only;refine ae.two (fun h1=>?_) (fun h1=>?_)
 ·rw[h1];refine aa<|cW p.places.length (.of (mX p name) (fun _=>[]) [1,2,4,7,9,24,25] (fun a=>[(15,MB a)]) [0,1,10]) (fun _=>True) trivial ?_ (fun k hk hj=>?_) (fun hj=>?_)
  ·exact bY rfl (oC _)
  ·obtain⟨x,hx⟩:=get_at hk;have hn:=Xo (name:=name) hx;have hd:=Vu p name k;generalize hL:mX p name k=L at hn hd;rw[bR hL];refine bx hx<|ae.two (fun h2=>?_) (fun h2=>?_)
   ·rw[show seq x.node name=true from h2]at hn;refine ah ?_;have hlk:=BP (fun k=>i64 (L.2 k)) x.aM L.1;refine ak.mk (oK _ _) ?_;have hfin:∀y:Int,y=(match decide (x.aM∈L.1)with|true=>L.2 x.aM|false=>0)→some (.map (kL (L.1.map uV) (uV x.aM)) (me (L.1.map uV) (L.1.map fun k=>i64 (L.2 k)) (uV x.aM) (i64 (IntKind.i64.wrap (y+1)))) true)=some (MB (qU L x.aM)):=fun y hy=>by
     rw[xZ,Bu (fun k=>i64 (L.2 k)) _ _ _ hd];congr 2;refine acb fun z _=>?_
     unfold qU eW;rw[← hy];dsimp only;cases decide (z=x.aM)<;>rfl
    cases hm:decide (x.aM∈L.1)with
    |true=>
     rw[hm]at hlk hfin;exact cU.is _ hlk<|gp<|ak.mk (oK _ _)<|bA.of id hn trivial rfl<|dv ⟨⟨BB.aO (hfin _ rfl) (oC _),rfl⟩,trivial⟩
    |false=>
     rw[hm]at hlk hfin;exact cU.is _ hlk<|gp<|ak.mk (oK _ _)<|bA.of id hn trivial rfl<|dv ⟨⟨BB.aO (hfin _ rfl) (oC _),rfl⟩,trivial⟩
   ·rw[show seq x.node name=false from h2]at hn;exact aa<|bA.of id hn trivial rfl<|bY rfl (oC _)
  ·have hk:=M9 p name;have hlen:=zg (met p name) [];rw[show List.foldl _ [] _=uG (met p name)from rfl]at hlen;have hlm:(met p name).length≤p.places.length:=by
    unfold met;rw[aao];exact abp ..
   rw[← hk,abQ,aav]at hlen;have hlen:=aaJ hlen (aaJ hlm hp);generalize hL:mX p name p.places.length=L at hk hlen;rw[bR hL,← hk];refine dy.by (n:=L.1.length+100) (Xb (L.1.map uV) (L.1.map fun k=>i64 (L.2 k))) (aN (Oa (l:=L.1) (f:=fun k=>i64 (L.2 k)) rfl rfl fun _ _ _=>rfl) rfl) ?_;exact ay (QJ L.1 _ hlen) rfl<|ar<|ab
 ·rw[h1];exact ah<|ab
structure fO(t:aE):Prop where
 d:t.d.Us
 key:t.key.size≤64
structure jT(c:List aJ):Prop where
 len:c.length≤8
 all:∀n∈c,fO n.t
theorem Lz(t:aE)(s:State)(a:aP)(r:BA):(t.nn s a r).1.key=t.key:=by
 unfold aE.nn;rcases steps t.d [fun d=>d.write t.f r,fun d=>d.sync t.f]with⟨d,e⟩
 dsimp only;cases decide (e=0)<;>rfl
theorem Gm(t:aE):t.ka.1.key=t.key:=by
 unfold aE.ka;rcases steps t.d [fun d=>d.cut (1-t.f) 0,fun d=>d.write (1-t.f) (fC (t.gen+1) t.s),fun d=>d.sync (1-t.f),fun d=>d.cut t.f 0]with⟨d,e⟩
 dsimp only;cases decide (e=0)<;>rfl
theorem S5(t:aE)(o:aw):(t.do o).1.key=t.key:=by
 unfold aE.do;cases t.d.down with
 |true=>rfl
 |false=>
 dsimp only;cases decide ((apply t.s o).2.e=0)&&o.writes with
 |false=>rfl
 |true=>
 dsimp only;cases t.full (fN o)with
 |false=>exact Lz ..
 |true=>
 dsimp only;cases decide (t.ka.2=12)with
 |true=>exact Gm t
 |false=>exact(Lz ..).trans (Gm t)
theorem Cf{t:aE}(h:fO t)(o:aw):fO (t.do o).1:=⟨NV h.d o,by rw[S5];exact h.key⟩
theorem su{c:List aJ}(h:jT c)(name:BA){f:aE→aE×aP}(hf:∀t,fO t→fO (f t).1):jT (gG c name f).1:=by
 refine⟨by rw[z8];exact h.len,?_⟩;unfold gG;cases hx:c.find? (fun n=>seq n.name name)with
 |none=>exact h.all
 |some n=>
  intro y hy;rcases abr hy with hy|rfl
  ·exact h.all y hy
  ·exact hf _ (h.all n (aaW hx))
theorem Ar{c:List aJ}(h:jT c){f:aE→aE×aP}(hf:∀t,fO t→fO (f t).1):jT (j2 c f).1:=by
 refine⟨by show(c.map _).length≤8;rw[aao];exact h.len,fun y hy=>?_⟩;obtain⟨n,hn,rfl⟩:=abc.1 (show y∈c.map _ from hy);exact hf _ (h.all n hn)
theorem NZ{key:BA}{n:Int}{t:aE}{no:Int}(h:aE.new key n=(t,no))(h0:no=0):fO t:=by
 subst h0;unfold aE.new at h;cases hb:decide ((key.size:Int)<1)||decide ((64:Int)<key.size)||decide (n<1)||decide (1048576<n)with
 |true=>
  rw[hb]at h;have:=congrArg Prod.snd h;exact absurd (show(1:Int)=0 from this) (by decide)
 |false=>
  rw[hb]at h;simp only[adq,acg]at hb;obtain⟨⟨⟨b1,b2⟩,b3⟩,b4⟩:=hb;have hu:(aS.new n).Us:=⟨by show 0+0+(0+0)≤1000000000;omega,⟨by show(0:Int)≤n;omega,by show n≤1000000000;omega⟩,⟨by show(-1:Int)≤-1;omega,by show(-1:Int)≤1000000000;omega⟩⟩;have hs:=wL [fun d=>d.write 0 (fC 1 State.new),fun d=>d.sync 0] hu fun g hg d hd=>by
   simp only[aaI,aaH,acQ]at hg;rcases hg with rfl|rfl
   ·exact hd.write _ _
   ·exact hd.sync _
  rcases hx:steps (aS.new n) [fun d=>d.write 0 (fC 1 State.new),fun d=>d.sync 0]with⟨d,e⟩
  rw[hx]at hs h;dsimp only at h;cases he:decide (e=0)with
  |false=>
   rw[he]at h;have h3:e=0:=congrArg Prod.snd h;rw[h3]at he;cases he
  |true=>
   rw[he]at h;have h4:(⟨key,d,State.new,0,1⟩:aE)=t:=congrArg Prod.fst h;subst h4;exact⟨hs,by show key.size≤64;omega⟩
theorem NK{c:List aJ}(h:jT c)(e:bV):jT (nl c e).1:=by
 unfold nl;cases cQ e.aq with
 |false=>exact h
 |true=>
 dsimp only;cases decide (0≤gN c e.aq)with
 |true=>exact h
 |false=>
 dsimp only;cases h8:decide (8≤(c.length:Int))with
 |true=>exact h
 |false=>
 dsimp only;have h8:=aaw h8;rcases hx:aE.new e.key e.n with⟨t,no⟩
 dsimp only;cases hn:decide (no=0)with
 |false=>exact h
 |true=>
  have ht:=NZ hx (aat hn);refine⟨?_,fun y hy=>?_⟩
  ·show(c.take (kS c e.aq)++(⟨e.aq,t⟩:aJ)::c.drop (kS c e.aq)).length≤8
   rw[aap,aaL,aax,aaO];omega
  ·have hy:y∈c.take (kS c e.aq)++(⟨e.aq,t⟩:aJ)::c.drop (kS c e.aq):=hy;rcases aaN.1 hy with hy|hy
   ·exact h.all y (aaV hy)
   ·rcases aaI.1 hy with rfl|hy
    ·exact ht
    ·exact h.all y (aby hy)
theorem Y1{c:List aJ}(h:jT c)(q:rY):jT (nf c q).1:=by
 rcases q with _|⟨k,o⟩
 ·exact h
 unfold nf;dsimp only;rcases ic c k.aq with⟨t,_|_⟩
 ·exact h
 dsimp only;cases k.check t.key with
 |false=>exact h
 |true=>
 dsimp only;cases t.d.down with
 |true=>exact h
 |false=>
 dsimp only;split
 ·exact h
 ·exact su h _ fun t ht=>Cf ht o
theorem DV{t:aE}(h:fO t)(k:Int):fO {t with d:=t.d.gq k}:=⟨h.d.gq k,h.key⟩
theorem YQ{R:aE→aE×aP}(hR:∀t,fO t→fO (R t).1){c:List aJ}(h:jT c)(e:bV)(q:rY)(ha:e.kind=7→∀d:aS,d.Us→(d.wj e.n e.aQ).Us):jT (ed R c e q).1:=by
 unfold ed;cases decide (e.kind=1)with
 |true=>exact NK h e
 |false=>
 dsimp only;cases decide (e.kind=2)with
 |true=>
  dsimp only;unfold qb;cases decide (0≤gN c e.aq)&&!within e.o.kind 9 12 with
  |true=>exact h
  |false=>exact su h _ fun t ht=>Cf ht e.o
 |false=>
 dsimp only;cases decide (e.kind=3)with
 |true=>exact Ar h fun t ht=>Cf ht gI
 |false=>
 dsimp only;cases decide (e.kind=4)with
 |true=>exact Y1 h q
 |false=>
 dsimp only;cases decide (e.kind=5)with
 |true=>exact Ar h (f:=fun t=>({t with d:=t.d.gq e.aQ},aP.z)) fun t ht=>DV ht e.aQ
 |false=>
 dsimp only;cases decide (e.kind=6)with
 |true=>exact su h _ (f:=fun t=>({t with d:=t.d.gq e.aQ},aP.z)) fun t ht=>DV ht e.aQ
 |false=>
 dsimp only;cases h7:decide (e.kind=7)with
 |true=>exact su h _ fun t ht=>⟨ha (aat h7) _ ht.d,ht.key⟩
 |false=>
 dsimp only;cases decide (e.kind=8)with
 |true=>exact Ar h hR
 |false=>
 dsimp only;cases decide (e.kind=9)with
 |true=>exact su h _ hR
 |false=>exact h
theorem uk{R:aE→aE×aP}(hR:∀t,fO t→fO (R t).1):∀(l:List aU) {c:List aJ},jT c→(∀x∈l,x.1.kind=7→∀d:aS,d.Us→(d.wj x.1.n x.1.aQ).Us)→jT (dc R c l).1
 | [],_,h,_=>h
 |x::l,c,h,ha=>uk hR l (YQ hR h x.1 x.2 (ha x aaA)) fun y hy=>ha y (aaz _ hy)
theorem Wx{M B K:Nat}{t:aE}(h:jV M B t){o:aw}(ho:o.put.size≤K)(hB:B+(K+9)≤M):t.full (fN o)=false:=by
 have hr:=CO ho;have hf:t.f=0:=by unfold aE.f;rw[h.file];rfl
 unfold aE.full;rw[hf];refine aar ?_;have e:(t.d.read 0).size≤B:=by
  show(t.d.h0++t.d.s0).size≤B
  rw[h.s0,aI];exact h.h0
 have e2:(M:Int)≤t.d.size.tdiv 2:=by
  have:=h.room;rw[acp (by omega)];omega
 omega
theorem MU{M B m:Nat}{t:aE}(h:jV M B t)(hu:fO t)(hi:cB m t.s)(hm:m≤20000000){o:aw}(ho:Small o)(hB:B+329≤M):mJ t o:=
 Zy t o hu.d hi hm ho.sz (fun _=>Yk _ _ (by have:=hi.sz.nodes;omega) (by have:=hi.sz.places;omega)) fun e=>by rw[Wx h (tz ho) hB]at e;cases e
structure fg(x:aU):Prop where
 fo:x.1.aq.size≤1000000
 opens:x.1.kind=4→PC 133 [st x.1.bytes] (·=ot x.2)
 tok:∀k o,x.2=some (k,o)→k.aq.size≤1000000∧k.bn.length≤1000
theorem NF:Small gI:=Small.z.with 13 0 0 V4.z
theorem Ny{M B m:Nat}{c:List aJ}{i:List bG}(h:eH M B c i)(hi:iK m i):∀n∈c,cB m n.t.s:=fun n hn=>hi (abs n) (by rw[← h.eq];exact abC hn)
theorem Jp{M B m:Nat}{R:aE→aE×aP}{c:List aJ}{i:List bG}{x:aU}(hs:eH M B c i)(hu:jT c)(hi:iK m i)(hm:m≤20000000)(hx:eu M x)(hp:fg x)(hB:B+329≤M)(hrc:∀t,jV M B t→fO t→pK R t):jv R c x:=by
 have hdo:∀o,Small o→∀n∈c,mJ n.t o:=fun o ho n hn=>MU (hs.ok n hn) (hu.all n hn) (Ny hs hi n hn) hm ho hB
 refine⟨by have:=hu.len;omega,hp.fo,hp.opens,fun n hn=>by have:=(hu.all n hn).key;omega,hp.tok,fun _ k o e=>hdo o (hx.ask k o e),fun _=>hdo _ hx.op,fun _=>hdo _ NF,fun n hn=>(hu.all n hn).d,fun e=>absurd e hx.oH.2.2,fun _ n hn=>hrc n.t (hs.ok n hn) (hu.all n hn)⟩
theorem J5{M:Nat}{R:aE→aE×aP}(hR:∀t,t.d.down=false→R t=(t,.err 15))(hRu:∀t,fO t→fO (R t).1)(l:List aU)(hl:l.length≤1000)(hx:∀x∈l,eu M x)(hp:∀x∈l,fg x)(hM:549+l.length*329≤M)(hrc:∀t,t.d.down=false→fO t→pK R t):
 PC 13 [sl bX l] (·=.aK [sl aJ.pv (dc R [] l).1,.sl false ((dc R [] l).2.map fun r=>sl cw.pv r)]):=by
 refine zS l (by omega) fun q x hq=>?_
 have hmem:∀y∈l.take q,y∈l:=fun y hy=>aaV hy
 have hlen:(l.take q).length≤l.length:=by rw[aax];omega
 have hmul:(l.take q).length*(320+9)≤l.length*329:=abx _ hlen
 have h0:eH M 220 [] []:=⟨rfl,fun n hn=>(aaH hn).elim⟩
 have hs:=(qg (K:=320) hR (by omega) (l.take q) h0 (fun y hy=>(hx y (hmem y hy)).rL) (by omega) (by omega)).1
 have hu:=uk hRu (l.take q) (c:=[]) ⟨by show 0≤8;omega,fun n hn=>(aaH hn).elim⟩ fun y hy e=>absurd e (hx y (hmem y hy)).oH.2.2
 have hi:=qP (M:=M) (l.take q) (m:=0) (i:=[]) (fun y hy=>(aaH hy).elim) fun y hy=>hx y (hmem y hy)
 have hxm:=aau hq
 exact Jp hs hu hi (by omega) (hx x hxm) (hp x hxm) (by omega) fun t ht htu=>hrc t ht.down htu
theorem Qk{t:aE}(h:t.d.down=false):PC 163 [t.pv] (·=.aK [t.pv,i64 15]):=by
 rcases t with⟨key,⟨size,h0,s0,h1,s1,down,b_,aQ⟩,s,file,gen⟩
 dsimp only at h;subst h;exact al Tryz.func163<|ah<|ab
abbrev ez:aE→aE×aP:=fun t=>(t,.err 15)
theorem Bi{t:aE}(h:t.d.down=false):pK ez t:=by
 have hr:=Qk h;exact al Tryz.func86<|af hr rfl<|ab
theorem Small.Yt{o:aw}(h:Small o):sc o:=
 ⟨⟨by have:=h.xp;omega,fun t ht=>by
  have:=h.cR t ht
  exact⟨by omega,fun v hv=>by have:=this.2.2 v hv;omega⟩⟩,fun p hp=>by have:=h.fA p hp;omega⟩
theorem nA(e:bV)(ht:e.aq.size≤1000000)(hk:e.kind≠4):fg (e,none):=⟨ht,fun h=>absurd h hk,fun _ _ h=>by cases h⟩
theorem XV(e:bV)(ht:e.aq.size≤1000000)(hb:e.bytes.size=2):fg (e,none):=⟨ht,fun _=>Rp hb,fun _ _ h=>by cases h⟩
theorem Lq{t:bD}{o:aw}(h1:t.aq.size≤32)(h2:t.bn.length≤8)(h3:t.sig.size≤32)(ho:Small o):fg (dx t o):=by
 refine⟨aaF _,fun _=>?_,fun k o' e=>?_⟩
 ·exact Yl t o h1 ho.Yt (by have:=L6 h1 h2 h3;have:=tz ho;omega)
 ·obtain⟨rfl,_⟩:=LP e;exact⟨by omega,by omega⟩
theorem Hp{key aq:BA}{o:aw}(h:aq.size≤32)(ho:Small o):fg (dx (bD.new key aq) o):=by
 obtain⟨t,ht⟩:∃t,t=bD.new key aq:=⟨_,rfl⟩;have e1:t.aq=aq:=by rw[ht];rfl
 have e2:t.bn=[]:=by rw[ht];rfl
 have e3:t.sig.size≤32:=by rw[ht];show(Mc.jc key aq).size≤_;rw[Mc.qx];omega
 rw[← ht];exact Lq (by rw[e1];exact h) (by rw[e2];exact aaF _) e3 ho
theorem ZE{t:bD}{c:bS}{o:aw}(h:t.aq.size≤32)(h2:t.bn.length=0)(ho:Small o):fg (dx (t.narrow c) o):=
 Lq h (by show(t.bn++[c]).length≤8;rw[aap,h2];exact(by decide:0+1≤8)) (by show(Mc.jc t.sig c.put).size≤32;rw[Mc.qx];omega) ho
theorem y9{name:BA}{o:aw}(h:name.size≤32)(ho:Small o):fg (dx (dK name) o):=Hp h ho
theorem Zo(x:bf):x.name.size≤2:=jO _
theorem Pu(x:bf)(loss:Bool):fg (x.dV loss):=by
 have hn:=Zo x;have ho:=jG x;unfold bf.dV;generalize x.kind.toNat%24=k;unfold bf.di;cases decide (k<4)with
 |true=>exact nA _ (aaF _) (by show(3:Int)≠4;decide)
 |false=>
 dsimp only;cases decide (k=4)&&loss with
 |true=>exact nA _ (by show x.name.size≤_;omega) (by show(7:Int)≠4;decide)
 |false=>
 dsimp only;cases decide (k=5)&&loss with
 |true=>exact nA _ (by show x.name.size≤_;omega) (by show(6:Int)≠4;decide)
 |false=>
 dsimp only;cases decide (k=6)&&loss with
 |true=>exact nA _ (aaF _) (by show(5:Int)≠4;decide)
 |false=>
 dsimp only;cases decide (k<10)&&loss with
 |true=>exact nA _ (by show x.name.size≤_;omega) (by show((8+x.n.toNat%2:Nat):Int)≠4;omega)
 |false=>
 dsimp only;cases decide (k=10)with
 |true=>exact nA _ (by have:(pick [sA,sD,uW,jU] (x.n.toNat%4)).size≤4:=pR (by decide) _;show(pick [sA,sD,uW,jU] (x.n.toNat%4)).size≤_;omega) (by show(1:Int)≠4;decide)
 |false=>
 dsimp only;cases decide (k=11)with
 |true=>exact Hp (by have:=jO (x.n.toNat%3);omega) ho
 |false=>
 dsimp only;cases decide (k=12)with
 |true=>exact ZE (by show x.name.size≤32;omega) rfl ho
 |false=>
 dsimp only;cases decide (k=13)with
 |true=>exact XV _ (by show x.name.size≤_;omega) rfl
 |false=>
 dsimp only;cases(dn x.op).2 with
 |false=>exact nA _ (by show x.name.size≤_;omega) (by show(2:Int)≠4;decide)
 |true=>exact y9 (by omega) ho
theorem Um{name:BA}(h:name.size≤32){o:aw}(ho:Small o):fg (ju name o):=by
 unfold ju;cases decide (o.kind=3)with
 |true=>exact y9 h ho
 |false=>exact nA _ (by show name.size≤_;omega) (by show(2:Int)≠4;decide)
theorem zR(size:Int){name:BA}(h:name.size≤32):∀x∈lZ size name,fg x:=fun x hx=>by
 rcases aaI.1 hx with rfl|hx
 ·exact nA _ (by show name.size≤_;omega) (by show(1:Int)≠4;decide)
 ·obtain⟨o,ho,rfl⟩:=abc.1 hx
  exact Um h (Be ho)
theorem L9(size:Int):∀x∈opened size,fg x:=fun x hx=>by
 rcases aaN.1 hx with hx|hx
 ·exact zR size (by decide) x hx
 ·rcases aaN.1 hx with hx|hx
  ·exact zR size (by decide) x hx
  ·exact zR size (by decide) x hx
theorem IA:fg fM:=nA _ (aaF _) (by show(3:Int)≠4;decide)
theorem Yx(l:List bf):∀x∈fX l,fg x:=fun x hx=>by
 rcases aaN.1 hx with hx|hx
 ·rcases aaN.1 hx with hx|hx
  ·exact L9 _ x hx
  ·obtain⟨y,_,rfl⟩:=abc.1 hx
   exact Pu y false
 ·rw[aaD.1 hx];exact IA
theorem RF(l:List bf):PC 13 [sl bX (fX l)] (·=.aK [sl aJ.pv (dc ez [] (fX l)).1,.sl false ((dc ez [] (fX l)).2.map fun r=>sl cw.pv r)]):=by
 have hl:=wI l;exact J5 (M:=25000) (R:=ez) (fun _ _=>rfl) (fun _ h=>h) (fX l) (by omega) (sL l) (Yx l) (by omega) fun t ht _=>Bi ht
theorem RQ(l:List bf):eH 25000 25000 (dc ez [] (fX l)).1 (dg [] (fX l)).1:=by
 have hl:=wI l;have h0:eH 25000 220 [] []:=⟨rfl,fun n hn=>(aaH hn).elim⟩;have:=(qg (K:=320) (R:=ez) (fun _ _=>rfl) (by omega) (fX l) h0 (fun y hy=>(sL l y hy).rL) (by omega) (by omega)).1;exact this.le (by omega)
def JE.enters:JE→Bool
 |.dV e=>decide (e.kind=1)
 |.dA _ _=>false
def so(l:List JE)(name:BA):Bool:=((gz [] (l.filter JE.enters)).1.find? fun x:bG=>seq x.name name).isSome
def yA(ahead:List JE)(name:BA):JE→Bool
 |.dV _=>false
 |.dA n _=>match seq n name with
  |false=>false
  |true=>so ahead name
def JE.kind:JE→Int
 |.dV e=>e.kind
 |.dA _ _=>4
def pd(name:BA)(ahead:List JE)(j:JE):Bool:=match decide (j.kind=4)with
 |false=>true
 |true=>yA ahead name j
def p_(p:List JE→JE→Bool)(ahead:List JE):List JE→List JE
 | []=>[]
 |x::l=>match p ahead x with
  |true=>x::p_ p (ahead++[x]) l
  |false=>p_ p (ahead++[x]) l
def Qm(name:BA):JE→Bool
 |.dV e=>match seq e.aq name with
  |true=>true
  |false=>!oneOf e.kind
 |.dA _ _=>true
def kK(l:List JE)(name:BA):List JE:=(p_ (pd name) [] l).filter (Qm name)
def oW(l:List JE):Prop:=∀j∈l,∀e,j=.dV e→e.kind=1→e.key=cG++e.aq
theorem RI(l:List JE):(l.map JE.bF).filter iG=(l.filter JE.enters).map JE.bF:=by
 rw[List.filter_map];congr 1;refine List.filter_congr fun j _=>?_
 cases j with
 |dV e=>rfl
 |dA n o=>show decide ((4:Int)=1)=false;decide
theorem Uk{M:Nat}{R:aE→aE×aP}(hR:∀t,t.d.down=false→R t=(t,.err 15))(l:List JE)(hk:oW l)(hx:∀x∈l.map JE.bF,eu M x)(hM:549+l.length*329≤M)(name:BA):
 (so l name=false∧(jZ R (l.map JE.bF) name).2=false)∨(so l name=true∧jZ R (l.map JE.bF) name=(cG++name,true)):=by
 have hfl:∀j∈l.filter JE.enters,j∈l:=fun j hj=>(acq.1 hj).1
 have hlen:(l.filter JE.enters).length≤l.length:=abp ..
 have hmul:(l.filter JE.enters).length*(320+9)≤l.length*329:=abx _ hlen
 have h0:eH M 220 [] []:=⟨rfl,fun n hn=>(aaH hn).elim⟩
 have hs:=(qg (K:=320) hR (by omega) ((l.filter JE.enters).map JE.bF) h0 (fun y hy=>by
  obtain⟨j,hj,rfl⟩:=abc.1 hy
  exact(hx _ (abC (hfl j hj))).rL) (by omega) (by rw[aao];omega)).1
 have hj:=sj (l.filter JE.enters) (i:=[]) (fun x hx=>(aaH hx).elim) fun j hj=>hk j (hfl j hj)
 have hky:Keyed (gz [] (l.filter JE.enters)).1:=by
  have key:∀(m:List JE) (i:List bG),Keyed i→oW m→Keyed (gz i m).1:=by
   intro m
   induction m with
   |nil=>intro i h _;exact h
   |cons j m ih=>intro i h hm;exact ih _ (K7 h (hm j aaA)) fun y hy=>hm y (aaz _ hy)
  exact key _ _ (fun x hx=>(aaH hx).elim) fun j hj=>hk j (hfl j hj)
 rw[hj]at hs
 unfold jZ
 rw[RI]
 unfold so
 have hab:=zI (dc R [] ((l.filter JE.enters).map JE.bF)).1 name
 rw[hs.eq]at hab
 unfold ic
 cases hf:(dc R [] ((l.filter JE.enters).map JE.bF)).1.find? (fun n=>seq n.name name)with
 |none=>
  rw[hf]at hab
  rw[hab]
  exact .inl ⟨rfl,rfl⟩
 |some n=>
  rw[hf]at hab
  rw[hab]
  refine .inr ⟨rfl,?_⟩
  have hm:=aaW hab
  have hn:=acs hab
  have hkk:=hky _ hm
  have hnm:(abs n).name=name:=jJ.1 hn
  rw[hnm]at hkk
  show(n.t.key,true)=_
  rw[← hkk]
  rfl
theorem OK{M:Nat}{R:aE→aE×aP}(hR:∀t,t.d.down=false→R t=(t,.err 15))(ahead:List JE)(hk:oW ahead)(hx:∀x∈ahead.map JE.bF,eu M x)(hM:549+ahead.length*329≤M)(name:BA)(j:JE):jq R name (ahead.map JE.bF) j.bF=pd name ahead j:=by
 cases j with
 |dV e=>rfl
 |dA n o=>
  show um R (ahead.map JE.bF) (JE.dA n o).bF name=yA ahead name (.dA n o)
  unfold um yA;show(match seq (dK n).aq name with|false=>false|true=>match jZ R (ahead.map JE.bF) name with|(_,false)=>false|(key,true)=>(dK n).check key)=(match seq n name with|false=>false|true=>so ahead name)
  rw[xw];cases hs:seq n name with
  |false=>rfl
  |true=>
   obtain rfl:=jJ.1 hs;dsimp only;rcases Uk hR ahead hk hx hM n with⟨h1,h2⟩|⟨h1,h2⟩
   ·rw[h1];rcases hq:jZ R (ahead.map JE.bF) n with⟨key,b⟩
    rw[hq]at h2;cases h2;rfl
   ·rw[h1,h2];exact Ls n
theorem CU{M:Nat}{R:aE→aE×aP}(hR:∀t,t.d.down=false→R t=(t,.err 15))(name:BA):∀(l ahead:List JE),oW (ahead++l)→(∀x∈(ahead++l).map JE.bF,eu M x)→549+(ahead++l).length*329≤M→lq (jq R name) (ahead.map JE.bF) (l.map JE.bF)=(p_ (pd name) ahead l).map JE.bF
 | [],_,_,_,_=>rfl
 |j::l,ahead,hk,hx,hM=>by
  have e:ahead++j::l=ahead++[j]++l:=by rw[abd];rfl
  have hm:=OK (M:=M) hR ahead (fun y hy=>hk y (abR _ hy)) (fun x h=>hx x (by rw[aaC];exact abR _ h)) (by rw[aap]at hM;have:ahead.length*329≤(ahead.length+(j::l).length)*329:=abx _ (abj ..);omega) name j
  have ih:=CU hR name l (ahead++[j]) (by rw[← e];exact hk) (by rw[← e];exact hx) (by rw[← e];exact hM)
  rw[aaC]at ih
  have ih:lq (jq R name) (ahead.map JE.bF++[j.bF]) (l.map JE.bF)=(p_ (pd name) (ahead++[j]) l).map JE.bF:=ih
  show(match jq R name (ahead.map JE.bF) j.bF with|true=>j.bF::lq (jq R name) (ahead.map JE.bF++[j.bF]) (l.map JE.bF)|false=>lq (jq R name) (ahead.map JE.bF++[j.bF]) (l.map JE.bF))=List.map JE.bF (match pd name ahead j with|true=>j::p_ (pd name) (ahead++[j]) l|false=>p_ (pd name) (ahead++[j]) l)
  rw[hm,ih]
  cases pd name ahead j<;>rfl
theorem Q8{M:Nat}{R:aE→aE×aP}(hR:∀t,t.d.down=false→R t=(t,.err 15))(name:BA)(l:List JE)(hk:oW l)(hx:∀x∈l.map JE.bF,eu M x)(hM:549+l.length*329≤M):sT R (l.map JE.bF) name=(kK l name).map JE.bF:=by
 unfold sT pW kK;have h:=CU hR name l [] hk hx hM;rw[show lq (jq R name) [] (l.map JE.bF)=_ from h,List.filter_map];congr 1;refine List.filter_congr fun j _=>?_
 cases j with
 |dV e=>rfl
 |dA n o=>
  show(match seq aG name with|true=>true|false=>!oneOf 4)=true
  cases seq aG name<;>rfl
def BN(name:BA)(o:aw):JE:=match decide (o.kind=3)with
 |true=>.dA name o
 |false=>.dV {bV.z with kind:=2,aq:=name,o:=o}
def s8(size:Int)(name:BA):List JE:=.dV {bV.z with kind:=1,aq:=name,key:=cG++name,n:=size}::iL.map (BN name)
def zj(size:Int):List JE:=s8 size sA++(s8 size sB++s8 size jU)
theorem x8{name:BA}{o:aw}(h:cQ name=true)(hr:o.right=true):dx (dK name) o=(JE.dA name o).bF:=by
 have hm:=O8 h;show({bV.z with kind:=4,bytes:=kr (dK name) o},sG (dK name) o)=_
 unfold sG;rw[hm,hr];rfl
theorem YG:∀o∈iL,o.right=true:=by
 intro o h;unfold iL at h;simp only[aaI,aaH,acQ]at h;rcases h with rfl|rfl|rfl|rfl|rfl|rfl<;>kernel_rfl
theorem AG(size:Int){name:BA}(h:cQ name=true):lZ size name=(s8 size name).map JE.bF:=by
 unfold lZ s8;rw[aaZ,abX];congr 1;refine acb fun o ho=>?_
 show ju name o=(BN name o).bF
 unfold ju BN;cases decide (o.kind=3)with
 |true=>exact x8 h (YG o ho)
 |false=>rfl
theorem KP(size:Int):opened size=(zj size).map JE.bF:=by
 unfold opened zj;rw[AG size oZ,AG size xE,AG size Iw,aaC,aaC]
def aX:Spec:=⟨sA,⟨5,0,0,0⟩,1,1,4,[]⟩
def aY:Spec:={aX with prio:=5}
def jR(x:Spec):aw:={aw.z with kind:=1,x:=x}
def sx:aw:={aw.z with kind:=4,id:=2}
def ui:aw:={aw.z with kind:=5}
def dB:List JE:=zj 20000++[.dA sA (jR aX),.dA sA (jR aY),.dV fM.1]
def fV:List JE:=dB++[.dA sA sx,.dA sB ui]
def pX:List bG×List (List cw):=gz [] fV
theorem Uh:pX.2.length=26:=by kernel_rfl
theorem WE:(pX.2[24]?).map (fun r=>r.map fun x=>(x.a.state,x.a.nodes.map fun b=>b.data.toList))=some [(2,[[110,50]])]:=by kernel_rfl
theorem Mi:(pX.2[25]?).map (fun r=>r.map fun x=>x.a.notes.length)=some [0]:=by kernel_rfl
def pO(name:BA):Option bG:=pX.1.find? fun x=>seq x.name name
theorem Ph:(pO sA).map (fun x=>(x.s.round,x.s.pool.places.map (fun p=>(p.aM,p.node.data.toList,p.v.a,p.v.b)),x.s.aj.length))=some (1,[(2,[110,50],5,0)],2):=by kernel_rfl
theorem ZL:(pO sB).map (fun x=>(x.s.round,x.s.aj.length))=some (1,0):=by kernel_rfl
theorem Qt:lT sB (gz [] dB).2=lT sB (gz [] (kK dB sB)).2:=by kernel_rfl
theorem XH:(kK dB sB).length=10:=by kernel_rfl
def qS:List az→(UInt64→Int)→UInt64→Int
 | [],f=>f
 |j::m,f=>qS m (match j.runs with
  |true=>fun id=>match decide (id=j.id)with|true=>j.x.count|false=>f id
  |false=>f)
def kh(s:State):List Place→(UInt64→Int)→Option (UInt64→Int)
 | [],f=>some f
 |x::m,f=>match decide (f x.aM<1)with
  |true=>none
  |false=>match V4.same x.v (bK s.aj x.aM).1.x.cy with
   |false=>none
   |true=>kh s m fun id=>match decide (id=x.aM)with|true=>f id-1|false=>f id
def State.ko(s:State):Bool:=match kh s s.pool.places (qS s.aj fun _=>0)with
 |none=>false
 |some f=>s.aj.all fun j=>match j.runs with|true=>decide (f j.id=0)|false=>true
def State.right(s:State):Bool:=wX s s.ko
theorem Wt:(pO sA).map (fun x=>x.s.right)=some true:=by kernel_rfl
theorem Yq:(pO sA).map (fun x=>(bK x.s.aj 1).1.runs)=some false:=by kernel_rfl
theorem S4(l:List bf):3≤(dg [] (fX l)).1.length:=by
 show 3≤(dg [] (opened 100000++(l.take 40).map (bf.dV false)++[fM])).1.length
 rw[abd];exact three _
theorem Nh(l:List bf):(lH l false 100000).length≤61:=by
 have h:=wI l;have e:(fX l).length=(lH l false 100000).length+1:=by show(lH l false 100000++[fM]).length=_;rw[aap];rfl
 omega
theorem YT:∀x n hp,br [] (n+40) hp (bX x)=some (bX x,[]):=fun _ _ _=>rfl
theorem VK(l:List bf)(hl:l.length≤9223372036854775807)(hA:PC 6 [] (·=bo true)):PC 5 [sl bf.pv l] (·=bo true):=by
 have hrun:=RF l;have hsim:=RQ l;have h3:=S4 l;have hsl:=Nh l;have htl:=wI l;have hIL:=qP (M:=25000) (fX l) (m:=0) (i:=[]) (fun y hy=>(aaH hy).elim) fun y hy=>sL l y hy
 have hT:∀x∈(dg [] (fX l)).1,nQ x.s:=Zu (lH l false 100000) fun x hx=>sL l x (abR _ hx)
 have hu:=uk (R:=ez) (fun _ h=>h) (fX l) (c:=[]) ⟨by show 0≤8;omega,fun n hn=>(aaH hn).elim⟩ fun y hy e=>absurd e (sL l y hy).oH.2.2
 have hmap:(fX l).map bX=(lH l false 100000).map bX++[bX fM]:=aaC ..;generalize hrs:(dc ez [] (fX l)).2=rs at hrun;generalize hc:(dc ez [] (fX l)).1=c at hrun hsim hu;have hcl:3≤c.length:=by rw[← hsim.eq,aao]at h3;exact h3
 have hmem:∀n∈c,abs n∈(dg [] (fX l)).1:=fun n hn=>by rw[← hsim.eq];exact abC hn
 have hc8:=hu.len;have hml:(c.map aJ.pv).length=c.length:=aao ..;refine al Tryz.func5<|af hA rfl<|aa<|a_.bB [] (n:=200) (XQ l hl false 100000 _) rfl trivial<|db.l (ak.mk (dS eG (lH l false 100000) fM (by omega)) ?_);refine a_.by (n:=(fX l).length+100) hrun (aN (cT (f:=bX) (l:=fX l) rfl hmap.symm YT (n:=57) (by show _=(lH l false 100000++[fM]).length;rw[aap];rfl) rfl) rfl) ?_;refine cv.inv (ι:={q:Nat//q≤c.length}) ⟨fun q=>[(6,i64 q.1)],[3,4],fun _=>[],[]⟩ (fun q=>c.length-q.1) ⟨0,aaF _⟩ ?_ ?_
 ·exact bC
 rintro⟨q,hq⟩;refine ae.two (fun h1=>?_) (fun h1=>?_)
 ·have h1:q<c.length:=by
   have h1:((q:Nat):Int)<((c.map aJ.pv).length:Nat):=aat h1;omega
  obtain⟨n,hn⟩:∃n,c[q]? = some n:=get_at h1;have hnm:=aau hn;have hi:=hIL (abs n) (hmem n hnm);have hti:nQ n.t.s:=hT (abs n) (hmem n hnm);have hsz:n.t.s.Sz 20000000:=hi.sz.le (by omega);have hnx:=Jv n.t.s 0 hsz (by omega);have hvi:=L5 n.t.s (cM n.t.s 0).id hsz (by omega);unfold nQ at hti;refine ah<|bx hn<|af hnx rfl ?_;cases hok:(cM n.t.s 0).ok with
  |false=>
   refine ah<|ax (cO q)<|⟨⟨q+1,h1⟩,id,by show c.length-(q+1)<c.length-q;omega,?_⟩;exact bC
  |true=>
   have hf:=hti hok;refine aa<|bx hn<|af hvi rfl ?_;rw[hf];refine aa<|ax (cO q)<|⟨⟨q+1,h1⟩,id,by show c.length-(q+1)<c.length-q;omega,?_⟩;exact bC
 ·have h1:q=c.length:=by
   have h1:¬((q:Nat):Int)<((c.map aJ.pv).length:Nat):=aaw h1;omega
  exact aa<|ae.t (show(3:Int)≤((c.map aJ.pv).length:Nat)by omega)<|ab
theorem Jq(x:Spec)(h:x.path.size≤6)(hs:x.cR=[]):Small (jR x):=⟨aaF _,h,by show x.cR.length≤1;rw[hs];exact aaF _,fun t ht=>(by rw[show(jR x).x.cR=[]from hs]at ht;exact(aaH ht).elim),aaF _,fun _ h=>(aaH h).elim⟩
theorem Cu:Small (jR aX):=Jq aX (by decide) rfl
theorem CC:Small (jR aY):=Jq aY (by decide) rfl
theorem LQ:Small sx:=Small.z.with 4 2 0 V4.z
theorem Hg:Small ui:=Small.z.with 5 0 0 V4.z
theorem u5(M:Nat){name:BA}{o:aw}(hn:name.size≤32)(h:cQ name=true)(hr:o.right=true)(ho:Small o):eu M (JE.dA name o).bF∧fg (JE.dA name o).bF:=by
 rw[← x8 h hr];exact⟨ua M _ ho,y9 hn ho⟩
theorem uT:fV.map JE.bF=opened 20000++[(JE.dA sA (jR aX)).bF,(JE.dA sA (jR aY)).bF,fM]++[(JE.dA sA sx).bF,(JE.dA sB ui).bF]:=by
 unfold fV dB;rw[aaC,aaC,← KP];rfl
theorem JY:dB.map JE.bF=opened 20000++[(JE.dA sA (jR aX)).bF,(JE.dA sA (jR aY)).bF,fM]:=by
 unfold dB;rw[aaC,← KP];rfl
theorem rz:∀x∈fV.map JE.bF,eu 10000 x∧fg x:=fun x hx=>by
 rw[uT]at hx
 rcases aaN.1 hx with hx|hx
 ·rcases aaN.1 hx with hx|hx
  ·exact⟨FN (by decide) x hx,L9 _ x hx⟩
  ·simp only[aaI,aaH,acQ]at hx
   rcases hx with rfl|rfl|rfl
   ·exact u5 _ (by decide) oZ (by kernel_rfl) Cu
   ·exact u5 _ (by decide) oZ (by kernel_rfl) CC
   ·exact⟨KJ _,IA⟩
 ·simp only[aaI,aaH,acQ]at hx
  rcases hx with rfl|rfl
  ·exact u5 _ (by decide) oZ (by kernel_rfl) LQ
  ·exact u5 _ (by decide) xE (by kernel_rfl) Hg
theorem tc:(fV.map JE.bF).length=26:=by rw[uT,aap,aap,AW];rfl
theorem PS:PC 13 [sl bX (fV.map JE.bF)] (·=.aK [sl aJ.pv (dc ez [] (fV.map JE.bF)).1,.sl false ((dc ez [] (fV.map JE.bF)).2.map fun r=>sl cw.pv r)]):=
 J5 (M:=10000) (R:=ez) (fun _ _=>rfl) (fun _ h=>h) _ (by rw[tc];decide) (fun x hx=>(rz x hx).1) (fun x hx=>(rz x hx).2) (by rw[tc];decide) fun t ht _=>Bi ht
def ES:JE→Bool
 |.dV e=>!decide (e.kind=1)||seq e.key (cG++e.aq)
 |.dA _ _=>true
theorem Ak{l:List JE}(h:l.all ES=true):oW l:=fun j hj e he hk=>by
 subst he
 have:(!decide (e.kind=1)||seq e.key (cG++e.aq))=true:=abn.1 h _ hj
 rw[aaB hk]at this
 exact jJ.1 this
theorem Ww:oW fV:=Ak (by kernel_rfl)
theorem Mh:oW dB:=Ak (by kernel_rfl)
theorem Gp:dg [] (fV.map JE.bF)=pX:=sj fV (fun x hx=>(aaH hx).elim) Ww
theorem Q_:dg [] (dB.map JE.bF)=gz [] dB:=sj dB (fun x hx=>(aaH hx).elim) Mh
theorem wN:∀x∈dB.map JE.bF,eu 10000 x∧fg x:=fun x hx=>rz x (by
 rw[uT,← JY]
 exact abR _ hx)
theorem A7:dB.length=24:=by kernel_rfl
theorem Dg:sT ez (dB.map JE.bF) sB=(kK dB sB).map JE.bF:=Q8 (M:=10000) (fun _ _=>rfl) sB dB Mh (fun x hx=>(wN x hx).1) (by rw[A7];decide)
theorem Nf:eH 10000 10000 (dc ez [] (fV.map JE.bF)).1 (dg [] (fV.map JE.bF)).1∧(dc ez [] (fV.map JE.bF)).2=(dg [] (fV.map JE.bF)).2:=by
 have h0:eH 10000 220 [] []:=⟨rfl,fun n hn=>(aaH hn).elim⟩;have hl:=tc;have:=qg (K:=320) (R:=ez) (fun _ _=>rfl) (by omega) (fV.map JE.bF) h0 (fun y hy=>(rz y hy).1.rL) (by omega) (by omega);exact⟨this.1.le (by omega),this.2⟩
abbrev Wd(ro:Option Nat):Fence:={Fence.wide with round:=ro}
theorem Zk{ro:Option Nat}{n:Nat}{P:Program}{f:FuncId}{args:Array Value}{w:World}{R:Ending→World→Prop}(h:Calls P f args w R):CallsIn (Wd ro) n P f args w R:=callsIn_wide (n:=n).2 h
def mh(o:Oper):Bool:=match o.op with|.defer _=>false|_=>true
theorem Fg{o:Oper}(h:mh o=true):∀c,o.op≠.defer c:=fun c e=>by unfold mh at h;rw[e]at h;cases h
def yP(t:Nat)(o:Oper):Bool:=match o.dst with|some d=>Nat.beq d t|none=>false
theorem tE{o:Oper}{t:Nat}(h:yP t o=false)(a:Act)(v:Value):(a.put o.dst v).tmps[t]? = a.tmps[t]?:=by
 unfold yP at h;cases hd:o.dst with
 |none=>rfl
 |some d=>
  rw[hd]at h;have hne:d≠t:=nbeq' h;simp[Act.put,hne]
where nbeq' {a b:Nat} (h:Nat.beq a b=false):a≠b:=fun e=>by rw[e,acI]at h;cases h
def X8(p:Nat→Bool)(a a':Act):Prop:=∀t,p t=false→a'.tmps[t]? = a.tmps[t]?
theorem Tg{ro:Option Nat}{n:Nat}{P:Program}{o:Oper}{a:Act}{w:World}{next:Act→World→Prop}{Q:Exit→Act→World→Prop}(hd:mh o=true)(h:o.wp P a w next Q):
 o.wpIn (Wd ro) n P a w (fun a' w'=>next a' w'∧X8 (fun t=>yP t o) a a') Q:=by
 unfold Oper.wpIn
 refine⟨fun _ _=>trivial,?_⟩
 rw[Oper.semAt_plain _ _ _ (Fg hd)]
 unfold Oper.wp at h
 generalize(execOp a.eval o).run P w=r at h⊢
 cases r with
 |ok x w'=>
  cases x with
  |value v=>exact⟨h,fun t ht=>tE ht a v⟩
  |skip=>exact⟨h,fun t ht=>tE ht a undef⟩
  |defer d=>exact⟨h,fun t ht=>tE (o:=o) ht {a with defers:=d::a.defers} undef⟩
  |enter f args=>
   refine⟨fun h=>(by cases h),(Zk h).mono fun e w'' he=>?_⟩
   cases e with
   |returned v=>exact⟨he,fun t ht=>tE ht a v⟩
   |panicked _=>exact he
   |outgrown=>exact he
  |row row args=>
   refine⟨fun h=>(by cases h),fun c cs _=>?_⟩
   obtain⟨v,w'',h1,h2⟩:=h c cs
   exact⟨v,w'',⟨h1,fun t ht=>tE ht a v⟩,stepsIn_wide.2 h2⟩
  |_=>exact h.elim
 |halt x w'=>cases x<;>exact h
section
variable {P:Program}{G:World→Prop}{T:TT}{S:ct}
theorem vQ{ro:Option Nat}{fn:Nat}{md:Region.Mode}{ops:Array Oper}{Q:Exit→Act→World→Prop}(hQ:¬LetsOut Q)(hd:ops.toList.all mh=true):∀(fuel:Nat) (listed:Array Bool) (a:Act) (w:World),wpAny P md ops Q fuel listed a w→wpAnyIn (Wd ro) fn P md ops Q fuel listed a w
 |0,_,_,_,h=>h
 |fuel+1,listed,a,w,h=>by
  refine⟨h.1,fun i hi=>?_⟩
  have h2:=h.2 i hi
  unfold wpOp at h2
  unfold wpOpIn
  cases ho:ops[i]? with
  |none=>rw[ho]at h2;exact vQ hQ hd fuel _ _ _ h2
  |some o=>
   rw[ho]at h2
   dsimp only at h2⊢
   have hno:mh o=true:=abn.1 hd o (aau (by rw[aaU];exact ho))
   split
   ·rename_i hw
    rw[abb hw]at h2
    rcases h2 with h2|h2
    ·exact Oper.wpIn_mono (fun a' w' h=>vQ hQ hd fuel _ a' w' h.1) (Tg hno h2)
    ·exact absurd h2.2 hQ
   ·rename_i hw
    rw[abg hw]at h2
    exact⟨fun _ _=>trivial,vQ hQ hd fuel _ _ _ h2⟩
theorem o8{ro:Option Nat}{fn id:Nat}{ops:Array Oper}{Q:Exit→Act→World→Prop}{a:Act}{w:World}(h:wpListIn (Wd ro) fn P ops Q ops.toList a w):(Code.region id ops false).wpIn (Wd ro) fn P Q a w:=by
 refine wpIn_region ?_;rw[List.range_eq_range',← aaK,wpOpsIn_eq_wpListIn ops.toList 0 (by simp)];exact h
end
end
end Go.Proofs.YtbnonpbnhenkfaaGreatDoor
