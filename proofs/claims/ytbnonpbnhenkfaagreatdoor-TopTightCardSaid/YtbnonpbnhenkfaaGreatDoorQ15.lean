/- The law TopTight answers true at every input that its row admits: the card of the law, read off the walk of the whole law. Conditions: those of the given statement alone (the row, its reach and its laid variables); nothing is added. -/
import Derived.Test.YtbnonpbnhenkfaaGreatDoorQ11
import Derived.Test.YtbnonpbnhenkfaaGreatDoorQ12
import Derived.Test.YtbnonpbnhenkfaaGreatDoorQ13
import Derived.Test.YtbnonpbnhenkfaaGreatDoorQ14
import Derived.ProofKit
import Derived.OpenShut
import Derived.Deep.Slices
import Derived.SizedLaws
import Derived.Lib.LaidTab
import Derived.Lib.LaidU8
import Derived.Test.YtbnonpbnhenkfaaGreatDoorTie
import Derived.ChangeOld
import Derived.Deep.CondSized
import Derived.Deep.DeepHandedRow
set_option linter.all false
set_option maxRecDepth 1000000
set_option maxHeartbeats 8000000
namespace Go.Proofs.YtbnonpbnhenkfaaGreatDoor
section
open Go.RowKit Go.Shelf
section
variable {F:Fence}{n:Nat}{P:Program}(w:World){ops:Array Oper}{rest:List Oper}{o:Oper}{a:Act}{Q:Exit→Act→World→Prop}
theorem xA(hw:Region.wanted o (yielded ops a.tmps)=true){t:TypeId}{x:Operand}(hop:o.op=.load t x){ti:TI}(hT:fz P t ti)(hag:ti.ag=true){cs:List Value}(hn:cs.length=ti.size){b off:Nat}(hx:a.eval x=.pointer (some ⟨b,off,none⟩))
 (hc:∀(i:Nat) y,cs[i]? = some y→w.cell? ⟨b,off+i,none⟩=some y) (h1:∀y∈cs,y.oneCell'=true) (hK:wpListIn F n P ops Q rest (a.put o.dst (.agg cs.toArray)) w):wpListIn F n P ops Q (o::rest) a w:=by
 unfold wpListIn
 rw[abb hw]
 unfold Oper.wpIn
 refine⟨by simp[Oper.about,hop],?_⟩
 rw[Oper.semAt_plain F _ _ (by rw[hop];intro c hc';cases hc')]
 have hr:∀(l:List Value),(∀y∈l,y.oneCell'=true)→∀c,aC (l.map PV.at) c l:=fun l=>by
  induction l with
  |nil=>intro _ _;rfl
  |cons y l ih=>exact fun h c=>⟨y,l,rfl,⟨rfl,h y aaA⟩,ih (fun z hz=>h z (aaz _ hz)) c⟩
 have hsub:PV.sub (cs.map PV.at) 0 ti.size=cs.map PV.at:=by
  have:=Dv (cs.map PV.at)
  rwa [aao,hn]at this
 obtain⟨v,hv,hrel⟩:=r8 (c:=⟨w,fun _ _=>True,fun _=>none⟩) (ti:=ti) (p:=.agg (cs.map PV.at)) hT (hr cs h1 _) (off:=0) (by rw[aao,hn,aav];exact Nat.ble_self_eq_true _) (by rw[hsub,hag];rfl) b off hc
 obtain⟨vs,rfl,hvs⟩:=hrel
 have he:∀(l vs:List Value) c,aC (l.map PV.at) c vs→vs=l:=fun l=>by
  induction l with
  |nil=>exact fun vs c h=>h
  |cons y l ih=>
   rintro vs c ⟨v,vs',rfl,⟨rfl,_⟩,h⟩
   rw[ih vs' c h]
 rw[he _ _ _ hvs,abM]at hv
 simp[execOp,hop,hx,Instr.loadAt,Instr.sureAddr,hv,Result.andThen]
 exact hK
theorem BS{o2:Oper}(hg:o.guard=none)(hg2:o2.guard=none){t:TypeId}{d:Nat}(hd:o.dst=some d){y:Operand}(hop:o.op=.alloc t)(hop2:o2.op=.store t (.tmp d) y){ti:TI}(hT:fz P t ti){cs:List Value}(hn:cs.length=ti.size)(hdn:d<a.tmps.size)
 (hy:(a.put (some d) (.pointer (some ⟨w.heap.size,0,none⟩))).eval y=.agg cs.toArray) (h1:∀y∈cs,y.oneCell'=true)
 (hK:∀W2,w.grownBy W2 none→W2.heap.size=w.heap.size+1→W2.heap[w.heap.size]? = some (.cells cs.toArray t (0,0))→wpListIn F n P ops Q rest ((a.put (some d) (.pointer (some ⟨w.heap.size,0,none⟩))).put o2.dst undef) W2):wpListIn F n P ops Q (o::o2::rest) a w:=by
 obtain⟨i,z,hi,hsz,hz,hzs,_,_⟩:=hT.ex
 refine wpListIn_plain hg fun K hK1=>?_
 unfold Oper.wpIn
 refine⟨by simp[Oper.about,hop],?_⟩
 rw[Oper.semAt_plain F _ _ (by rw[hop];intro c hc';cases hc')]
 have hrun:(execOp a.eval o).run P w=.ok (.value (.pointer (some ⟨w.heap.size,0,none⟩))) (w.alloc (.cells z.cells t)):=by
  unfold execOp
  have hzv:(zeroValue t).run P w=.ok z w:=by simp[zeroValue,typeInfo,hi,hz]
  simp[hop,Instr.alloc,hzv,newVar,newRow,run_newObj_alloc,Result.andThen]
 rw[hrun]
 refine hK1 _ _ ?_
 rw[hd]
 refine wpListIn_plain hg2 fun K2 hK2=>?_
 unfold Oper.wpIn
 refine⟨by simp[Oper.about,hop2],?_⟩
 rw[Oper.semAt_plain F _ _ (by rw[hop2];intro c hc';cases hc')]
 have hx2:(a.put (some d) (.pointer (some ⟨w.heap.size,0,none⟩))).eval (.tmp d)=.pointer (some ⟨w.heap.size,0,none⟩):=by
  simp[Act.put,Act.eval,hdn]
 have hnew:(w.alloc (.cells z.cells t)).heap[w.heap.size]? = some (.cells z.cells t (0,0)):=World.alloc_heap_new _ _
 have hrun2:(execOp (a.put (some d) (.pointer (some ⟨w.heap.size,0,none⟩))).eval o2).run P (w.alloc (.cells z.cells t))=.ok .skip ((w.alloc (.cells z.cells t)).setRow w.heap.size cs.toArray):=by
  unfold execOp
  simp only[hop2,hx2,hy,Instr.storeAt,Instr.sureAddr,Sem.run_bind,Sem.run_pure,Result.andThen_ok]
  rw[run_storeVar_row _ _ t t z.cells cs.toArray hnew (by rw[hi];simp[hsz,hn]) (by simp[hzs,hn]) (by rw[Array.all_eq_true_iff_forall_mem];intro x hx;exact h1 x (by simpa using hx))]
  rfl
 rw[hrun2]
 refine hK2 _ _ (hK _ ?_ ?_ ?_)
 ·have h1:=(Below.refl w.heap.size w).alloc (aas _) (.cells z.cells t)
  refine⟨rfl,rfl,rfl,?_,fun k hk _=>?_⟩
  ·show _≤(Array.modify _ _ _).size
   rw[Array.size_modify,World.size_alloc];omega
  ·refine Eq.trans ?_ (h1.block k hk)
   show(Array.modify _ _ _)[k]? = _
   rw[Array.getElem?_modify,abg (by omega)]
 ·show(Array.modify _ _ _).size=_
  rw[Array.size_modify,World.size_alloc]
 ·exact setRow_heap _ _ _ _ _ _ hnew
end
def Cells(C:Nat→Nat→Value→Prop)(W:World):Prop:=∀b o v,C b o v→W.cell? ⟨b,o,none⟩=some v
def tx(C:Nat→Nat→Value→Prop)(k:Nat)(v:Value)(vs:List (List Value)):Prop:=
 ∃a cap,v=.slice a vs.length cap∧(∀cs∈vs,cs.length=k∧∀y∈cs,y.oneCell'=true)∧∀(i:Nat) cs,vs[i]? = some cs→∃b off,a=some ⟨b,off,none⟩∧∀(m:Nat) y,cs[m]? = some y→C b (off+i*k+m) y
theorem Cells.grown{C:Nat→Nat→Value→Prop}{W W2:World}(h:Cells C W)(hg:W.grownBy W2 none):Cells C W2:=fun b o v hc=>
 have hb:Below W.heap.size W W2:=⟨hg.os,hg.tape,hg.output,hg.size,fun k hk=>hg.block k hk (fun e=>by cases e)⟩
 (hb.cell (p:=⟨b,o,none⟩) (qp (h b o v hc))).trans (h b o v hc)
theorem uY{W:World}{B:Nat}{cs:List Value}{t:TypeId}(h:W.heap[B]? = some (.cells cs.toArray t (0,0)))(i:Nat)(y:Value)(hi:cs[i]? = some y):W.cell? ⟨B,i,none⟩=some y:=by simp[World.cell?,h,hi]
section
variable {β:Type}(cells:β→List Value)(name:BA)
def rowOf(x:BA×β):List Value:=.string x.1::cells x.2
def jQ(xs:List (BA×β)):List β:=(xs.filter fun x=>seq x.1 name).map (·.2)
def gF(xss:List (List (BA×β))):List β:=xss.flatMap (jQ name)
theorem KY{xss:List (List (BA×β))}{k:Nat}{xs:List (BA×β)}(h:xss[k]? = some xs):gF name (xss.take (k+1))=gF name (xss.take k)++jQ name xs:=by
 unfold gF;rw[adD,h,List.flatMap_append];simp
theorem Ci{xs:List (BA×β)}{q:Nat}{x:BA×β}(h:xs[q]? = some x):jQ name (xs.take (q+1))=match seq x.1 name with|true=>jQ name (xs.take q)++[x.2]|false=>jQ name (xs.take q):=by
 unfold jQ;rw[adD,h,acv,aaC];show _++List.map _ (List.filter _ [x])=_
 rw[acL,List.filter_nil];cases seq x.1 name<;>simp
theorem aae(xs:List (BA×β))(q:Nat):jQ name xs=jQ name (xs.take q)++jQ name (xs.drop q):=by
 unfold jQ;rw[← aaC,← acv,abD]
theorem SJ{xss:List (List (BA×β))}{k q:Nat}{xs:List (BA×β)}{x:BA×β}(h:xss[k]? = some xs)(hx:xs[q]? = some x)(hs:seq x.1 name=true):(gF name (xss.take k)++jQ name (xs.take q)).length<(gF name xss).length:=by
 have h1:=KY name h;have h2:=Ci name hx;rw[hs]at h2;have h3:=aae name xs (q+1);have h4:gF name xss=gF name (xss.take (k+1))++gF name (xss.drop (k+1)):=by
  unfold gF;rw[← List.flatMap_append,abD]
 have e:=congrArg List.length h4;rw[h1,h3,h2]at e;simp only[aap,aaL,abQ]at e⊢;omega
theorem Yv(xss:List (List (BA×β)))(hl:xss.length≤60000000)(hls:∀xs∈xss,xs.length≤60000000)(hc14:∀x:β,(cells x).length=14∧∀y∈cells x,y.oneCell'=true)(C:Nat→Nat→Value→Prop)(l b1 o1 b2 o2:Nat)(V:Value)(vs:List Value)
 (hV:C b1 o1 V) (hN:C b2 o2 (.string name)) (hS:tx C 1 V (vs.map fun v=>[v])) (hvl:vs.length=xss.length) (hSi:∀(i:Nat) v xs,vs[i]? = some v→xss[i]? = some xs→tx C 15 v (xs.map (rowOf cells)))
 (Kp:World→World→Prop) (hKp:∀A B,Kp A B→Cells C A→Cells C B) (J Jx:List (Nat×β)→World→Prop)
 (hY:∀pre x W,J pre W→pre.length<(gF name xss).length→YieldAt Fence.wide (1-1) Tryz.prog l #[.int .i64 (x.1:Int),.agg (cells x.2).toArray] W fun e W'=>(e=.returned (.bool true)∧J (pre++[x]) W'∧Kp W W')∨(e=.returned (.bool false)∧Jx (pre++[x]) W'))
 (W:World) (hJ:AbidesFrom W.heap.size J) (hCW:Cells C W) (h0:J [] W):
 CallsIn Fence.wide 1 Tryz.prog 151 #[.func (.yield l) #[] #[],.pointer (some ⟨b1,o1,none⟩),.pointer (some ⟨b2,o2,none⟩)] W fun e W'=>(∃v,e=.returned v)∧((∃ys,ys.map (·.2)=gF name xss∧J ys W')∨∃pre,True∧Jx pre W'):=by
 refine callsIn_of_wp Tryz.func151 rfl trivial ?_ rfl
 simp only[Tryz.ntmps151,abv,aaL,abQ,Nat.reduceAdd,Nat.reduceSub,Array.replicate_succ,Array.replicate_zero,List.push_toArray,List.append_toArray,aci,aca]
 obtain⟨aV,capV,rfl,hV1,hV2⟩:=hS
 rw[aao]at hV
 have hc1:=hCW _ _ _ hV
 gi_wp2
 gi_loopw [10] (fun i wr=>∃(k:Nat) (pre:List (Nat×β)),k≤xss.length∧i=.int .i64 k∧pre.map (·.2)=gF name (xss.take k)∧J pre wr∧Cells C wr)
  (fun i _=>xss.length-(intOf i).toNat)
 case atStart=>exact⟨0,[],aaF _,rfl,rfl,h0,hCW⟩
 case round=>
  obtain⟨k,pre,hk,rfl,hpre,hJs,hCs⟩:=hrel
  by_cases hlt:k<xss.length
  ·obtain⟨xs,hxs⟩:∃xs,xss[k]? = some xs:=⟨_,aay hlt⟩
   have hltv:k<vs.length:=by omega
   obtain⟨v,hv⟩:∃v,vs[k]? = some v:=⟨_,aay hltv⟩
   obtain⟨ba,oa,rfl,hcell⟩:=hV2 k [v] (by rw[aaT,hv];rfl)
   have hcv:=hCs _ _ _ (hcell 0 v rfl)
   rw[Nat.mul_one,abM]at hcv
   obtain⟨ai,capi,rfl,hi1,hi2⟩:=hSi k v xs hv hxs
   rw[aao]at hcv
   have hlx:=hls xs (aau hxs)
   gi_wp2
   gi_loopw [17] (fun i wr=>∃(q:Nat) (pre:List (Nat×β)),q≤xs.length∧i=.int .i64 q∧pre.map (·.2)=gF name (xss.take k)++jQ name (xs.take q)∧J pre wr∧Cells C wr)
    (fun i _=>xs.length-(intOf i).toNat)
   case atStart=>exact⟨0,pre,aaF _,rfl,by rw[hpre];exact(abe _).symm,hJs,hCs⟩
   case round=>
    obtain⟨q,pre2,hq,rfl,hpre2,hJs2,hCs2⟩:=hrel
    by_cases hlq:q<xs.length
    ·obtain⟨⟨t,x⟩,hx⟩:∃x,xs[q]? = some x:=⟨_,aay hlq⟩
     obtain⟨bi,oi,rfl,hrow⟩:=hi2 q (rowOf cells (t,x)) (by rw[aaT,hx];rfl)
     have hname:=hCs2 _ _ _ hN
     have h15:(rowOf cells (t,x)).length=15:=by show(cells x).length+1=15;rw[(hc14 x).1]
     have h1c:∀y∈rowOf cells (t,x),y.oneCell'=true:=fun y hy=>by
      rcases aaI.1 hy with rfl|hy
      ·rfl
      ·exact(hc14 x).2 y hy
     cases hs:seq t name with
     |true=>
      have hroom:pre2.length<(gF name xss).length:=by
       have:=SJ name hxs hx hs
       rwa [← hpre2,aao]at this
      have hn1:=Ci name hx
      have hse:(ByteArray.toList t==ByteArray.toList name)=true:=(xk t name).trans hs
      rw[show seq (t,x).1 name=true from hs]at hn1
      gi_wp2_with (first
       |(refine xA _ (t:=97) rfl rfl (bH _ _ rfl) rfl h15 rfl (fun i y h=>hCs2 _ _ _ (hrow i y h)) h1c ?_)
       |(refine BS _ (t:=97) rfl rfl rfl rfl rfl (bH _ _ rfl) h15 (aaG rfl) rfl h1c ?_;intro W2 hg2 hz2 hn2;have hC2:=hCs2.grown hg2;have hname2:=hC2 _ _ _ hN;have hten:=uY hn2 0 _ rfl;have hans:∀(i:Nat) y,(cells x)[i]? = some y→W2.cell? ⟨wr.heap.size,1+i,none⟩=some y:=fun i y h=>uY hn2 (1+i) y (by rw[Nat.add_comm];exact h);obtain⟨fn,tmps,assign,body,hy,hR⟩:=hY pre2 (k,x) W2 (hJ pre2 wr W2 none hJs2 hg2 (fun r e=>by cases e)) hroom)
       |(refine xA _ (t:=95) rfl rfl (bH _ _ rfl) rfl (hc14 x).1 rfl hans (hc14 x).2 ?_)
       |gi_in)
      refine hR.mono ?_
      rintro e W3 (⟨rfl,hJ3,hk3⟩|⟨rfl,hJx3⟩)
      ·have hC3:=hKp _ _ hk3 hC2
       gi_wp2
       refine⟨⟨q+1,pre2++[(k,x)],by omega,by simp,?_,hJ3,hC3⟩,by simp[intOf];omega⟩
       rw[aaC,hpre2,hn1,abd];rfl
      ·gi_wp2
       exact bodyPost_ret (results_none rfl _ _ _) rfl<|⟨⟨_,rfl⟩,.inr ⟨_,trivial,hJx3⟩⟩
     |false=>
      have hn1:=Ci name hx
      have hse:(ByteArray.toList t==ByteArray.toList name)=false:=(xk t name).trans hs
      rw[show seq (t,x).1 name=false from hs]at hn1
      gi_wp2_with (first
       |(refine wpListIn_skip rfl rfl ?_)
       |(refine xA _ (t:=97) rfl rfl (bH _ _ rfl) rfl h15 rfl (fun i y h=>hCs2 _ _ _ (hrow i y h)) h1c ?_)
       |(refine BS _ (t:=97) rfl rfl rfl rfl rfl (bH _ _ rfl) h15 (aaG rfl) rfl h1c ?_;intro W2 hg2 hz2 hn2;have hC2:=hCs2.grown hg2;have hname2:=hC2 _ _ _ hN;have hten:=uY hn2 0 _ rfl;have hans:∀(i:Nat) y,(cells x)[i]? = some y→W2.cell? ⟨wr.heap.size,1+i,none⟩=some y:=fun i y h=>uY hn2 (1+i) y (by rw[Nat.add_comm];exact h))
       |(refine xA _ (t:=95) rfl rfl (bH _ _ rfl) rfl (hc14 x).1 rfl hans (hc14 x).2 ?_)
       |gi_in)
      refine⟨⟨q+1,pre2,by omega,by simp,by rw[hpre2,hn1],hJ pre2 wr W2 none hJs2 hg2 (fun r e=>by cases e),hC2⟩,by simp[intOf];omega⟩
    ·obtain rfl:q=xs.length:=by omega
     gi_wp2
     refine⟨⟨k+1,pre2,by omega,by simp,?_,hJs2,hCs2⟩,by simp[intOf];omega⟩
     rw[hpre2,KY name hxs,aaM]
  ·obtain rfl:k=xss.length:=by omega
   gi_wp2
   go_end0
   rw[aaM]at hpre
   exact⟨⟨_,rfl⟩,.inl ⟨pre,hpre,hJs⟩⟩
end
theorem vu{c:RC}{W':World}{row:Option Nat}(hz:∀b o,c.Z b o→b<c.w.heap.size∧some b≠row)(hg:c.w.grownBy W' row)(hr:∀r,row=some r→∃o:Obj,c.w.heap[r]? = some o∧o.isCells=false):Ext c ⟨W',c.Z,c.hb⟩:=by
 refine⟨fun _ _ h=>h,fun _ _ h=>h,fun b o z=>?_,fun b aB e f h=>⟨aB,f,?_,rfl⟩,fun r es cl z h=>?_⟩
 ·obtain⟨h1,h2⟩:=hz b o z;show W'.cell? _=c.w.cell? _
  unfold World.cell?;rw[hg.block b h1 h2]
 ·refine(hg.block b (aaP.1 h).1 fun e=>?_).trans h;obtain⟨o,h1,h2⟩:=hr b e.symm;rw[show c.w.heap[b]? = _ from h]at h1;cases h1;cases h2
 ·obtain⟨h1,h2⟩:=hz r 0 z;exact(hg.block r h1 h2).trans h
theorem MP{S:ct}{W W':World}{row:Option Nat}(h:e_ S.L S.w0 W)(hg:W.grownBy W' row)(hr:∀r,row=some r→S.w0.heap.size≤r):e_ S.L S.w0 W':=
 h.step ⟨hg.os,hg.tape,hg.output,hg.size,fun k hk hn=>hg.block k hk fun e=>hn e⟩ (M:=fun b=>some b=row) fun i hi e=>absurd (hr i e.symm) (by omega)
theorem Hb{S:ct}{F:Nat→Prop}{hp:Nat→Option aA}{c:RC}{W':World}{row:Option Nat}(h:Sat S F hp c)(hp1:∀j b,hp j=some b→∀ks vs w,b≠.map ks vs w)(hz:∀b o,c.Z b o→some b≠row)(hg:c.w.grownBy W' row)(hr:∀r,row=some r→S.w0.heap.size≤r∧∃o:Obj,c.w.heap[r]? = some o∧o.isCells=false):Sat S F hp ⟨W',c.Z,c.hb⟩:=by
 have hx:=vu (fun b o z=>⟨h.dG b o z,hz b o z⟩) hg fun r e=>(hr r e).2
 refine⟨MP h.keeps hg fun r e=>(hr r e).1,h.base.trans hx,h.gd,fun b o z=>aaS (h.dG b o z) hg.size,h.fresh,fun j b hj=>(h.cD j b hj).aQ hx id fun B n hB=>⟨?_,fun _=>adE⟩,h.sep,h.low,h.jw⟩;have hth:=((h.cD j b hj).at hB).2;refine hg.block B hth.lt fun e=>?_
 obtain⟨o,h1,h2⟩:=(hr B e.symm).2;cases b with
 |map ks vs w=>exact hp1 j _ hj ks vs w rfl
 |rows k rs wr f ty=>
  rcases h.cD j _ hj with⟨_,_,h3⟩|⟨B',aB,vs,h3,_,h4,_⟩
  ·rw[h3]at hB;cases hB
  ·rw[h3]at hB;cases hB;rw[show c.w.heap[B]? = _ from h4]at h1;cases h1;cases h2
def K8(told:List BA):Nat→Option aA
 |0=>some (.rows 1 [.aH 1 0 told.length] true none 25)
 |1=>some (.rows 1 (told.map st) true none 9)
 |_=>none
def lR(B:Nat)(x:Option (Nat×Nat)):Nat→Option (Nat×Nat)
 |0=>some (B,1)
 |1=>x
 |_=>none
def pZ(S:ct)(Z:Nat→Nat→Prop)(B:Nat)(told:List BA)(W:World):Prop:=∃x,Sat S (ge 2) (K8 told) ⟨W,Z,lR B x⟩
theorem Mt{S:ct}{Z:Nat→Nat→Prop}{B N:Nat}(hN:S.w0.heap.size≤N)(hZ:∀b o,Z b o→b<N){α:Type}(f:α→List BA):OwnFrom N (fun pre W=>pZ S Z B (f pre) W):=by
 rintro s W W' row ⟨x,h⟩ hg hr;refine⟨x,Hb h (fun j b hj ks vs w e=>?_) (fun b o z e=>?_) hg fun r e=>⟨aaJ hN (hr r e).1,(hr r e).2⟩⟩
 ·subst e;match j with
  |0=>cases hj
  |1=>cases hj
  |j+2=>cases hj
 ·have:=hZ b o z;have:=(hr b e.symm).1;omega
def ml(B:Nat)(x:Option (Nat×Nat))(B7:Nat):Nat→Option (Nat×Nat)
 |0=>some (B,1)
 |1=>x
 |2=>some (B7,14)
 |_=>none
def oc(told:List BA)(a:aP):Nat→Option aA
 |0=>some (.rows 1 [.aH 1 0 told.length] true none 25)
 |1=>some (.rows 1 (told.map st) true none 9)
 |2=>some (.rows 14 [a.pv] true none 95)
 |_=>none
theorem Un{S:ct}{Z:Nat→Nat→Prop}{B N:Nat}{x:Option (Nat×Nat)}{told:List BA}{W:World}(hN:S.w0.heap.size≤N)(hZ:∀b o,Z b o→b<N)(h:Sat S (ge 2) (K8 told) ⟨W,Z,lR B x⟩){a:aP}{cs:List Value}{B7:Nat}(hcs:aC a.pv.cells ⟨W,Z,fun _=>none⟩ cs)(hB:N≤B7)(h7:W.heap[B7]? = some (.cells cs.toArray 95 (0,0)))(hl:cs.length=14)
 {L:Nat→Prop} (hL0:L B) (hL1:∀y,x=some y→L y.1) (hL7:L B7) {G:World→Prop} (hG:∀{w:World},e_ L W w→G w):
 Sat ⟨W,Z,3,ml B x B7,L,G,hG,[]⟩ (ge 3) (oc told a) ⟨W,Z,ml B x B7⟩:=by
 have b0:fh S ⟨W,Z,lR B x⟩ 0 (.rows 1 [.aH 1 0 told.length] true none 25):=h.cD 0 _ rfl
 have b1:fh S ⟨W,Z,lR B x⟩ 1 (.rows 1 (told.map st) true none 9):=h.cD 1 _ rfl
 have hj3:∀j y,lR B x j=some y→ml B x B7 j=some y:=fun j y e=>by
  match j with
  |0=>exact e
  |1=>exact e
  |j+2=>cases e
 have hx3:Ext ⟨W,Z,lR B x⟩ ⟨W,Z,ml B x B7⟩:=⟨hj3,fun _ _ z=>z,fun _ _ _=>rfl,fun _ aB _ f h=>⟨aB,f,h,rfl⟩,fun _ _ _ _ h=>h⟩
 have hx0:Ext ⟨W,Z,fun _=>none⟩ ⟨W,Z,ml B x B7⟩:=⟨fun _ _ e=>(by cases e),fun _ _ z=>z,fun _ _ _=>rfl,fun _ aB _ f h=>⟨aB,f,h,rfl⟩,fun _ _ _ _ h=>h⟩
 obtain⟨arr0,vs0,r0,hr0⟩:∃aB vs,dl W B aB 25 (0,0)∧(aC [.aH 1 0 told.length] ⟨W,Z,lR B x⟩ vs∧(∀y∈vs,y.cells.size=1)∧(∀(i:Nat) y,(flat vs)[i]? = some y→aB[i]? = some y)∧∀o,¬Z B o):=by
  rcases b0 with⟨h1,_⟩|⟨B',aB,vs,h1,h2,h3,h4,h5,h6,h7,_⟩
  ·cases h1
  ·cases h1;exact⟨aB,vs,h3,h4,h5,h6,h7 rfl⟩
 refine⟨e_.refl _ _,hx0,fun _ _ _ _ z=>z,h.dG,fun j hj=>?_,fun j b hj=>?_,fun i j bi bj hi hj hne ho y z hy hz=>?_,fun _ _=>rfl,fun _ h=>h⟩
 ·match j,hj with
  |0,hj=>exact absurd hj (by decide)
  |1,hj=>exact absurd hj (by decide)
  |2,hj=>exact absurd hj (by decide)
  |j+3,_=>rfl
 ·match j with
  |0=>
   cases hj
   exact .inr ⟨B,arr0,vs0,rfl,.inr hL0,r0,aC.ext _ hx3 hr0.1,hr0.2.1,hr0.2.2.1,fun _=>hr0.2.2.2,fun e=>(by cases e),fun _ e=>(by cases e)⟩
  |1=>
   cases hj
   rcases b1 with⟨h1,h2,h3⟩|⟨B',aB,vs,h1,h2,h3,h4,h5,h6,h7,h8,h9⟩
   ·exact .inl ⟨h1,h2,h3⟩
   ·exact .inr ⟨B',aB,vs,h1,.inr (hL1 _ h1),h3,aC.ext _ hx3 h4,h5,h6,h7,h8,h9⟩
  |2=>
   cases hj
   refine .inr ⟨B7,cs.toArray,[.agg cs.toArray],rfl,.inr hL7,h7,⟨_,[],rfl,⟨cs,rfl,aC.ext _ hx0 hcs⟩,rfl⟩,fun y hy=>?_,fun i y hy=>?_,fun _ o z=>?_,fun e=>(by cases e),fun _ e=>(by cases e)⟩
   ·rw[aaD.1 hy];show cs.toArray.size=14;rw[abv,hl]
   ·have:flat [Value.agg cs.toArray]=cs:=by unfold flat;simp[Value.cells]
    rw[this]at hy
    rw[acS];exact hy
   ·have:=hZ _ _ z
    omega
  |j+3=>cases hj
 ·have h01:∀y:Nat×Nat,x=some y→y.1≠B:=fun y e=>fun e2=>h.sep 0 1 _ _ rfl rfl (by decide) rfl (B,1) y rfl e e2.symm
  have h07:B≠B7:=fun e=>by
   subst e
   rw[show W.heap[B]? = _ from r0]at h7
   cases h7
  have h17:∀y:Nat×Nat,x=some y→y.1≠B7:=fun y e e2=>by
   rcases b1 with⟨_,_,h3⟩|⟨B',aB,vs,h1,_,h3,_⟩
   ·rw[show x=none from h3]at e;cases e
   ·rw[show x=_ from h1]at e
    cases e
    subst e2
    rw[show W.heap[_]? = _ from h3]at h7
    cases h7
  match i,j with
  |0,0=>exact absurd rfl hne
  |1,1=>exact absurd rfl hne
  |2,2=>exact absurd rfl hne
  |0,1=>cases hy;exact(h01 z hz).symm
  |1,0=>cases hz;exact h01 y hy
  |0,2=>cases hy;cases hz;exact h07
  |2,0=>cases hy;cases hz;exact h07.symm
  |1,2=>cases hz;exact h17 y hy
  |2,1=>cases hy;exact(h17 z hz).symm
  |i+3,_=>cases hi
  |_,j+3=>cases hj
theorem zP{c d:RC}:∀{l:List BA} {vs:List Value},aC (l.map st) c vs→aC (l.map st) d vs
 | [],_,h=>h
 |_::_,_,⟨v,vs',e,h1,h2⟩=>⟨v,vs',e,h1,zP h2⟩
theorem ZP{c:RC}{w':World}{Z':Nat→Nat→Prop}{hb:Nat→Option (Nat×Nat)}(h:Ext ⟨c.w,c.Z,fun _=>none⟩ ⟨w',Z',fun _=>none⟩):Ext ⟨c.w,c.Z,fun _=>none⟩ ⟨w',Z',hb⟩:=⟨fun _ _ e=>(by cases e),h.z,h.cell,h.shape,h.mW⟩
def Ed:Nat→Option PV
 |5=>some (.lp 0 0 0)
 |7=>some (.lp 2 0 0)
 |_=>none
theorem QT{S:ct}{Z:Nat→Nat→Prop}{B N:Nat}{told:List BA}{W:World}(hSG:S.G=GT)(hM:S.M=0)(hN:S.w0.heap.size≤N)(hZ:∀b o,Z b o→b<N)(h:pZ S Z B told W){a:aP}{cs:List Value}{B7:Nat}(hcs:aC a.pv.cells ⟨W,Z,fun _=>none⟩ cs)(hB:N≤B7)
 (h7:W.heap[B7]? = some (.cells cs.toArray 95 (0,0))) (hl:cs.length=14) {a':Act} (hsz:a'.tmps.size=22) (hdf:a'.defers=[]) (h5:a'.tmps[5]? = some (.pointer (some ⟨B,0,none⟩))) (h77:a'.tmps[7]? = some (.pointer (some ⟨B7,0,none⟩)))
 {l n id:Nat} {ops:Array Oper} (hnd:ops.toList.all mh=true)
 (hv:ov Tryz.prog GT tt 22 ops.toList ops.toList 3 ⟨Ed,oc told a⟩ [] fun bI s'=>tZ ops.toList bI=true∧∃j,j≠0∧s'.hp 0=some (.rows 1 [.aH j 0 (told++[a.put]).length] true none 25)∧s'.hp j=some (.rows 1 ((told++[a.put]).map st) true none 9)):
 (Code.region id ops true).wpIn (Wd (some l)) n Tryz.prog (fun e _ W'=>e=.normal∧KeepsFrom N W W'∧Ext ⟨W,Z,fun _=>none⟩ ⟨W',Z,fun _=>none⟩∧pZ S Z B (told++[a.put]) W') a' W:=by
 obtain⟨x,hs⟩:=h
 have b0:fh S ⟨W,Z,lR B x⟩ 0 (.rows 1 [.aH 1 0 told.length] true none 25):=hs.cD 0 _ rfl
 have b1:fh S ⟨W,Z,lR B x⟩ 1 (.rows 1 (told.map st) true none 9):=hs.cD 1 _ rfl
 have o0:S.Own B∧(∀o,¬Z B o)∧∃aB,dl W B aB 25 (0,0):=by
  rcases b0 with⟨h1,_⟩|⟨B',aB,vs,h1,h2,h3,h4,h5,h6,h7,_⟩
  ·cases h1
  ·cases h1;exact⟨h2,h7 rfl,aB,h3⟩
 have o1:∀y,x=some y→S.Own y.1∧∃aB,dl W y.1 aB 9 (0,0):=fun y e=>by
  rcases b1 with⟨_,_,h3⟩|⟨B',aB,vs,h1,h2,h3,_⟩
  ·rw[show x=none from h3]at e;cases e
  ·rw[show x=_ from h1]at e;cases e;exact⟨h2,aB,h3⟩
 obtain⟨L,hL⟩:∃L:Nat→Prop,L=fun b=>b=B∨(∃y,x=some y∧b=y.1)∨b=B7:=⟨_,rfl⟩
 have hLo:∀i,i<S.w0.heap.size→L i→S.L i:=fun i hi e=>by
  rw[hL]at e
  rcases e with rfl|⟨y,e1,rfl⟩|rfl
  ·exact o0.1.resolve_left (by omega)
  ·exact(o1 y e1).1.resolve_left (by omega)
  ·omega
 have hLc:∀i,L i→∃aB e,dl W i aB e (0,0):=fun i e=>by
  rw[hL]at e
  rcases e with rfl|⟨y,e1,rfl⟩|rfl
  ·exact⟨_,_,o0.2.2.choose_spec⟩
  ·exact⟨_,_,(o1 y e1).2.choose_spec⟩
  ·exact⟨_,_,h7⟩
 have hG:∀{w:World},e_ L W w→S.G w:=fun hk=>S.hG (hs.keeps.step hk hLo)
 have h3:=Un hN hZ hs hcs hB h7 hl (L:=L) (by rw[hL];exact .inl rfl) (fun y e=>by rw[hL];exact .inr (.inl ⟨y,e,rfl⟩)) (by rw[hL];exact .inr (.inr rfl)) hG
 have hm:c_ ⟨W,Z,3,ml B x B7,L,S.G,hG,[]⟩ 22 (ge 3) ⟨Ed,oc told a⟩ a' ⟨W,Z,ml B x B7⟩:=by
  refine⟨h3,hsz,fun t p e=>?_,hdf⟩
  match t with
  |5=>cases e;exact⟨_,h5,B,1,rfl,rfl⟩
  |7=>cases e;exact⟨_,h77,B7,14,rfl,rfl⟩
  |0|1|2|3|4|6=>cases e
  |t+8=>cases e
 refine wpIn_region_any bU (vQ (by rintro⟨_,_,h,_⟩;cases h) hnd _ _ _ _ (Lg (S:=⟨W,Z,3,ml B x B7,L,S.G,hG,[]⟩) bH hSG hm.drew hv fun s' a'' c' hk hm'=>?_))
 obtain⟨j,hj0,hp0,hpj⟩:=hk
 have hs':=hm'.sat
 have hx:Ext ⟨W,Z,fun _=>none⟩ ⟨c'.w,Z,fun _=>none⟩:=⟨fun _ _ e=>(by cases e),fun _ _ z=>z,hs'.base.cell,hs'.base.shape,hs'.base.mW⟩
 have hkp:e_ L W c'.w:=hs'.keeps
 have d0:fh _ c' 0 (.rows 1 [.aH j 0 (told++[a.put]).length] true none 25):=hs'.cD 0 _ hp0
 have d1:fh _ c' j (.rows 1 ((told++[a.put]).map st) true none 9):=hs'.cD j _ hpj
 have hown:∀b,(W.heap.size≤b∨L b)→S.Own b:=fun b e=>by
  rcases e with e|e
  ·have:=hs.keeps.size
   exact .inl (aaJ this e)
  ·by_cases hb:b<S.w0.heap.size
   ·exact .inr (hLo b hb e)
   ·exact .inl (by omega)
 refine⟨rfl,⟨hkp.size,fun k o hk ho hc=>(hkp.block k (aaP.1 ho).1 fun e=>?_).trans ho⟩,hx,c'.hb j,?_⟩
 ·obtain⟨aB,e,h1⟩:=hLc k e
  rw[show W.heap[k]? = _ from h1]at ho
  cases ho;cases hc
 have hbase:Ext S.rc ⟨W,Z,fun _=>none⟩:=⟨fun _ _ e=>(by cases e),hs.base.z,hs.base.cell,hs.base.shape,hs.base.mW⟩
 have e0:c'.hb 0=some (B,1):=hs'.low 0 (show 0<3 by decide)
 refine⟨hs.keeps.step hkp hLo,hbase.trans (ZP (c:=⟨W,Z,fun _=>none⟩) hx),hs.gd,fun b o z=>aaS (hs.dG b o z) hkp.size,fun i hi=>?_,fun i b hi=>?_,fun i1 i2 bi bj hi hj hne ho y z hy hz=>?_,fun i hi=>absurd hi (by omega),fun i _=>by omega⟩
 ·match i,hi with
  |0,hi=>exact absurd hi (by decide)
  |1,hi=>exact absurd hi (by decide)
  |i+2,_=>rfl
 ·match i with
  |0=>
   cases hi
   rcases d0 with⟨h1,_⟩|⟨B',aB,vs,h1,h2,h3,h4,h5,h6,_⟩
   ·cases h1
   ·rw[e0]at h1
    cases h1
    refine .inr ⟨B,aB,vs,rfl,o0.1,h3,?_,h5,h6,fun _=>o0.2.1,fun e=>(by cases e),fun _ e=>(by cases e)⟩
    obtain⟨v,vs',rfl,hv,hr⟩:=h4
    exact⟨v,vs',rfl,hv,hr⟩
  |1=>
   cases hi
   rcases d1 with⟨h1,h2,h3⟩|⟨B',aB,vs,h1,h2,h3,h4,h5,h6,h7,h8,h9⟩
   ·exact .inl ⟨h1,h2,h3⟩
   ·exact .inr ⟨B',aB,vs,h1,hown B' h2,h3,zP h4,h5,h6,fun _ o z=>h7 rfl o (hs'.base.z _ _ z),fun e=>(by cases e),h9⟩
  |i+2=>cases hi
 ·match i1,i2 with
  |0,0=>exact absurd rfl hne
  |1,1=>exact absurd rfl hne
  |0,1=>cases hy;exact hs'.sep 0 j _ _ hp0 hpj hj0.symm rfl _ _ e0 hz
  |1,0=>cases hz;exact(hs'.sep 0 j _ _ hp0 hpj hj0.symm rfl _ _ e0 hy).symm
  |i+2,_=>cases hi
  |_,i+2=>cases hj
theorem X9{S:ct}{Z:Nat→Nat→Prop}{B:Nat}{told:List BA}{W W':World}(h:pZ S Z B told W)(hL:∀b,¬S.L b){Z':Nat→Nat→Prop}(hz:∀b o,S.w0.heap.size≤b→b<W.heap.size→Z' b o)(hW:∀b aB e f,dl W b aB e f→dl W' b aB e f):
 ∃v,v.oneCell'=true∧W.cell? ⟨B,0,none⟩=some v∧Rel (sl st told) ⟨W',Z',fun _=>none⟩ v:=by
 obtain⟨x,hs⟩:=h
 have b0:fh S ⟨W,Z,lR B x⟩ 0 (.rows 1 [.aH 1 0 told.length] true none 25):=hs.cD 0 _ rfl
 have b1:fh S ⟨W,Z,lR B x⟩ 1 (.rows 1 (told.map st) true none 9):=hs.cD 1 _ rfl
 rcases b0 with⟨h1,_⟩|⟨B',aB,vs,h1,h2,h3,⟨v,vs',rfl,hv,rfl⟩,h5,h6,_⟩
 ·cases h1
 cases h1
 have hcell:v.oneCell'=true→W.cell? ⟨B,0,none⟩=some v:=fun h1=>by
  have:=h6 0 v (by
   have:flat [v]=[v]:=AV fun y hy=>by rw[aaD.1 hy];exact h1
   rw[this];rfl)
  simp only[World.cell?,show W.heap[B]? = _ from h3]
  simpa using this
 rcases hv with⟨h0,a,rfl⟩|⟨g,k,cap,cur,e,f,hg,rfl,hcap,hmax,hrow,hsz⟩
 ·refine⟨_,rfl,hcell rfl,[],?_,a,0,rfl,aas _,fun _=>rfl,.inl rfl⟩
  rw[abu h0];rfl
 ·refine⟨_,rfl,hcell rfl,?_⟩
  rcases b1 with⟨h1,_,h3⟩|⟨B',arr1,us,hb1,ho,hr1,hrel,hk,hfl,_⟩
  ·rw[show x=none from h3]at hg;cases hg
  ·rw[show x=_ from hb1]at hg
   cases hg
   have hlen:us.length=told.length:=by have:=hrel.length;rw[aao]at this;exact this
   refine⟨us,zP hrel,_,cap,by rw[hlen],by omega,fun e=>(by cases e),?_⟩
   by_cases hn:us=[]
   ·exact .inl hn
   ·refine .inr ⟨g,0,1,by rw[abI],hk,fun i y hy=>⟨hz _ _ (ho.resolve_right (hL _)) (aaP.1 hr1).1,?_⟩⟩
    have:=hfl i y hy
    show W'.cell? _=_
    simp only[World.cell?,show W'.heap[g]? = _ from hW _ _ _ _ hr1,aav]
    simpa using this
theorem Xj{S:ct}{F:Nat→Prop}{hp:Nat→Option aA}{c:RC}(hM:S.M=0)(h:Sat S F hp c){j B k:Nat}(hj:hp j=some (.rows 1 [.sl true []] true none 25))(hB:c.hb j=some (B,k)):k=1∧pZ S c.Z B [] c.w:=by
 have hb:fh S c j (.rows 1 [.sl true []] true none 25):=h.cD j _ hj;rcases hb with⟨h1,_⟩|⟨B',aB,vs,h1,h2,h3,⟨v,vs',rfl,⟨us,hus,a,cap,rfl,h4,h44,h45⟩,rfl⟩,h5,h6,h7,_⟩
 ·cases h1
 rw[hB]at h1;cases h1;obtain rfl:us=[]:=hus;obtain rfl:cap=0:=h44 rfl;refine⟨rfl,none,h.keeps,⟨fun _ _ e=>(by cases e),h.base.z,h.base.cell,h.base.shape,h.base.mW⟩,h.gd,h.dG,fun i hi=>?_,fun i b hi=>?_,fun i1 i2 bi bj hi hj hne ho y z hy hz=>?_,fun i hi=>absurd hi (by omega),fun i _=>by omega⟩
 ·match i,hi with
  |0,hi=>exact absurd hi (by decide)
  |1,hi=>exact absurd hi (by decide)
  |i+2,_=>rfl
 ·match i with
  |0=>cases hi;exact .inr ⟨B,aB,_,rfl,h2,h3,⟨_,[],rfl,.inl ⟨rfl,a,rfl⟩,rfl⟩,h5,h6,h7,fun e=>(by cases e),fun _ e=>(by cases e)⟩
  |1=>cases hi;exact .inl ⟨rfl,rfl,rfl⟩
  |i+2=>cases hi
 ·match i1,i2 with
  |0,0=>exact absurd rfl hne
  |0,1=>cases hz
  |1,_=>cases hy
  |0,i+2=>cases hj
  |i+2,_=>cases hi
theorem M7{β:Type}(cells:β→List Value)(name:BA)(xss:List (List (BA×β)))(hl:xss.length≤60000000)(hls:∀xs∈xss,xs.length≤60000000)(hc14:∀x:β,(cells x).length=14∧∀y∈cells x,y.oneCell'=true)(C:Nat→Nat→Value→Prop)(b1 o1 b2 o2:Nat)(V:Value)(vs:List Value)
 (hV:C b1 o1 V) (hN:C b2 o2 (.string name)) (hS:tx C 1 V (vs.map fun v=>[v])) (hvl:vs.length=xss.length) (hSi:∀(i:Nat) v xs,vs[i]? = some v→xss[i]? = some xs→tx C 15 v (xs.map (rowOf cells)))
 (Kp:World→World→Prop) (hKp:∀A B,Kp A B→Cells C A→Cells C B) (w:World) (hw:Cells C w):
 SeqStopsK Fence.wide 1 Tryz.prog 151 #[.pointer (some ⟨b1,o1,none⟩),.pointer (some ⟨b2,o2,none⟩)] (fun x:Nat×β=>#[.int .i64 (x.1:Int),.agg (cells x.2).toArray]) Kp (fun ys=>ys.map (·.2)=gF name xss) (fun _=>True) (gF name xss).length w:=fun l J Jx W hW hJ _ hY h0=>
 Yv cells name xss hl hls hc14 C l b1 o1 b2 o2 V vs hV hN hS hvl hSi Kp hKp J Jx hY W hJ (fun b o v h=>(hW.cell (p:=⟨b,o,none⟩) (qp (hw b o v h))).trans (hw b o v h)) h0
theorem YR(l:List (List cw))(name:BA):PC 69 [.sl false (l.map fun rs=>sl cw.pv rs),st name] (·=.fn 151 [.ip [.sl false (l.map fun rs=>sl cw.pv rs)] 0,.ip [st name] 0]):=al Tryz.func69<|ab
theorem Vk(l:List (List cw))(name:BA)(hn:name.size≤4294967280)(hw:cQ name=false):PC 32 [.sl false (l.map fun rs=>sl cw.pv rs),st name] (·=sl st (iW name l)):=by
 unfold iW;rw[hw];refine al Tryz.func32<|af (mm name hn) rfl ?_;rw[hw];exact ah<|ab
theorem Z7{F:Fence}{n:Nat}{P:Program}(w:World){ops:Array Oper}{rest:List Oper}{o:Oper}{a:Act}{Q:Exit→Act→World→Prop}(hg:o.guard=none){t:TypeId}{x:Operand}(hop:o.op=.load t x){ti:TI}(hT:fz P t ti)(hag:ti.ag=false)(hn:ti.size=1){v:Value}{b off:Nat}(hx:a.eval x=.pointer (some ⟨b,off,none⟩))
 (hc:w.cell? ⟨b,off,none⟩=some v) (h1:v.oneCell'=true) (hK:wpListIn F n P ops Q rest (a.put o.dst v) w):wpListIn F n P ops Q (o::rest) a w:=by
 refine wpListIn_plain hg fun K hK1=>?_
 unfold Oper.wpIn
 refine⟨by simp[Oper.about,hop],?_⟩
 rw[Oper.semAt_plain F _ _ (by rw[hop];intro c hc';cases hc')]
 obtain⟨v',hv,hrel⟩:=r8 (c:=⟨w,fun _ _=>True,fun _=>none⟩) (ti:=ti) (p:=.at v) hT (cs:=[.at v]) (vs:=[v]) ⟨v,[],rfl,⟨rfl,h1⟩,rfl⟩ (off:=0) (by rw[hn];rfl) (by rw[hn,hag];rfl) b off (fun i y hi=>by
  cases i with
  |zero=>cases hi;exact hc
  |succ i=>cases hi)
 obtain⟨rfl,_⟩:=hrel
 rw[abM]at hv
 simp[execOp,hop,hx,Instr.loadAt,Instr.sureAddr,hv,Result.andThen]
 exact hK1 _ _ hK
theorem xm{F:Fence}{n:Nat}{P:Program}(w:World){ops:Array Oper}{rest:List Oper}{o:Oper}{a:Act}{Q:Exit→Act→World→Prop}(hg:o.guard=none){x:Operand}(hop:o.op=.assign x)(hK:wpListIn F n P ops Q rest (a.put o.dst (a.eval x)) w):wpListIn F n P ops Q (o::rest) a w:=by
 refine wpListIn_plain hg fun K hK1=>?_
 unfold Oper.wpIn;refine⟨by simp[Oper.about,hop],?_⟩;rw[Oper.semAt_plain F _ _ (by rw[hop];intro c hc';cases hc')];simp[execOp,hop];exact hK1 _ _ hK
theorem JS{S:ct}{n:Nat}{F:Nat→Prop}{s s2:AS}{a:Act}{c:RC}(h:c_ S n F s a c)(he:∀t p,s2.env t=some p→s.env t=some p)(hh:∀j b,s2.hp j=some b→s.hp j=some b):c_ S n F s2 a c:=
 ⟨⟨h.sat.keeps,h.sat.base,h.sat.gd,h.sat.dG,h.sat.fresh,fun j b e=>h.sat.cD j b (hh j b e),fun i j bi bj e1 e2=>h.sat.sep i j bi bj (hh i bi e1) (hh j bj e2),h.sat.low,h.sat.jw⟩,h.size,fun t p e=>h.env t p (he t p e),h.defers⟩
structure gi(Z:Nat→Nat→Prop)(W:World) where
 a:aP
 cs:List Value
 rel:aC a.pv.cells ⟨W,Z,fun _=>none⟩ cs
 len:cs.length=14
 one:∀y∈cs,y.oneCell'=true
 sz:a.nodes.length≤67108864∧(∀n∈a.nodes,n.size≤1000000)∧a.notes.length≤67108864
def gi.row{Z:Nat→Nat→Prop}{W:World}(x:BA×gi Z W):Value:=.agg (rowOf gi.cs x).toArray
theorem O2{Z:Nat→Nat→Prop}{W:World}{r:cw}{u:Value}(h:Rel r.pv ⟨W,Z,fun _=>none⟩ u)(hs:r.a.nodes.length≤67108864∧(∀n∈r.a.nodes,n.size≤1000000)∧r.a.notes.length≤67108864):∃b:gi Z W,u=gi.row (r.aq,b)∧b.a=r.a:=by
 obtain⟨vs,rfl,v0,cs,rfl,⟨rfl,_⟩,hcs⟩:=h;have hl:=hcs.length;refine⟨⟨r.a,cs,hcs,hl.trans rfl,?_,hs⟩,rfl,rfl⟩;have sl1:∀(b:Bool) rows c v,Rel (.sl b rows) c v→v.oneCell'=true:=fun b rows c v h=>by
  obtain⟨_,_,_,_,rfl,_⟩:=h;rfl
 obtain⟨v1,_,rfl,⟨rfl,_⟩,v2,_,rfl,⟨rfl,_⟩,v3,_,rfl,⟨rfl,_⟩,v4,_,rfl,⟨rfl,_⟩,v5,_,rfl,⟨rfl,_⟩,v6,_,rfl,⟨rfl,_⟩,v7,_,rfl,⟨rfl,_⟩,v8,_,rfl,⟨rfl,_⟩,v9,_,rfl,⟨rfl,_⟩,v10,_,rfl,⟨rfl,_⟩,v11,_,rfl,⟨rfl,_⟩,v12,_,rfl,⟨rfl,_⟩,v13,_,rfl,h13,v14,_,rfl,h14,rfl⟩:=hcs;intro y hy;simp only[aaI,aaH,acQ]at hy;rcases hy with rfl|rfl|rfl|rfl|rfl|rfl|rfl|rfl|rfl|rfl|rfl|rfl|rfl|rfl<;>first|rfl|exact sl1 _ _ _ _ h13|exact sl1 _ _ _ _ h14
theorem K_{Z:Nat→Nat→Prop}{W:World}:∀{rs:List cw} {us:List Value},aC (rs.map cw.pv) ⟨W,Z,fun _=>none⟩ us→(∀r∈rs,r.a.nodes.length≤67108864∧(∀n∈r.a.nodes,n.size≤1000000)∧r.a.notes.length≤67108864)→
 ∃xs:List (BA×gi Z W),us=xs.map gi.row∧xs.map (fun x=>(x.1,x.2.a))=rs.map fun r=>(r.aq,r.a)
 | [],_,h,_=>⟨[],h,rfl⟩
 |r::rs,_,⟨u,us,rfl,h1,h2⟩,hs=>by
  obtain⟨b,rfl,hb⟩:=O2 h1 (hs r aaA)
  obtain⟨xs,rfl,hx⟩:=K_ h2 fun r hr=>hs r (aaz _ hr)
  exact⟨(r.aq,b)::xs,rfl,by rw[aaZ,aaZ,hx,hb]⟩
theorem Ez{Z:Nat→Nat→Prop}{W:World}:∀{l:List (List cw)} {vs:List Value},aC (l.map fun rs=>sl cw.pv rs) ⟨W,Z,fun _=>none⟩ vs→(∀rs∈l,∀r∈rs,r.a.nodes.length≤67108864∧(∀n∈r.a.nodes,n.size≤1000000)∧r.a.notes.length≤67108864)→
 ∃xss:List (List (BA×gi Z W)),xss.map (fun xs=>xs.map fun x=>(x.1,x.2.a))=l.map (fun rs=>rs.map fun r=>(r.aq,r.a))∧vs.length=xss.length∧∀(i:Nat) v xs,vs[i]? = some v→xss[i]? = some xs→iB W Z false v (xs.map gi.row)
 | [],_,h,_=>⟨[],rfl,by rw[show _=[]from h];rfl,fun i v xs _ h=>by cases h⟩
 |rs::l,_,⟨v,vs,rfl,⟨us,h1,h1'⟩,h2⟩,hs=>by
  obtain⟨xs,rfl,hx⟩:=K_ h1 (hs rs aaA)
  obtain⟨xss,hx2,hlen,hall⟩:=Ez h2 fun r hr=>hs r (aaz _ hr)
  refine⟨xs::xss,by rw[aaZ,aaZ,hx2,hx],by rw[aaL,aaL,hlen],fun i v' xs' e1 e2=>?_⟩
  cases i with
  |zero=>cases e1;cases e2;exact h1'
  |succ i=>exact hall i v' xs' e1 e2
theorem Ik{k:Nat}:∀{vs:List Value} (_:∀x∈vs,x.cells.size=k) {i m:Nat} {x y:Value},vs[i]? = some x→x.cells[m]? = some y→(flat vs)[i*k+m]? = some y
 | [],_,_,_,_,_,h,_=>by cases h
 |v::vs,hk,i,m,x,y,h,hy=>by
  have hv:=hk v aaA
  have hvl:v.cells.toList.length=k:=by rw[aaK];exact hv
  rw[gV]
  cases i with
  |zero=>
   cases h
   rw[abI,aav]
   have:=(aaP.1 hy).1
   rw[abt (by rw[hvl];omega),aaU];exact hy
  |succ i=>
   rw[abf (by rw[hvl,abL];omega),hvl,show(i+1)*k+m-k=i*k+m by rw[abL];omega]
   exact Ik (fun x hx=>hk x (aaz _ hx)) h hy
theorem Fw{W:World}{Z:Nat→Nat→Prop}{cl:Bool}{k:Nat}{v:Value}{us:List Value}{css:List (List Value)}(h:iB W Z cl v us)(hk:∀cs∈css,cs.length=k∧∀y∈cs,y.oneCell'=true)(he:us.length=css.length)(hu:∀(i:Nat) u cs,us[i]? = some u→css[i]? = some cs→u.cells.toList=cs):
 tx (fun b o v=>Z b o∧W.cell? ⟨b,o,none⟩=some v) k v css:=by
 obtain⟨a,cap,rfl,_,_,hc⟩:=h
 refine⟨a,cap,by rw[he],hk,fun i cs hi=>?_⟩
 have hil:=(aaq.1 hi).1
 rcases hc with rfl|⟨b,off,k',rfl,hk',hcell⟩
 ·rw[abQ]at he;omega
 ·obtain⟨u,hu1⟩:∃u,us[i]? = some u:=⟨_,aay (by omega)⟩
  have e:=hu i u cs hu1 hi
  have hkk:k'=k:=by
   rw[← hk' u (aau hu1),← aaK,e]
   exact(hk cs (aau hi)).1
  subst hkk
  refine⟨b,off,rfl,fun m y hm=>?_⟩
  rw[abB]
  exact hcell _ _ (Ik hk' hu1 (by rw[← aaU,e];exact hm))
theorem ZW{Z:Nat→Nat→Prop}{W:World}(name:BA):∀{xss:List (List (BA×gi Z W))} {l:List (List cw)},xss.map (fun xs=>xs.map fun x=>(x.1,x.2.a))=l.map (fun rs=>rs.map fun r=>(r.aq,r.a))→(gF name xss).map gi.a=lT name l:=by
 have h1:∀{xs:List (BA×gi Z W)} {rs:List cw},xs.map (fun x=>(x.1,x.2.a))=rs.map (fun r=>(r.aq,r.a))→(jQ name xs).map gi.a=(rs.filter fun r=>seq r.aq name).map cw.a:=fun{xs}=>by
  induction xs with
  |nil=>intro rs h;cases rs with|nil=>rfl|cons=>cases h
  |cons x xs ih=>
   intro rs h;cases rs with
   |nil=>cases h
   |cons r rs=>
    rw[aaZ,aaZ]at h;have he:=(ads h).1;have hr:=ih (ads h).2;have e1:x.1=r.aq:=congrArg Prod.fst he;have e2:x.2.a=r.a:=congrArg Prod.snd he;unfold jQ at hr⊢;rw[acL,acL,e1];cases seq r.aq name with
    |true=>show x.2.a::_=r.a::_;rw[e2,← hr]
    |false=>exact hr
 intro xss;induction xss with
 |nil=>intro l h;cases l with|nil=>rfl|cons=>cases h
 |cons xs xss ih=>
  intro l h;cases l with
  |nil=>cases h
  |cons rs l=>
   rw[aaZ,aaZ]at h;have a1:=h1 (ads h).1;have a2:=ih (ads h).2;unfold gF lT at a2⊢;rw[adL,adL,aaC,a1,a2]
theorem Ro(l:List (List cw))(name:BA)(hn:name.size≤4294967280)(hw:cQ name=true)(hl:l.length≤60000000)(hls:∀rs∈l,rs.length≤60000000)(hT:(lT name l).length≤67108864)
 (hA:∀rs∈l,∀r∈rs,r.a.nodes.length≤67108864∧(∀n∈r.a.nodes,n.size≤1000000)∧r.a.notes.length≤67108864):PC 32 [.sl false (l.map fun rs=>sl cw.pv rs),st name] (·=sl st (iW name l)):=by
 refine⟨enters_of Tryz.func32 (by kernel_rfl) rfl,fun w Z vs hg hz hr=>?_⟩
 obtain⟨S,hS⟩:∃S:ct,S=⟨w,Z,0,fun _=>none,fun _=>False,GT,fun hb=>fU.below hg hb.below,[]⟩:=⟨_,rfl⟩
 have hSG:S.G=GT:=by rw[hS]
 have hM:S.M=0:=by rw[hS]
 have hD:S.D=[]:=by rw[hS]
 have hL:∀b,¬S.L b:=fun b h=>by rw[hS]at h;exact h
 have hw0:S.w0=w:=by rw[hS]
 have hs0:Sat S (ge 0) (fun _=>none) ⟨w,Z,fun _=>none⟩:=by
  rw[hS]
  exact⟨e_.refl _ _,Ext.refl _,fun _ _ _ _ h=>h,hz,fun _ _=>rfl,(fun _ _ h=>by cases h),(fun _ _ _ _ h=>by cases h),fun _ h=>(by cases h),fun _ _=>aaF _⟩
 refine callsIn_wide.1 (callsIn_of_wp_marks (F:=Fence.wide) (n:=2) Tryz.func32 rfl trivial ?_ rfl)
 have hm0:=zf (n:=22) hD hs0 hr (show 2≤22 by decide)
 refine wpIn_seq (wpIn_wide.2 (iN bH bU hSG hM _ hm0 (k:=fun ex m s=>ex=.normal∧m=_∧s=_) ⟨rfl,rfl,rfl⟩ ?_))
 rintro _ _ _ a1 c1 ⟨rfl,rfl,rfl⟩ hm1
 refine wpIn_seq (wpIn_wide.2 (iN bH bU hSG hM _ hm1 (k:=fun ex m s=>ex=.normal∧m=4∧s.env 0=some (.sl false (l.map fun rs=>sl cw.pv rs))∧s.env 1=some (st name)) ?_ ?_))
 ·refine af (mm name hn) rfl ?_
  rw[hw]
  exact aa<|⟨rfl,rfl,rfl,rfl⟩
 rintro _ _ s2 a2 c2 ⟨rfl,rfl,e0,e1⟩ hm2
 replace hm2:=JS (s2:=⟨iF [.sl false (l.map fun rs=>sl cw.pv rs),st name] 0,fun _=>none⟩) hm2 (fun t p e=>by
  match t with
  |0=>exact e0.trans e
  |1=>exact e1.trans e
  |t+2=>cases e) fun _ _ e=>(by cases e)
 refine wpIn_seq (wpIn_wide.2 (iN bH bU hSG hM _ hm2 (k:=fun ex m s=>ex=.normal∧m=_∧s=_) ⟨rfl,rfl,rfl⟩ ?_))
 rintro _ _ _ a3 c3 ⟨rfl,rfl,rfl⟩ hm3
 refine wpIn_seq (wpIn_seq (wpIn_wide.2 (iN bH bU hSG hM _ hm3 (k:=fun ex m s=>ex=.normal∧m=8∧s.env 13=some (.fn 151 [.ip [.sl false (l.map fun rs=>sl cw.pv rs)] 0,.ip [st name] 0])∧s.env 5=some (.lp 4 0 0)∧s.hp 4=some (.rows 1 [.sl true []] true none 25)) ?_ ?_)))
 ·exact af (YR l name) rfl<|⟨rfl,rfl,rfl,rfl,rfl⟩
 rintro _ _ s4 a4 ⟨w1,Z1,hb1⟩ ⟨rfl,rfl,e13,e5,eb⟩ hm4
 refine wpIn_block ?_
 obtain⟨v13,ht13,⟨cs13,rfl,p1,_,rfl,⟨b1,base1,ws1,rfl,⟨V,_,rfl,hV,rfl⟩,hc1⟩,p2,_,rfl,⟨b2,base2,ws2,rfl,⟨N2,_,rfl,⟨rfl,_⟩,rfl⟩,hc2⟩,rfl⟩⟩:=hm4.env 13 _ e13
 obtain⟨v5,ht5,⟨B,k5,hB,rfl⟩⟩:=hm4.env 5 _ e5
 obtain⟨ws,hws,hSl⟩:=hV
 obtain⟨xss,hx1,hx2,hx3⟩:=Ez (Z:=Z1) (W:=w1) hws hA
 have hN:S.w0.heap.size≤w1.heap.size:=hm4.sat.keeps.size
 have hZ1:∀b o,Z1 b o→b<w1.heap.size:=hm4.sat.dG
 obtain⟨rfl,h0⟩:=Xj hM hm4.sat eb hB
 have hsz4:=hm4.size
 have hd4:=hm4.defers
 rw[hD]at hd4
 have hxl:xss.length=l.length:=by have:=congrArg List.length hx1;rwa [aao,aao]at this
 have hxls:∀xs∈xss,xs.length≤60000000:=fun xs hxs=>by
  have:xs.map (fun x=>(x.1,x.2.a))∈l.map fun rs=>rs.map fun r=>(r.aq,r.a):=hx1▸abC (f:=fun xs:List (BA×gi Z1 w1)=>xs.map fun x=>(x.1,x.2.a)) hxs
  obtain⟨rs,hrs,e⟩:=abc.1 this
  have:=congrArg List.length e
  rw[aao,aao]at this
  have:=hls rs hrs
  omega
 have hmap:=ZW name hx1
 have hlt:(gF name xss).length≤67108864:=by
  have:=congrArg List.length hmap
  rw[aao]at this
  omega
 have row15:∀x:BA×gi Z1 w1,(rowOf gi.cs x).length=15∧∀y∈rowOf gi.cs x,y.oneCell'=true:=fun x=>by
  refine⟨by show x.2.cs.length+1=15;rw[x.2.len],fun y hy=>?_⟩
  rcases aaI.1 hy with rfl|hy
  ·rfl
  ·exact x.2.one y hy
 have wsl:∀(i:Nat) v,ws[i]? = some v→∃xs,xss[i]? = some xs∧iB w1 Z1 false v (xs.map gi.row):=fun i v e=>by
  have h1:=(aaq.1 e).1
  have h2:i<xss.length:=by omega
  exact⟨_,aay h2,hx3 i v _ e (aay h2)⟩
 have wone:∀v∈ws,v.oneCell'=true:=fun v hv=>by
  obtain⟨i,hi⟩:=abJ hv
  obtain⟨xs,_,a,cap,rfl,_⟩:=wsl i v hi
  rfl
 have hseq:=M7 gi.cs name xss (by omega) hxls (fun x=>⟨x.len,x.one⟩) (fun b o v=>Z1 b o∧w1.cell? ⟨b,o,none⟩=some v) b1 (base1+0) b2 (base2+0) V ws (hc1 0 V rfl) (hc2 0 _ rfl)
  (Fw hSl (fun cs hcs=>by
    obtain⟨v,hv,rfl⟩:=abc.1 hcs
    exact⟨rfl,fun y hy=>by rw[aaD.1 hy];exact wone v hv⟩) (by rw[aao]) (fun i u cs e1 e2=>by
    rw[aaT,e1]at e2
    cases e2
    exact ry (wone u (aau e1)))) hx2
  (fun i v xs e1 e2=>Fw (hx3 i v xs e1 e2) (fun cs hcs=>by
    obtain⟨x,hx,rfl⟩:=abc.1 hcs
    exact row15 x) (by rw[aao,aao]) (fun q u cs f1 f2=>by
    rw[aaT]at f1 f2
    cases hq:xs[q]? with
    |none=>rw[hq]at f1;cases f1
    |some x=>rw[hq]at f1 f2;cases f1;cases f2;rfl))
  (fun A B=>Ext ⟨A,Z1,fun _=>none⟩ ⟨B,Z1,fun _=>none⟩) (fun A B hx hC b o v h=>(hx.cell b o h.1).trans (hC b o v h)) w1 (fun b o v h=>h.2)
 have hown:OwnFrom w1.heap.size (fun(pre:List (Nat×gi Z1 w1)) W=>pZ S Z1 B (pre.map fun x=>x.2.a.put) W∧Ext ⟨w1,Z1,fun _=>none⟩ ⟨W,Z1,fun _=>none⟩∧w1.heap.size≤W.heap.size):=by
  rintro pre W W' row ⟨h1,h2,h3⟩ hg hr
  refine⟨Mt hN hZ1 _ pre W W' row h1 hg hr,h2.trans (vu (c:=⟨W,Z1,fun _=>none⟩) (fun b o z=>⟨aaS (hZ1 b o z) h3,fun e=>?_⟩) hg fun r e=>(hr r e).2),aaJ h3 hg.size⟩
  have:=(hr b e.symm).1
  have:=hZ1 b o z
  omega
 refine wpIn_rangeFunc_ownH (F:=Fence.wide) (n:=2) rfl (by decide) (gf:=151) (lb:=#[.pointer (some ⟨b1,base1+0,none⟩),.pointer (some ⟨b2,base2+0,none⟩)]) ?hg trivial (enters_of Tryz.func151 (by kernel_rfl) rfl) hseq (fun h k=>h.trans k)
  (fun W q o o' hl1 hl2 hl3 hl4=>vu (c:=⟨W,Z1,fun _=>none⟩) (row:=some q) (fun b o z=>?hz) (grownBy_putObj' W q o') (fun r e=>by cases e;exact⟨o,hl2,hl3⟩)) (Below.refl _ _) (fun _=>rfl)
  (fun pre W=>pZ S Z1 B (pre.map fun x=>x.2.a.put) W∧Ext ⟨w1,Z1,fun _=>none⟩ ⟨W,Z1,fun _=>none⟩∧w1.heap.size≤W.heap.size) (fun _ _ _=>False) hown (fun _ _ _ _ _ hs _ _=>hs) ⟨h0,Ext.refl _,aas _⟩
  (fun x a' W=>a'.tmps.size=22∧a'.defers=[]∧a'.tmps[5]? = some (.pointer (some ⟨B,0,none⟩))∧∃B7,w1.heap.size≤B7∧a'.tmps[7]? = some (.pointer (some ⟨B7,0,none⟩))∧W.heap[B7]? = some (.cells x.2.cs.toArray 95 (0,0))) ?hAx ?assign ?body ?done ?stop
 case hg=>
  show a4.tmps.getD 13 undef=_
  rw[abA,ht13];rfl
 case hz=>
  have h1:=(aaP.1 hl2).1
  have hl1:w1.heap.size≤q:=hl1
  have h2:=hZ1 b o z
  exact⟨show b<W.heap.size by omega,fun e=>by cases e;omega⟩
 case hAx=>
  rintro x a' _ W W' row ⟨h1,h2,h3,B7,h4,h5,h6⟩ hg hr
  refine⟨h1,h2,h3,B7,h4,h5,(hg.block B7 (aaP.1 h6).1 fun e=>?_).trans h6⟩
  obtain⟨_,o,h7,h8⟩:=hr B7 e.symm
  rw[h6]at h7
  cases h7;cases h8
 case assign=>
  intro q pre x W K hI hK
  refine o8 (ro:=some q) (BS W (t:=95) rfl rfl rfl rfl rfl (bH _ _ rfl) x.2.len ?_ ?_ x.2.one fun W2 hg2 hz2 hn2=>?_)
  ·simp[hsz4]
  ·simp[Act.put,Act.eval,hsz4]
  ·have hk2:KeepsFrom w1.heap.size W W2:=⟨hg2.size,fun k o _ ho _=>(hg2.block k (aaP.1 ho).1 (fun e=>by cases e)).trans ho⟩
   have hI2:=hown pre W W2 none hI hg2 (fun _ e=>by cases e)
   refine hK _ _ hk2 (vu (c:=⟨W,Z1,fun _=>none⟩) (row:=none) (fun b o z=>⟨aaS (hZ1 b o z) hI.2.2,fun e=>by cases e⟩) hg2 (fun _ e=>by cases e)) hI2 ⟨?_,rfl,?_,W.heap.size,hI.2.2,?_,hn2⟩
   ·simp[Act.put,hsz4]
   ·simp[Act.put,ht5]
   ·simp[Act.put,hsz4]
 case body=>
  intro q pre x a' W hq hloop hI ⟨h1,h2,h3,B7,h4,h5,h6⟩ hlen
  refine wpIn_block (wpIn_mono (QT (a:=x.2.a) hSG hM hN hZ1 hI.1 (aC.ext _ hI.2.1 x.2.rel) h4 h6 x.2.len h1 h2 h3 h5 (by kernel_rfl) ?_) ?_)
  ·have hlen2:(pre.map fun x=>x.2.a.put).length<67108864:=by rw[aao];omega
   generalize(pre.map fun x=>x.2.a.put)=T at hlen2
   refine ay (R7 x.2.a x.2.sz.1 x.2.sz.2.1 x.2.sz.2.2) rfl<|db.l (ak.mk (dS ef T x.2.a.put hlen2) ?_)
   refine⟨rfl,7,by decide,?_,?_⟩
   ·rw[aap];rfl
   ·rw[aaC];rfl
  ·rintro e a'' W' ⟨rfl,hk,hx,ht⟩
   exact⟨hk,hx,by rw[aaC];exact ht,hI.2.1.trans hx,aaJ hI.2.2 hk.size⟩
 case done=>
  rintro D xs W hD2 hS2 ⟨hI,hx,hsz⟩ hK
  have hD3:w1.heap.size≤D:=hD2
  have hput:(xs.map fun x=>x.2.a.put)=iW name l:=by
   unfold iW
   rw[hw,← hmap,← hS2,abX,abX];rfl
  rw[hput]at hI
  obtain⟨v,hv1,hcell,hrel⟩:=X9 (W':=W.putObj D (.deferred none)) (Z':=ln w (W.putObj D (.deferred none)) Z) hI hL (fun b o h1 h2=>.inr ⟨by rw[← hw0];exact h1,by simpa using h2⟩) (fun b aB e f h=>(World.putObj_heap_other (fun e=>by
   subst e
   rw[show W.heap[_]? = _ from h]at hK
   cases hK)).trans h)
  show Code.wpIn Fence.wide 2 _ (Code.seq _ Code.ret) _ _ W
  refine wpIn_seq (o8 (ro:=none) (Z7 W rfl rfl (bH _ _ rfl) rfl rfl (b:=B) (off:=0) ?_ hcell hv1 (xm W rfl rfl ?_)))
  ·show a4.tmps.getD 5 undef=_
   rw[abA,ht5];simp
  refine wpIn_ret<|⟨by simp,.inl ⟨_,_,rfl,run_takeDeferred hK,?_⟩⟩
  show LeavesInM Fence.wide 2 _ _ _ _ a4.defers _ _
  rw[hd4]
  refine⟨v,?_,_,v,rfl,rfl,hrel,?_⟩
  ·simp[results,Tryz.results32,go_sem,Act.put,Act.eval,hsz4]
  ·have hkp:e_ S.L S.w0 W:=hI.choose_spec.keeps
   rw[hw0]at hkp hN
   refine⟨hkp.os,hkp.tape,hkp.output,?_,fun b hb=>?_⟩
   ·simpa using hkp.size
   ·exact(World.putObj_heap_other (show b≠D by omega)).trans (hkp.block b hb (hL b))
 case stop=>
  intro D c pre W _ _ h _
  exact h.elim
theorem Ys(l:List (List cw))(name:BA)(hn:name.size≤4294967280)(hl:l.length≤60000000)(hls:∀rs∈l,rs.length≤60000000)(hT:(lT name l).length≤67108864)
 (hA:∀rs∈l,∀r∈rs,r.a.nodes.length≤67108864∧(∀n∈r.a.nodes,n.size≤1000000)∧r.a.notes.length≤67108864):PC 32 [.sl false (l.map fun rs=>sl cw.pv rs),st name] (·=sl st (iW name l)):=by
 cases hw:cQ name with
 |true=>exact Ro l name hn hw hl hls hT hA
 |false=>exact Vk l name hn hw
theorem Vl(L:List aU)(name:BA){c:List aJ}{l:List (List cw)}(hrun:PC 13 [sl bX L] (·=.aK [sl aJ.pv c,.sl false (l.map fun rs=>sl cw.pv rs)]))(hn:name.size≤4294967280)(hl:l.length≤60000000)(hls:∀rs∈l,rs.length≤60000000)(hT:(lT name l).length≤67108864)
 (hA:∀rs∈l,∀r∈rs,r.a.nodes.length≤67108864∧(∀n∈r.a.nodes,n.size≤1000000)∧r.a.notes.length≤67108864):PC 12 [sl bX L,st name] (·=sl st (iW name l)):=by
 exact al Tryz.func12<|af hrun rfl<|af (Ys l name hn hl hls hT hA) rfl<|ab
end
section
open Go.RowKit
theorem SQ{M:Nat}{R:aE→aE×aP}(hR:∀t,t.d.down=false→R t=(t,.err 15))(hRu:∀t,fO t→fO (R t).1)(l:List aU)(hl:l.length≤1000)(hx:∀x∈l,eu M x)(hp:∀x∈l,fg x)(hM:549+l.length*329≤M)(hrc:∀t,t.d.down=false→fO t→pK R t)(q:Nat)(x:aU)(hq:l[q]? = some x):jv R (dc R [] (l.take q)).1 x:=by
 have hmem:∀y∈l.take q,y∈l:=fun y hy=>aaV hy
 have hlen:(l.take q).length≤l.length:=by rw[aax];omega
 have hmul:(l.take q).length*(320+9)≤l.length*329:=abx _ hlen;have h0:eH M 220 [] []:=⟨rfl,fun n hn=>(aaH hn).elim⟩;have hs:=(qg (K:=320) hR (by omega) (l.take q) h0 (fun y hy=>(hx y (hmem y hy)).rL) (by omega) (by omega)).1;have hu:=uk hRu (l.take q) (c:=[]) ⟨by show 0≤8;omega,fun n hn=>(aaH hn).elim⟩ fun y hy e=>absurd e (hx y (hmem y hy)).oH.2.2
 have hi:=qP (M:=M) (l.take q) (m:=0) (i:=[]) (fun y hy=>(aaH hy).elim) fun y hy=>hx y (hmem y hy)
 have hxm:=aau hq;exact Jp hs hu hi (by omega) (hx x hxm) (hp x hxm) (by omega) fun t ht htu=>hrc t ht.down htu
theorem Jl(l:List aU)(hl:l.length≤28)(hx:∀x∈l,eu 10000 x∧fg x)(q:Nat)(x:aU)(hq:l[q]? = some x):jv ez (dc ez [] (l.take q)).1 x:=
 SQ (M:=10000) (fun _ _=>rfl) (fun _ h=>h) l (by omega) (fun x h=>(hx x h).1) (fun x h=>(hx x h).2) (by omega) (fun t ht _=>Bi ht) q x hq
theorem OW(l:List aU)(hl:l.length≤28)(hx:∀x∈l,eu 10000 x∧fg x):PC 13 [sl bX l] (·=.aK [sl aJ.pv (dc ez [] l).1,.sl false ((dc ez [] l).2.map fun r=>sl cw.pv r)]):=zS l (by omega) (Jl l hl hx)
theorem OQ{S:List aU}(hS:S.length≤28)(hx:∀x∈S,eu 10000 x∧fg x)(q:Nat):wh ez (S.take q):=fun k x hk=>by
 have hl:((S.take q).filter iG).length≤28:=by
  have h1:=abp iG (S.take q)
  rw[aax]at h1
  omega
 exact Jl _ hl (fun y hy=>hx y (aaV ((acq.1 hy).1))) k x hk
theorem QA{S:List aU}(hS:S.length≤28)(hx:∀x∈S,eu 10000 x∧fg x):eH 10000 10000 (dc ez [] S).1 (dg [] S).1∧(dc ez [] S).2=(dg [] S).2:=by
 have h0:eH 10000 220 [] []:=⟨rfl,fun n hn=>(aaH hn).elim⟩;have:=qg (K:=320) (R:=ez) (fun _ _=>rfl) (by omega) S h0 (fun y hy=>(hx y hy).1.rL) (by omega) (by omega);exact⟨this.1.le (by omega),this.2⟩
theorem Lm{S:List aU}(hx:∀x∈S,eu 10000 x∧fg x):jT (dc ez [] S).1:=uk (fun _ h=>h) S (c:=[]) ⟨by show 0≤8;omega,fun n hn=>(aaH hn).elim⟩ fun y hy e=>absurd e (hx y hy).1.oH.2.2
theorem aam{S:List aU}(hx:∀x∈S,eu 10000 x∧fg x)(name:BA):(jZ ez S name).1.size≤1000000:=by
 have hu:=Lm (S:=S.filter iG) fun y hy=>hx y ((acq.1 hy).1)
 unfold jZ ic;cases h:(dc ez [] (S.filter iG)).1.find? fun n=>seq n.name name with
 |none=>exact aaF _
 |some n=>
  have:=(hu.all n (aaW h)).key;show n.t.key.size≤_
  omega
theorem T8{S:List aU}(hS:S.length≤28)(hx:∀x∈S,eu 10000 x∧fg x)(name:BA):w6 ez S name:=
 ⟨fun x h=>(hx x h).2.opens,fun x h=>(hx x h).2.tok,OQ hS hx,fun q=>aam (fun x h=>hx x (aaV h)) name⟩
theorem A6(p:List aU→aU→Bool):∀(l:List aU) (a:List aU) (x:aU),x∈lq p a l→x∈l
 | [],_,_,h=>h
 |y::l,a,x,h=>by
  unfold lq at h
  cases hp:p a y with
  |true=>
   rw[hp]at h
   rcases aaI.1 h with rfl|h
   ·exact aaA
   ·exact aaz _ (A6 p l _ x h)
  |false=>rw[hp]at h;exact aaz _ (A6 p l _ x h)
theorem Sp{R:aE→aE×aP}{l:List aU}{name:BA}{x:aU}(h:x∈sT R l name):x∈l:=A6 _ _ _ _ ((acq.1 h).1)
def EY(r:cw):Bool:=Nat.ble r.a.nodes.length 1000&&(r.a.nodes.all (fun n=>Nat.ble n.size 1000000)&&Nat.ble r.a.notes.length 1000)
def u_(l:List (List cw)):Bool:=Nat.ble l.length 1000&&l.all fun rs=>Nat.ble rs.length 1000&&rs.all EY
theorem LS(name:BA):∀(l:List (List cw)) (n:Nat),(∀rs∈l,rs.length≤n)→(lT name l).length≤l.length*n
 | [],_,_=>aaF _
 |rs::l,n,h=>by
  unfold lT
  rw[adL,aap,aao,aaL,abL]
  have h1:=abp (fun r:cw=>seq r.aq name) rs
  have h2:=h rs aaA
  have h3:=LS name l n fun r hr=>h r (aaz _ hr)
  unfold lT at h3
  omega
theorem FO{S:List aU}(hS:S.length≤28)(hx:∀x∈S,eu 10000 x∧fg x){l:List (List cw)}(hl:(dg [] S).2=l)(hb:u_ l=true)(name:BA)(hn:name.size≤1000):PC 12 [sl bX S,st name] (·=sl st (iW name l)):=by
 have hr:=OW S hS hx;rw[(QA hS hx).2,hl]at hr;unfold u_ at hb;rw[abm]at hb;have h1:=aaG hb.1;have h2:∀rs∈l,rs.length≤1000∧∀r∈rs,r.a.nodes.length≤67108864∧(∀n∈r.a.nodes,n.size≤1000000)∧r.a.notes.length≤67108864:=fun rs hrs=>by
  have:=abn.1 hb.2 rs hrs;rw[abm]at this;refine⟨aaG this.1,fun r hr=>?_⟩;have:=abn.1 this.2 r hr;unfold EY at this;rw[abm,abm]at this;have a1:=aaG this.1;have a3:=aaG this.2.2;exact⟨by omega,fun n hn=>aaG (abn.1 this.2.1 n hn),by omega⟩
 have h3:=LS name l 1000 fun rs hrs=>(h2 rs hrs).1
 have h4:l.length*1000≤1000*1000:=abx _ h1;exact Vl S name hr (by omega) (by omega) (fun rs hrs=>by have:=(h2 rs hrs).1;omega) (by omega) fun rs hrs=>(h2 rs hrs).2
theorem Re:u_ (gz [] dB).2=true:=by kernel_rfl
theorem Qq:u_ (gz [] (kK dB sB)).2=true:=by kernel_rfl
theorem N4:(kK dB sB).all ES=true:=by kernel_rfl
theorem yV:(dB.map JE.bF).length≤28:=by rw[aao,A7];decide
theorem P2:PC 12 [sl bX (dB.map JE.bF),st sB] (·=sl st (iW sB (gz [] dB).2)):=FO yV wN (congrArg Prod.snd Q_) Re sB (by decide)
theorem aai:PC 9 [sl bX (dB.map JE.bF),st sB] (·=sl bX ((kK dB sB).map JE.bF)):=by
 have:=UR (dB.map JE.bF) sB (by have:=yV;omega) (T8 yV wN sB);rwa [Dg]at this
theorem Qc:PC 12 [sl bX ((kK dB sB).map JE.bF),st sB] (·=sl st (iW sB (gz [] dB).2)):=by
 have h:=FO (S:=(kK dB sB).map JE.bF) (by rw[aao,XH];decide) (fun x hx=>wN x (by rw[← Dg]at hx;exact Sp hx)) (l:=(gz [] (kK dB sB)).2) (congrArg Prod.snd (sj (kK dB sB) (fun x hx=>(aaH hx).elim) (Ak N4))) Qq sB (by decide);have e:iW sB (gz [] dB).2=iW sB (gz [] (kK dB sB)).2:=by
  unfold iW;rw[Qt]
 rw[e];exact h
def zJ(s:State):Bool:=s.pool.nodes.all (fun n=>Nat.ble n.name.size 1000000&&(Nat.ble n.labels.length 67108864&&n.labels.all fun q=>Nat.ble q.k.size 1000000&&Nat.ble q.v.size 1000000))&&s.tree.all fun e=>Nat.ble e.path.size 1000000
theorem S2:(pO sA).map (fun x=>zJ x.s)=some true:=by kernel_rfl
theorem Q0:(pO sA).map (fun x=>x.s.pool.places.map fun p=>(p.aM,p.node.data.toList,p.v.a,p.v.b,p.v.c,p.v.d))=some [(2,[110,50],5,0,0,0)]:=by kernel_rfl
theorem G8{b:BA}{l:List UInt8}(h:b.data.toList=l):b=⟨l.toArray⟩:=by
 cases b with
 |mk d=>subst h;simp
theorem Wp:(pO sA).map (fun x=>x.s.aj.all fun j=>decide (j.x.count≤1000))=some true:=by kernel_rfl
structure Q'(c:List aJ)(l:List (List cw))(ta tb:aE)(x24 x25:cw):Prop where
 run:PC 13 [sl bX (fV.map JE.bF)] (·=.aK [sl aJ.pv c,.sl false (l.map fun r=>sl cw.pv r)])
 cl:c.length≤1000
 fa:ic c sA=(ta,true)
 fb:ic c sB=(tb,true)
 len:l.length=26
 tY:l[24]? = some [x24]
 nM:l[25]? = some [x25]
 Vp:x24.a.state=2
 B1:x24.a.nodes=[⟨#[110,50]⟩]
 FY:x25.a.notes=[]
 rb:tb.s.round=1
 jb:tb.s.aj=[]
 ra:ta.s.round=1
 pa:ta.s.pool.places=[⟨2,⟨#[110,50]⟩,⟨5,0,0,0⟩⟩]
 right:ta.s.right=true
 runs:(bK ta.s.aj 1).1.runs=false
 sz:xi ta.s
 i7:∀j∈ta.s.aj,j.x.count≤4611686018427387904
theorem IC{c:List aJ}{i:List bG}(h:c.map abs=i)(name:BA){x:bG}(hx:i.find? (fun x=>seq x.name name)=some x):∃n∈c,ic c name=(n.t,true)∧abs n=x:=by
 subst h;rw[List.find?_map]at hx;cases hf:c.find? (fun n=>seq n.name name)with
 |none=>
  rw[show c.find? ((fun x:bG=>seq x.name name)∘abs)=none from hf]at hx;cases hx
 |some n=>
  rw[show c.find? ((fun x:bG=>seq x.name name)∘abs)=some n from hf]at hx;exact⟨n,aaW hf,by unfold ic;rw[hf],abl hx⟩
theorem map_some{α β:Type}{o:Option α}{f:α→β}{b:β}(h:o.map f=some b):∃a,o=some a∧f a=b:=by
 cases o with
 |none=>cases h
 |some a=>exact⟨a,rfl,abl h⟩
theorem wU{α β:Type}{l:List α}{f:α→β}{b:β}(h:l.map f=[b]):∃a,l=[a]∧f a=b:=by
 cases l with
 |nil=>cases h
 |cons a l=>
  rw[aaZ]at h;have h2:=(ads h).2;cases l with
  |nil=>exact⟨a,rfl,(ads h).1⟩
  |cons=>cases h2
theorem Pz:∃c l ta tb x24 x25,Q' c l ta tb x24 x25:=by
 have hL:(fV.map JE.bF).length≤28:=by rw[tc];decide
 obtain⟨hs,hr⟩:=Nf;have hi:(dg [] (fV.map JE.bF)).1=pX.1:=congrArg Prod.fst Gp;have hr:(dc ez [] (fV.map JE.bF)).2=pX.2:=hr.trans (congrArg Prod.snd Gp);have hio:=qP (M:=10000) (fV.map JE.bF) (m:=0) (i:=[]) (fun y hy=>(aaH hy).elim) fun y hy=>(rz y hy).1
 rw[tc,hi]at hio;have hrun:=PS;rw[hr]at hrun;have hcl:=(Lm rz).len;have he:=hs.eq;rw[hi]at he;obtain⟨xa,hxa,hpl⟩:=map_some Q0;obtain⟨xb,hxb,hbb⟩:=map_some ZL;obtain⟨na,hna,hfa,rfl⟩:=IC he sA hxa;obtain⟨nb,hnb,hfb,rfl⟩:=IC he sB hxb;obtain⟨tY,h24,h24v⟩:=map_some WE;obtain⟨nM,h25,h25v⟩:=map_some Mi;have e1:=Ph;have e2:=Wt;have e3:=Yq;have e4:=S2;have e5:=Wp;rw[hxa]at e1 e2 e3 e4 e5;have e5:(na.t.s.aj.all fun j=>decide (j.x.count≤1000))=true:=abl e5;have e1:=abl e1;have e2:na.t.s.right=true:=abl e2;have e3:(bK na.t.s.aj 1).1.runs=false:=abl e3;have e4:zJ na.t.s=true:=abl e4;have hok:cB (0+1024*26) na.t.s:=hio (abs na) (aaW hxa);obtain⟨x24,rfl,a1⟩:=wU h24v;obtain⟨x25,rfl,a2⟩:=wU h25v;have a3:x24.a.nodes.map (fun b=>b.data.toList)=[[110,50]]:=congrArg Prod.snd a1;unfold zJ at e4;rw[abm]at e4;refine⟨_,_,na.t,nb.t,x24,x25,hrun,by omega,hfa,hfb,Uh,h24,h25,congrArg Prod.fst a1,?_,abu a2,congrArg Prod.fst hbb,abu (congrArg Prod.snd hbb),congrArg Prod.fst e1,?_,e2,e3,⟨by have:=hok.sz.nodes;omega,by have:=hok.sz.places;omega,fun n hn=>?_,by have:=hok.sz.tree;omega,fun e he=>aaG (abn.1 e4.2 e he),by have:=hok.sz.queue;omega,by have:=hok.sz.aj;omega,fun j hj=>(hok.sz.spec j hj).1⟩,fun j hj=>by have:=aat (abn.1 e5 j hj);omega⟩
 ·obtain⟨b,hb,hb2⟩:=wU a3;rw[hb,G8 hb2]
 ·obtain⟨⟨j,b,⟨v1,v2,v3,v4⟩⟩,hb,h⟩:=wU (show na.t.s.pool.places.map (fun p=>(p.aM,p.node.data.toList,p.v.a,p.v.b,p.v.c,p.v.d))=[(2,[110,50],5,0,0,0)]from hpl);simp only[Prod.mk.injEq]at h;obtain⟨rfl,hb2,rfl,rfl,rfl,rfl⟩:=h;rw[hb,G8 hb2]
 ·have:=abn.1 e4.1 n hn;rw[abm,abm]at this;exact⟨aaG this.1,aaG this.2.1,fun q hq=>by
   have:=abn.1 this.2.2 q hq;rw[abm]at this;exact⟨aaG this.1,aaG this.2⟩⟩
def kI(a:jB)(j:az):jB:=match j.runs with
 |true=>(j3 a.1 j.id,eW a.2 j.id j.x.count)
 |false=>a
def iR(s:State)(q:Nat):jB:=(s.aj.take q).foldl kI ([],fun _=>0)
theorem ZH{s:State}{q:Nat}{j:az}(h:s.aj[q]? = some j):iR s (q+1)=kI (iR s q) j:=by
 unfold iR;rw[eC h,abw];rfl
theorem BZ:∀(l:List az) (a:jB),a.1.Nodup→(l.foldl kI a).1.Nodup
 | [],_,h=>h
 |j::l,a,h=>BZ l _ (by
  unfold kI
  cases j.runs with
  |true=>exact IQ h j.id
  |false=>exact h)
theorem DA(s:State):(iR s s.aj.length).2=qS s.aj fun _=>0:=by
 have key:∀(l:List az) (a:jB),(l.foldl kI a).2=qS l a.2:=fun l=>by
  induction l with
  |nil=>intro a;rfl
  |cons j l ih=>
   intro a;rw[acj,ih];show _=qS l _
   congr 1;unfold kI;cases j.runs<;>rfl
 unfold iR;rw[aaM,key]
theorem DF{ks:List UInt64}{x k:UInt64}:k∈j3 ks x↔k∈ks∨k=x:=by
 unfold j3;by_cases h:x∈ks
 ·rw[aaB h];exact⟨.inl,fun h2=>h2.elim id fun e=>e▸h⟩
 ·rw[aar h];simp
theorem Yp(s:State)(k:UInt64):k∈(iR s s.aj.length).1↔∃j∈s.aj,j.runs=true∧j.id=k:=by
 have key:∀(l:List az) (a:jB),k∈(l.foldl kI a).1↔k∈a.1∨∃j∈l,j.runs=true∧j.id=k:=fun l=>by
  induction l with
  |nil=>intro a;simp
  |cons j l ih=>
   intro a;rw[acj,ih];unfold kI;cases hr:j.runs with
   |true=>
    simp only[DF];constructor
    ·rintro((h|rfl)|⟨j',h1,h2⟩)
     ·exact .inl h
     ·exact .inr ⟨j,aaA,hr,rfl⟩
     ·exact .inr ⟨j',aaz _ h1,h2⟩
    ·rintro(h|⟨j',h1,h2,h3⟩)
     ·exact .inl (.inl h)
     ·rcases aaI.1 h1 with rfl|h1
      ·exact .inl (.inr h3.symm)
      ·exact .inr ⟨j',h1,h2,h3⟩
   |false=>
    constructor
    ·rintro(h|⟨j',h1,h2⟩)
     ·exact .inl h
     ·exact .inr ⟨j',aaz _ h1,h2⟩
    ·rintro(h|⟨j',h1,h2,h3⟩)
     ·exact .inl h
     ·rcases aaI.1 h1 with rfl|h1
      ·rw[hr]at h2;cases h2
      ·exact .inr ⟨j',h1,h2,h3⟩
 unfold iR;rw[aaM,key];simp
structure oU(K:List UInt64)(f:UInt64→Int):Prop where
 out:∀k,k∉K→f k=0
 le:∀k,f k≤4611686018427387904
theorem PT(s:State)(h:∀j∈s.aj,j.x.count≤4611686018427387904):oU (iR s s.aj.length).1 (iR s s.aj.length).2:=by
 have key:∀(l:List az) (a:jB),(∀j∈l,j.x.count≤4611686018427387904)→oU a.1 a.2→oU (l.foldl kI a).1 (l.foldl kI a).2:=fun l=>by
  induction l with
  |nil=>intro a _ h;exact h
  |cons j l ih=>
   intro a hl ha;refine ih _ (fun j hj=>hl j (aaz _ hj)) ?_;unfold kI;cases hr:j.runs with
   |false=>exact ha
   |true=>
    refine⟨fun k hk=>?_,fun k=>?_⟩
    ·dsimp only at hk⊢;rw[DF]at hk;rw[rh _ _ fun e=>hk (.inr e)];exact ha.out k fun h=>hk (.inl h)
    ·dsimp only;by_cases e:k=j.id
     ·subst e;rw[wV];exact hl j aaA
     ·rw[rh _ _ e];exact ha.le k
 unfold iR;rw[aaM];exact key _ _ h ⟨fun _ _=>rfl,fun _=>by show(0:Int)≤_;decide⟩
def im(f:UInt64→Int)(l:List Place):UInt64→Int:=l.foldl (fun f x=>eW f x.aM (f x.aM-1)) f
theorem QD(s:State)(x:Place)(m:List Place)(f:UInt64→Int):kh s (x::m) f=match decide (f x.aM<1)with
 |true=>none
 |false=>match V4.same x.v (bK s.aj x.aM).1.x.cy with
  |false=>none
  |true=>kh s m (eW f x.aM (f x.aM-1)):=by
 have e:(fun id=>match decide (id=x.aM)with|true=>f id-1|false=>f id)=eW f x.aM (f x.aM-1):=by
  funext id
  unfold eW
  by_cases h:id=x.aM
  ·subst h;rw[aaB rfl]
  ·rw[aar h]
 show(match decide (f x.aM<1)with
  |true=>none
  |false=>match V4.same x.v (bK s.aj x.aM).1.x.cy with
   |false=>none
   |true=>kh s m fun id=>match decide (id=x.aM)with|true=>f id-1|false=>f id)=_
 rw[e]
theorem Vi(s:State){K:List UInt64}{f0 f:UInt64→Int}(hK:∀k,k∈K↔∃j∈s.aj,j.runs=true∧j.id=k)(h0:qS s.aj (fun _=>0)=f0)(h:kh s s.pool.places f0=some f):s.ko=K.all fun k=>decide (f k=0):=by
 unfold State.ko;rw[h0,h];dsimp only;rw[Bool.eq_iff_iff,abn,abn];constructor
 ·intro h1 k hk;obtain⟨j,hj,hr,rfl⟩:=(hK k).1 hk;have:=h1 j hj;rw[hr]at this;exact this
 ·intro h1 j hj;cases hr:j.runs with
  |false=>rfl
  |true=>exact h1 j.id ((hK j.id).2 ⟨j,hj,hr,rfl⟩)
theorem Sg{K:List UInt64}{f:UInt64→Int}(h:oU K f){x:UInt64}(hx:x∈K):oU K (eW f x (f x-1)):=by
 refine⟨fun k hk=>?_,fun k=>?_⟩
 ·rw[rh _ _ fun e=>hk (by rw[e];exact hx)];exact h.out k hk
 ·by_cases e:k=x
  ·subst e;rw[wV];have:=h.le k;omega
  ·rw[rh _ _ e];exact h.le k
section
variable {F:Fence}{n:Nat}{P:Program}(w:World){ops:Array Oper}{rest:List Oper}{o:Oper}{a:Act}{Q:Exit→Act→World→Prop}
theorem v_(hg:o.guard=none)(hd:mh o=true)(ha:o.about P w a.eval=none){v:Value}{w':World}(hrun:(execOp a.eval o).run P w=.ok (.value v) w')(hK:wpListIn F n P ops Q rest (a.put o.dst v) w'):wpListIn F n P ops Q (o::rest) a w:=by
 refine wpListIn_plain hg fun K hK1=>?_
 unfold Oper.wpIn;refine⟨fun f hf=>(by rw[ha]at hf;cases hf),?_⟩;rw[Oper.semAt_plain F _ _ (Fg hd),hrun];exact hK1 _ _ hK
theorem GM(hg:o.guard=none){x:Operand}(hop:o.op=.move x)(hK:wpListIn F n P ops Q rest (a.put o.dst (a.eval x)) w):wpListIn F n P ops Q (o::rest) a w:=
 v_ w hg (by unfold mh;rw[hop]) (by simp[Oper.about,hop]) (by unfold execOp;rw[hop];rfl) hK
theorem Bh(hg:o.guard=none){x:Operand}{i:Nat}(hop:o.op=.extract x i){vs:Array Value}(hx:a.eval x=.tuple vs){v:Value}(hv:vs[i]? = some v)(hK:wpListIn F n P ops Q rest (a.put o.dst v) w):wpListIn F n P ops Q (o::rest) a w:=
 v_ w hg (by unfold mh;rw[hop]) (by simp[Oper.about,hop]) (by simp[execOp,hop,hx,Instr.extract,hv,Result.andThen]) hK
theorem ZU(hg:o.guard=none){x:Operand}(hop:o.op=.entry x){p:Value}(hx:a.eval x=p){v:Value}(he:(Instr.entry p).run P w=.ok v w)(hK:wpListIn F n P ops Q rest (a.put o.dst v) w):wpListIn F n P ops Q (o::rest) a w:=
 v_ w hg (by unfold mh;rw[hop]) (by simp[Oper.about,hop]) (by simp[execOp,hop,hx,he,Result.andThen]) hK
theorem WJ(hg:o.guard=none){x y:Operand}{t t2:TypeId}(hop:o.op=.binOp .neq t x y t2)(ht:P.underlying t=some (.int .i64)){i j:Int}(hx:a.eval x=.int .i64 i)(hy:a.eval y=.int .i64 j)(hK:wpListIn F n P ops Q rest (a.put o.dst (.bool (!decide (i=j)))) w):wpListIn F n P ops Q (o::rest) a w:=
 v_ w hg (by unfold mh;rw[hop]) (by simp[Oper.about,hop]) (by unfold execOp;simp[hop,hx,hy,eqGuard,binOp,Op.intCmp,Bool.beq_eq_decide_eq,bne,Result.andThen]) hK
end
theorem eval_put{a:Act}{d t:Nat}{v:Value}(hd:d<a.tmps.size):(a.put (some d) v).eval (.tmp t)=match Nat.beq d t with|true=>v|false=>a.eval (.tmp t):=by
 cases h:Nat.beq d t with
 |true=>
  cases aaE h;simp[Act.put,Act.eval,hd]
 |false=>
  have hne:d≠t:=fun e=>by rw[e,acI]at h;cases h
  simp[Act.put,Act.eval,ace,hne]
theorem FX{L:jB}(hd:L.1.Nodup)(x:UInt64)(n:Int):some (aA.map (kL (L.1.map uV) (uV x)) (me (L.1.map uV) (L.1.map fun k=>i64 (L.2 k)) (uV x) (i64 n)) true)=some (MB (j3 L.1 x,eW L.2 x n)):=by
 rw[xZ,Bu (fun k=>i64 (L.2 k)) _ _ _ hd];congr 2;refine acb fun z _=>?_
 unfold eW;dsimp only;cases decide (z=x)<;>rfl
theorem KH{f:FuncId}{fn:Func}{args:List PV}{body:Code}{post:PV→Prop}(hf:Tryz.prog.funcs[f]? = some fn)(hn:(fn.name== "runtime.NumGoroutine")=false)(hc:fn.body=some body)(hle:args.length≤fn.ntmps)(h:SV Tryz.prog GT 0 fn.ntmps body 0 ⟨iF args 0,fun _=>none⟩ (tD tt fn post)):PC f args post:=
 Iu bH (fun h hb=>fU.below h hb) hf (enters_of hf hn hc) hc hle fun hG hM _ _ hm=>h.h hG hM hm
theorem YX(s:State)(h:xi s)(hcnt:∀j∈s.aj,j.x.count≤4611686018427387904):JG s s.ko:=by
 have hKi:=Yp s;have h0:=(DA s).symm;have hok:=PT s hcnt;have hnd:=BZ s.aj ([],fun _=>0) acY;rw[show s.aj.foldl kI ([],fun _=>0)=iR s s.aj.length by unfold iR;rw[aaM]]at hnd;refine KH Tryz.func56 rfl rfl (aaG rfl)<|SV.seq bH bU<|SV.seq bH bU<|SV.seq bH bU ?_;have hjl:=h.aj;have hpl:=h.places;refine cW s.aj.length (.of (iR s) (fun _=>[]) [1,3,15,16] (fun a=>[(2,MB a)]) [0]) (fun _=>True) trivial ?_ (fun k hk hj=>?_) (fun hj=>?_)
 ·exact bY rfl (oC _)
 ·obtain⟨x,hx⟩:=get_at hk;have hn:=ZH hx;have hd:(iR s k).1.Nodup:=BZ _ _ acY;generalize hL:iR s k=L at hn hd;rw[bR hL];obtain⟨xid,xx,xr,xl⟩:=x;refine bx hx ?_;unfold kI at hn;cases xr with
  |true=>
   exact ah<|ak.mk (oK _ _)<|bA.of id hn trivial rfl<|dv ⟨⟨BB.aO (FX hd xid xx.count) (oC _),rfl⟩,trivial⟩
  |false=>
   exact aa<|bA.of id hn trivial rfl<|bY rfl (oC _)
 ·generalize hL:iR s s.aj.length=L at hKi h0 hok hnd;rw[bR hL];obtain⟨K,f0⟩:=L;dsimp only at hKi h0 hok hnd;refine SV.seq bH bU ?_;have hpi:=DA s;refine cW s.pool.places.length (.of (fun q=>im f0 (s.pool.places.take q)) (fun _=>[]) [1,3,33,34] (fun f=>[(2,MB (K,f))]) [0]) (fun q=>oU K (im f0 (s.pool.places.take q))∧kh s s.pool.places f0=kh s (s.pool.places.drop q) (im f0 (s.pool.places.take q))) ⟨hok,rfl⟩ ?_ (fun k hk hj=>?_) (fun hj=>?_)
  ·exact bY rfl (oC _)
  ·obtain⟨x,hx⟩:=get_at hk;have hn:im f0 (s.pool.places.take (k+1))=eW (im f0 (s.pool.places.take k)) x.aM (im f0 (s.pool.places.take k) x.aM-1):=by
    unfold im;rw[eC hx,abw];rfl
   have hd:s.pool.places.drop k=x::s.pool.places.drop (k+1):=by
    obtain⟨hlt,rfl⟩:=aaq.1 hx;exact aaX hlt
   rw[hd,QD]at hj;have hnx:oU K (im f0 (s.pool.places.take (k+1)))∧kh s s.pool.places f0=kh s (s.pool.places.drop (k+1)) (im f0 (s.pool.places.take (k+1)))↔oU K (eW (im f0 (s.pool.places.take k)) x.aM (im f0 (s.pool.places.take k) x.aM-1))∧kh s s.pool.places f0=kh s (s.pool.places.drop (k+1)) (eW (im f0 (s.pool.places.take k)) x.aM (im f0 (s.pool.places.take k) x.aM-1)):=by rw[hn]
   generalize hL2:im f0 (s.pool.places.take k)=f at hn hj hnx;rw[bR hL2];obtain⟨xj,xn,xv⟩:=x;refine bx hx<|af (sr s xj (by omega)) rfl ?_;have hlk:=BP (fun k=>i64 (f k)) xj K;cases hm:decide (xj∈K)with
   |false=>
    rw[hm]at hlk;have hf0:f xj=0:=hj.1.out xj (aaw hm);refine ak.mk (oK _ _)<|cU.is _ hlk<|ae.is true rfl<|ah ?_;have hb:s.ko=false:=by
     have:=hj.2;rw[show decide (f xj<1)=true by rw[hf0];rfl]at this;unfold State.ko;rw[h0,this]
    rw[hb];exact ab
   |true=>
    rw[hm]at hlk;refine ak.mk (oK _ _)<|cU.is _ hlk<|ae.two (fun h1=>?_) (fun h1=>?_)
    ·have hb:s.ko=false:=by
      have:=hj.2;rw[show decide (f xj<1)=true from h1]at this;unfold State.ko;rw[h0,this]
     rw[hb];exact ah<|ab
    ·have h2:=hj.2;rw[show decide (f xj<1)=false from h1]at h2;refine ae.is (V4.same xv (bK s.aj xj).1.x.cy) (wP _ _) ?_;cases hv:V4.same xv (bK s.aj xj).1.x.cy with
     |false=>
      have hb:s.ko=false:=by
       rw[hv]at h2;unfold State.ko;rw[h0,h2]
      rw[hb];exact ah<|ab
     |true=>
      rw[hv]at h2;refine aa ?_;have hge:¬f xj<1:=aaw h1;have hle:=hj.1.le xj;refine ak.mk (oK _ _)<|cU.is _ hlk<|bN.intro (f xj-1) (wrap_i64 rfl (by omega)) ?_;have hblk:=(FX (L:=(K,f)) hnd xj (f xj-1)).trans (show _=some (MB (K,eW f xj (f xj-1)))by unfold j3;dsimp only;rw[hm]);exact ak.mk (oK _ _)<|bA.of id hn (hnx.2 ⟨Sg hj.1 (aat hm),h2⟩) rfl<|dv ⟨⟨BB.aO hblk (oC _),rfl⟩,trivial⟩
  ·have hfin:kh s s.pool.places f0=some (im f0 s.pool.places):=by
    have:=hj.2;rw[abZ,aaM]at this;exact this
   have hpe:=Vi s hKi h0 hfin;generalize hL3:im f0 (s.pool.places.take s.pool.places.length)=f at hj;rw[aaM]at hL3;rw[hL3]at hpe;rw[bR (show(fun q=>im f0 (s.pool.places.take q)) s.pool.places.length=f by dsimp only;rw[aaM];exact hL3)];refine SV.mk fun{S a cx} hG hM hm=>?_
   obtain⟨v3,ht3,B,k3,hB,rfl⟩:=hm.env 3 (.fy 2) rfl;have hb:fh S cx 2 (MB (K,f)):=hm.sat.cD 2 _ rfl;have hsz:a.tmps.size=74:=hm.size;have hdf:=hm.defers;obtain⟨m0,hs0⟩:∃m0,Sat S (ge m0) (fun _=>none) cx:=⟨_,(JS (s2:=⟨fun _=>none,fun _=>none⟩) hm (fun _ _ e=>by cases e) (fun _ _ e=>by cases e)).sat⟩;clear hm;rcases hb with⟨B',es,cl,h1,h2,h3,h4,h5,h6,h7,h8⟩
   rw[hB]at h1;cases h1;have hwB:cx.w.heap[B]? = some (.map es cl):=h3;have h4k:es.toList.map (·.key)=K.map uV:=h4;have hev3:a.eval (.tmp 3)=.map (some B):=by
    show a.tmps.getD 3 undef=_
    rw[abA,ht3];rfl
   have hrN:S.w0.heap.size≤cx.w.heap.size:=hs0.keeps.size;refine(wpIn_wide (n:=1)).1<|wpIn_seq (wpIn_seq (o8 (ro:=none) (GM cx.w rfl rfl ?_)));refine I9 cx.w rfl _ 219 _ _ rfl Tryz.underlying219 B es cl ?_ hwB h8 ?_
   ·rw[eval_put (by rw[hsz];decide)];exact hev3
   intro hit0;have hvals:es.toList.map (·.val)=K.map fun k=>.int .i64 (f k):=by
    have key:∀(l:List UInt64) (vs:List Value),aC (l.map fun k=>i64 (f k)) cx vs→vs=l.map fun k=>.int .i64 (f k):=fun l=>by
     induction l with
     |nil=>exact fun vs h=>h
     |cons k l ih=>
      rintro vs ⟨v,vs',rfl,⟨rfl,_⟩,h⟩;rw[ih vs' h];rfl
    exact key K _ h5
   have hval:∀e∈es.toList,∃k∈K,e.val=.int .i64 (f k):=fun e he=>by
    have:e.val∈K.map fun k=>.int .i64 (f k):=hvals▸abC he
    obtain⟨k,hk,e2⟩:=abc.1 this;exact⟨k,hk,e2.symm⟩
   have fin:∀(b:Bool) (a':Act) (w':World),s.ko=b→Sat S (ge m0) (fun _=>none) ⟨w',cx.Z,cx.hb⟩→a'.tmps.size=74→a'.defers=S.D→a'.tmps[2]? = some (.bool b)→∃ex m s' c',Exit.ret=Ex.to ex∧c'.w=w'∧tD tt Tryz.f56 (fun x=>x=bo s.ko) ex m s'∧c_ S 74 (ge m) s' a' c':=fun b a' w' hb hsat h1 h2 h3=>by
    refine⟨.ret,m0,⟨fun t=>match Nat.beq t 2 with|true=>some (bo b)|false=>none,fun _=>none⟩,⟨w',cx.Z,cx.hb⟩,rfl,rfl,?_,hsat,h1,fun t p e=>?_,h2⟩
    ·rw[hb];exact ab
    ·dsimp only at e;cases ht:Nat.beq t 2 with
     |false=>rw[ht]at e;cases e
     |true=>
      rw[ht]at e;cases e;rw[aaE ht];exact⟨_,h3,rfl,rfl⟩
   have hsatg:∀{w1 w':World} {row:Option Nat},Sat S (ge m0) (fun _=>none) ⟨w1,cx.Z,cx.hb⟩→w1.grownBy w' row→(∀r,row=some r→cx.w.heap.size≤r∧∃o:Obj,w1.heap[r]? = some o∧o.isCells=false)→Sat S (ge m0) (fun _=>none) ⟨w',cx.Z,cx.hb⟩:=fun{w1 w' row} h hg hr=>by
    refine Hb (c:=⟨w1,cx.Z,cx.hb⟩) h (fun j b hj=>by cases hj) (fun b o z e=>?_) hg fun r e=>⟨aaJ hrN (hr r e).1,(hr r e).2⟩
    have h1:=hs0.dG b o z;have h2:=(hr b e.symm).1;omega
   show Code.wpIn Fence.wide 1 _ (Code.block 4 _) _ _ _
   refine wpIn_block (wpIn_loop (fun a' w'=>∃done,Iter w' cx.w.heap.size B es cl done∧(∀e∈done,e.val=.int .i64 0)∧Sat S (ge m0) (fun _=>none) ⟨w',cx.Z,cx.hb⟩∧a'.tmps.size=74∧a'.defers=S.D∧a'.eval (.tmp 67)=.pointer (some ⟨cx.w.heap.size,0,none⟩)) (fun _ w'=>w'.rangeLeft B cx.w.heap.size) ⟨[],hit0,fun _ h=>(aaH h).elim,hsatg (w1:=cx.w) hs0 (World.grownBy_alloc cx.w _ none) (fun _ e=>by cases e),?_,hdf,?_⟩ ?_)
   ·simp[Act.put,hsz]
   ·exact(eval_put (by simp[Act.put,hsz])).trans rfl
   rintro a2 w2 ⟨done,hit,hz,hsat,hsz2,hdf2,hev⟩;refine wpIn_seq (o8 (ro:=none) (LM w2 rfl _ rfl hev hit (fun hd=>?_) (fun e w3 he hit3 hg3 hlt hen=>?_)))
   ·refine Bh w2 rfl rfl (vs:=#[.bool false]) ((eval_put (by rw[hsz2];decide)).trans rfl) rfl ?_;show Code.wpIn Fence.wide 1 _ (Code.seq _ _) _ _ _
    refine wpIn_seq (wpIn_cond (t:=false) ((eval_put (by simp[Act.put,hsz2])).trans rfl) (wpIn_exit ?_));show Code.wpIn Fence.wide 1 _ (Code.seq _ Code.ret) _ _ _
    refine wpIn_seq (o8 (ro:=none) (xm _ rfl rfl ?_));refine wpIn_ret (fin true _ _ ?_ hsat ?_ hdf2 ?_)
    ·rw[hpe];refine abn.2 fun k hk=>aaB ?_
     have:(.int .i64 (f k))∈es.toList.map (·.val):=by rw[hvals];exact abC (f:=fun k=>Value.int .i64 (f k)) hk
     obtain⟨e,he,e2⟩:=abc.1 this;have:=hz e (hd.mem_iff.2 he);rw[e2]at this;exact(Value.int.inj this).2
    ·simp[Act.put,hsz2]
    ·simp[Act.put,Act.eval,hsz2]
   ·obtain⟨k,hk,hek⟩:=hval e he;have hsat3:Sat S (ge m0) (fun _=>none) ⟨w3,cx.Z,cx.hb⟩:=by
     refine hsatg (w1:=w2) (w':=w3) hsat hg3 fun r er=>?_
     obtain rfl:=abl er;exact⟨aas _,_,hit.it,rfl⟩
    refine Bh w3 rfl rfl (vs:=#[.bool true,e.key,e.val]) ((eval_put (by rw[hsz2];decide)).trans rfl) rfl ?_;show Code.wpIn Fence.wide 1 _ (Code.seq _ _) _ _ _
    refine wpIn_seq (wpIn_cond (t:=true) ((eval_put (by simp[Act.put,hsz2])).trans rfl) (wpIn_skip ?_));show Code.wpIn Fence.wide 1 _ (Code.block 5 _) _ _ _
    refine wpIn_block (wpIn_seq (o8 (ro:=none) (ZU w3 rfl rfl (p:=.pointer (some ⟨cx.w.heap.size,0,none⟩)) ?_ hen (Bh w3 rfl rfl (vs:=#[e.key,e.val]) ((eval_put (by simp[Act.put,hsz2])).trans rfl) rfl (xm w3 rfl rfl ?_)))))
    ·exact((eval_put (by simp[Act.put,hsz2])).trans rfl).trans (((eval_put (by simp[hsz2])).trans rfl).trans hev)
    show Code.wpIn Fence.wide 1 _ (Code.seq _ _) _ _ _
    refine wpIn_seq (o8 (ro:=none) (GM w3 rfl rfl (WJ w3 rfl rfl Tryz.underlying3 (i:=f k) (j:=0) ?_ rfl ?_)))
    ·simp[Act.put,Act.eval,hsz2,hek]
    show Code.wpIn Fence.wide 1 _ (Code.cond _ _ _) _ _ _
    refine wpIn_cond (t:=!decide (f k=0)) ((eval_put (by simp[Act.put,hsz2])).trans rfl) ?_;by_cases h0k:f k=0
    ·rw[aaB h0k];refine wpIn_skip<|⟨⟨done++[e],hit3,?_,hsat3,?_,?_,?_⟩,?_⟩
     ·intro x hx;rcases aaN.1 hx with hx|hx
      ·exact hz x hx
      ·rw[aaD.1 hx,hek,h0k]
     ·simp[Act.put,hsz2]
     ·simpa[Act.put]using hdf2
     ·simpa[Act.put,Act.eval,hsz2]using hev
     ·rw[hit3.left_eq,hit.left_eq];exact hlt
    ·rw[aar h0k];refine wpIn_seq (o8 (ro:=none) (xm w3 rfl rfl ?_));refine wpIn_ret (fin false _ _ ?_ hsat3 ?_ ?_ ?_)
     ·rw[hpe];exact Bool.eq_false_iff.2 fun h=>h0k (aat (abn.1 h k hk))
     ·simp[Act.put,hsz2]
     ·simpa[Act.put]using hdf2
     ·simp[Act.put,Act.eval,hsz2]
theorem Fp{α:Type}{f:α→PV}{k:Nat}(h:Lay f k)(l m:List α)(hl:l.length+m.length≤67108864):mj (l.map f) (m.map f) k∧l.length=(l.map f).length:=
 ⟨⟨by rw[aao,aao];exact hl,(h.rows l).k,h.rows m⟩,(aao ..).symm⟩
theorem vq(i:Nat)(o:aw)(h:cQ (pick cq i)=true)(hr:o.right=true)(ho:Small o):PC 19 [st (pick cq i),o.pv] (·=bX (JE.dA (pick cq i) o).bF):=by rw[← x8 h hr];exact SE i o ho
theorem FC:∀l:List BA,eQ seq l l=true
 | []=>rfl
 |x::l=>by
  unfold eQ
  rw[FC l,jJ.2 rfl]
theorem ZG:(iW sB (gz [] dB).2).length≤1000000:=aaG (by kernel_rfl)
theorem LD:∀a b:List PV,PV.sub (a++b) 0 a.length=a
 | [],b=>by cases b<;>rfl
 |x::a,b=>by show x::PV.sub (a++b) 0 a.length=_;rw[LD a b]
theorem Ob:PC 6 [] (·=bo true):=by
 have h1:=vq 0 (jR aX) oZ (by kernel_rfl) Cu;have h2:=vq 0 (jR aY) oZ (by kernel_rfl) CC;have h3:=vq 0 sx oZ (by kernel_rfl) LQ;have h4:=vq 1 ui xE (by kernel_rfl) Hg;have hSl:=JY;have hLl:=uT;rw[← hSl]at hLl;rw[show sA=pick cq 0 from rfl]at hSl;rw[show sA=pick cq 0 from rfl,show sB=pick cq 1 from rfl]at hLl;generalize(JE.dA (pick cq 0) (jR aX)).bF=r1 at h1 hSl;generalize(JE.dA (pick cq 0) (jR aY)).bF=r2 at h2 hSl;generalize(JE.dA (pick cq 0) sx).bF=r3 at h3 hLl;generalize(JE.dA (pick cq 1) ui).bF=r4 at h4 hLl;obtain⟨c,l,ta,tb,x24,x25,hv⟩:=Pz;obtain⟨t24,⟨e24,i24,n24,s24,v24,u24,B1,nt24⟩⟩:=x24;obtain⟨t25,⟨e25,i25,n25,s25,v25,u25,FY,nt25⟩⟩:=x25;obtain rfl:s24=2:=hv.Vp;obtain rfl:B1=[⟨#[110,50]⟩]:=hv.B1;obtain rfl:nt25=[]:=hv.FY;have hsf:=sr ta.s 1 (by have:=hv.sz.aj;omega);have hjr:=hv.runs;rcases hJ:bK ta.s.aj 1 with⟨⟨ji,jx,jr,jl⟩,jk⟩
 rw[hJ]at hjr hsf;obtain rfl:jr=false:=hjr;have hsr:=TE ta.s hv.sz (YX ta.s hv.sz hv.i7);rw[show wX ta.s ta.s.ko=true from hv.right]at hsr;have htx:=U1 (iW sB (gz [] dB).2) (iW sB (gz [] dB).2) ZG;rw[FC]at htx;have hrun:=hv.run;have hsee:=P2;have hown:=aai;have hsee2:=Qc;have hlS:(dB.map JE.bF).length=24:=by rw[aao,A7]
 rw[hLl]at hrun;generalize hS0:dB.map JE.bF=S0 at hsee hown hSl hLl hrun hlS;obtain⟨L0,hL0⟩:∃L0,L0=opened 20000:=⟨_,rfl⟩;have hl0:L0.length=21:=by rw[hL0];rfl
 rw[← hL0]at hSl;refine KH Tryz.func6 rfl rfl (aaF _)<|SV.seq bH bU<|SV.seq bH bU<|a_.bB [] (n:=200) (GO 20000 _) rfl trivial ?_;rw[← hL0];refine SV.seq bH bU<|SV.seq bH bU<|SV.seq bH bU<|SV.seq bH bU<|ay h1 rfl<|ay h2 rfl<|db.l (ak.mk ⟨(Fp eG L0 [r1,r2,fM] (by show L0.length+3≤67108864;omega)).1,by rw[aao,hl0]⟩ ?_);refine ar ?_;have hm0:L0.map bX++[bX r1,bX r2,bX fM]=S0.map bX:=by rw[hSl,aaC];rfl
 have hok:mj (L0.map bX++[bX r1,bX r2,bX fM]) [bX r3,bX r4] 24:=by rw[hm0];exact(Fp eG S0 [r3,r4] (by show S0.length+2≤67108864;omega)).1
 have hm1:(L0.map bX++[bX r1,bX r2,bX fM])++[bX r3,bX r4]=(S0++[r3,r4]).map bX:=by rw[hm0,aaC];rfl
 refine SV.cut (ι:=List aU×Bool) ⟨fun _=>[(4,sl aJ.pv c),(5,.sl false (l.map fun r=>sl cw.pv r)),(1,.aH 21 0 24)],[2],fun i=>[(21,.rows 24 ((S0++i.1).map bX) i.2 none 40)],[5]⟩ (fun i=>i.1.length≤2) (SV.of bH bU ?_) ?_
 ·refine af h3 rfl<|af h4 rfl<|db.r (ak.mk ⟨hok,by show 21+3=(L0.map bX++[bX r1,bX r2,bX fM]).length;rw[hm0,aao,hlS],(show L0.map bX++[bX r1,bX r2,bX fM]≠[]by simp),fun h=>by cases h⟩ ⟨fun n _=>?_⟩);cases n with
  |zero=>
   refine a_.by (n:=(S0++[r3,r4]).length+100) hrun (aN (cT (l:=S0++[r3,r4]) (f:=bX) rfl hm1 eG.br ?_ rfl) rfl) ?_
   ·rw[aap,hlS];rfl
   ·exact⟨([r3,r4],false),id,aas 2,⟨⟨rfl,rfl⟩,⟨rfl,rfl⟩,⟨rfl,rfl⟩,trivial⟩,⟨⟨_,rfl,rfl,rfl⟩,trivial⟩,⟨⟨BB.aO (congrArg (fun rs=>some (aA.rows 24 rs false none 40)) hm1) (eG.bP _),rfl⟩,trivial⟩,⟨⟨_,rfl,BB.rn rfl rfl,rfl⟩,trivial⟩,rfl,rfl,rfl⟩
  |succ n=>
   refine a_.by (n:=(S0++[r3,r4]).length+100) hrun (aN (cT (l:=S0++[r3,r4]) (f:=bX) rfl hm1 eG.br ?_ rfl) rfl) ?_
   ·rw[aap,hlS];rfl
   ·exact⟨([],true),id,by decide,⟨⟨rfl,rfl⟩,⟨rfl,rfl⟩,⟨rfl,rfl⟩,trivial⟩,⟨⟨_,rfl,rfl,rfl⟩,trivial⟩,⟨⟨BB.aO (congrArg (fun rs=>some (aA.rows 24 rs true none 40)) (by rw[abe];exact hm0)) (eG.bP _),rfl⟩,trivial⟩,⟨⟨_,rfl,BB.rn rfl rfl,rfl⟩,trivial⟩,rfl,rfl,rfl⟩
 ·rintro⟨e,ow⟩ he;refine SV.seq bH bU<|af (wR c sA (by have:=hv.cl;omega)) rfl ?_;rw[hv.fa];refine SV.seq bH bU<|af (wR c sB (by have:=hv.cl;omega)) rfl ?_;rw[hv.fb];refine SV.seq bH bU<|ae.two (fun h=>?_) (fun h=>absurd h (by rw[aao,hv.len];decide));refine bx (i:=24) hv.tY<|ae.is true rfl<|bx (i:=25) hv.nM<|ae.is true rfl<|aa<|SV.seq bH bU<|af hsf rfl<|SV.seq bH bU<|bx (i:=24) hv.tY<|bx (i:=0) rfl<|ae.is true rfl<|bx (i:=24) hv.tY<|bx (i:=0) rfl<|ae.is true rfl ?_;refine bx (i:=24) hv.tY<|bx (i:=0) rfl<|bx (i:=0) rfl<|ae.is true rfl<|bx (i:=25) hv.nM<|bx (i:=0) rfl<|ae.is true rfl<|ae.two (fun h=>?_) (fun h=>absurd h (by rw[hv.rb];decide));refine ae.two (fun h=>?_) (fun h=>absurd h (by rw[hv.jb];decide));refine ay hsr rfl ?_;have hsub:PV.sub ((S0++e).map bX) 0 24=S0.map bX:=by
   have:=LD (S0.map bX) (e.map bX);rw[← aaC,aao,hlS]at this;exact this
  have hle:0+24≤((S0++e).map bX).length:=by rw[aao,aap,hlS];omega
  refine dy.by (n:=S0.length+100) hsee (aN (nZ (l:=S0) (f:=bX) rfl hsub (by omega) eG.br rfl) rfl)<|dy.by (n:=S0.length+100) hown (aN (nZ (l:=S0) (f:=bX) rfl hsub (by omega) eG.br rfl) rfl)<|ay hsee2 rfl<|ay htx rfl<|ae.two (fun h=>?_) (fun h=>absurd h (by rw[hv.ra];decide));refine ae.two (fun h=>?_) (fun h=>absurd h (by rw[hv.pa];decide));exact bx (i:=0) (by rw[hv.pa];rfl)<|ae.is true rfl<|ar<|SV.of bH bU<|ab
theorem Uv(l:List bf)(hl:l.length≤9223372036854775807):PC 5 [sl bf.pv l] (·=bo true):=VK l hl Ob
end
section
open Go.ChangeShapes Go.WideShapes Go.ChangeAt Go.RowKit Go.Deep
theorem Ym:Tryz.prog.underlying 44=some (.struct (Tryz.prog.fieldsOf 44)):=by kernel_rfl
theorem tV:(Tryz.prog.fieldsOf 44).toList.map (fun f=>(f.type,f.offset))=[(42,0),(5,5),(5,6),(5,7)]:=by kernel_rfl
theorem DX:Tryz.prog.cellsOf 44=8:=by kernel_rfl
theorem R1:Tryz.prog.underlying 42=some (.struct (Tryz.prog.fieldsOf 42)):=by kernel_rfl
theorem rp:(Tryz.prog.fieldsOf 42).toList.map (fun f=>(f.type,f.offset))=[(5,0),(5,1),(5,2),(5,3),(5,4)]:=by kernel_rfl
theorem Jn:Tryz.prog.cellsOf 42=5:=by kernel_rfl
theorem pC:Tryz.prog.cellsOf 5=1:=by kernel_rfl
theorem fieldAt{fs:Array Field}{l:List (Nat×Nat)}(hl:fs.toList.map (fun f=>(f.type,f.offset))=l)(j:Nat)(t o:Nat)(h:l[j]? = some (t,o)):∃f,fs[j]? = some f∧f.type=t∧f.offset=o:=by
 rw[← hl,aaT]at h;cases hf:fs.toList[j]? with
 |none=>rw[hf]at h;cases h
 |some f=>
  rw[hf]at h;simp only[ach,adI,Prod.mk.injEq]at h;exact⟨f,by simpa using hf,h.1,h.2⟩
section
variable {H:Type}{enc:TypeId×Value→H}{w:World}{base:Nat}{spare:Nat→Bool}{held:Bool}
theorem pj{n:Nat}{c:Value}{x:DataW H×List MemPlace}(h:DataW.trod enc Tryz.prog w base spare held n 5 [c]=some x):∃b:UInt8,c=.int .u8 (b.toNat:Int):=by
 obtain⟨k,hk,rfl,wk⟩:=DataW.trod_int (k:=.u8) (by kernel_rfl) h;cases hk;simp only[Lit.wf,abm,adH]at wk;have h1:(0:Int)≤k:=wk.1;have h2:k≤255:=wk.2;refine⟨UInt8.ofNat k.toNat,?_⟩;have:(UInt8.ofNat k.toNat).toNat=k.toNat:=by
  rw[UInt8.toNat_ofNat'];omega
 rw[this];congr 1;omega
theorem Yd{n:Nat}{cs:List Value}{x:DataW H×List MemPlace}(h:DataW.trod enc Tryz.prog w base spare held n 42 cs=some x):
 ∃a b c d e:UInt8,cs=[.int .u8 (a.toNat:Int),.int .u8 (b.toNat:Int),.int .u8 (c.toNat:Int),.int .u8 (d.toNat:Int),.int .u8 (e.toNat:Int)]:=by
 obtain⟨xs,n',_,hx,hlen,hxl,hg⟩:=DataW.trod_struct R1 h
 rw[Jn]at hlen
 have hsz:(Tryz.prog.fieldsOf 42).size=5:=by
  have:=congrArg List.length rp
  simpa using this
 rw[hsz]at hxl
 match cs,hlen,xs,hxl with
 | [c0,c1,c2,c3,c4],_,[y0,y1,y2,y3,y4],_=>
  obtain⟨f0,e0,t0,o0⟩:=fieldAt rp 0 _ _ rfl
  obtain⟨f1,e1,t1,o1⟩:=fieldAt rp 1 _ _ rfl
  obtain⟨f2,e2,t2,o2⟩:=fieldAt rp 2 _ _ rfl
  obtain⟨f3,e3,t3,o3⟩:=fieldAt rp 3 _ _ rfl
  obtain⟨f4,e4,t4,o4⟩:=fieldAt rp 4 _ _ rfl
  have g0:=hg 0 f0 e0
  have g1:=hg 1 f1 e1
  have g2:=hg 2 f2 e2
  have g3:=hg 3 f3 e3
  have g4:=hg 4 f4 e4
  rw[t0,o0,pC]at g0
  rw[t1,o1,pC]at g1
  rw[t2,o2,pC]at g2
  rw[t3,o3,pC]at g3
  rw[t4,o4,pC]at g4
  simp at g0 g1 g2 g3 g4
  obtain⟨a,rfl⟩:=pj g0
  obtain⟨b,rfl⟩:=pj g1
  obtain⟨c,rfl⟩:=pj g2
  obtain⟨d,rfl⟩:=pj g3
  obtain⟨e,rfl⟩:=pj g4
  exact⟨a,b,c,d,e,rfl⟩
instance:Inhabited bf:=⟨⟨0,0,0,0,0,0,0,0⟩⟩
def bf.val(x:bf):List Value:=[.int .u8 (x.k.toNat:Int),.int .u8 (x.a.toNat:Int),.int .u8 (x.b.toNat:Int),.int .u8 (x.c.toNat:Int),.int .u8 (x.d.toNat:Int),.int .u8 (x.kind.toNat:Int),.int .u8 (x.t.toNat:Int),.int .u8 (x.n.toNat:Int)]
theorem My{n:Nat}{cs:List Value}{x:DataW H×List MemPlace}(h:DataW.trod enc Tryz.prog w base spare held n 44 cs=some x):∃y:bf,cs=y.val:=by
 obtain⟨xs,n',_,hx,hlen,hxl,hg⟩:=DataW.trod_struct Ym h;rw[DX]at hlen;have hsz:(Tryz.prog.fieldsOf 44).size=4:=by
  have:=congrArg List.length tV;simpa using this
 rw[hsz]at hxl;match cs,hlen,xs,hxl with
 | [c0,c1,c2,c3,c4,c5,c6,c7],_,[y0,y1,y2,y3],_=>
  obtain⟨f0,e0,t0,o0⟩:=fieldAt tV 0 _ _ rfl;obtain⟨f1,e1,t1,o1⟩:=fieldAt tV 1 _ _ rfl;obtain⟨f2,e2,t2,o2⟩:=fieldAt tV 2 _ _ rfl;obtain⟨f3,e3,t3,o3⟩:=fieldAt tV 3 _ _ rfl;have g0:=hg 0 f0 e0;have g1:=hg 1 f1 e1;have g2:=hg 2 f2 e2;have g3:=hg 3 f3 e3;rw[t0,o0,Jn]at g0;rw[t1,o1,pC]at g1;rw[t2,o2,pC]at g2;rw[t3,o3,pC]at g3;simp at g0 g1 g2 g3;obtain⟨a,b,c,d,e,he⟩:=Yd g0;obtain⟨f,rfl⟩:=pj g1;obtain⟨g,rfl⟩:=pj g2;obtain⟨k,rfl⟩:=pj g3;simp only[List.cons.injEq,and_true]at he;obtain⟨rfl,rfl,rfl,rfl,rfl⟩:=he;exact⟨⟨a,b,c,d,e,f,g,k⟩,rfl⟩
theorem EZ(c:RC):∀l:List bf,aC (l.map bf.pv) c (l.map fun x=>.agg x.val.toArray)
 | []=>rfl
 |x::l=>⟨_,_,rfl,⟨_,rfl,_,_,rfl,⟨rfl,rfl⟩,_,_,rfl,⟨rfl,rfl⟩,_,_,rfl,⟨rfl,rfl⟩,_,_,rfl,⟨rfl,rfl⟩,_,_,rfl,⟨rfl,rfl⟩,_,_,rfl,⟨rfl,rfl⟩,_,_,rfl,⟨rfl,rfl⟩,_,_,rfl,⟨rfl,rfl⟩,rfl⟩,EZ c l⟩
theorem NJ{n:Nat}{v:Value}{x:DataW H×List MemPlace}(h:DataW.trod enc Tryz.prog w base spare held n 23 [v]=some x):
 ∃l:List bf,l.length≤maxLen∧Rel (sl bf.pv l) ⟨w,fun b _=>b<w.heap.size,fun _=>none⟩ v:=by
 rcases open_slice Tryz.underlying23 h with⟨hcs,hx⟩|⟨a,len,cap,m,n',D,Pl,hcs,_,hl,hm,hmm,hx,hi⟩
 ·cases hcs
  exact⟨[],aaF _,[],rfl,none,0,rfl,aas _,fun _=>rfl,.inl rfl⟩
 ·cases hcs
  have hmc:len≤m:=by rw[hmm];split<;>omega
  have key:∀i,i<len→∃y:bf,∀q,q<8→w.cell? ((a.add (i*8)).add q)=y.val[q]?:=by
   intro i hin
   obtain⟨cs',hc,ht⟩:=hi i (by omega)
   rw[DX]at hc
   obtain⟨_,hcl,hat⟩:=World.cells?_some hc
   obtain⟨y,rfl⟩:=My ht
   refine⟨y,fun q hq=>?_⟩
   have:=hat q (by omega)
   rw[this,aay (by rw[hcl];exact hq)]
  obtain⟨A,hA⟩:=choose_lt key
  have hll:((List.range len).map A).length=len:=by simp
  refine⟨(List.range len).map A,by rw[hll];omega,_,EZ _ _,some a,cap,by rw[aao,hll],by rw[aao,hll];exact hl,fun e=>(by cases e),?_⟩
  by_cases h0:len=0
  ·subst h0;exact .inl rfl
  ·obtain⟨b,off,spot⟩:=a
   have hc0:=hA 0 (by omega) 0 (by decide)
   have hspot:spot=none:=by simpa[Addr.add]using World.cell?_spot (show _=some _ from hc0)
   subst hspot
   have e:∀i,(⟨b,off,none⟩:Addr).add i=⟨b,off+i,none⟩:=fun i=>by unfold Addr.add;split<;>simp_all
   have hlt:b<w.heap.size:=by
    rw[Go.Deep.add_add,e]at hc0
    exact qp (a:=⟨b,off+(0*8+0),none⟩) (show _=some _ from hc0)
   have hk:∀x∈(List.map A (List.range len)).map (fun x:bf=>Value.agg x.val.toArray),x.cells.size=8:=fun x hx=>by
    obtain⟨y,_,rfl⟩:=abc.1 hx;rfl
   refine .inr ⟨b,off,8,rfl,hk,fun i y hy=>⟨hlt,?_⟩⟩
   have hfl:=f_ hk
   rw[aao,hll]at hfl
   have hil:=(aaq.1 hy).1
   rw[hfl]at hil
   have hq:i / 8<len:=by omega
   have hr:i%8<8:=acM _ (by decide)
   have hg:((List.map A (List.range len)).map fun x:bf=>Value.agg x.val.toArray)[i / 8]? = some (.agg (A (i / 8)).val.toArray):=by
    rw[aaT,aaT,List.getElem?_range hq];rfl
   have hf:=wa hk hg (i%8) hr
   rw[show i / 8*8+i%8=i by omega,hy]at hf
   have:=hA (i / 8) hq (i%8) hr
   rw[Go.Deep.add_add,e,show off+(i / 8*8+i%8)=off+i by omega]at this
   rw[this]
   exact hf.symm
end
theorem wC{P:Program}{W:World}{name:String}{k:IntKind}{zs:List Int}{g:Nat}{t e:TypeId}{n:Nat}
 (hg:P.globalNamed name=some g) (hty:(P.globals[g]?).map (·.type)=some t) (ht:P.underlying t=some (.array n e)) (he:P.underlying e=some (.int k)) (hce:P.cellsOf e=1) (hct:P.cellsOf t=n)
 (h:Lib.VarReads P W name (Lib.tabData k zs)) (i:Nat) (v:Value) (hi:(zs.map (Value.int k))[i]? = some v):W.cell? ⟨g,i,none⟩=some v:=by
 obtain⟨g',t',cs,fuel,p,hg',ht',hvar,hd⟩:=h
 obtain rfl:=abl (hg.symm.trans hg')
 obtain rfl:=abl (hty.symm.trans ht')
 have hcs:=Lib.cells_of_tab ht he hce hct hd
 rw[World.var?_cell hg hvar i,← aaU,hcs]
 exact hi
theorem Px:Tryz.prog.underlying 243=some (.struct (Tryz.prog.fieldsOf 243)):=by kernel_rfl
theorem zG:(Tryz.prog.fieldsOf 243).toList.map (fun f=>(f.type,f.offset))=[(21,0),(21,1)]:=by kernel_rfl
theorem JX:Tryz.prog.cellsOf 243=2:=by kernel_rfl
section
variable {H:Type}{enc:TypeId×Value→H}{w:World}{base:Nat}{spare:Nat→Bool}{held:Bool}
theorem aab{n:Nat}{cs:List Value}{x:DataW H×List MemPlace}(h:DataW.trod enc Tryz.prog w base spare held n 243 cs=some x):
 ∃(a b:Int),cs=[.int .i32 a,.int .i32 b]∧x.1=.agg [.lit (.int .i32 a),.lit (.int .i32 b)]:=by
 obtain⟨xs,n',_,hx,hlen,hxl,hg⟩:=DataW.trod_struct Px h
 rw[JX]at hlen
 have hsz:(Tryz.prog.fieldsOf 243).size=2:=by
  have:=congrArg List.length zG
  simpa using this
 rw[hsz]at hxl
 match cs,hlen,xs,hxl with
 | [c0,c1],_,[y0,y1],_=>
  obtain⟨f0,e0,t0,o0⟩:=fieldAt zG 0 _ _ rfl
  obtain⟨f1,e1,t1,o1⟩:=fieldAt zG 1 _ _ rfl
  have g0:=hg 0 f0 e0
  have g1:=hg 1 f1 e1
  rw[t0,o0,show Tryz.prog.cellsOf 21=1 from by kernel_rfl]at g0
  rw[t1,o1,show Tryz.prog.cellsOf 21=1 from by kernel_rfl]at g1
  simp at g0 g1
  obtain⟨k,hk,rfl,wk⟩:=DataW.trod_int (k:=.i32) (by kernel_rfl) g0
  obtain⟨m,hm,rfl,wm⟩:=DataW.trod_int (k:=.i32) (by kernel_rfl) g1
  cases hk;cases hm
  exact⟨k,m,rfl,by rw[hx];rfl⟩
def Me{H:Type}(l:List eL):DataW H:=.agg (l.map fun x=>.agg [.lit (.int .i32 x.lo),.lit (.int .i32 x.hi)])
theorem Gk{W:World}{name:String}{l:List eL}{g n:Nat}{t:TypeId}(hg:Tryz.prog.globalNamed name=some g)(hty:(Tryz.prog.globals[g]?).map (·.type)=some t)(ht:Tryz.prog.underlying t=some (.array n 243))(hl:l.length=n)
 (h:Lib.VarReads Tryz.prog W name (Me l)):mO W g l:=by
 obtain⟨g',t',cs,fuel,p,hg',ht',hvar,hd⟩:=h
 obtain rfl:=abl (hg.symm.trans hg')
 obtain rfl:=abl (hty.symm.trans ht')
 obtain⟨xs,m,_,hx,_,hxl,hxi⟩:=DataW.trod_array ht hd
 intro j hj
 have hj':j<n:=by omega
 have hi:=hxi j hj'
 rw[JX,aay (by omega)]at hi
 obtain⟨a,b,hc,hd1⟩:=aab hi
 have hmap:=(acC hx).1
 unfold Me at hmap
 injection hmap with hmap
 have hj2:=congrArg (fun z=>z[j]?) hmap
 simp only[aaT,aay hj,aay (show j<xs.length by omega),ach,adI]at hj2
 rw[hd1]at hj2
 simp at hj2
 have c0:=World.var?_cell hg hvar (j*2)
 have c1:=World.var?_cell hg hvar (j*2+1)
 have k0:=congrArg (fun z=>z[0]?) hc
 have k1:=congrArg (fun z=>z[1]?) hc
 simp[abH]at k0 k1
 rw[c0,c1,k0,k1,hj2.1,hj2.2]
 exact⟨rfl,rfl⟩
end
theorem Sa:Tryz.prog.globalNamed "demesne/sha.start"=some 4:=by kernel_rfl
theorem Qy:Tryz.prog.globalNamed "demesne/sha.rounds"=some 5:=by kernel_rfl
theorem Xz:Tryz.prog.globalNamed "demesne/word.letters"=some 2:=by kernel_rfl
theorem MY:Tryz.prog.globalNamed "demesne/word.marks"=some 3:=by kernel_rfl
theorem WW:Tryz.prog.globalNamed "demesne/gate.rights"=some 1:=by kernel_rfl
theorem SH:Tryz.prog.globalNamed "demesne/view.single"=some 0:=by kernel_rfl
theorem GR{W:World}{g:Nat}:∀(l:List eL) (k:Nat),(∀j (h:j<l.length),W.cell? ⟨g,k+j*2,none⟩=some (.int .i32 l[j].lo)∧W.cell? ⟨g,k+j*2+1,none⟩=some (.int .i32 l[j].hi))→∀(i:Nat) (v:Value),(l.flatMap eL.cells)[i]? = some v→W.cell? ⟨g,k+i,none⟩=some v
 | [],_,_,_,_,h=>by cases h
 |x::l,k,h,i,v,hi=>by
  have h0:=h 0 (adN _)
  match i,hi with
  |0,hi=>cases hi;exact h0.1
  |1,hi=>cases hi;exact h0.2
  |i+2,hi=>
   have:=GR l (k+2) (fun j hj=>by
    have:=h (j+1) (ada hj)
    rw[show k+(j+1)*2=k+2+j*2 by omega]at this
    exact this) i v hi
   rw[show k+(i+2)=k+2+i by omega]
   exact this
theorem JR{W:World}{g:Nat}{l:List eL}(h:mO W g l)(i:Nat)(v:Value)(hi:(l.flatMap eL.cells)[i]? = some v):W.cell? ⟨g,i,none⟩=some v:=by
 have:=GR l 0 (fun j hj=>by
  have:=h j hj;rw[aav];exact this) i v hi
 rwa [aav]at this
theorem QC{W:World}(h:W.ShapedOpen Tryz.prog):∃m,W.cell? ⟨6,0,none⟩=some (.int .i64 m):=by
 obtain⟨cs,h1,h2,h3⟩:=h.1 6 #[.int .i64 0] 3 (aat (by kernel_rfl)) (by kernel_rfl);obtain⟨ts,h4,_,h5⟩:=h3 (by kernel_rfl);have h4':Tryz.prog.cellTypes Tryz.prog.depth 3=some [3]:=by kernel_rfl
 obtain rfl:=abl (h4.symm.trans h4');have h2:cs.size=1:=h2;obtain⟨u,hu,hc⟩:=h5 0 cs[0] (adG (by omega));cases hu;obtain⟨n,hn,_⟩:=Value.ok_int (t:=3) (k:=.i64) Tryz.underlying3 (by unfold Value.ok;rw[Tryz.underlying3];exact hc);refine⟨n,?_⟩;simp only[World.cell?,h1];rw[← hn];exact adG (by omega)
def RG:List (String×DataW Unit):=[("unicode/utf8.acceptRanges",Rows.laid_unicode_utf8_acceptRanges),("demesne/sha.start",Rows.laid_demesne_sha_start),("demesne/sha.rounds",Rows.laid_demesne_sha_rounds),("demesne/word.letters",Rows.laid_demesne_word_letters),("demesne/word.marks",Rows.laid_demesne_word_marks),("demesne/gate.rights",Rows.laid_demesne_gate_rights),("demesne/view.single",Rows.laid_demesne_view_single),("unicode/utf8.first",Rows.laid_unicode_utf8_first)]
theorem VB{W:World}(h:laidMet Tryz.prog RG W)(hs:W.ShapedOpen Tryz.prog):fU W:=by
 have r1:=wC Sa (by kernel_rfl:(Tryz.prog.globals[4]?).map (·.type)=some 309) Tryz.underlying309 Tryz.underlying308 (by kernel_rfl) (by kernel_rfl) (k:=.u32) (zs:=[Sh.H0.a,Sh.H0.b,Sh.H0.c,Sh.H0.d,Sh.H0.e,Sh.H0.f,Sh.H0.g,Sh.H0.h].map fun n=>((n:Nat):Int)) (Lib.laidMet.reads h (.tail _ (.head _)));have r2:=wC Qy (by kernel_rfl:(Tryz.prog.globals[5]?).map (·.type)=some 380) Tryz.underlying380 Tryz.underlying308 (by kernel_rfl) (by kernel_rfl) (k:=.u32) (zs:=Sh.K.map fun n=>((n:Nat):Int)) (Lib.laidMet.reads h (.tail _ (.tail _ (.head _))));have r3:=JR (Gk Xz (by kernel_rfl:(Tryz.prog.globals[2]?).map (·.type)=some 244) Tryz.underlying244 (l:=Wd.letters) rfl (Lib.laidMet.reads h (.tail _ (.tail _ (.tail _ (.head _))))));have r4:=JR (Gk MY (by kernel_rfl:(Tryz.prog.globals[3]?).map (·.type)=some 245) Tryz.underlying245 (l:=Wd.marks) rfl (Lib.laidMet.reads h (.tail _ (.tail _ (.tail _ (.tail _ (.head _)))))));have r5:=wC WW (by kernel_rfl:(Tryz.prog.globals[1]?).map (·.type)=some 161) Tryz.underlying161 Tryz.underlying30 (by kernel_rfl) (by kernel_rfl) (k:=.u64) (zs:=vz) (Lib.laidMet.reads h (.tail _ (.tail _ (.tail _ (.tail _ (.tail _ (.head _)))))));have r6:=wC SH (by kernel_rfl:(Tryz.prog.globals[0]?).map (·.type)=some 103) Tryz.underlying103 Tryz.underlying3 (by kernel_rfl) (by kernel_rfl) (k:=.i64) (zs:=[2,6,7,9]) (Lib.laidMet.reads h (.tail _ (.tail _ (.tail _ (.tail _ (.tail _ (.tail _ (.head _))))))));obtain⟨m,hm⟩:=QC hs;have lL:∀x∈gE,∀i v,x.2[i]? = some v→W.cell? ⟨x.1,i,none⟩=some v:=by
  intro x hx i v hi;unfold gE at hx;simp only[aaI,aaH,acQ]at hx;rcases hx with rfl|rfl|rfl|rfl|rfl|rfl
  ·exact r5 i v hi
  ·exact r6 i v hi
  ·exact r3 i v hi
  ·exact r4 i v hi
  ·exact r1 i v (by rw[abX];exact hi)
  ·exact r2 i v (by rw[abX];exact hi)
 refine⟨lL,fun x hx=>?_,⟨m,hm⟩,qp (a:=⟨_,0,none⟩) hm⟩;have h0:∀y∈gE,y.2≠[]:=by
  intro y hy;unfold gE at hy;simp only[aaI,aaH,acQ]at hy;rcases hy with rfl|rfl|rfl|rfl|rfl|rfl<;>exact fun e=>by cases e
 cases e:x.2 with
 |nil=>exact absurd e (h0 x hx)
 |cons v l=>exact qp (a:=⟨x.1,0,none⟩) (lL x hx 0 v (by rw[e];rfl))
end
end Go.Proofs.YtbnonpbnhenkfaaGreatDoor
section
namespace Go.Proofs.YtbnonpbnhenkfaaGreatDoor.topTight
open Go.ChangeShapes Go.WideShapes Go.ChangeAt Go.RowKit
theorem own:ownKnob Tryz.prog.godebug=none:=by kernel_rfl
theorem laidOut:laidOutB Tryz.prog=true:=by kernel_rfl
theorem Xf(H:Type)(enc:TypeId×Value→H)(W:World)(base:Nat)(args:Array Value)(ds gs:List (DataW H))(before:List MemPlace)
 (hval:∀(j:Nat) t v,Tryz.f5.params[j]? = some t→args[j]? = some v→Value.okWide Tryz.prog W .any base t v)
 (hW:DataW.Whole enc Tryz.prog Tryz.f5.params.toList Rows.topTightSpec.vars false W args.toList ds gs before) (hL:laidMetH Tryz.prog Rows.topTightRow.laid W) (hsh:W.ShapedOpen Tryz.prog):
 Calls Tryz.prog 5 args W fun e W'=>∃v,e=.returned v∧Rows.topTightSpec.post enc Tryz.prog Tryz.f5 false true false false W args v W':=by
 have hW':=hW
 obtain⟨p,q,hA0,hV,rfl,hfz,hnd⟩:=hW
 have hA:DataW.TrodAll enc Tryz.prog W 0 (fun _=>true) true Tryz.f5.params.toList args.toList ds p:=hA0
 rw[Tryz.params5]at hA hval
 obtain⟨v0,vs0,d0,ds0,p0,q0,hargs,rfl,rfl,h0,r0⟩:=trodAll_cons hA
 obtain⟨rfl,rfl,rfl⟩:=trodAll_nil r0
 obtain rfl:args=#[v0]:=by cases args;simp_all
 obtain⟨rfl,rfl⟩:=trodVars_none hV
 have k0:=h0
 have lt0:∀x∈p0,x.block<W.heap.size:=by obtain⟨m,hm⟩:=k0;exact DataW.trod_lt m _ _ _ hm
 clear hA0
 have hslice:v0.cells=#[v0]:=by
  have h1:=hval 0 _ v0 rfl rfl
  simp only[Value.okWide,Tryz.underlying23,Cell.okWide,Cell.ok]at h1
  cases v0<;>first|rfl|simp_all
 obtain⟨fuel,hf⟩:=h0
 rw[hslice]at hf
 obtain⟨l,hl,hrel⟩:=NJ hf
 have hT:fU W:=VB hL hsh
 refine((Uv l hl).2 W (fun b _=>b<W.heap.size) [v0] hT (fun _ _ h=>h) ⟨v0,[],rfl,hrel,rfl⟩).mono fun e W' ⟨r,v,he,hr,hv,bel⟩=>?_
 subst he
 subst hr
 obtain⟨rfl,_⟩:=hv
 exact⟨_,rfl,_,_,_,[],_,[],hW',trodAll_mk1 (shut_bool Tryz.underlying4 _),(trodAll_cons_mk (Below.trod laidOut (by kernel_rfl) (aat (by kernel_rfl)) k0 bel lt0) trodAll_mk0),rfl,bel.frame _,fun h=>by cases h⟩
def Ry(l:List Value)(o:Obj):Obj:=match o with
 |.cells _ t frozen=>.cells l.toArray t frozen
 |o=>o
def Dh:List (Nat×List Value)→Array Obj→Array Obj
 | [],h=>h
 |x::l,h=>Dh l (h.modify x.1 (Ry x.2))
def YP:List Int:=[128,191,160,191,128,159,144,191,128,143]++List.replicate 22 0
def Xm:List (Nat×List Value):=[(8,YP.map (Value.int .u8)),(7,Pinned.utf8FirstZ.map fun n=>Value.int .u8 ((n:Nat):Int))]++gE
noncomputable def yb(os:Os):World:=
 {World.holding Tryz.prog os ⟨#[],#[],[]⟩with heap:=Dh Xm (World.holding Tryz.prog os ⟨#[],#[],[]⟩).heap}
theorem aag(os:Os):laidMet Tryz.prog Rows.topTightRow.laid ((yb os).forCall (fun _ _=>0) ⟨#[],#[.slice none 0 0],[]⟩).memory:=
 laidMet_of_run' 8 (by kernel_rfl) (by kernel_rfl)
end Go.Proofs.YtbnonpbnhenkfaaGreatDoor.topTight
end
section
namespace Go.Proofs.YtbnonpbnhenkfaaGreatDoor.topTight
open Go.ChangeShapes Go.WideShapes Go.ChangeAt Go.RowKit
theorem reads(os:Os){H:Type}(enc:TypeId×Value→H):∃places,DataW.whole enc Tryz.prog ((yb os).forCall (fun _ _=>0) ⟨#[],#[.slice none 0 0],[]⟩).memory Tryz.f5.params.toList Rows.topTightSpec.vars false (#[.slice none 0 0]:Array Value).toList 8=some ([.nil],[],places):=
 ⟨[],by kernel_rfl⟩
theorem lifted(os:Os)(started:os.Started)(H:Type)(enc:TypeId×Value→H)(F:Stop.Interp):
 ReturnsInHanded {} Tryz.checked os 5 .any ((OpenSpec.ofChange Rows.topTightSpec).preRow enc Tryz.prog Tryz.f5 Rows.topTightRow.domain false Rows.topTightRow.laid) (((OpenSpec.ofChange Rows.topTightSpec).at F).post enc Tryz.prog Tryz.f5 false true false false):=by
 obtain⟨places,hx⟩:=reads os enc
 refine returnsInHanded_of_row (C:=Tryz.checked) (s:=OpenSpec.ofChange Rows.topTightSpec) own started (by kernel_rfl) Tryz.func5
  (witness_row_at (enc:=enc) (C:=Tryz.checked) false (yb os) #[.slice none 0 0] rfl (by kernel_rfl) (by kernel_rfl) (by kernel_rfl)
    (OpenSpec.preRow_of_cond 8 hx (by kernel_rfl) (fun k hk=>by cases hk) (by kernel_rfl) (aag os))) ?_
 intro W base args ds gs before hval hW _ hcond hsz hL hsh _
 exact Xf H enc W base args ds gs before hval hW hL hsh
theorem aT{a b:Bool}(h1:a=true)(h2:b=true):(a&&b)=true:=by rw[h1,h2];rfl
theorem aL{a b:Bool}(h:(a&&b)=true):a=true:=(abm a b▸h).1
theorem aR{a b:Bool}(h:(a&&b)=true):b=true:=(abm a b▸h).2
theorem closed:joinedFacts Tryz.prog 5 Tryz.f5 Rows.topTightSpec Rows.topTightRow=true:=by
 unfold joinedFacts;exact aT (aT (aT (aT (aT (aT (aT (aT (aT (aT (aT (aT (aT (aT (aT (aT (aT (aT (aT (aT (aT (aT (aT (aT (aT (aT (aT c1 rfl) c2) rfl) c3) c4) c5) c6) c7) d1) d2) d3) d4) e1) (aL (aL (aL e2)))) (aR (aL (aL e2)))) (aR (aL e2))) (aR e2)) d5) d6) e3) e4) e5) e6) rfl) e7) e8) e9
theorem said:Rows.TopTightSaid:=
 OpenClaim.holds_of_cond 5 Tryz.f5 rfl rfl rfl rfl rfl rfl rfl ⟨rfl,rfl,rfl,rfl,rfl⟩ rfl rfl rfl rfl rfl d8 Tryz.func5 closed d9 d10
  (fun os started H enc _ F=>by rw[OpenClaim.pre_eq_preRow];exact lifted os started H enc F)
end Go.Proofs.YtbnonpbnhenkfaaGreatDoor.topTight
end
section
namespace Go.Proofs.YtbnonpbnhenkfaaGreatDoor.topTight
open Go.RowKit
theorem PO{P:Program}(h:P.funcs.any Func.goes=false)(f:FuncId):P.goes f=false:=by
 have h2:∀g:FuncId,((P.funcs[g]?:Option Func)).any Func.goes=false:=by
  intro g;cases e:P.funcs[g]? with
  |none=>rfl
  |some fn=>
   have hm:=Array.mem_of_getElem? e;have:=(Array.any_eq_false.1 h);obtain⟨i,hi,rfl⟩:=Array.mem_iff_getElem.1 hm;simpa using this i hi
 unfold Program.goes;simp[h,h2]
theorem TN{P:Program}{c:OpenClaim}(hs:c.start=.entering)(h:P.funcs.any Func.goes=false):false=c.goesBy P:=by
 unfold OpenClaim.goesBy Program.goesAt Program.goesFrom;rw[hs];cases P.funcNamed c.func with
 |none=>rfl
 |some f=>simp[PO h f]
theorem SF:Tryz.prog.funcs.any Func.goes=false:=by kernel_rfl
theorem Ub:Tryz.pinned.checked.prog.mainIs=some (true,"2b4d5e5277b437985333039ecfee4bec1464b9fcc9c7fa6cfdd9f3068463ccf8".toList):=by kernel_rfl
theorem RD:Rows.topTightRow.wfByText (OpenSpec.ofChange Rows.topTightSpec)=true:=by kernel_rfl
theorem NM:true=Tryz.pinned.checked.prog.looks []:=by kernel_rfl
theorem plain(f:FuncId)(fn:Func)(hf:Tryz.pinned.checked.prog.funcNamed "demesne/demesnetop.TopTight"=some f)(hfn:Tryz.pinned.checked.prog.funcs[f]? = some fn):
 true=Tryz.pinned.checked.prog.looks []∧∀(j:Nat) t,fn.params[j]? = some t→Tryz.pinned.checked.prog.wantsStandIn t=false:=by
 obtain rfl:f=5:=abl ((show Tryz.prog.funcNamed "demesne/demesnetop.TopTight"=some 5 by kernel_rfl).symm.trans hf) |>.symm
 obtain rfl:fn=Tryz.f5:=(abl (Tryz.func5.symm.trans hfn)).symm
 refine⟨NM,fun j t ht=>?_⟩
 rw[Tryz.params5]at ht
 have hm:=Array.mem_of_getElem? ht
 simp at hm
 subst hm
 exact(show Tryz.prog.wantsStandIn 23=false by kernel_rfl)
theorem card:Rows.TopTightCardSaid:=
 Claim7.holds_tied_plain_at .later [] _ _ _ _ said (fun _ h=>by cases h) RD (fun _ h=>by cases h) topTight_row_tie rfl ⟨rfl,rfl⟩ Ub rfl plain (TN rfl SF)
end Go.Proofs.YtbnonpbnhenkfaaGreatDoor.topTight
end
