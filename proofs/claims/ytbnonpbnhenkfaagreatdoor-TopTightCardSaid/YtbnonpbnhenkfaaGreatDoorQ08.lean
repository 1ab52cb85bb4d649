/- Part 8 of the proof; the last part says what is proved. -/
import Derived.Test.YtbnonpbnhenkfaaGreatDoorQ07
import Derived.Recover
set_option linter.all false
set_option maxRecDepth 1000000
set_option maxHeartbeats 8000000
namespace Go.Proofs.YtbnonpbnhenkfaaGreatDoor
section
open Go.RowKit
def QX(o:Oper):Bool:=match o.op with|.defer _=>true|_=>false
def Dr:List Oper→Bool
 | []=>false
 |o::l=>match QX o with|true=>true|false=>Dr l
def yq:Code→Bool
 |.region _ ops _=>Dr ops.toList
 |.seq a b=>match yq a with|true=>true|false=>yq b
 |_=>false
def yk(o:Oper):Option (Operand×List Operand):=match o.op,o.dst,o.guard with
 |.defer ⟨.value f,args,_⟩,none,none=>some (f,args.toList)
 |_,_,_=>none
def sQ:List Oper→Option (List Oper×Operand×List Operand)
 | []=>none
 | [o]=>match yk o with|some c=>some ([],c)|none=>none
 |o::o'::os=>match sQ (o'::os)with|some (l,c)=>some (o::l,c)|none=>none
theorem Ew:∀{l pre:List Oper} {f:Operand} {args:List Operand},sQ l=some (pre,f,args)→∃o,l=pre++[o]∧yk o=some (f,args)
 | [o],pre,f,args,h=>by
  unfold sQ at h
  split at h
  ·rename_i c hc;cases h;exact⟨o,rfl,hc⟩
  ·cases h
 |o::o'::os,pre,f,args,h=>by
  unfold sQ at h
  split at h
  ·rename_i l c hc
   cases h
   obtain⟨x,h1,h2⟩:=Ew hc
   exact⟨x,by rw[h1];rfl,h2⟩
  ·cases h
def tK(m:Nat):List PV→Bool
 | []=>true
 |.lp j _ _::l=>match Nat.ble (j+1) m with|true=>tK m l|false=>false
 |_::_=>false
theorem K9{m:Nat}{c d:RC}(h:∀j,j<m→d.hb j=c.hb j):∀{ps:List PV} {vs:List Value},tK m ps=true→aC ps c vs→aC ps d vs
 | [],_,_,r=>r
 |p::ps,vs,hl,r=>by
  obtain⟨v,vs',e,r1,r2⟩:=r
  cases p with
  |lp j i off=>
   unfold tK at hl
   cases hj:Nat.ble (j+1) m with
   |false=>rw[hj]at hl;cases hl
   |true=>
    rw[hj]at hl
    obtain⟨B,k,h1,h2⟩:=r1
    exact⟨v,vs',e,⟨B,k,(h j (aaG hj)).trans h1,h2⟩,K9 h hl r2⟩
  |_=>cases hl
section
variable (P:Program)(G:World→Prop)(T:TT)
def rO(n:Nat):Code→Nat→AS→(Ex→Nat→AS→Prop)→(Nat→FuncId→List PV→Ex→Nat→AS→Prop)→Prop
 |.seq a b,nx,s,kN,kD=>match yq a with
  |true=>rO n a nx s (fun ex m s=>match ex with
   |.normal=>False
   |.ret=>kN .ret m s
   |.exit i=>kN (.exit i) m s) fun M g ps ex m s=>match ex with
   |.normal=>vc P G T M n b m s (kD M g ps)
   |.ret=>kD M g ps .ret m s
   |.exit i=>kD M g ps (.exit i) m s
  |false=>vc P G T 0 n a nx s fun ex m s=>match ex with
   |.normal=>rO n b m s kN kD
   |.ret=>kN .ret m s
   |.exit i=>kN (.exit i) m s
 |.region _ ops draw,nx,s,_,kD=>match draw,sQ ops.toList with
  |false,some (pre,f,args)=>j7 P G T n ops.toList pre nx s fun m s=>match s.ev f,dZ s.ev args with
   |some (.fn g fe),some ps=>match tK m (ps++fe)with
    |true=>kD m g (ps++fe) .normal m s
    |false=>False
   |_,_=>False
  |_,_=>False
 |_,_,_,_,_=>False
structure nB(fn:Func)(g:FuncId)(ps:List PV)(m:Nat)(s:AS)(post:PV→Prop):Prop where
 h:∃bs q,cC (fun x:Nat×aA=>s.hp x.1=some x.2) bs∧oJ P G g ps bs m q∧∀r d,q r d→gX T ⟨s.env,dh s.hp d⟩ fn.results.toList fun vs=>∃n rs l,(cY [] n (dh s.hp d) vs=some (rs,l)∨(rs=vs∧PV.lQ vs=true))∧post (fI rs)
def Xa(fn:Func)(post:PV→Prop)(_:Nat)(g:FuncId)(ps:List PV)(ex:Ex)(m:Nat)(s:AS):Prop:=match ex with
 |.exit _=>False
 |.normal=>nB P G T fn g ps m s post
 |.ret=>nB P G T fn g ps m s post
def uK(fn:Func)(args:List PV)(post:PV→Prop):Prop:=
 match fn.body with
 |some c=>match Nat.ble args.length fn.ntmps with
  |true=>rO P G T fn.ntmps c 0 ⟨iF args 0,fun _=>none⟩ (tD T fn post) (Xa P G T fn post)
  |false=>False
 |none=>False
end
theorem Ra{P:Program}{o:Oper}{a:Act}{nx nx' N:Act→World→Prop}{Q:Exit→Act→World→Prop}(h:∀a w,nx a w→nx' a w):∀(r:Result Next),o.upon P a nx (Exit.then N Q) r→o.upon P a nx' Q r:=by
 intro r hr;unfold Oper.upon at hr⊢;split at hr
 ·exact h _ _ hr
 ·exact h _ _ hr
 ·exact h _ _ hr
 ·refine hr.mono ?_;intro e w hw;cases e with
  |returned v=>exact h _ _ hw
  |panicked ch=>exact hw
  |outgrown=>exact hw
 ·exact hr.mono fun v w hw=>h _ _ hw
 ·exact hr
 ·exact hr
theorem Ab{P:Program}{ops:Array Oper}{Q:Exit→Act→World→Prop}{l2:List Oper}:∀{l1:List Oper} {a:Act} {w:World},wpList P ops (Exit.then (wpList P ops Q l2) Q) l1 a w→wpList P ops Q (l1++l2) a w
 | [],_,_,h=>h
 |o::l1,a,w,h=>by
  show wpList P ops Q (o::(l1++l2)) a w
  unfold wpList at h⊢
  split at h
  ·rename_i hw
   rw[abb hw]
   rcases h with h|⟨h1,h2⟩
   ·exact .inl (Ra (fun a w h=>Ab h) _ h)
   ·exact .inr ⟨h1,h2⟩
  ·rename_i hw
   rw[abg hw]
   exact Ab h
def ct.df(S:ct)(M:Nat)(hb:Nat→Option (Nat×Nat))(d:Deferred):ct:=⟨S.w0,S.Z0,M,hb,S.L,S.G,S.hG,[d]⟩
theorem fh.df{S:ct}{M:Nat}{hb:Nat→Option (Nat×Nat)}{d:Deferred}{c:RC}{j:Nat}:∀{b:aA},fh S c j b→fh (S.df M hb d) c j b
 |.rows _ _ _ _ _,h=>h
 |.map _ _ _,h=>h
theorem Sat.df{S:ct}{m:Nat}{hp:Nat→Option aA}{c:RC}(h:Sat S (ge m) hp c)(d:Deferred):Sat (S.df m c.hb d) (ge m) hp c:=
 ⟨h.keeps,h.base,h.gd,h.dG,h.fresh,fun j b hj=>(h.cD j b hj).df,h.sep,fun _ _=>rfl,fun _ hj=>hj⟩
section
variable {P:Program}{G:World→Prop}{T:TT}{S:ct}
theorem B8(hT:cL P T)(hX:P.follows .mixedOrders=true)(hG:S.G=G)(hM:S.M=0)(hD:S.D=[]){n:Nat}:∀(c:Code) {nx:Nat} {s:AS} {a:Act} {cx:RC} {kN:Ex→Nat→AS→Prop} {kD:Nat→FuncId→List PV→Ex→Nat→AS→Prop} {Q:Exit→Act→World→Prop},c_ S n (ge nx) s a cx→rO P G T n c nx s kN kD→
 (∀ex m s' a' c',kN ex m s'→c_ S n (ge m) s' a' c'→Q ex.to a' c'.w)→
 (∀M hb g ps us cs ex m s' a' c',kD M g ps ex m s'→c_ (S.df M hb {target:=.fn (.func g) cs,args:=us}) n (ge m) s' a' c'→tK M ps=true→aC ps c' (us.toList++cs.toList)→Q ex.to a' c'.w)→c.wp P Q a cx.w
 |.seq x y,nx,s,a,cx,kN,kD,Q,hm,h,hN,hK=>by
  unfold rO at h
  split at h
  ·refine wp_seq (B8 hT hX hG hM hD x hm h (fun ex m s' a' c' h1 h2=>?_) (fun M hb g ps us cs ex m s' a' c' h1 h2 h3 h4=>?_))
   ·cases ex with
    |normal=>exact h1.elim
    |ret=>exact hN .ret m s' a' c' h1 h2
    |exit i=>exact hN (.exit i) m s' a' c' h1 h2
   ·cases ex with
    |normal=>
     refine iN (S:=S.df M hb {target:=.fn (.func g) cs,args:=us}) (M:=M) hT hX hG rfl y h2 h1 fun ex m2 s2 a2 c2 k1 k2=>?_
     have h5:aC ps c2 (us.toList++cs.toList):=K9 (fun j hj=>(k2.sat.low j hj).trans (h2.sat.low j hj).symm) h3 h4
     have:=hK M hb g ps us cs ex m2 s2 a2 c2 k1 k2 h3 h5
     cases ex with
     |normal=>exact this
     |ret=>exact this
     |exit i=>exact this
    |ret=>exact hK M hb g ps us cs .ret m s' a' c' h1 h2 h3 h4
    |exit i=>exact hK M hb g ps us cs (.exit i) m s' a' c' h1 h2 h3 h4
  ·refine wp_seq (iN hT hX hG hM x hm h fun ex m s' a' c' h1 h2=>?_)
   cases ex with
   |normal=>exact B8 hT hX hG hM hD y h2 h1 hN hK
   |ret=>exact hN .ret m s' a' c' h1 h2
   |exit i=>exact hN (.exit i) m s' a' c' h1 h2
 |.region id ops draw,nx,s,a,cx,kN,kD,Q,hm,h,hN,hK=>by
  unfold rO at h
  split at h
  case h_2=>exact h.elim
  rename_i pre f args hsp
  obtain⟨o,hl,ho⟩:=Ew hsp
  refine wp_region_list ?_
  have key:wpList P ops Q (pre++[o]) a cx.w:=by
   refine Ab ?_
   have:=vx (Q:=Exit.then (wpList P ops Q [o]) Q) hT hG hm h fun m s' a' c' h1 h2=>?_
   ·exact this
   ·show wpList P ops Q [o] a' c'.w
    have hev:=A4 h2.env
    split at h1
    case h_2=>exact h1.elim
    rename_i g fe ps e1 e2
    split at h1
    case h_2=>exact h1.elim
    rename_i hlp
    unfold yk at ho
    split at ho
    case h_2=>cases ho
    rename_i f' args' ty hop hdst hgd
    cases ho
    obtain⟨cs,hf,hcs⟩:=hev f _ e1
    have cX:=rP hev e2
    have hrun:(execOp a'.eval o).run P c'.w=.ok (.defer {target:=.fn (.func g) cs.toArray,args:=args'.map a'.eval}) c'.w:=by
     unfold execOp
     simp[hop,resolve,hf,Deferred.ofValue]
    unfold wpList
    rw[abb (by unfold Region.wanted;rw[hgd])]
    refine .inl ?_
    unfold Oper.wp
    rw[hrun,Oper.upon_defer]
    unfold wpList
    have hdf:a'.defers=[]:=h2.defers.trans hD
    have hS:c_ (S.df m c'.hb {target:=.fn (.func g) cs.toArray,args:=args'.map a'.eval}) n (ge m) s' ({a' with defers:={target:=.fn (.func g) cs.toArray,args:=args'.map a'.eval}::a'.defers}.put o.dst undef) c':=by
     rw[hdst]
     exact⟨h2.sat.df _,h2.size,h2.env,by show _::a'.defers=[_];rw[hdf]⟩
    refine hK m c'.hb g (ps++fe) (args'.map a'.eval) cs.toArray .normal m s' _ c' h1 hS hlp ?_
    have:=aC.od cX hcs
    simpa using this
  rw[← hl]at key
  exact key
 |.skip,_,_,_,_,_,_,_,_,h,_,_=>h.elim
 |.label _,_,_,_,_,_,_,_,_,h,_,_=>h.elim
 |.ret,_,_,_,_,_,_,_,_,h,_,_=>h.elim
 |.exit _,_,_,_,_,_,_,_,_,h,_,_=>h.elim
 |.cond _ _ _,_,_,_,_,_,_,_,_,h,_,_=>h.elim
 |.block _ _,_,_,_,_,_,_,_,_,h,_,_=>h.elim
 |.loop _,_,_,_,_,_,_,_,_,h,_,_=>h.elim
 |.rangeFunc _ _ _ _,_,_,_,_,_,_,_,_,h,_,_=>h.elim
 |.scope _,_,_,_,_,_,_,_,_,h,_,_=>h.elim
 |.goto _,_,_,_,_,_,_,_,_,h,_,_=>h.elim
 |.refuse _,_,_,_,_,_,_,_,_,h,_,_=>h.elim
end
theorem Qa{P:Program}{G:World→Prop}{T:TT}{f:FuncId}{fn:Func}{args:List PV}{post:PV→Prop}(hT:cL P T)(hX:P.follows .mixedOrders=true)(hGs:∀{w w':World},G w→Below w.heap.size w w'→G w')(hf:P.funcs[f]? = some fn)(hen:∀args w,(callFunc f args).run P w=.ok (.enter f args) w)
 (h:uK P G T fn args post):gB P G f args post:=by
 refine⟨hen,fun w Z vs hg hz hr=>?_⟩
 unfold uK at h
 split at h
 case h_2=>exact h.elim
 rename_i c hc
 split at h
 case h_2=>exact h.elim
 rename_i hle
 have hle':=aaG hle
 let S:ct:=⟨w,Z,0,fun _=>none,fun _=>False,G,fun hb=>hGs hg hb.below,[]⟩
 have hs:Sat S (ge 0) (fun _=>none) ⟨w,Z,fun _=>none⟩:=
  ⟨e_.refl _ _,Ext.refl _,fun _ _ _ _ h=>h,hz,fun _ _=>rfl,(fun _ _ h=>by cases h),(fun _ _ _ _ h=>by cases h),fun _ h=>(by cases h),fun _ _=>aaF _⟩
 have hl:=hr.length
 have hm:c_ S fn.ntmps (ge 0) ⟨iF args 0,fun _=>none⟩ {tmps:=vs.toArray++Array.replicate (fn.ntmps-vs.toArray.size) undef,defers:=[]} ⟨w,Z,fun _=>none⟩:=by
  refine⟨hs,by simp;omega,fun t p e=>?_,rfl⟩
  obtain⟨_,h2⟩:=zK e
  obtain⟨v,hv,hrv⟩:=hr.get h2
  refine⟨v,?_,hrv⟩
  rw[ado]at hv
  have hlt:t<vs.length:=(aaq.1 hv).1
  rw[Array.getElem?_append_left (by simpa using hlt)]
  simpa using hv
 have fin:∀{S':ct} (_:S'.w0=w) (_:S'.Z0=Z) (_:∀b,¬S'.L b) {n:Nat} {F:Nat→Prop} {s':AS} {a':Act} {c':RC},c_ S' n F s' a' c'→
  (gX T s' fn.results.toList fun vs=>∃n rs l,(cY [] n s'.hp vs=some (rs,l)∨(rs=vs∧PV.lQ vs=true))∧post (fI rs))→
  ∃v,(results fn a'.tmps).run P c'.w=.ok v c'.w∧∃r v',Ending.returned v=.returned v'∧post r∧Rel r ⟨c'.w,ln w c'.w Z,fun _=>none⟩ v'∧Below w.heap.size w c'.w:=by
  intro S' hw0 hZ0 hL n F s' a' c' h2 hE1
  obtain⟨ps,us,⟨q,rs,l,e,h3⟩,h4,h5⟩:=wM (P:=P) hT h2 _ hE1
  have hres:(results fn a'.tmps).run P c'.w=.ok (if h:us.toArray.size=1 then us.toArray[0]else .tuple us.toArray) c'.w:=by
   have e1:results fn a'.tmps=(do let vs ← fn.results.mapM (rv a'.tmps);pure (if h:vs.size=1 then vs[0]else .tuple vs)):=by
    unfold results
    congr 1
   have e2:fn.results.mapM (rv a'.tmps)=(do let l ← fn.results.toList.mapM (rv a'.tmps);pure l.toArray):=by
    rw[show fn.results.mapM (rv a'.tmps)=fn.results.toList.toArray.mapM (rv a'.tmps)by rw[Array.toArray_toList],List.mapM_toArray,map_eq_pure_bind]
   rw[e1,e2]
   simp only[Sem.run_bind,h5,Result.andThen_ok,Sem.run_pure]
  have hsat:=h2.sat
  have h6:aC rs (fK s'.hp c' l).pure us:=by
   rcases e with e|⟨rfl,e⟩
   ·have h6:=jA hsat l q e (fun _ h=>h) h4
    rw[RC.rq]at h6
    exact h6
   ·exact aC.ext _ (m_ s'.hp c' l).pure (rE _ e h4)
  have hsat2:=hsat.dE l
  have hx:Ext (fK s'.hp c' l).pure ⟨c'.w,ln w c'.w Z,fun _=>none⟩:=by
   refine⟨fun _ _ h=>h,fun b o z=>?_,fun _ _ _=>rfl,fun _ aB _ f h=>⟨aB,f,h,rfl⟩,fun _ _ _ _ h=>h⟩
   by_cases hb:b<w.heap.size
   ·exact .inl (hZ0▸hsat2.gd b o (by rw[hw0];exact hb) (hL b) z)
   ·exact .inr ⟨by omega,hsat2.dG b o z⟩
  have hbel:Below w.heap.size w c'.w:=by
   have:=hsat.keeps
   rw[hw0,show S'.L=fun _=>False from funext fun b=>propext ⟨hL b,False.elim⟩]at this
   exact this.below
  refine⟨_,hres,fI rs,_,rfl,h3,?_,hbel⟩
  have h7:=x_ h6
  have:(if us.length=1 then us[0]! else Value.tuple us.toArray)=(if h:us.toArray.size=1 then us.toArray[0]else .tuple us.toArray):=by
   by_cases h1:us.length=1
   ·obtain⟨u,rfl⟩:=acP.1 h1
    simp
   ·rw[abg h1,dif_neg (by simpa using h1)]
  rw[← this]
  exact Rel.ext _ hx h7
 refine calls_of_wp_defers hf hc<|B8 (S:=S) hT hX rfl rfl rfl c hm h (fun ex m s' a' c' h1 h2=>?_) (fun M hb g ps us cs ex m s' a' c' h1 h2 h3 h4=>?_)
 ·have goal:Leaves P fn a'.tmps (fun e w'=>∃r v,e=.returned v∧post r∧Rel r ⟨w',ln w w' Z,fun _=>none⟩ v∧Below w.heap.size w w') a'.defers .returning c'.w→bodyPostD P fn (fun e w'=>∃r v,e=.returned v∧post r∧Rel r ⟨w',ln w w' Z,fun _=>none⟩ v∧Below w.heap.size w w') ex.to a' c'.w:=by
   intro hl
   cases ex with
   |normal=>exact hl
   |ret=>exact hl
   |exit j=>exact h1.elim
  apply goal
  have hr1:gX T s' fn.results.toList fun vs=>∃n rs l,(cY [] n s'.hp vs=some (rs,l)∨(rs=vs∧PV.lQ vs=true))∧post (fI rs):=by
   cases ex with
   |normal=>exact h1
   |ret=>exact h1
   |exit j=>exact h1.elim
  rw[show a'.defers=[]from h2.defers]
  exact fin rfl rfl (fun _ h=>h) h2 hr1
 ·have hdn:nB P G T fn g ps m s' post:=by
   cases ex with
   |normal=>exact h1
   |ret=>exact h1
   |exit j=>exact h1.elim
  have goal:Leaves P fn a'.tmps (fun e w'=>∃r v,e=.returned v∧post r∧Rel r ⟨w',ln w w' Z,fun _=>none⟩ v∧Below w.heap.size w w') a'.defers .returning c'.w→bodyPostD P fn (fun e w'=>∃r v,e=.returned v∧post r∧Rel r ⟨w',ln w w' Z,fun _=>none⟩ v∧Below w.heap.size w w') ex.to a' c'.w:=by
   intro hl
   cases ex with
   |normal=>exact hl
   |ret=>exact hl
   |exit j=>exact h1.elim
  apply goal
  obtain⟨bs,q,hbs,hcd,hq⟩:=hdn.h
  rw[show a'.defers=[_]from h2.defers]
  have he:(us++cs)=(us.toList++cs.toList).toArray:=abN (by simp)
  refine leaves_cons (f:=g) (args:=(us.toList++cs.toList).toArray) (by simp) ?_ ?_
  ·show(invoke _ _).run P c'.w=_
   simp only[invoke]
   rw[hcd.enter,he]
  refine(hcd.run (S:=S.df M hb {target:=.fn (.func g) cs,args:=us}) (F:=ge m) rfl (aas m) h2.sat hbs h4).mono ?_
  rintro e u w' ⟨rfl,r,d,v,c'',rfl,rfl,hp,hg⟩
  have hsim:c_ (S.df M hb {target:=.fn (.func g) cs,args:=us}) fn.ntmps (less (ge m) m) ⟨s'.env,dh s'.hp d⟩ a' c'':=
   ⟨hg.s,h2.size,fun t p e=>by
    obtain⟨v,h5,h6⟩:=h2.env t p e
    exact⟨v,h5,Rel.ext p hg.x h6⟩,h2.defers⟩
  exact fin rfl rfl (fun _ h=>h) hsim (hq r d hp)
theorem rf{f:FuncId}{fn:Func}{args:List PV}{post:PV→Prop}(hf:Tryz.prog.funcs[f]? = some fn)(hn:(fn.name== "runtime.NumGoroutine")=false)(h:uK Tryz.prog GT tt fn args post):PC f args post:=
 match hb:fn.body with
 |some _=>Qa bH bU (fun h hb=>fU.below h hb) hf (enters_of hf hn hb) h
 |none=>by unfold uK at h;rw[hb]at h;exact h.elim
theorem Oh{f:FuncId}{fn:Func}{args:List PV}{bs:List aA}{js:List Nat}{nx:Nat}{post:PV→bW→Prop}(hf:Tryz.prog.funcs[f]? = some fn)(hn:(fn.name== "runtime.NumGoroutine")=false)(hjs:nodup js=true)(hnx:cf nx js=false)(hlen:js.length=bs.length)(hbs:cC (fun b:aA=>b.own=true∧b.cE) bs)(hlt:PV.h_ js.length args=true)
 (h:ni Tryz.prog GT tt fn args bs js nx post):oJ Tryz.prog GT f (PV.fD (fun i=>(PV.nth js i).getD 0) args) (js.zip bs) nx post:=
 match hb:fn.body with
 |some _=>Y' bH bU hf (enters_of hf hn hb) hjs hnx hlen hbs hlt h
 |none=>by unfold ni at h;rw[hb]at h;exact h.elim
theorem oJ.quiet{P:Program}{G:World→Prop}{f:FuncId}{args:List PV}{bs:List (Nat×aA)}{nx:Nat}(hen:∀args w,(callFunc f args).run P w=.ok (.enter f args) w)
 (h:∀(vs:Array Value) (w:World),vs.size=args.length→CallsD P f vs .returning w fun e u w'=>u=.returning∧e=.returned (.tuple #[])∧w'=w):oJ P G f args bs nx fun r d=>r=.aK []∧d=[]:=
 ⟨hen,fun hG hF hs hb hr=>(h _ _ (by simpa using hr.length)).mono fun e u w' ⟨h1,h2,h3⟩=>⟨h1,.aK [],[],.tuple #[],_,h2,h3.symm,⟨rfl,rfl⟩,Ext.refl _,hs.up fun _ h=>h.1,⟨[],rfl,rfl⟩⟩⟩
abbrev gk:Nat:=9007199254740992
theorem tn(s:BA)(a:Int)(hs:s.size≤gk):PC 262 [st s,i64 a] (·=.aK [.at (.int .u64 ((Wi.get s a).1:Int)),i64 (Wi.get s a).2.1,bo (Wi.get s a).2.2]):=
 oS Tryz.func262 rfl rfl rfl rfl fun w=>EP s a w hs
theorem yx(s:BA)(a m:Int)(hs:s.size≤gk):PC 261 [st s,i64 a,i64 m] (·=.aK [st (Wi.li s a m).1,i64 (Wi.li s a m).2.1,bo (Wi.li s a m).2.2]):=
 oS Tryz.func261 rfl rfl rfl rfl fun w=>Td s a m w hs
theorem jF{s:BA}{i:Nat}{n:UInt64}(h:At s i (an n))(hs:s.size≤gk):PC 262 [st s,i64 (i:Nat)] (·=.aK [pu n,i64 ((i+(an n).size:Nat):Int),bo true]):=by
 have:=tn s i hs;rw[h.num]at this;exact this
theorem oL{s:BA}{i:Nat}{t:BA}{m:Int}(h:At s i (bz t))(hs:s.size≤gk)(hm:(t.size:Int)≤m):PC 261 [st s,i64 (i:Nat),i64 m] (·=.aK [st t,i64 ((i+(bz t).size:Nat):Int),bo true]):=by
 have:=yx s i m hs;have hle:=h.le;have hw:=d_ t;rw[h.text (by unfold gk at hs;omega) hm]at this;exact this
theorem xc{s:BA}{i:Nat}{v:V4}(h:At s i (cr v))(hs:s.size≤gk):PC 264 [st s,i64 (i:Nat)] (·=.aK [v.pv,i64 ((i+(cr v).size:Nat):Int),bo true]):=by
 refine al Tryz.func264 ?_;have hd:=h.r;have h3:=h.l;have hc:=h3.r;have h2:=h3.l;have hb:=h2.r;have ha:=h2.l.r;rw[oe]at ha;have e1:i+0+(an v.a).size=i+(aG++an v.a).size:=by rw[aI,oe];omega
 have e2:i+(aG++an v.a).size+(an v.b).size=i+(aG++an v.a++an v.b).size:=by rw[aI (aG++an v.a)];omega
 have e3:i+(aG++an v.a++an v.b).size+(an v.c).size=i+(aG++an v.a++an v.b++an v.c).size:=by rw[aI (aG++an v.a++an v.b)];omega
 have e4:i+(aG++an v.a++an v.b++an v.c).size+(an v.d).size=i+(cr v).size:=by unfold cr;rw[aI (aG++an v.a++an v.b++an v.c)];omega
 have ca:=jF ha hs;have cb:=jF hb hs;have cc:=jF hc hs;have cd:=jF hd hs;rw[e1]at ca;rw[e2]at cb;rw[e3]at cc;rw[e4]at cd;refine cv.roll 5<|cH<|ah<|af ca rfl<|aa<|cj<|da 1<|cH<|ah<|af cb rfl<|aa<|cj<|da 2<|cH ?_;exact ah<|af cc rfl<|aa<|cj<|da 3<|cH<|ah<|af cd rfl<|aa<|cj<|da 4<|ao<|aa<|ab
theorem Bg{α:Type}{f:BA→α→BA}{g:α→BA}(hf:∀s x,f s x=s++g x):∀(l:List α) (s:BA),∃r,l.foldl f s=s++r
 | [],s=>⟨aG,by rw[List.foldl_nil];exact LA (by rw[nV];exact(abe _).symm)⟩
 |x::l,s=>by
  obtain⟨r,h⟩:=Bg hf l (f s x)
  refine⟨g x++r,?_⟩
  rw[acj,h,hf]
  exact LA (by simp only[nV,abd])
def dM{α:Type}(f:BA→α→BA)(i:Nat)(s0:BA)(l:List α)(q:Nat):Nat:=i+((l.take q).foldl f s0).size
theorem At.head{α:Type}{f:BA→α→BA}{g:α→BA}(hf:∀s x,f s x=s++g x){s s0:BA}{i:Nat}{l:List α}(h:At s i (l.foldl f s0)):At s i s0:=by
 obtain⟨r,e⟩:=Bg hf l s0;rw[e]at h;exact h.l
theorem At.fold{α:Type}{f:BA→α→BA}{g:α→BA}(hf:∀s x,f s x=s++g x){s s0:BA}{i q:Nat}{l:List α}{x:α}(h:At s i (l.foldl f s0))(hx:l[q]? = some x):At s (dM f i s0 l q) (g x)∧dM f i s0 l (q+1)=dM f i s0 l q+(g x).size:=by
 have hlt:=(aaq.1 hx);obtain⟨hl,rfl⟩:=hlt;have e1:l=l.take q++l[q]::l.drop (q+1):=by rw[← aaX hl,abD]
 have e2:l.foldl f s0=(l.drop (q+1)).foldl f (f ((l.take q).foldl f s0) l[q]):=by
  conv=>lhs;rw[e1]
  rw[abw,acj]
 obtain⟨r,e3⟩:=Bg hf (l.drop (q+1)) (f ((l.take q).foldl f s0) l[q]);rw[e2,e3,hf]at h;refine⟨h.l.r,?_⟩;unfold dM;rw[kg hx,hf,aI];omega
theorem At.whole{α:Type}{f:BA→α→BA}{i:Nat}{s0:BA}{l:List α}:dM f i s0 l l.length=i+(l.foldl f s0).size:=by unfold dM;rw[aaM]
theorem F6{n:Nat}(h:n<18446744073709551616):(av (n:Int)).toNat=n:=by
 unfold av;rw[mG (by omega)];omega
theorem Nv{s:BA}{i:Nat}{p:bM}(h:At s i (bz p.k++bz p.v))(hs:s.size≤gk)(hk:p.k.size≤32)(hv:p.v.size≤32):PC 313 [st s,i64 (i:Nat)] (·=.aK [p.pv,i64 ((i+(bz p.k++bz p.v).size:Nat):Int),bo true]):=by
 refine al Tryz.func313 ?_;have hb:=oL (m:=32) h.r hs (by omega);rw[show i+(bz p.k).size+(bz p.v).size=i+(bz p.k++bz p.v).size by rw[aI];omega]at hb;exact af (oL (m:=32) h.l hs (by omega)) rfl<|ah<|af hb rfl<|ab
theorem KV:∀(s:BA) (x:bM),jK s x=s++(bz x.k++bz x.v):=fun _ _=>rfl
abbrev qF(n:Nat):PV:=.at (.int .u64 (n:Int))
theorem AD(a:Nat)(h:a≤4611686018427387904:=by omega):IntKind.u64.wrap ((a:Int)+1)=((a+1:Nat):Int):=by
 show((a:Int)+1)%18446744073709551616=_
 omega
theorem pH{n:Nat}(h:n<18446744073709551616):pu (av (n:Int))=qF n:=by
 show PV.at (.int .u64 (((av (n:Int)).toNat:Nat):Int))=_
 rw[F6 h]
theorem Y6{s:BA}{i:Nat}{l:List bM}(h:At s i (l.foldl jK (an (av (l.length:Nat)))))(hs:s.size≤gk)(hl:l.length≤8)(h32:∀p∈l,p.k.size≤32∧p.v.size≤32):PC 312 [st s,i64 (i:Nat),i64 8,.fn 313 []] (·=.aK [sl bM.pv l,i64 ((i+(l.foldl jK (an (av (l.length:Nat)))).size:Nat):Int),bo true]):=by
 refine al Tryz.func312 ?_;have c0:=jF (h.head KV) hs;rw[pH (by omega)]at c0;refine af c0 rfl<|da 8<|ae.f (show¬(8:Int)<(l.length:Nat)by omega)<|aa ?_;rw[← At.whole];refine cv.grow [(8,2,160)] _ (ι:={q:Nat//q≤l.length}) ⟨fun q=>[(31,qF q.1),(8,.aH 23 0 (l.take q.1).length),(1,i64 ((dM jK i (an (av (l.length:Nat))) l q.1:Nat):Int))],[0,3,30],fun q=>[(23,.rows 2 ((l.take q.1).map bM.pv) true none 160)],[]⟩ (fun q=>l.length-q.1) ⟨0,aaF _⟩ rfl ⟨rfl,trivial⟩ ?_ ?_
 ·exact bY rfl (tT.bP _)
 rintro⟨q,hq⟩;dsimp only;refine ae.two (fun h1=>?_) (fun h1=>?_)
 ·have h1:q<l.length:=eg h1;refine ah ?_;obtain⟨x,hx⟩:=get_at h1;obtain⟨hat,cX⟩:=h.fold KV hx;have hx32:=h32 x (aau hx);have hc:=Nv hat hs hx32.1 hx32.2;rw[← cX]at hc;refine af hc rfl<|aa ?_;have htl:(l.take q).length=q:=by rw[aax];omega
  refine db.l (ak.mk (dS tT (l.take q) x (by omega)) ?_);refine ax (AD q) ?_;have hn:=eC hx;refine⟨⟨q+1,h1⟩,sw 23 42,by show l.length-(q+1)<l.length-q;omega,?_⟩;exact gS ⟨⟨rfl,rfl⟩,⟨by show some (PV.aH 42 0 ((l.take q).length+1))=some (PV.aH 42 0 (l.take (q+1)).length);rw[hn,aap];rfl,rfl⟩,⟨rfl,rfl⟩,trivial⟩ ⟨⟨BB.aO (by rw[hn,aaC];rfl) (tT.bP _),rfl⟩,trivial⟩
 ·have h1:q=l.length:=by
   have:¬q<l.length:=jn h1;omega
  subst h1;refine aa ?_;have ht:l.take l.length=l:=aaM;exact⟨l.length+100,_,_,.inl (aN (cT (l:=l) rfl (congrArg (List.map bM.pv) ht) tT.br (congrArg List.length ht) rfl) (aN rfl (aN rfl rfl))),rfl⟩
theorem Rq{s:BA}{i:Nat}{l:List bM}(h:At s i (fB l))(hr:gl l=true)(hs:s.size≤gk)(h32:∀p∈l,p.k.size≤32∧p.v.size≤32):PC 266 [st s,i64 (i:Nat)] (·=.aK [sl bM.pv l,i64 ((i+(fB l).size:Nat):Int),bo true]):=by
 refine al Tryz.func266 ?_;have hl:=se hr;unfold fB at h⊢;rw[hr]at h⊢;refine af (Y6 h hs hl h32) rfl<|af (rZ l (by omega) fun p hp=>by have:=h32 p hp;omega) rfl ?_;rw[hr];exact aa<|ab
abbrev i6(s:BA)(i:Nat):aA:=.rows 2 [.agg [st s,i64 ((i:Nat):Int)]] true none 449
theorem lP(s:BA)(i:Nat):cE [PV.agg [st s,i64 ((i:Nat):Int)]]:=fun r hr=>by rw[aaD.1 hr];rfl
theorem Ev{s:BA}{i n:Nat}(h:At s i (an (av (n:Int))))(hs:s.size≤gk)(most:Nat)(hn:n≤most)(hm:most≤1000)(j nx:Nat)(hne:Nat.beq nx j=false):LC 360 [.lp j 0 0,qF most] [(j,i6 s i)] nx fun r d=>r=i64 (n:Nat)∧d=[(j,some (i6 s (i+(an (av (n:Int))).size))),(j,none)]:=by
 refine eK (js:=[j]) (bs:=[i6 s i]) (args:=[.lp 0 0 0,qF most]) Tryz.func360 rfl rfl ?_ rfl ⟨⟨rfl,lP s i⟩,trivial⟩ rfl ?_
 ·unfold cf;rw[hne];rfl
 have c0:=jF h hs;rw[pH (by omega)]at c0;exact ay c0 rfl<|ar<|ae.f (show¬(most:Int)<(n:Int)by omega)<|aa<|bN.intro (n:Int) (wrap_i64 rfl (by omega))<|du<|kv (0,j) rfl rfl (lP s _)<|ar rfl
theorem AX{s:BA}{i:Nat}{t:BA}(h:At s i (bz t))(hs:s.size≤gk)(ht:t.size≤32)(j nx:Nat)(hne:Nat.beq nx j=false):LC 384 [.lp j 0 0] [(j,i6 s i)] nx fun r d=>r=st t∧d=[(j,some (i6 s (i+(bz t).size))),(j,none)]:=by
 refine eK (js:=[j]) (bs:=[i6 s i]) (args:=[.lp 0 0 0]) Tryz.func384 rfl rfl ?_ rfl ⟨⟨rfl,lP s i⟩,trivial⟩ rfl ?_
 ·unfold cf;rw[hne];rfl
 exact ay (oL (m:=32) h hs (by omega)) rfl<|ar<|aa<|du<|kv (0,j) rfl rfl (lP s _)<|ar rfl
theorem FH:∀(s:BA) (x:BA),fE s x=s++bz x:=fun _ _=>rfl
abbrev t0(t:Term):BA:=bz t.key++an (av t.n)
def XP(s:BA)(key:BA)(no:Bool)(P:Nat→Nat):List BA→List (Nat×aA)
 | []=>[(0,i6 s (P 0)),(5,.rows 3 [.agg [st key,bo no,.sl true []]] true none 183)]
 |x::M=>[(0,i6 s (P (M.length+1))),(5,.rows 3 [.agg [st key,bo no,.aH 2 0 (M.length+1)]] true none 183),(2,.rows 1 ((x::M).map st) true none 9)]
theorem Ic{s:BA}{i:Nat}{t:Term}(h:At s i t.put)(hs:s.size≤gk)(hl:t.aZ.length≤4)(hk:t.key.size≤32)(hv:∀v∈t.aZ,v.size≤32)(j nx:Nat)(hne:Nat.beq nx j=false):LC 361 [.lp j 0 0] [(j,i6 s i)] nx fun r d=>r=t.pv∧d=[(j,some (i6 s (i+t.put.size))),(j,none)]:=by
 refine eK (js:=[j]) (bs:=[i6 s i]) (args:=[.lp 0 0 0]) Tryz.func361 rfl rfl ?_ rfl ⟨⟨rfl,lP s i⟩,trivial⟩ rfl ?_
 ·unfold cf;rw[hne];rfl
 have hh:At s i (t0 t):=At.head (l:=t.aZ) FH h;refine a_.bB [0] (n:=200) (AX hh.l hs hk 0 _ rfl) rfl ⟨rfl,trivial⟩ ?_;obtain⟨m,hm,hm9,hm1,hm2⟩:∃m:Nat,t.n=(m:Int)∧m≤9∧m / 2=t.aZ.length∧(m%2=1↔t.no=true):=by
  unfold Term.n;cases t.no with
  |true=>exact⟨2*t.aZ.length+1,rfl,by omega,by omega,by simp⟩
  |false=>exact⟨2*t.aZ.length,rfl,by omega,by omega,by simp⟩
 have hr:=hh.r;rw[hm]at hr;refine a_.bB [0] (n:=200) (Ev hr hs 9 hm9 (by omega) 0 _ rfl) rfl ⟨rfl,trivial⟩ ?_;refine cj<|bN.intro ((m%2:Nat):Int) (by show(m:Int).tmod 2=_;rw[Int.tmod_eq_emod_of_nonneg (by omega)];omega)<|ae.is t.no ?_ ?_
 ·rw[Bool.eq_iff_iff,acz,← hm2];omega
 refine cj<|bN.intro (t.aZ.length:Int) (wrap_i64 (by rw[acp (by omega)];omega) (by omega)) ?_;have hp0:i+(bz t.key).size+(an (av (m:Int))).size=dM fE i (t0 t) t.aZ 0:=by
  show _=i+(t0 t).size
  rw[aI,hm];omega
 rw[hp0];have hput:i+t.put.size=dM fE i (t0 t) t.aZ t.aZ.length:=At.whole.symm;rw[hput];refine cW t.aZ.length (.of (fun q=>t.aZ.take q) (fun _=>[]) [0,2,3,15] (XP s t.key t.no (dM fE i (t0 t) t.aZ)) [1]) (fun _=>True) trivial ?_ (fun k hk' hj=>?_) (fun hj=>?_)
 ·exact bC
 ·obtain⟨x,hx⟩:=get_at hk';obtain⟨hat,cX⟩:=h.fold FH hx;have hn:=eC hx;have hxs:=hv x (aau hx);have hlen:(t.aZ.take k).length=k:=by rw[aax];omega
  rcases hL:t.aZ.take k with _|⟨y,M⟩
  ·rw[hL]at hn hlen;obtain rfl:k=0:=hlen.symm;rw[bR hL];refine dy.bB [0] (n:=200) (AX hat hs hxs 0 _ rfl) rfl ⟨rfl,trivial⟩<|ak.mk ⟨(dS ef [] x (by show 0<67108864;omega)).1,fun h=>(by cases h)⟩ ?_;refine ar ?_;rw[← cX];exact bA.of (v:=[x]) (sw 2 24) hn trivial rfl<|dv ⟨⟨BB.aO rfl (lP s _),rfl⟩,⟨BB.rn rfl rfl,rfl⟩,⟨BB.aO rfl (ef.bP [x]),rfl⟩,trivial⟩
  ·rw[hL]at hn hlen;have hlen:k=M.length+1:=hlen.symm;subst hlen;rw[bR hL];refine dy.bB [0] (n:=200) (AX hat hs hxs 0 _ rfl) rfl ⟨rfl,trivial⟩<|db.l (ak.mk (dS ef (y::M) x (by show M.length+1<67108864;omega)) ?_);refine ar ?_;rw[← cX];have e:(M++[x]).length+1=M.length+1+1:=by rw[aap];rfl
   exact bA.of (v:=y::(M++[x])) (sw 2 24) hn trivial rfl<|dv ⟨⟨BB.aO (by show _=some (i6 s (dM fE i (t0 t) t.aZ ((M++[x]).length+1)));rw[e];rfl) (lP s _),rfl⟩,⟨BB.rn (by show _=some (aA.rows 3 [PV.agg [st t.key,bo t.no,PV.aH _ 0 ((M++[x]).length+1)]] true none _);rw[e];rfl) rfl,rfl⟩,⟨BB.aO (by show some (aA.rows 1 ((y::M).map st++[st x]) true none _)=some (aA.rows 1 ((y::(M++[x])).map st) true none _);rw[aaZ,aaZ,aaC];rfl) (ef.bP _),rfl⟩,trivial⟩
 ·have ht:t.aZ.take t.aZ.length=t.aZ:=aaM;have hll:(t.aZ.take t.aZ.length).length=t.aZ.length:=congrArg List.length ht;rcases hL:t.aZ.take t.aZ.length with _|⟨y,M⟩
  ·rw[hL]at ht hll;rw[bR hL];refine du<|dW.mk ⟨[(0,j)],200,_,_,rfl,rfl,rfl,⟨dz.mk ⟨_,rfl,lP s _,.inr rfl⟩,trivial⟩,?_,?_⟩
   ·show _=PV.agg [st t.key,bo t.no,sl st t.aZ];rw[← ht];rfl
   ·rw[← hll];rfl
  ·rw[hL]at ht hll;rw[bR hL];refine du<|dW.mk ⟨[(0,j)],(y::M).length+100,_,_,aN (iw (aN rfl (aN rfl (aN (cT (l:=y::M) rfl rfl ef.br rfl rfl) rfl)))) rfl,rfl,rfl,⟨dz.mk ⟨_,rfl,lP s _,.inr rfl⟩,trivial⟩,?_,?_⟩
   ·show _=PV.agg [st t.key,bo t.no,sl st t.aZ];rw[← ht];rfl
   ·rw[← hll];rfl
set_option linter.all false in
theorem SY(a b c:Value)(w:World):CallsD Tryz.prog 359 #[a,b,c] .returning w fun e u w'=>u=.returning∧e=.returned (.tuple #[])∧w'=w:=by
 refine callsD_of_wpS Tryz.func359 rfl fun c₀ cs hu=>?_
 apply wpS_seq;apply wpS_region;simp[wpOpsS,go_sem,recoverD,hu,Tryz.ntmps359,Exit.thenS];apply wpS_seq;apply wpS_region;simp[wpOpsS,go_sem,recoverD,hu,Tryz.ntmps359,Exit.thenS];refine wpS_cond (t:=false) (by simp[Act.eval,Array.replicate]) ?_;simp only[Bool.false_eq_true,if_false];refine wpS_of_wp (wp_skip ?_);cases c₀;simp_all [bodyPostS,results,Tryz.results359]
theorem H5(ps:List PV)(hp:ps.length=3)(nx:Nat):oJ Tryz.prog GT 359 ps [] nx fun r d=>r=.aK []∧d=[]:=
 oJ.quiet (enters_of Tryz.func359 rfl rfl) fun vs w hv=>by
  rw[hp]at hv
  obtain⟨l⟩:=vs
  match l,hv with
  | [a,b,c],_=>exact SY a b c w
theorem Jd:∀(s:BA) (x:Term),jM s x=s++x.put:=fun _ _=>rfl
def TJ(s:BA)(P:Nat→Nat):List Term→List (Nat×aA)
 | []=>[(6,i6 s (P 0)),(0,.rows 1 [.sl true []] true none 33)]
 |x::M=>[(6,i6 s (P (M.length+1))),(0,.rows 1 [.aH 10 0 (M.length+1)] true none 33),(10,.rows 3 ((x::M).map Term.pv) true none 183)]
def Term.nS(t:Term):Prop:=t.key.size≤32∧∀v∈t.aZ,v.size≤32
theorem Term.nS.sz{t:Term}(h:t.nS)(hl:t.aZ.length≤4):t.Sz:=⟨by omega,by have:=h.1;omega,fun v hv=>by have:=h.2 v hv;omega⟩
theorem P9{s:BA}{i:Nat}{l:List Term}(h:At s i (kH l))(hr:ig l=true)(hs:s.size≤gk)(h32:∀t∈l,t.nS):PC 311 [st s,i64 (i:Nat)] (·=.aK [sl Term.pv l,i64 ((i+(kH l).size:Nat):Int),bo true]):=by
 refine rf Tryz.func311 rfl ?_;obtain⟨hl,hrt⟩:=u9 hr;unfold kH at h⊢;rw[hr]at h⊢;dsimp only at h⊢;refine a_.bB [6] (n:=200) (Ev (h.head Jd) hs 4 hl (by omega) 6 _ rfl) rfl ⟨rfl,trivial⟩ ?_;rw[← At.whole];refine cW l.length (.of (fun q=>l.take q) (fun _=>[]) [4,5,6,7,14] (TJ s (dM jM i (an (av (l.length:Nat))) l)) [1,2]) (fun _=>True) trivial ?_ (fun k hk hj=>?_) (fun hj=>?_)
 ·exact bC
 ·obtain⟨x,hx⟩:=get_at hk;obtain⟨hat,cX⟩:=h.fold Jd hx;have hn:=eC hx;have hxm:=aau hx;have hxl:=rk (hrt x hxm);have hx32:=h32 x hxm;have hlen:(l.take k).length=k:=by rw[aax];omega
  rcases hL:l.take k with _|⟨y,M⟩
  ·rw[hL]at hn hlen;obtain rfl:k=0:=hlen.symm;rw[bR hL];refine dy.bB [6] (n:=200) (Ic hat hs hxl hx32.1 hx32.2 6 _ rfl) rfl ⟨rfl,trivial⟩<|ak.mk ⟨(dS pb [] x (by show 0<67108864;omega)).1,fun h=>(by cases h)⟩ ?_;refine ar ?_;rw[← cX];exact bA.of (v:=[x]) (sw 10 17) hn trivial rfl<|dv ⟨⟨BB.aO rfl (lP s _),rfl⟩,⟨BB.rn rfl rfl,rfl⟩,⟨BB.aO rfl (pb.bP [x]),rfl⟩,trivial⟩
  ·rw[hL]at hn hlen;have hlen:k=M.length+1:=hlen.symm;subst hlen;rw[bR hL];refine dy.bB [6] (n:=200) (Ic hat hs hxl hx32.1 hx32.2 6 _ rfl) rfl ⟨rfl,trivial⟩<|db.l (ak.mk (dS pb (y::M) x (by show M.length+1<67108864;omega)) ?_);refine ar ?_;rw[← cX];have e:(M++[x]).length+1=M.length+1+1:=by rw[aap];rfl
   exact bA.of (v:=y::(M++[x])) (sw 10 17) hn trivial rfl<|dv ⟨⟨BB.aO (by show _=some (i6 s (dM jM i (an (av (l.length:Nat))) l ((M++[x]).length+1)));rw[e];rfl) (lP s _),rfl⟩,⟨BB.rn (by show _=some (aA.rows 1 [PV.aH _ 0 ((M++[x]).length+1)] true none _);rw[e];rfl) rfl,rfl⟩,⟨BB.aO (by show some (aA.rows 3 ((y::M).map Term.pv++[Term.pv x]) true none _)=some (aA.rows 3 ((y::(M++[x])).map Term.pv) true none _);rw[aaZ,aaZ,aaC];rfl) (pb.bP _),rfl⟩,trivial⟩
 ·have ht:l.take l.length=l:=aaM;have hll:(l.take l.length).length=l.length:=congrArg List.length ht;have hrc:PC 195 [sl Term.pv l] (·=bo true):=hr▸ya l (by omega) fun t ht=>(h32 t ht).sz (rk (hrt t ht))
  rcases hL:l.take l.length with _|⟨y,M⟩
  ·rw[hL]at ht hll;rw[bR hL];rw[← ht]at hrc;refine af hrc rfl<|aa<|ar<|nB.mk ⟨[],_,trivial,H5 _ rfl _,?_⟩;rintro _ _ ⟨rfl,rfl⟩;exact⟨200,_,_,.inl rfl,by rw[← hll,← ht];rfl⟩
  ·rw[hL]at ht hll;rw[bR hL];rw[← ht]at hrc;refine a_.by (n:=(y::M).length+100) hrc (aN (cT (l:=y::M) rfl rfl pb.br rfl rfl) rfl)<|aa<|ar<|nB.mk ⟨[],_,trivial,H5 _ rfl _,?_⟩;rintro _ _ ⟨rfl,rfl⟩;exact⟨(y::M).length+100,_,_,.inl (aN (cT (l:=y::M) rfl rfl pb.br rfl rfl) (aN rfl (aN rfl rfl))),by rw[← hll,← ht];rfl⟩
def Spec.nS(x:Spec):Prop:=x.path.size≤98∧∀t∈x.cR,t.nS
theorem Spec.nS.sz{x:Spec}(h:x.nS)(hr:ig x.cR=true):x.Sz:=by
 obtain⟨hl,hrt⟩:=u9 hr;have:=h.1;exact⟨by omega,by omega,fun t ht=>(h.2 t ht).sz (rk (hrt t ht))⟩
theorem Y8{s:BA}{i:Nat}{x:Spec}(h:At s i x.put)(hc:x.check=0)(hs:s.size≤gk)(h32:x.nS):PC 265 [st s,i64 (i:Nat)] (·=.aK [x.pv,i64 ((i+x.put.size:Nat):Int),bo true]):=by
 refine al Tryz.func265 ?_;obtain⟨hp1,hp2,oc,hp4,hp5,hp6⟩:=x6 hc;have hcount:=within_iff.1 hp2;have hprio:=within_iff.1 oc;have hticks:=within_iff.1 hp4;obtain⟨c,hcn⟩:∃c:Nat,x.count=(c:Int):=⟨x.count.toNat,by omega⟩;obtain⟨p,hpn⟩:∃p:Nat,x.prio=(p:Int):=⟨x.prio.toNat,by omega⟩;obtain⟨t,htn⟩:∃t:Nat,x.cN=(t:Int):=⟨x.cN.toNat,by omega⟩;have hput:x.put=bz x.path++cr x.cy++an (av x.count)++an (av x.prio)++an (av x.cN)++kH x.cR:=by
  unfold Spec.put;rw[aaB hc]
 rw[hput]at h⊢;have hF:=h.r;have h5:=h.l;have hE:=h5.r;have h4:=h5.l;have hD:=h4.r;have h3:=h4.l;have hC:=h3.r;have h2:=h3.l;have hB:=h2.r;have hA:=h2.l;have kA:=oL (m:=98) hA hs (by have:=h32.1;omega);have kB:=xc hB hs;rw[show i+(bz x.path).size+(cr x.cy).size=i+(bz x.path++cr x.cy).size by rw[aI];omega]at kB;have kC:=jF hC hs;rw[show i+(bz x.path++cr x.cy).size+(an (av x.count)).size=i+(bz x.path++cr x.cy++an (av x.count)).size by rw[aI (bz x.path++cr x.cy)];omega,hcn,pH (by omega),← hcn]at kC;have kD:=jF hD hs;rw[show i+(bz x.path++cr x.cy++an (av x.count)).size+(an (av x.prio)).size=i+(bz x.path++cr x.cy++an (av x.count)++an (av x.prio)).size by rw[aI (bz x.path++cr x.cy++an (av x.count))];omega,hpn,pH (by omega),← hpn]at kD;have kE:=jF hE hs;rw[show i+(bz x.path++cr x.cy++an (av x.count)++an (av x.prio)).size+(an (av x.cN)).size=i+(bz x.path++cr x.cy++an (av x.count)++an (av x.prio)++an (av x.cN)).size by rw[aI (bz x.path++cr x.cy++an (av x.count)++an (av x.prio))];omega,htn,pH (by omega),← htn]at kE;have kF:=P9 hF hp5 hs h32.2;rw[show i+(bz x.path++cr x.cy++an (av x.count)++an (av x.prio)++an (av x.cN)).size+(kH x.cR).size=i+(bz x.path++cr x.cy++an (av x.count)++an (av x.prio)++an (av x.cN)++kH x.cR).size by rw[aI (bz x.path++cr x.cy++an (av x.count)++an (av x.prio)++an (av x.cN))];omega]at kF;have kG:PC 128 [x.pv] (·=i64 0):=hc▸tH x (h32.sz hp5);refine af kA rfl<|aa<|af kB rfl<|aa<|cv.roll 4<|cH<|ah<|af kC rfl<|cj<|cj<|ae.f (show¬(100:Int)<(c:Int)by omega)<|aa<|da 1<|cH ?_;refine ah<|af kD rfl<|cj<|cj<|ae.f (show¬(100:Int)<(p:Int)by omega)<|aa<|da 2<|cH<|ah<|af kE rfl<|cj<|cj<|ae.f (show¬(100:Int)<(t:Int)by omega)<|aa ?_;refine da 3<|ao<|aa<|cj<|bN.intro x.count (wrap_i64 hcn.symm (by omega))<|cj<|bN.intro x.prio (wrap_i64 hpn.symm (by omega))<|cj<|bN.intro x.cN (wrap_i64 htn.symm (by omega))<|ar<|af kF rfl<|af kG rfl<|ae.t rfl<|aa ?_;exact ab
theorem WN{ks:List Value}{m:Int}(h:∀k∈ks,∃n,k=Value.int .i64 n):ql ks (.int .i64 m):=fun k hk=>by
 obtain⟨n,rfl⟩:=h k hk
 show(match decide (IntKind.i64=IntKind.i64)with|true=>some (decide (m=n))|false=>none)≠none
 rw[aaB rfl]
 exact fun h=>by cases h
def ints:List Value→Bool
 | []=>true
 |.int .i64 _::l=>ints l
 |_::_=>false
theorem Io:∀{l:List Value},ints l=true→∀k∈l,∃n,k=Value.int .i64 n
 |.int .i64 n::l,h,k,hk=>by
  rcases aaI.1 hk with rfl|hk
  ·exact⟨n,rfl⟩
  ·exact Io (l:=l) h k hk
theorem SU{ks:List Value}{m:Int}(h:ints ks=true):ql ks (.int .i64 m):=WN (Io h)
theorem aF{ks:List Value}{m:Int}{k:Prop}(q:k)(h:ints ks=true:=by exact rfl):ak (ql ks (.int .i64 m)) k:=⟨SU h,q⟩
theorem Al{α:Type}(g:α→PV)(k:Int):∀L:List (Int×α),lr (L.map fun e:Int×α=>Value.int .i64 e.1) (L.map fun e:Int×α=>g e.2) (.int .i64 k)=(L.find? fun e:Int×α=>decide (k=e.1)).map fun e:Int×α=>g e.2
 | []=>rfl
 |e::L=>by
  rw[aaZ,aaZ,List.find?_cons]
  unfold lr
  show(match(match decide (IntKind.i64=IntKind.i64)with|true=>some (decide (k=e.1))|false=>none)with|some true=>some (g e.2)|_=>lr (L.map fun e:Int×α=>Value.int .i64 e.1) (L.map fun e:Int×α=>g e.2) (.int .i64 k))=_
  rw[aaB (p:=IntKind.i64=IntKind.i64) rfl]
  dsimp only
  cases decide (k=e.1)with
  |true=>rfl
  |false=>exact Al g k L
abbrev Xp:PV:=.mp (pn.map fun e=>Value.int .i64 e.1) (pn.map fun e=>e.2.pv)
theorem mS:PC 141 [] (·=Xp):=by
 refine al Tryz.func141<|aF<|aF<|aF<|aF<|aF<|aF<|aF<|aF<|aF<|aF<|aF<|aF<|aF ?_;exact ab
theorem nu(k:Int):lr (pn.map fun e=>Value.int .i64 e.1) (pn.map fun e=>e.2.pv) (.int .i64 k)=(known k).map fx.pv:=by
 rw[Al fx.pv];unfold known;rw[Option.map_map];rfl
theorem Rh(a b:Term)(hl:a.aZ.length≤67108864):PC 363 [a.pv,b.pv] (·=bo (Term.same a b)):=by
 refine al Tryz.func363 ?_;unfold Term.same;refine ae.two (fun h1=>?_) (fun h1=>?_)
 ·rw[show seq a.key b.key=true from h1];dsimp only;refine ae.two (fun h2=>?_) (fun h2=>?_)
  ·rw[show(a.no==b.no)=true from h2];exact af (QS a.aZ b.aZ hl) rfl<|ab
  ·rw[show(a.no==b.no)=false from h2];exact ab
 ·rw[show seq a.key b.key=false from h1];exact ab
theorem Pb(l m:List Term)(hl:l.length≤67108864)(hv:∀t∈l,t.aZ.length≤67108864):PC 362 [sl Term.pv l,sl Term.pv m,.fn 363 []] (·=bo (eQ Term.same l m)):=by
 refine al Tryz.func362<|ae.two (fun he=>?_) (fun he=>?_)
 ·have he:l.length=m.length:=by
   have h:=aat he;rw[aao,aao]at h;omega
  refine aa<|cW l.length ⟨fun _=>[],[1,2,15,16],fun _=>[],[]⟩ (fun q=>eQ Term.same l m=eQ Term.same (l.drop q) (m.drop q)) rfl ?_ (fun q hq hj=>?_) (fun hj=>?_)
  ·exact bC
  ·obtain⟨x,hx⟩:=get_at hq;obtain⟨y,hy⟩:=get_at (l:=m) (k:=q) (by omega);have hd:=xo Term.same hx hy;refine bx hx<|bx hy<|af (Rh x y (hv x (aau hx))) rfl ?_;cases hpx:Term.same x y with
   |false=>
    rw[hpx]at hd;refine ah ?_;rw[hj,hd];exact ab
   |true=>
    rw[hpx]at hd;exact aa<|bA.is id (hj.trans hd) rfl<|bC
  ·rw[hj,aaR (aas _),aaR (abF he.symm)];exact ab
 ·have he:l.length≠m.length:=by
   have h:=aaw he;rw[aao,aao]at h;omega
  refine ah ?_;rw[ug he];exact ab
theorem UZ(l m:List Term)(hl:l.length≤67108864)(hv:∀t∈l,t.aZ.length≤67108864):PC 314 [sl Term.pv l,sl Term.pv m] (·=bo (eQ Term.same l m)):=al Tryz.func314<|af (Pb l m hl hv) rfl<|ab
theorem wP(x y:V4):(decide (((x.a.toNat:Nat):Int)=((y.a.toNat:Nat):Int))&&(decide (((x.b.toNat:Nat):Int)=((y.b.toNat:Nat):Int))&&(decide (((x.c.toNat:Nat):Int)=((y.c.toNat:Nat):Int))&&(decide (((x.d.toNat:Nat):Int)=((y.d.toNat:Nat):Int))&&true))))=V4.same x y:=by
 unfold V4.same;rw[jP,jP,jP,jP,Bool.and_true]
theorem Y2(a b:Spec)(h:a.Sz):PC 268 [a.pv,b.pv] (·=bo (Spec.same a b)):=by
 refine al Tryz.func268 ?_;unfold Spec.same;refine ae.two (fun h1=>?_) (fun h1=>?_)
 ·rw[show seq a.path b.path=true from h1];dsimp only;refine ae.is (V4.same a.cy b.cy) (wP _ _) ?_;cases V4.same a.cy b.cy with
  |false=>exact ab
  |true=>
  dsimp only;refine ae.two (fun h2=>?_) (fun h2=>?_)
  ·rw[show decide (a.count=b.count)=true from h2];dsimp only;refine ae.two (fun h3=>?_) (fun h3=>?_)
   ·rw[show decide (a.prio=b.prio)=true from h3];dsimp only;refine ae.two (fun h4=>?_) (fun h4=>?_)
    ·rw[show decide (a.cN=b.cN)=true from h4];exact af (UZ a.cR b.cR h.2.1 fun t ht=>(h.2.2 t ht).1) rfl<|ab
    ·rw[show decide (a.cN=b.cN)=false from h4];exact ab
   ·rw[show decide (a.prio=b.prio)=false from h3];exact ab
  ·rw[show decide (a.count=b.count)=false from h2];exact ab
 ·rw[show seq a.path b.path=false from h1];exact ab
structure eM(o:aw):Prop where
 path:o.path.size≤1000000
 x:o.x.Sz
 len:o.labels.length≤67108864
 fA:∀p∈o.labels,p.k.size≤1000000∧p.v.size≤1000000
theorem RO(a b:aw)(h:eM a):PC 207 [a.pv,b.pv] (·=bo (aw.same a b)):=by
 refine al Tryz.func207 ?_;unfold aw.same;refine ae.is (decide (a.id=b.id)) (jP _ _) ?_;cases decide (a.id=b.id)with
 |false=>exact ab
 |true=>
 dsimp only;refine ae.is (decide (a.n=b.n)) (jP _ _) ?_;cases decide (a.n=b.n)with
 |false=>exact ab
 |true=>
 dsimp only;refine ae.two (fun h1=>?_) (fun h1=>?_)
 ·rw[show seq a.path b.path=true from h1];dsimp only;refine ae.is (V4.same a.v b.v) (wP _ _) ?_;cases V4.same a.v b.v with
  |false=>exact ab
  |true=>
  refine af (Y2 a.x b.x h.x) rfl ?_;cases Spec.same a.x b.x with
  |false=>exact ab
  |true=>
  exact af (V6 a.labels b.labels h.len) rfl<|ab
 ·rw[show seq a.path b.path=false from h1];exact ab
theorem KN{k:Int}{f:fx}(h:known k=some f):f∈[(⟨false,false,false,false,true,false⟩:fx),⟨true,false,false,false,false,false⟩,⟨false,false,true,true,false,false⟩,⟨false,true,false,false,false,false⟩,⟨false,false,true,false,false,false⟩,⟨false,false,false,true,false,false⟩,⟨false,false,true,true,false,true⟩,⟨false,false,false,false,false,false⟩]:=by
 unfold known at h;rw[acx]at h;obtain⟨e,he,rfl⟩:=h;have hm:=aaW he;unfold pn fx.z at hm;simp only[aaI,aaH,acQ]at hm;rcases hm with rfl|rfl|rfl|rfl|rfl|rfl|rfl|rfl|rfl|rfl|rfl|rfl|rfl<;>simp
theorem R_(o:aw){k:Int}(f:fx)(h:known k=some f):PC 208 [o.pv,f.pv] (·=(o.bare f).pv):=by
 refine al Tryz.func208 ?_;have hm:=KN h;simp only[aaI,aaH,acQ]at hm;rcases hm with rfl|rfl|rfl|rfl|rfl|rfl|rfl|rfl
 ·exact aa<|aa<|aa<|aa<|ah<|aa<|ab
 ·exact ah<|aa<|aa<|aa<|aa<|aa<|ab
 ·exact aa<|aa<|ah<|ah<|aa<|aa<|ab
 ·exact aa<|ah<|aa<|aa<|aa<|aa<|ab
 ·exact aa<|aa<|ah<|aa<|aa<|aa<|ab
 ·exact aa<|aa<|aa<|ah<|aa<|aa<|ab
 ·exact aa<|aa<|ah<|ah<|aa<|ah<|ab
 ·exact aa<|aa<|aa<|aa<|aa<|aa<|ab
theorem iV(o:aw)(h:eM o):PC 140 [o.pv] (·=bo o.right):=by
 refine al Tryz.func140<|ay mS rfl<|aF<|cU.is _ (nu o.kind) ?_;unfold aw.right;cases hk:known o.kind with
 |none=>
  dsimp only[Option.map];exact ar<|ar<|ah<|ab
 |some f=>
  dsimp only[Option.map];refine ar<|ay (R_ o f hk) rfl<|ay (RO o (o.bare f) h) rfl ?_;cases o.same (o.bare f)with
  |false=>
   exact ar<|ah<|ab
  |true=>
   obtain⟨a,b,c,d,x,e⟩:=f;cases x with
   |false=>
    refine ar<|aa<|ae.two (fun h1=>?_) (fun h1=>?_)
    ·rw[show decide ((o.path.size:Int)≤98)=true from h1];exact af (rZ o.labels h.len h.fA) rfl<|ab
    ·rw[show decide ((o.path.size:Int)≤98)=false from h1];exact ab
   |true=>
    refine ay (tH o.x h.x) rfl<|ae.two (fun h0=>?_) (fun h0=>?_)
    ·rw[show decide (o.x.check=0)=true from h0];refine ar<|aa<|ae.two (fun h1=>?_) (fun h1=>?_)
     ·rw[show decide ((o.path.size:Int)≤98)=true from h1];exact af (rZ o.labels h.len h.fA) rfl<|ab
     ·rw[show decide ((o.path.size:Int)≤98)=false from h1];exact ab
    ·rw[show decide (o.x.check=0)=false from h0];exact ar<|ah<|ab
theorem UA(o:aw):PC 226 [o.pv] (·=bo o.writes):=by
 refine al Tryz.func226 ?_;unfold aw.writes within;refine ae.two (fun h1=>?_) (fun h1=>?_)
 ·rw[show decide ((1:Int)≤o.kind)=true from h1];refine ae.two (fun h2=>?_) (fun h2=>?_)
  ·rw[show decide (o.kind≤(3:Int))=true from h2];exact ab
  ·rw[show decide (o.kind≤(3:Int))=false from h2];refine ae.two (fun h3=>?_) (fun h3=>?_)
   ·rw[show decide ((9:Int)≤o.kind)=true from h3];refine ae.two (fun h4=>?_) (fun h4=>?_)
    ·rw[show decide (o.kind≤(13:Int))=true from h4];exact ab
    ·rw[show decide (o.kind≤(13:Int))=false from h4];exact ab
   ·rw[show decide ((9:Int)≤o.kind)=false from h3];exact ab
 ·rw[show decide ((1:Int)≤o.kind)=false from h1];refine ae.two (fun h3=>?_) (fun h3=>?_)
  ·rw[show decide ((9:Int)≤o.kind)=true from h3];refine ae.two (fun h4=>?_) (fun h4=>?_)
   ·rw[show decide (o.kind≤(13:Int))=true from h4];exact ab
   ·rw[show decide (o.kind≤(13:Int))=false from h4];exact ab
  ·rw[show decide ((9:Int)≤o.kind)=false from h3];exact ab
abbrev xV(s:BA):aA:=.rows 1 [st s] true none 9
theorem Ce(s:BA):cE [st s]:=fun r hr=>by rw[aaD.1 hr];rfl
theorem kQ(b:Bool)(s t:BA):(cat b s t).size≤s.size+t.size:=by
 cases b with
 |false=>exact abj _ _
 |true=>exact abF (aI s t)
theorem rU(b:Bool)(s t:BA)(h:s.size+t.size≤9223372036854775807)(j nx:Nat)(hne:Nat.beq nx j=false):LC 142 [bo b,st t,.lp j 0 0] [(j,xV s)] nx fun r d=>r=.aK []∧d=[(j,some (xV (cat b s t))),(j,none)]:=by
 refine eK (js:=[j]) (bs:=[xV s]) (args:=[bo b,st t,.lp 0 0 0]) Tryz.func142 rfl rfl ?_ rfl ⟨⟨rfl,Ce s⟩,trivial⟩ rfl ?_
 ·unfold cf;rw[hne];rfl
 cases b with
 |false=>
  exact aa<|du<|kv (0,j) rfl rfl (Ce _)<|ar rfl
 |true=>
  exact ah<|ak.mk h<|du<|kv (0,j) rfl rfl (Ce _)<|ar rfl
theorem Ie(o:aw)(h:eM o):PC 65 [o.pv] (·=st o.put):=by
 refine al Tryz.func65<|af (iV o h) rfl ?_;unfold aw.put;cases hr:o.right with
 |false=>
  exact ah<|ab
 |true=>
 refine aa ?_;dsimp only;refine ay mS rfl<|aF<|cU.is _ (nu o.kind) ?_;cases hk:known o.kind with
 |none=>
  exfalso;unfold aw.right at hr;rw[hk]at hr;cases hr
 |some f=>
 dsimp only[Option.map];refine ar<|ax (ix o.kind)<|af (dj (av o.kind)) rfl ?_;have n0:=(bL (av o.kind)).2;have n1:=(bL o.id).2;have n2:=(bL o.n).2;have n3:=(d_ o.path).1;have n4:=iC o.v;have n5:=u6 h.x;have n6:=xB h.fA;have hp:=h.path;have z0:(an (av o.kind)).size≤10:=n0;generalize e0:an (av o.kind)=s0 at z0⊢;have z1:=kQ f.id s0 (an o.id);refine ay (dj o.id) rfl<|dy.bB [15] (n:=200) (rU f.id s0 (an o.id) (by omega) 15 _ rfl) rfl ⟨rfl,trivial⟩ ?_;refine ar ?_;generalize e1:cat f.id s0 (an o.id)=s1 at z1⊢;have z2:=kQ f.n s1 (an o.n);refine ay (dj o.n) rfl<|dy.bB [15] (n:=200) (rU f.n s1 (an o.n) (by omega) 15 _ rfl) rfl ⟨rfl,trivial⟩ ?_;refine ar ?_;generalize e2:cat f.n s1 (an o.n)=s2 at z2⊢;have z3:=kQ f.path s2 (bz o.path);refine ay (jY o.path (by omega)) rfl<|dy.bB [15] (n:=200) (rU f.path s2 (bz o.path) (by omega) 15 _ rfl) rfl ⟨rfl,trivial⟩ ?_;refine ar ?_;generalize e3:cat f.path s2 (bz o.path)=s3 at z3⊢;have z4:=kQ f.v s3 (cr o.v);refine ay (ou o.v) rfl<|dy.bB [15] (n:=200) (rU f.v s3 (cr o.v) (by omega) 15 _ rfl) rfl ⟨rfl,trivial⟩ ?_;refine ar ?_;generalize e4:cat f.v s3 (cr o.v)=s4 at z4⊢;have z5:=kQ f.x s4 (o.x.put);refine ay (I1 o.x h.x) rfl<|dy.bB [15] (n:=200) (rU f.x s4 (o.x.put) (by omega) 15 _ rfl) rfl ⟨rfl,trivial⟩ ?_;refine ar ?_;generalize e5:cat f.x s4 (o.x.put)=s5 at z5⊢;have z6:=kQ f.labels s5 (fB o.labels);refine ay (zY o.labels h.len h.fA) rfl<|dy.bB [15] (n:=200) (rU f.labels s5 (fB o.labels) (by omega) 15 _ rfl) rfl ⟨rfl,trivial⟩ ?_;refine ar ?_;generalize e6:cat f.labels s5 (fB o.labels)=s6 at z6⊢;refine⟨200,_,_,.inl rfl,?_⟩;subst e6 e5 e4 e3 e2 e1 e0;rfl
theorem V4.pF{x y:V4}(h:V4.same x y=true):x=y:=by
 unfold V4.same at h;simp only[abm,adH]at h;obtain⟨a,b,c,d⟩:=x;obtain⟨e,f,g,k⟩:=y;obtain⟨rfl,rfl,rfl,rfl⟩:=h;rfl
theorem uX{α:Type}{p:α→α→Bool}(hp:∀a b,p a b=true→a=b):∀{l m:List α},eQ p l m=true→l=m
 | [],[],_=>rfl
 | [],_::_,h=>by cases h
 |_::_,[],h=>by cases h
 |a::l,b::m,h=>by
  unfold eQ at h
  cases hab:p a b with
  |false=>rw[hab]at h;cases h
  |true=>
   rw[hab]at h
   rw[hp a b hab,uX hp (l:=l) (m:=m) h]
theorem Term.pF{a b:Term}(h:Term.same a b=true):a=b:=by
 obtain⟨k,n,v⟩:=a;obtain⟨k',n',v'⟩:=b;unfold Term.same at h;split at h
 ·cases h
 ·split at h
  ·cases h
  ·rename_i x1 h1 x2 h2;cases seq_eq h1;cases eq_of_beq h2;cases uX (fun _ _=>seq_eq) h;rfl
theorem Spec.pF{a b:Spec}(h:Spec.same a b=true):a=b:=by
 obtain⟨p,d,c,pr,t,l⟩:=a;obtain⟨p',d',c',pr',t',l'⟩:=b;unfold Spec.same at h;split at h
 ·cases h
 split at h
 ·cases h
 split at h
 ·cases h
 split at h
 ·cases h
 split at h
 ·cases h
 rename_i x1 h1 x2 h2 x3 h3 x4 h4 x5 h5;cases seq_eq h1;cases V4.pF h2;cases aat h3;cases aat h4;cases aat h5;cases uX (fun _ _=>Term.pF) h;rfl
theorem bM.pF{a b:bM}(h:bM.same a b=true):a=b:=by
 obtain⟨k,v⟩:=a;obtain⟨k',v'⟩:=b;unfold bM.same at h;simp only[abm]at h;cases seq_eq h.1;cases seq_eq h.2;rfl
theorem Uc{a b:aw}(hk:a.kind=b.kind)(h:a.same b=true):a=b:=by
 obtain⟨k,i,n,p,v,x,l⟩:=a;obtain⟨k',i',n',p',v',x',l'⟩:=b;unfold aw.same at h;split at h
 ·cases h
 split at h
 ·cases h
 split at h
 ·cases h
 split at h
 ·cases h
 split at h
 ·cases h
 rename_i x1 h1 x2 h2 x3 h3 x4 h4 x5 h5;cases hk;cases aat h1;cases aat h2;cases seq_eq h3;cases V4.pF h4;cases Spec.pF h5;cases uX (fun _ _=>bM.pF) h;rfl
theorem A5{k:Int}{f:fx}(h:known k=some f):1≤k∧k≤13:=by
 unfold known at h;rw[acx]at h;obtain⟨e,he,rfl⟩:=h;have hk:k=e.1:=aat (acs (p:=fun e:Int×fx=>decide (k=e.1)) he);have hm:=aaW he;unfold pn at hm;simp only[aaI,aaH,acQ]at hm;rcases hm with rfl|rfl|rfl|rfl|rfl|rfl|rfl|rfl|rfl|rfl|rfl|rfl|rfl<;>rw[hk]<;>exact⟨by decide,by decide⟩
structure AH(o:aw)(f:fx):Prop where
 k:known o.kind=some f
 bare:o.bare f=o
 CP:f.x=true→o.x.check=0
 path:o.path.size≤98
 fA:gl o.labels=true
theorem AJ{o:aw}(h:o.right=true):∃f,AH o f:=by
 unfold aw.right at h;cases hk:known o.kind with
 |none=>rw[hk]at h;cases h
 |some f=>
  rw[hk]at h;dsimp only at h;cases h1:o.same (o.bare f)with
  |false=>rw[h1]at h;cases h
  |true=>
   rw[h1]at h;dsimp only at h;cases h2:f.x&&!decide (o.x.check=0)with
   |true=>rw[h2]at h;cases h
   |false=>
    rw[h2]at h;dsimp only at h;cases h3:decide ((o.path.size:Int)≤98)with
    |false=>rw[h3]at h;cases h
    |true=>
     rw[h3]at h;refine⟨f,hk,(Uc (a:=o) (b:=o.bare f) rfl h1).symm,fun hx=>?_,by have:=aat h3;omega,h⟩;rw[hx]at h2;simpa using h2
structure sc(o:aw):Prop where
 x:o.x.nS
 fA:∀p∈o.labels,p.k.size≤32∧p.v.size≤32
theorem sc.sz{o:aw}{f:fx}(h:sc o)(hi:AH o f):eM o:=by
 refine⟨by have:=hi.path;omega,?_,by have:=se hi.fA;omega,fun p hp=>by have:=h.fA p hp;omega⟩;have hb:=hi.bare;cases hf:f.x with
 |true=>
  have hc:=hi.CP hf;exact h.x.sz (x6 hc).2.2.2.2.1
 |false=>
  have:o.x=Spec.z:=by
   rw[← hb];show o.x.bare f.x=_
   rw[hf];rfl
  rw[this];exact⟨by decide,by decide,fun t ht=>by cases ht⟩
theorem Ol{s:BA}{i:Nat}{o:aw}{f:fx}(h:At s i (o.bytes f))(hi:AH o f)(hr:o.right=true)(hs:s.size≤gk)(h32:sc o):PC 202 [st s,i64 (i:Nat)] (·=.aK [o.pv,i64 ((i+(o.bytes f).size:Nat):Int),bo true]):=by
 refine al Tryz.func202 ?_;have hR:=iV o (h32.sz hi);rw[hr]at hR;have hm:=KN hi.k;obtain⟨c,hc⟩:∃c:Nat,o.kind=(c:Int):=⟨o.kind.toNat,by have:=(A5 hi.k).1;omega⟩;have hc13:c≤13:=by have:=(A5 hi.k).2;omega
 have hK:=hi.k;have hB:=hi.bare;have hX:=hi.CP;have hL:=hi.fA;have hP:=hi.path;clear hi;obtain⟨k,id,n,path,v,x,labels⟩:=o;dsimp only at hc hK hB hX hL hP;subst hc;have k0:At s i (an (av (c:Int)))→PC 262 [st s,i64 (i:Nat)] (·=.aK [qF c,i64 ((i+(an (av (c:Int))).size:Nat):Int),bo true]):=fun h=>by
  have:=jF h hs;rw[pH (by omega)]at this;exact this
 have start:∀{k:Int→Prop},k (c:Int)→bN (IntKind.i64.wrap (c:Int)) k:=fun h=>bN.intro _ (wrap_i64 rfl (by omega)) h
 simp only[aaI,aaH,acQ]at hm;rcases hm with rfl|rfl|rfl|rfl|rfl|rfl|rfl|rfl
 ·have hb':(⟨(c:Int),0,0,aG,V4.z,x,[]⟩:aw)=⟨c,id,n,path,v,x,labels⟩:=hB;cases hb';have h:At s i (an (av (c:Int))++x.put):=h;have g0:At s i (an (av (c:Int))):=h.l;have g1:At s (i+(an (av (c:Int))).size) (x.put):=by
   have:=h.r;exact this
  have hz:i+(aw.bytes ⟨(c:Int),0,0,aG,V4.z,x,[]⟩ ⟨false,false,false,false,true,false⟩).size=i+(an (av (c:Int))).size+(x.put).size:=by
   show i+(an (av (c:Int))++x.put).size=_
   simp only[aI,abB]
  rw[hz];refine af (k0 g0) rfl<|ae.f (show¬(13:Int)<(c:Int)by omega)<|aa<|start<|ay mS rfl<|aF<|cU.is _ (nu c) ?_;rw[hK];exact ar<|aa<|aa<|aa<|aa<|ah<|af (Y8 g1 (hX rfl) hs h32.x) rfl<|aa<|af hR rfl<|aa<|ab
 ·have hb':(⟨(c:Int),id,0,aG,V4.z,Spec.z,[]⟩:aw)=⟨c,id,n,path,v,x,labels⟩:=hB;cases hb';have h:At s i (an (av (c:Int))++an id):=h;have g0:At s i (an (av (c:Int))):=h.l;have g1:At s (i+(an (av (c:Int))).size) (an id):=by
   have:=h.r;exact this
  have hz:i+(aw.bytes ⟨(c:Int),id,0,aG,V4.z,Spec.z,[]⟩ ⟨true,false,false,false,false,false⟩).size=i+(an (av (c:Int))).size+(an id).size:=by
   show i+(an (av (c:Int))++an id).size=_
   simp only[aI,abB]
  rw[hz];refine af (k0 g0) rfl<|ae.f (show¬(13:Int)<(c:Int)by omega)<|aa<|start<|ay mS rfl<|aF<|cU.is _ (nu c) ?_;rw[hK];exact ar<|ah<|af (jF (n:=id) g1 hs) rfl<|aa<|aa<|aa<|aa<|aa<|af hR rfl<|aa<|ab
 ·have hb':(⟨(c:Int),0,0,path,v,Spec.z,[]⟩:aw)=⟨c,id,n,path,v,x,labels⟩:=hB;cases hb';have h:At s i (an (av (c:Int))++bz path++cr v):=h;have g0:At s i (an (av (c:Int))):=h.l.l;have g1:At s (i+(an (av (c:Int))).size) (bz path):=by
   have:=h.l.r;exact this
  have g2:At s (i+(an (av (c:Int))).size+(bz path).size) (cr v):=by
   have:=h.r;simpa only[aI,abB]using this
  have hz:i+(aw.bytes ⟨(c:Int),0,0,path,v,Spec.z,[]⟩ ⟨false,false,true,true,false,false⟩).size=i+(an (av (c:Int))).size+(bz path).size+(cr v).size:=by
   show i+(an (av (c:Int))++bz path++cr v).size=_
   simp only[aI,abB]
  rw[hz];refine af (k0 g0) rfl<|ae.f (show¬(13:Int)<(c:Int)by omega)<|aa<|start<|ay mS rfl<|aF<|cU.is _ (nu c) ?_;rw[hK];exact ar<|aa<|aa<|ah<|af (oL (t:=path) (m:=98) g1 hs (by omega)) rfl<|ah<|af (xc (v:=v) g2 hs) rfl<|aa<|aa<|af hR rfl<|aa<|ab
 ·have hb':(⟨(c:Int),0,n,aG,V4.z,Spec.z,[]⟩:aw)=⟨c,id,n,path,v,x,labels⟩:=hB;cases hb';have h:At s i (an (av (c:Int))++an n):=h;have g0:At s i (an (av (c:Int))):=h.l;have g1:At s (i+(an (av (c:Int))).size) (an n):=by
   have:=h.r;exact this
  have hz:i+(aw.bytes ⟨(c:Int),0,n,aG,V4.z,Spec.z,[]⟩ ⟨false,true,false,false,false,false⟩).size=i+(an (av (c:Int))).size+(an n).size:=by
   show i+(an (av (c:Int))++an n).size=_
   simp only[aI,abB]
  rw[hz];refine af (k0 g0) rfl<|ae.f (show¬(13:Int)<(c:Int)by omega)<|aa<|start<|ay mS rfl<|aF<|cU.is _ (nu c) ?_;rw[hK];exact ar<|aa<|ah<|af (jF (n:=n) g1 hs) rfl<|aa<|aa<|aa<|aa<|af hR rfl<|aa<|ab
 ·have hb':(⟨(c:Int),0,0,path,V4.z,Spec.z,[]⟩:aw)=⟨c,id,n,path,v,x,labels⟩:=hB;cases hb';have h:At s i (an (av (c:Int))++bz path):=h;have g0:At s i (an (av (c:Int))):=h.l;have g1:At s (i+(an (av (c:Int))).size) (bz path):=by
   have:=h.r;exact this
  have hz:i+(aw.bytes ⟨(c:Int),0,0,path,V4.z,Spec.z,[]⟩ ⟨false,false,true,false,false,false⟩).size=i+(an (av (c:Int))).size+(bz path).size:=by
   show i+(an (av (c:Int))++bz path).size=_
   simp only[aI,abB]
  rw[hz];refine af (k0 g0) rfl<|ae.f (show¬(13:Int)<(c:Int)by omega)<|aa<|start<|ay mS rfl<|aF<|cU.is _ (nu c) ?_;rw[hK];exact ar<|aa<|aa<|ah<|af (oL (t:=path) (m:=98) g1 hs (by omega)) rfl<|aa<|aa<|aa<|af hR rfl<|aa<|ab
 ·have hb':(⟨(c:Int),0,0,aG,v,Spec.z,[]⟩:aw)=⟨c,id,n,path,v,x,labels⟩:=hB;cases hb';have h:At s i (an (av (c:Int))++cr v):=h;have g0:At s i (an (av (c:Int))):=h.l;have g1:At s (i+(an (av (c:Int))).size) (cr v):=by
   have:=h.r;exact this
  have hz:i+(aw.bytes ⟨(c:Int),0,0,aG,v,Spec.z,[]⟩ ⟨false,false,false,true,false,false⟩).size=i+(an (av (c:Int))).size+(cr v).size:=by
   show i+(an (av (c:Int))++cr v).size=_
   simp only[aI,abB]
  rw[hz];refine af (k0 g0) rfl<|ae.f (show¬(13:Int)<(c:Int)by omega)<|aa<|start<|ay mS rfl<|aF<|cU.is _ (nu c) ?_;rw[hK];exact ar<|aa<|aa<|aa<|ah<|af (xc (v:=v) g1 hs) rfl<|aa<|aa<|af hR rfl<|aa<|ab
 ·have hb':(⟨(c:Int),0,0,path,v,Spec.z,labels⟩:aw)=⟨c,id,n,path,v,x,labels⟩:=hB;cases hb';have h:At s i (an (av (c:Int))++bz path++cr v++fB labels):=h;have g0:At s i (an (av (c:Int))):=h.l.l.l;have g1:At s (i+(an (av (c:Int))).size) (bz path):=by
   have:=h.l.l.r;exact this
  have g2:At s (i+(an (av (c:Int))).size+(bz path).size) (cr v):=by
   have:=h.l.r;simpa only[aI,abB]using this
  have g3:At s (i+(an (av (c:Int))).size+(bz path).size+(cr v).size) (fB labels):=by
   have:=h.r;simpa only[aI,abB]using this
  have hz:i+(aw.bytes ⟨(c:Int),0,0,path,v,Spec.z,labels⟩ ⟨false,false,true,true,false,true⟩).size=i+(an (av (c:Int))).size+(bz path).size+(cr v).size+(fB labels).size:=by
   show i+(an (av (c:Int))++bz path++cr v++fB labels).size=_
   simp only[aI,abB]
  rw[hz];refine af (k0 g0) rfl<|ae.f (show¬(13:Int)<(c:Int)by omega)<|aa<|start<|ay mS rfl<|aF<|cU.is _ (nu c) ?_;rw[hK];exact ar<|aa<|aa<|ah<|af (oL (t:=path) (m:=98) g1 hs (by omega)) rfl<|ah<|af (xc (v:=v) g2 hs) rfl<|aa<|ah<|af (Rq g3 hL hs h32.fA) rfl<|af hR rfl<|aa<|ab
 ·have hb':(⟨(c:Int),0,0,aG,V4.z,Spec.z,[]⟩:aw)=⟨c,id,n,path,v,x,labels⟩:=hB;cases hb';have h:At s i (an (av (c:Int))):=h;have g0:At s i (an (av (c:Int))):=h;have hz:i+(aw.bytes ⟨(c:Int),0,0,aG,V4.z,Spec.z,[]⟩ ⟨false,false,false,false,false,false⟩).size=i+(an (av (c:Int))).size:=by
   show i+(an (av (c:Int))).size=_
   rfl
  rw[hz];refine af (k0 g0) rfl<|ae.f (show¬(13:Int)<(c:Int)by omega)<|aa<|start<|ay mS rfl<|aF<|cU.is _ (nu c) ?_;rw[hK];exact ar<|aa<|aa<|aa<|aa<|aa<|aa<|af hR rfl<|aa<|ab
def kU(x:Stream)(frm:UInt64)(q:Nat):List cK×UInt64:=pG x.first frm (x.l.take q) 0 ([],if frm<x.first then x.first else frm)
theorem GW(first frm:UInt64):∀(l:List cK) (m:List cK) (k:Nat) (p:List cK×UInt64),pG first frm (l++m) k p=pG first frm m (k+l.length) (pG first frm l k p)
 | [],_,_,_=>rfl
 |a::l,m,k,p=>by
  show pG first frm (l++m) (k+1) _=_
  rw[GW first frm l m (k+1)]
  rw[aaL,show k+(l.length+1)=k+1+l.length by omega]
  rfl
theorem Ig{x:Stream}{frm:UInt64}{q:Nat}{n:cK}(h:x.l[q]? = some n):kU x frm (q+1)=uu x.first frm q n (kU x frm q):=by
 unfold kU;rw[eC h,GW,aav,aax];obtain⟨hq,_⟩:=aaq.1 h;rw[abU (by omega)];rfl
theorem U5{first frm:UInt64}{k:Nat}{n:cK}{p:List cK×UInt64}(h:p.1.length≤8):(uu first frm k n p).1.length≤8:=by
 unfold uu;split
 ·exact h
 ·split
  ·exact h
  ·rename_i h1 h2;have:=aat h2;rw[aap];show p.1.length+1≤8
   omega
theorem Bl(x:Stream)(frm:UInt64):∀q,(kU x frm q).1.length≤8
 |0=>by show 0≤8;omega
 |q+1=>by
  cases h:x.l[q]? with
  |some n=>rw[Ig h];exact U5 (Bl x frm q)
  |none=>
   have:x.l.length≤q:=List.getElem?_eq_none_iff.1 h
   have e:kU x frm (q+1)=kU x frm q:=by
    unfold kU
    rw[aaQ (by omega),aaQ this]
   rw[e];exact Bl x frm q
theorem T9(a b:UInt64):(if((a.toNat:Nat):Int)>((b.toNat:Nat):Int)then((a.toNat:Nat):Int)else((b.toNat:Nat):Int))=(((if b<a then a else b:UInt64).toNat:Nat):Int):=by
 by_cases h:b<a
 ·have:=UInt64.lt_iff_toNat_lt.1 h;rw[abb h,abb (by omega)]
 ·have:¬b.toNat<a.toNat:=fun h'=>h (UInt64.lt_iff_toNat_lt.2 h')
  rw[abg h];by_cases e:((b.toNat:Nat):Int)<((a.toNat:Nat):Int)
  ·exact absurd (by omega) this
  ·exact abg e
theorem yv{k:Nat}(h:k<18446744073709551616):IntKind.u64.wrap (k:Int)=(k:Int):=by
 have:=ix (k:Int);rw[this,F6 h]
theorem wrap_add(a:UInt64)(k:Nat)(hk:k<18446744073709551616):IntKind.u64.wrap (((a.toNat:Nat):Int)+(k:Int))=(((a+UInt64.ofNat k).toNat:Nat):Int):=by
 rw[adM,show(UInt64.ofNat k).toNat=k from UInt64.toNat_ofNat_of_lt' hk];show(((a.toNat:Nat):Int)+(k:Int))%18446744073709551616=_
 omega
theorem xT(a:UInt64):IntKind.u64.wrap (((a.toNat:Nat):Int)+1)=(((a+1).toNat:Nat):Int):=by
 rw[adM];show(((a.toNat:Nat):Int)+1)%18446744073709551616=(((a.toNat+1)%18446744073709551616:Nat):Int)
 omega
theorem En(a b:UInt64):decide (((a.toNat:Nat):Int)≤((b.toNat:Nat):Int))=decide (a≤b):=by
 apply abq.2;rw[UInt64.le_iff_toNat_le,abS]
theorem Wc(x:Stream)(frm:UInt64)(hl:x.l.length≤67108864):PC 386 [x.pv,pu frm] (·=.aK [sl cK.pv (x.from frm).1,pu (x.from frm).2]):=by
 refine al Tryz.func386<|bN.intro (((if frm<x.first then x.first else frm:UInt64).toNat:Nat):Int) (T9 x.first frm)<|iO.grow [(4,3,248)] ⟨rfl,trivial⟩<|mb x.l.length (.of (kU x frm) (fun p=>[(4,.aH 12 0 p.1.length),(5,pu p.2)]) [1,2,14,15] (fun p=>[(12,.rows 3 (p.1.map cK.pv) true none 248)]) [0]) (fun _=>True) trivial ?_ (fun k hk hj=>?_) (fun hj=>?_)
 ·exact bY rfl (nz.bP _)
 ·obtain⟨n,hn⟩:=get_at hk;have hs:=Ig (frm:=frm) hn;have hL8:=Bl x frm k;generalize hL:kU x frm k=L at hs hL8;obtain⟨l,u⟩:=L;rw[bR hL];refine bx hn<|bN.intro (k:Int) (by show IntKind.u64.wrap (k:Int)=_;exact yv (by omega))<|ax (wrap_add x.first k (by omega)) ?_;unfold uu at hs;refine ae.is (decide (frm≤x.first+UInt64.ofNat k)) (En _ _) ?_;cases hc:decide (frm≤x.first+UInt64.ofNat k)with
  |false=>
   rw[hc]at hs;exact aa<|bA.of id hs trivial rfl<|bY rfl (nz.bP _)
  |true=>
   rw[hc]at hs;dsimp only at hs;refine ae.two (fun h8=>?_) (fun h8=>?_)
   ·have h8':(l.length:Int)<8:=aat h8;rw[aaB h8']at hs;refine ah<|db.l (ak.mk (dS nz l n (by omega)) ?_);exact ax (xT (x.first+UInt64.ofNat k))<|bA.of (sw 12 37) hs trivial rfl<|gS ⟨⟨by rw[aap];rfl,rfl⟩,⟨rfl,rfl⟩,trivial⟩ ⟨⟨BB.aO (by rw[aaC];rfl) (nz.bP _),rfl⟩,trivial⟩
   ·have h8':¬(l.length:Int)<8:=aaw h8;rw[aar h8']at hs;exact aa<|bA.of id hs trivial rfl<|bY rfl (nz.bP _)
 ·have hh:x.from frm=kU x frm x.l.length:=by unfold Stream.from kU;rw[aaM]
  rw[hh];generalize hL:kU x frm x.l.length=L;rw[bR hL];obtain⟨l,u⟩:=L;exact⟨l.length+100,_,_,.inl (aN (cT (l:=l) rfl rfl nz.br rfl rfl) rfl),rfl⟩
theorem E1(x:Stream)(frm:UInt64)(hl:x.l.length≤67108864):PC 368 [x.pv,pu frm] (·=(told x frm).pv):=al Tryz.func368<|af (Wc x frm hl) rfl<|ab
theorem XE(s:State)(o:aw)(hl:s.events.l.length≤67108864):PC 329 [s.pv,o.pv] (·=(told s.events o.n).pv):=al Tryz.func329<|af (E1 s.events o.n hl) rfl<|ab
theorem MM(s:State)(o:aw)(hl:s.cJ.l.length≤67108864):PC 330 [s.pv,o.pv] (·=(told s.cJ o.n).pv):=al Tryz.func330<|af (E1 s.cJ o.n hl) rfl<|ab
theorem Zz(s:State)(o:aw)(hl:s.tree.length≤67108864)(ho:eM o):PC 331 [s.pv,o.pv] (·=(yi s o).pv):=by
 refine al Tryz.func331 ?_;unfold yi;refine ae.two (fun h1=>?_) (fun h1=>?_)
 ·rw[show seq o.path aG=true from h1];refine aa<|af (Am s.tree o.path hl) rfl ?_;rcases dt s.tree o.path with⟨e,_|_⟩
  ·exact ah<|ab
  ·exact aa<|ab
 ·rw[show seq o.path aG=false from h1];refine af (vN o.path o.path ho.path) rfl ?_;cases mw o.path o.path with
  |false=>
   exact ah<|ab
  |true=>
   refine aa<|af (Am s.tree o.path hl) rfl ?_;rcases dt s.tree o.path with⟨e,_|_⟩
   ·exact ah<|ab
   ·exact aa<|ab
theorem U0(s:State)(o:aw)(hl:s.pool.nodes.length≤67108864)(hp:s.pool.places.length≤67108864):PC 332 [s.pv,o.pv] (·=(Ap s o).pv):=by
 refine al Tryz.func332 ?_;unfold Ap;refine af (Cl s.pool o.path hl) rfl ?_;rcases s.pool.find o.path with⟨⟨nm,cap,lb,up⟩,_|_⟩
 ·exact ah<|ab
 ·refine aa<|af (we s.pool o.path hl hp) rfl ?_;cases up with
  |false=>
   exact aa<|ab
  |true=>
   exact ah<|ab
theorem Qe(s:State)(o:aw){m:Nat}(h:s.Sz m)(hm:m≤60000000):PC 328 [s.pv,o.pv] (·=(status s o).pv):=by
 refine al Tryz.func328 ?_;unfold status;refine ae.is (decide (o.id=0)) (jP o.id 0) ?_;cases decide (o.id=0)with
 |true=>
  exact ah<|ab
 |false=>
  refine ae.is (decide (s.next≤o.id)) (En _ _) ?_;cases decide (s.next≤o.id)with
  |true=>
   exact ah<|ab
  |false=>
   refine aa<|af (sr s o.id (by have:=h.aj;omega)) rfl ?_;rcases bK s.aj o.id with⟨j,_|_⟩
   ·exact ah<|ab
   ·refine aa ?_;obtain⟨id,x,runs,left⟩:=j;cases runs with
    |true=>
     exact ah<|ax (ix left)<|ay (O0 s.pool o.id (by have:=h.places;omega)) rfl<|ar<|ab
    |false=>
     exact aa<|ay (xJ s.queue o.id (by have:=h.queue;omega)) rfl<|ax (ix _)<|ar<|ab
theorem WR(s:State){m:Nat}(h:s.Sz m)(hm:m≤30000000):PC 340 [s.pv] (·=s.place.pv):=by
 refine al Tryz.func340 ?_;refine cv.inv (ι:={p:Nat×fq//p.1≤128∧kP (128-p.1) p.2=kP 128 ⟨s,0⟩∧p.2.s.Sz (m+8*p.1)∧p.2.at_≤1000000}) ⟨fun p=>[(9,i64 p.1.1)],[2,3,4],fun p=>[(4,.rows 12 [p.1.2.pv] true none 467)],[1]⟩ (fun p=>128-p.1.1) ⟨(0,⟨s,0⟩),by show 0≤128;omega,rfl,h,by show 0≤1000000;omega⟩ ?_ ?_
 ·exact bC
 rintro⟨⟨k,u⟩,h1,h2,h3,h4⟩;dsimp only at h1 h2 h3 h4;refine ae.two (fun e1=>?_) (fun e1=>?_)
 ·have e1:k<128:=eg e1;refine ah<|af (Xh u h3 (by omega) h4) rfl ?_;have hsz:=EX h3 h4;rw[show 128-k=(128-(k+1))+1 by omega]at h2;have h2':(match u.next with|(w,true)=>kP (128-(k+1)) w|(w,false)=>w)=kP 128 ⟨s,0⟩:=h2;rcases hnx:u.next with⟨w,_|_⟩
  ·rw[hnx]at h2';have hw:w.s.pv=s.place.pv:=by unfold State.place;rw[← h2']
   exact ah<|⟨200,_,_,.inl rfl,hw⟩
  ·rw[hnx]at h2' hsz;refine aa<|ax (cO k)<|⟨⟨(k+1,w),e1,h2',by show w.s.Sz (m+8*(k+1));rw[Nat.mul_succ,← abB];exact hsz.1,hsz.2⟩,_root_.id,?_,?_⟩
   ·show 128-(k+1)<128-k;omega
   exact bC
 ·have e1:¬k<128:=jn e1;rw[show 128-k=0 by omega]at h2;have h2':u=kP 128 ⟨s,0⟩:=h2;have hw:u.s.pv=s.place.pv:=by unfold State.place;rw[← h2']
  exact aa<|⟨200,_,_,.inl rfl,hw⟩
theorem VZ(s:State){m:Nat}(h:s.Sz m)(hm:m≤30000000)(hL:s.Lf):PC 285 [s.pv] (·=s.tick.pv):=by
 refine al Tryz.func285<|af (aah s h (by omega) hL) rfl ?_;have hc:s.count.Sz m:=by
  have:=h.iU (running s).length;unfold iU at this;rw[aaM]at this;exact this
 exact af (WR s.count hc hm) rfl<|ab
abbrev qj(r:ph):PV:=.aK [r.1.pv,pu r.2.1,i64 r.2.2]
theorem Rb(s:State)(o:aw){m:Nat}(h:s.Sz m)(ho:eM o):PC 333 [s.pv,o.pv] (·=qj (s.ew o.x)):=al Tryz.func333<|af (W7 s o.x h ho.x) rfl<|ab
theorem XN(s:State)(o:aw){m:Nat}(h:s.Sz m)(hm:m≤50000000):PC 334 [s.pv,o.pv] (·=qj (cancel s o)):=al Tryz.func334<|af (BQ s o.id 4 h hm) rfl<|ar<|ab
theorem Ln(s:State)(o:aw)(hl:s.tree.length≤60000000)(ho:eM o):PC 336 [s.pv,o.pv] (·=qj (root s o)):=al Tryz.func336<|af (Qg s.tree o.path o.v hl ho.path) rfl<|ab
theorem SM(s:State)(o:aw)(hl:s.tree.length≤60000000)(ho:eM o):PC 335 [s.pv,o.pv] (·=qj (bu s o)):=by
 refine al Tryz.func335 ?_;unfold bu;refine ae.two (fun h1=>?_) (fun h1=>?_)
 ·rw[show seq o.path aG=true from h1];exact ah<|ab
 ·rw[show seq o.path aG=false from h1];exact aa<|af (Ln s o hl ho) rfl<|ab
theorem SX(s:State)(o:aw)(hl:s.pool.nodes.length≤60000000)(ho:eM o):PC 337 [s.pv,o.pv] (·=qj (addNode s o)):=al Tryz.func337<|af (U2 s.pool ⟨o.path,o.v,o.labels,false⟩ hl ⟨ho.path,ho.len,ho.fA⟩) rfl<|ab
theorem Pd(s:State)(o:aw)(hl:s.pool.nodes.length≤67108864):PC 339 [s.pv,o.pv] (·=qj (tf s o)):=al Tryz.func339<|af (ON s.pool o.path hl) rfl<|ab
theorem qd(o:aw):PC 286 [o.pv] (·=i64 o.kind):=al Tryz.func286<|ab
def kO(o:aw)(k:Nat):PV:=match k with
 |1=>.dq 400 (.agg (o.pv.cells++[.fn 333 []]))
 |2=>.dq 400 (.agg (o.pv.cells++[.fn 334 []]))
 |3=>.dq 400 (.agg (o.pv.cells++[.fn 335 []]))
 |4=>.dq 394 (.agg (o.pv.cells++[.fn 328 []]))
 |5=>.dq 394 (.agg (o.pv.cells++[.fn 329 []]))
 |6=>.dq 394 (.agg (o.pv.cells++[.fn 330 []]))
 |7=>.dq 394 (.agg (o.pv.cells++[.fn 331 []]))
 |8=>.dq 394 (.agg (o.pv.cells++[.fn 332 []]))
 |9=>.dq 400 (.agg (o.pv.cells++[.fn 336 []]))
 |10=>.dq 400 (.agg (o.pv.cells++[.fn 337 []]))
 |11=>.dq 400 (.agg (o.pv.cells++[.fn 338 []]))
 |12=>.dq 400 (.agg (o.pv.cells++[.fn 339 []]))
 |_=>.dq 396 (.agg o.pv.cells)
theorem L'(id n:UInt64)(path:BA)(v:V4)(x:Spec)(labels:List bM):PC 284 [(⟨1,id,n,path,v,x,labels⟩:aw).pv] (·=kO ⟨1,id,n,path,v,x,labels⟩ 1):=by
 refine al Tryz.func284<|aF<|aF<|aF<|aF<|aF<|aF<|aF<|aF<|aF<|aF<|aF<|aF<|aF ?_;exact cU.is none rfl<|ae.is _ rfl<|aa<|aF<|cU.is (some (.fn 333 [])) rfl<|ae.is _ rfl<|ah<|ab
theorem DU(id n:UInt64)(path:BA)(v:V4)(x:Spec)(labels:List bM):PC 284 [(⟨2,id,n,path,v,x,labels⟩:aw).pv] (·=kO ⟨2,id,n,path,v,x,labels⟩ 2):=by
 refine al Tryz.func284<|aF<|aF<|aF<|aF<|aF<|aF<|aF<|aF<|aF<|aF<|aF<|aF<|aF ?_;exact cU.is none rfl<|ae.is _ rfl<|aa<|aF<|cU.is (some (.fn 334 [])) rfl<|ae.is _ rfl<|ah<|ab
theorem KX(id n:UInt64)(path:BA)(v:V4)(x:Spec)(labels:List bM):PC 284 [(⟨3,id,n,path,v,x,labels⟩:aw).pv] (·=kO ⟨3,id,n,path,v,x,labels⟩ 3):=by
 refine al Tryz.func284<|aF<|aF<|aF<|aF<|aF<|aF<|aF<|aF<|aF<|aF<|aF<|aF<|aF ?_;exact cU.is none rfl<|ae.is _ rfl<|aa<|aF<|cU.is (some (.fn 335 [])) rfl<|ae.is _ rfl<|ah<|ab
theorem Pm(id n:UInt64)(path:BA)(v:V4)(x:Spec)(labels:List bM):PC 284 [(⟨4,id,n,path,v,x,labels⟩:aw).pv] (·=kO ⟨4,id,n,path,v,x,labels⟩ 4):=by
 refine al Tryz.func284<|aF<|aF<|aF<|aF<|aF<|aF<|aF<|aF<|aF<|aF<|aF<|aF<|aF ?_;exact cU.is (some (.fn 328 [])) rfl<|ae.is _ rfl<|ah<|ab
theorem TQ(id n:UInt64)(path:BA)(v:V4)(x:Spec)(labels:List bM):PC 284 [(⟨5,id,n,path,v,x,labels⟩:aw).pv] (·=kO ⟨5,id,n,path,v,x,labels⟩ 5):=by
 refine al Tryz.func284<|aF<|aF<|aF<|aF<|aF<|aF<|aF<|aF<|aF<|aF<|aF<|aF<|aF ?_;exact cU.is (some (.fn 329 [])) rfl<|ae.is _ rfl<|ah<|ab
theorem V9(id n:UInt64)(path:BA)(v:V4)(x:Spec)(labels:List bM):PC 284 [(⟨6,id,n,path,v,x,labels⟩:aw).pv] (·=kO ⟨6,id,n,path,v,x,labels⟩ 6):=by
 refine al Tryz.func284<|aF<|aF<|aF<|aF<|aF<|aF<|aF<|aF<|aF<|aF<|aF<|aF<|aF ?_;exact cU.is (some (.fn 330 [])) rfl<|ae.is _ rfl<|ah<|ab
theorem O6(id n:UInt64)(path:BA)(v:V4)(x:Spec)(labels:List bM):PC 284 [(⟨7,id,n,path,v,x,labels⟩:aw).pv] (·=kO ⟨7,id,n,path,v,x,labels⟩ 7):=by
 refine al Tryz.func284<|aF<|aF<|aF<|aF<|aF<|aF<|aF<|aF<|aF<|aF<|aF<|aF<|aF ?_;exact cU.is (some (.fn 331 [])) rfl<|ae.is _ rfl<|ah<|ab
theorem O'(id n:UInt64)(path:BA)(v:V4)(x:Spec)(labels:List bM):PC 284 [(⟨8,id,n,path,v,x,labels⟩:aw).pv] (·=kO ⟨8,id,n,path,v,x,labels⟩ 8):=by
 refine al Tryz.func284<|aF<|aF<|aF<|aF<|aF<|aF<|aF<|aF<|aF<|aF<|aF<|aF<|aF ?_;exact cU.is (some (.fn 332 [])) rfl<|ae.is _ rfl<|ah<|ab
theorem Dl(id n:UInt64)(path:BA)(v:V4)(x:Spec)(labels:List bM):PC 284 [(⟨9,id,n,path,v,x,labels⟩:aw).pv] (·=kO ⟨9,id,n,path,v,x,labels⟩ 9):=by
 refine al Tryz.func284<|aF<|aF<|aF<|aF<|aF<|aF<|aF<|aF<|aF<|aF<|aF<|aF<|aF ?_;exact cU.is none rfl<|ae.is _ rfl<|aa<|aF<|cU.is (some (.fn 336 [])) rfl<|ae.is _ rfl<|ah<|ab
theorem KZ(id n:UInt64)(path:BA)(v:V4)(x:Spec)(labels:List bM):PC 284 [(⟨10,id,n,path,v,x,labels⟩:aw).pv] (·=kO ⟨10,id,n,path,v,x,labels⟩ 10):=by
 refine al Tryz.func284<|aF<|aF<|aF<|aF<|aF<|aF<|aF<|aF<|aF<|aF<|aF<|aF<|aF ?_;exact cU.is none rfl<|ae.is _ rfl<|aa<|aF<|cU.is (some (.fn 337 [])) rfl<|ae.is _ rfl<|ah<|ab
theorem L4(id n:UInt64)(path:BA)(v:V4)(x:Spec)(labels:List bM):PC 284 [(⟨11,id,n,path,v,x,labels⟩:aw).pv] (·=kO ⟨11,id,n,path,v,x,labels⟩ 11):=by
 refine al Tryz.func284<|aF<|aF<|aF<|aF<|aF<|aF<|aF<|aF<|aF<|aF<|aF<|aF<|aF ?_;exact cU.is none rfl<|ae.is _ rfl<|aa<|aF<|cU.is (some (.fn 338 [])) rfl<|ae.is _ rfl<|ah<|ab
theorem Dd(id n:UInt64)(path:BA)(v:V4)(x:Spec)(labels:List bM):PC 284 [(⟨12,id,n,path,v,x,labels⟩:aw).pv] (·=kO ⟨12,id,n,path,v,x,labels⟩ 12):=by
 refine al Tryz.func284<|aF<|aF<|aF<|aF<|aF<|aF<|aF<|aF<|aF<|aF<|aF<|aF<|aF ?_;exact cU.is none rfl<|ae.is _ rfl<|aa<|aF<|cU.is (some (.fn 339 [])) rfl<|ae.is _ rfl<|ah<|ab
theorem Pf(id n:UInt64)(path:BA)(v:V4)(x:Spec)(labels:List bM):PC 284 [(⟨13,id,n,path,v,x,labels⟩:aw).pv] (·=kO ⟨13,id,n,path,v,x,labels⟩ 13):=by
 refine al Tryz.func284<|aF<|aF<|aF<|aF<|aF<|aF<|aF<|aF<|aF<|aF<|aF<|aF<|aF ?_;exact cU.is none rfl<|ae.is _ rfl<|aa<|aF<|cU.is none rfl<|ae.is _ rfl<|aa<|ab
abbrev rG(p:aW)(name:BA):Prop:=PC 373 [p.pv,st name] (·=.aK [(p.fail name).1.pv,sl eJ (p.fail name).2.1,i64 (p.fail name).2.2])
theorem zg:∀(l ks:List UInt64),(l.foldl (fun ks x=>if x∈ks then ks else ks++[x]) ks).length≤ks.length+l.length
 | [],_=>aas _
 |x::l,ks=>by
  refine aaJ (zg l _) ?_
  rw[aaL]
  dsimp only
  split
  ·omega
  ·rw[aap];show ks.length+1+l.length≤_;omega
theorem Wg(p:aW)(name:BA):(p.fail name).2.1.length≤p.places.length:=by
 unfold aW.fail;split
 ·exact aaF _
 ·show(gW (uG (met p name))).length≤_
  unfold gW;rw[List.length_mergeSort];refine aaJ (zg _ _) ?_;unfold met;rw[aao];exact aaJ (abF (aav _)) (abp ..)
def oT(s:State)(l:List UInt64)(q:Nat):State:=tj s (l.take q)
theorem U_{s:State}{l:List UInt64}{q:Nat}{x:UInt64}(h:l[q]? = some x):oT s l (q+1)=((oT s l q).stop x 6).1:=by
 unfold oT tj;rw[eC h,abw];rfl
theorem QF(p:aW)(name:BA):(p.fail name).1=(p.turn name false).1:=by
 unfold aW.fail;cases decide ((p.turn name false).2=0)<;>rfl
theorem Mo(s:State)(o:aw){m:Nat}(h:cB m s)(hm:m≤50000000)(hf:rG s.pool o.path):PC 338 [s.pv,o.pv] (·=qj (rD s o)):=by
 refine al Tryz.func338 ?_;have hn:=Wg s.pool o.path;have hpl:=h.sz.places;have hz:∀l,(tj {s with pool:=(s.pool.fail o.path).1} l).Sz m:=fun l=>by
  rw[QF];exact((h.turn o.path false).stops l).sz
 unfold rD;refine af hf rfl ?_;rcases hp:s.pool.fail o.path with⟨p,l,e⟩
 rw[hp]at hn hz;dsimp only at hn hz⊢;refine cW l.length ⟨fun _=>[],[2,4,9,23,24],fun q=>[(0,.rows 11 [(oT {s with pool:=p} l q).pv] true none 74)],[2]⟩ (fun _=>True) trivial ?_ (fun q hq _=>?_) (fun _=>?_)
 ·exact bC
 ·obtain⟨x,hx⟩:=get_at hq;refine bx hx<|af (yE (oT {s with pool:=p} l q) x 6 (hz _) hm) rfl ?_;have hnx:=U_ (s:={s with pool:=p}) hx;generalize(oT {s with pool:=p} l q).stop x 6=y at hnx⊢;refine bA.is id trivial rfl ?_;rw[← hnx];exact bC
 ·have ht:oT {s with pool:=p} l l.length=tj {s with pool:=p} l:=by unfold oT;rw[aaM]
  rw[← ht];exact ab
theorem On(s:State){id n:UInt64}{path:BA}{v:V4}{x:Spec}{labels:List bM}{m:Nat}(h:cB m s)(hm:m≤20000000)(ho:eM ⟨1,id,n,path,v,x,labels⟩)(hr:(⟨1,id,n,path,v,x,labels⟩:aw).right=true):PC 225 [s.pv,(⟨1,id,n,path,v,x,labels⟩:aw).pv] (·=.aK [(apply s ⟨1,id,n,path,v,x,labels⟩).1.pv,(apply s ⟨1,id,n,path,v,x,labels⟩).2.pv]):=by
 have hR:=iV ⟨1,id,n,path,v,x,labels⟩ ho;rw[hr]at hR;refine al Tryz.func225<|af hR rfl<|aa<|af (L' id n path v x labels) rfl<|aa<|aa<|af (L' id n path v x labels) rfl<|af (Rb s ⟨1,id,n,path,v,x,labels⟩ h.sz ho) rfl ?_;have e:apply s ⟨1,id,n,path,v,x,labels⟩=match s.ew x with|(t,id,e)=>match decide (e=0)with|false=>(s,.err e)|true=>({t with cJ:=tell t.cJ ⟨t.round,id,1⟩},{aP.z with id:=id}):=by unfold apply;rw[hr];rfl
 rw[e];have hok:cB m (s.ew x).1:=oV (o:=⟨1,id,n,path,v,x,labels⟩) h ho.x;rcases he:s.ew x with⟨t,i,e⟩
 rw[he]at hok;dsimp only at hok⊢;refine ae.two (fun h0=>?_) (fun h0=>?_)
 ·rw[show decide (e=0)=true from h0];exact aa<|ay (qd ⟨1,id,n,path,v,x,labels⟩) rfl<|ay (oM t.cJ ⟨t.round,i,1⟩ (by have:=hok.sz.au;omega)) rfl<|ar<|ab
 ·rw[show decide (e=0)=false from h0];exact ah<|ab
theorem OV(s:State){id n:UInt64}{path:BA}{v:V4}{x:Spec}{labels:List bM}{m:Nat}(h:cB m s)(hm:m≤20000000)(ho:eM ⟨2,id,n,path,v,x,labels⟩)(hr:(⟨2,id,n,path,v,x,labels⟩:aw).right=true):PC 225 [s.pv,(⟨2,id,n,path,v,x,labels⟩:aw).pv] (·=.aK [(apply s ⟨2,id,n,path,v,x,labels⟩).1.pv,(apply s ⟨2,id,n,path,v,x,labels⟩).2.pv]):=by
 have hR:=iV ⟨2,id,n,path,v,x,labels⟩ ho;rw[hr]at hR;refine al Tryz.func225<|af hR rfl<|aa<|af (DU id n path v x labels) rfl<|aa<|aa<|af (DU id n path v x labels) rfl<|af (XN s ⟨2,id,n,path,v,x,labels⟩ h.sz (by omega)) rfl ?_;have e:apply s ⟨2,id,n,path,v,x,labels⟩=match cancel s (⟨2,id,n,path,v,x,labels⟩:aw)with|(t,id,e)=>match decide (e=0)with|false=>(s,.err e)|true=>({t with cJ:=tell t.cJ ⟨t.round,id,2⟩},{aP.z with id:=id}):=by unfold apply;rw[hr];rfl
 rw[e];have hok:cB m (cancel s (⟨2,id,n,path,v,x,labels⟩:aw)).1:=oV (o:=⟨2,id,n,path,v,x,labels⟩) h ho.x;rcases he:cancel s (⟨2,id,n,path,v,x,labels⟩:aw)with⟨t,i,e⟩
 rw[he]at hok;dsimp only at hok⊢;refine ae.two (fun h0=>?_) (fun h0=>?_)
 ·rw[show decide (e=0)=true from h0];exact aa<|ay (qd ⟨2,id,n,path,v,x,labels⟩) rfl<|ay (oM t.cJ ⟨t.round,i,2⟩ (by have:=hok.sz.au;omega)) rfl<|ar<|ab
 ·rw[show decide (e=0)=false from h0];exact ah<|ab
theorem SN(s:State){id n:UInt64}{path:BA}{v:V4}{x:Spec}{labels:List bM}{m:Nat}(h:cB m s)(hm:m≤20000000)(ho:eM ⟨3,id,n,path,v,x,labels⟩)(hr:(⟨3,id,n,path,v,x,labels⟩:aw).right=true):PC 225 [s.pv,(⟨3,id,n,path,v,x,labels⟩:aw).pv] (·=.aK [(apply s ⟨3,id,n,path,v,x,labels⟩).1.pv,(apply s ⟨3,id,n,path,v,x,labels⟩).2.pv]):=by
 have hR:=iV ⟨3,id,n,path,v,x,labels⟩ ho;rw[hr]at hR;refine al Tryz.func225<|af hR rfl<|aa<|af (KX id n path v x labels) rfl<|aa<|aa<|af (KX id n path v x labels) rfl<|af (SM s ⟨3,id,n,path,v,x,labels⟩ (by have:=h.sz.tree;omega) ho) rfl ?_;have e:apply s ⟨3,id,n,path,v,x,labels⟩=match bu s (⟨3,id,n,path,v,x,labels⟩:aw)with|(t,id,e)=>match decide (e=0)with|false=>(s,.err e)|true=>({t with cJ:=tell t.cJ ⟨t.round,id,3⟩},{aP.z with id:=id}):=by unfold apply;rw[hr];rfl
 rw[e];have hok:cB m (bu s (⟨3,id,n,path,v,x,labels⟩:aw)).1:=oV (o:=⟨3,id,n,path,v,x,labels⟩) h ho.x;rcases he:bu s (⟨3,id,n,path,v,x,labels⟩:aw)with⟨t,i,e⟩
 rw[he]at hok;dsimp only at hok⊢;refine ae.two (fun h0=>?_) (fun h0=>?_)
 ·rw[show decide (e=0)=true from h0];exact aa<|ay (qd ⟨3,id,n,path,v,x,labels⟩) rfl<|ay (oM t.cJ ⟨t.round,i,3⟩ (by have:=hok.sz.au;omega)) rfl<|ar<|ab
 ·rw[show decide (e=0)=false from h0];exact ah<|ab
theorem Qb(s:State){id n:UInt64}{path:BA}{v:V4}{x:Spec}{labels:List bM}{m:Nat}(h:cB m s)(hm:m≤20000000)(ho:eM ⟨4,id,n,path,v,x,labels⟩)(hr:(⟨4,id,n,path,v,x,labels⟩:aw).right=true):PC 225 [s.pv,(⟨4,id,n,path,v,x,labels⟩:aw).pv] (·=.aK [(apply s ⟨4,id,n,path,v,x,labels⟩).1.pv,(apply s ⟨4,id,n,path,v,x,labels⟩).2.pv]):=by
 have hR:=iV ⟨4,id,n,path,v,x,labels⟩ ho;rw[hr]at hR;refine al Tryz.func225<|af hR rfl<|aa<|af (Pm id n path v x labels) rfl<|ah<|ay (Qe s ⟨4,id,n,path,v,x,labels⟩ h.sz (by omega)) rfl<|ar ?_;have e:apply s ⟨4,id,n,path,v,x,labels⟩=(s,qE s ⟨4,id,n,path,v,x,labels⟩):=by unfold apply;rw[hr];rfl
 rw[e];exact ab
theorem S3(s:State){id n:UInt64}{path:BA}{v:V4}{x:Spec}{labels:List bM}{m:Nat}(h:cB m s)(hm:m≤20000000)(ho:eM ⟨5,id,n,path,v,x,labels⟩)(hr:(⟨5,id,n,path,v,x,labels⟩:aw).right=true):PC 225 [s.pv,(⟨5,id,n,path,v,x,labels⟩:aw).pv] (·=.aK [(apply s ⟨5,id,n,path,v,x,labels⟩).1.pv,(apply s ⟨5,id,n,path,v,x,labels⟩).2.pv]):=by
 have hR:=iV ⟨5,id,n,path,v,x,labels⟩ ho;rw[hr]at hR;refine al Tryz.func225<|af hR rfl<|aa<|af (TQ id n path v x labels) rfl<|ah<|ay (XE s ⟨5,id,n,path,v,x,labels⟩ (by have:=h.sz.ev;omega)) rfl<|ar ?_;have e:apply s ⟨5,id,n,path,v,x,labels⟩=(s,qE s ⟨5,id,n,path,v,x,labels⟩):=by unfold apply;rw[hr];rfl
 rw[e];exact ab
theorem U9(s:State){id n:UInt64}{path:BA}{v:V4}{x:Spec}{labels:List bM}{m:Nat}(h:cB m s)(hm:m≤20000000)(ho:eM ⟨6,id,n,path,v,x,labels⟩)(hr:(⟨6,id,n,path,v,x,labels⟩:aw).right=true):PC 225 [s.pv,(⟨6,id,n,path,v,x,labels⟩:aw).pv] (·=.aK [(apply s ⟨6,id,n,path,v,x,labels⟩).1.pv,(apply s ⟨6,id,n,path,v,x,labels⟩).2.pv]):=by
 have hR:=iV ⟨6,id,n,path,v,x,labels⟩ ho;rw[hr]at hR;refine al Tryz.func225<|af hR rfl<|aa<|af (V9 id n path v x labels) rfl<|ah<|ay (MM s ⟨6,id,n,path,v,x,labels⟩ (by have:=h.sz.au;omega)) rfl<|ar ?_;have e:apply s ⟨6,id,n,path,v,x,labels⟩=(s,qE s ⟨6,id,n,path,v,x,labels⟩):=by unfold apply;rw[hr];rfl
 rw[e];exact ab
theorem Zv(s:State){id n:UInt64}{path:BA}{v:V4}{x:Spec}{labels:List bM}{m:Nat}(h:cB m s)(hm:m≤20000000)(ho:eM ⟨7,id,n,path,v,x,labels⟩)(hr:(⟨7,id,n,path,v,x,labels⟩:aw).right=true):PC 225 [s.pv,(⟨7,id,n,path,v,x,labels⟩:aw).pv] (·=.aK [(apply s ⟨7,id,n,path,v,x,labels⟩).1.pv,(apply s ⟨7,id,n,path,v,x,labels⟩).2.pv]):=by
 have hR:=iV ⟨7,id,n,path,v,x,labels⟩ ho;rw[hr]at hR;refine al Tryz.func225<|af hR rfl<|aa<|af (O6 id n path v x labels) rfl<|ah<|ay (Zz s ⟨7,id,n,path,v,x,labels⟩ (by have:=h.sz.tree;omega) ho) rfl<|ar ?_;have e:apply s ⟨7,id,n,path,v,x,labels⟩=(s,qE s ⟨7,id,n,path,v,x,labels⟩):=by unfold apply;rw[hr];rfl
 rw[e];exact ab
theorem ZT(s:State){id n:UInt64}{path:BA}{v:V4}{x:Spec}{labels:List bM}{m:Nat}(h:cB m s)(hm:m≤20000000)(ho:eM ⟨8,id,n,path,v,x,labels⟩)(hr:(⟨8,id,n,path,v,x,labels⟩:aw).right=true):PC 225 [s.pv,(⟨8,id,n,path,v,x,labels⟩:aw).pv] (·=.aK [(apply s ⟨8,id,n,path,v,x,labels⟩).1.pv,(apply s ⟨8,id,n,path,v,x,labels⟩).2.pv]):=by
 have hR:=iV ⟨8,id,n,path,v,x,labels⟩ ho;rw[hr]at hR;refine al Tryz.func225<|af hR rfl<|aa<|af (O' id n path v x labels) rfl<|ah<|ay (U0 s ⟨8,id,n,path,v,x,labels⟩ (by have:=h.sz.nodes;omega) (by have:=h.sz.places;omega)) rfl<|ar ?_;have e:apply s ⟨8,id,n,path,v,x,labels⟩=(s,qE s ⟨8,id,n,path,v,x,labels⟩):=by unfold apply;rw[hr];rfl
 rw[e];exact ab
theorem XY(s:State){id n:UInt64}{path:BA}{v:V4}{x:Spec}{labels:List bM}{m:Nat}(h:cB m s)(hm:m≤20000000)(ho:eM ⟨9,id,n,path,v,x,labels⟩)(hr:(⟨9,id,n,path,v,x,labels⟩:aw).right=true):PC 225 [s.pv,(⟨9,id,n,path,v,x,labels⟩:aw).pv] (·=.aK [(apply s ⟨9,id,n,path,v,x,labels⟩).1.pv,(apply s ⟨9,id,n,path,v,x,labels⟩).2.pv]):=by
 have hR:=iV ⟨9,id,n,path,v,x,labels⟩ ho;rw[hr]at hR;refine al Tryz.func225<|af hR rfl<|aa<|af (Dl id n path v x labels) rfl<|aa<|aa<|af (Dl id n path v x labels) rfl<|af (Ln s ⟨9,id,n,path,v,x,labels⟩ (by have:=h.sz.tree;omega) ho) rfl ?_;have e:apply s ⟨9,id,n,path,v,x,labels⟩=match root s (⟨9,id,n,path,v,x,labels⟩:aw)with|(t,id,e)=>match decide (e=0)with|false=>(s,.err e)|true=>({t with cJ:=tell t.cJ ⟨t.round,id,9⟩},{aP.z with id:=id}):=by unfold apply;rw[hr];rfl
 rw[e];have hok:cB m (root s (⟨9,id,n,path,v,x,labels⟩:aw)).1:=oV (o:=⟨9,id,n,path,v,x,labels⟩) h ho.x;rcases he:root s (⟨9,id,n,path,v,x,labels⟩:aw)with⟨t,i,e⟩
 rw[he]at hok;dsimp only at hok⊢;refine ae.two (fun h0=>?_) (fun h0=>?_)
 ·rw[show decide (e=0)=true from h0];exact aa<|ay (qd ⟨9,id,n,path,v,x,labels⟩) rfl<|ay (oM t.cJ ⟨t.round,i,9⟩ (by have:=hok.sz.au;omega)) rfl<|ar<|ab
 ·rw[show decide (e=0)=false from h0];exact ah<|ab
theorem SG(s:State){id n:UInt64}{path:BA}{v:V4}{x:Spec}{labels:List bM}{m:Nat}(h:cB m s)(hm:m≤20000000)(ho:eM ⟨10,id,n,path,v,x,labels⟩)(hr:(⟨10,id,n,path,v,x,labels⟩:aw).right=true):PC 225 [s.pv,(⟨10,id,n,path,v,x,labels⟩:aw).pv] (·=.aK [(apply s ⟨10,id,n,path,v,x,labels⟩).1.pv,(apply s ⟨10,id,n,path,v,x,labels⟩).2.pv]):=by
 have hR:=iV ⟨10,id,n,path,v,x,labels⟩ ho;rw[hr]at hR;refine al Tryz.func225<|af hR rfl<|aa<|af (KZ id n path v x labels) rfl<|aa<|aa<|af (KZ id n path v x labels) rfl<|af (SX s ⟨10,id,n,path,v,x,labels⟩ (by have:=h.sz.nodes;omega) ho) rfl ?_;have e:apply s ⟨10,id,n,path,v,x,labels⟩=match addNode s (⟨10,id,n,path,v,x,labels⟩:aw)with|(t,id,e)=>match decide (e=0)with|false=>(s,.err e)|true=>({t with cJ:=tell t.cJ ⟨t.round,id,10⟩},{aP.z with id:=id}):=by unfold apply;rw[hr];rfl
 rw[e];have hok:cB m (addNode s (⟨10,id,n,path,v,x,labels⟩:aw)).1:=oV (o:=⟨10,id,n,path,v,x,labels⟩) h ho.x;rcases he:addNode s (⟨10,id,n,path,v,x,labels⟩:aw)with⟨t,i,e⟩
 rw[he]at hok;dsimp only at hok⊢;refine ae.two (fun h0=>?_) (fun h0=>?_)
 ·rw[show decide (e=0)=true from h0];exact aa<|ay (qd ⟨10,id,n,path,v,x,labels⟩) rfl<|ay (oM t.cJ ⟨t.round,i,10⟩ (by have:=hok.sz.au;omega)) rfl<|ar<|ab
 ·rw[show decide (e=0)=false from h0];exact ah<|ab
theorem OY(s:State){id n:UInt64}{path:BA}{v:V4}{x:Spec}{labels:List bM}{m:Nat}(h:cB m s)(hm:m≤20000000)(ho:eM ⟨11,id,n,path,v,x,labels⟩)(hr:(⟨11,id,n,path,v,x,labels⟩:aw).right=true)(hf:rG s.pool path):PC 225 [s.pv,(⟨11,id,n,path,v,x,labels⟩:aw).pv] (·=.aK [(apply s ⟨11,id,n,path,v,x,labels⟩).1.pv,(apply s ⟨11,id,n,path,v,x,labels⟩).2.pv]):=by
 have hR:=iV ⟨11,id,n,path,v,x,labels⟩ ho;rw[hr]at hR;refine al Tryz.func225<|af hR rfl<|aa<|af (L4 id n path v x labels) rfl<|aa<|aa<|af (L4 id n path v x labels) rfl<|af (Mo s ⟨11,id,n,path,v,x,labels⟩ h (by omega) hf) rfl ?_;have e:apply s ⟨11,id,n,path,v,x,labels⟩=match rD s (⟨11,id,n,path,v,x,labels⟩:aw)with|(t,id,e)=>match decide (e=0)with|false=>(s,.err e)|true=>({t with cJ:=tell t.cJ ⟨t.round,id,11⟩},{aP.z with id:=id}):=by unfold apply;rw[hr];rfl
 rw[e];have hok:cB m (rD s (⟨11,id,n,path,v,x,labels⟩:aw)).1:=oV (o:=⟨11,id,n,path,v,x,labels⟩) h ho.x;rcases he:rD s (⟨11,id,n,path,v,x,labels⟩:aw)with⟨t,i,e⟩
 rw[he]at hok;dsimp only at hok⊢;refine ae.two (fun h0=>?_) (fun h0=>?_)
 ·rw[show decide (e=0)=true from h0];exact aa<|ay (qd ⟨11,id,n,path,v,x,labels⟩) rfl<|ay (oM t.cJ ⟨t.round,i,11⟩ (by have:=hok.sz.au;omega)) rfl<|ar<|ab
 ·rw[show decide (e=0)=false from h0];exact ah<|ab
theorem NR(s:State){id n:UInt64}{path:BA}{v:V4}{x:Spec}{labels:List bM}{m:Nat}(h:cB m s)(hm:m≤20000000)(ho:eM ⟨12,id,n,path,v,x,labels⟩)(hr:(⟨12,id,n,path,v,x,labels⟩:aw).right=true):PC 225 [s.pv,(⟨12,id,n,path,v,x,labels⟩:aw).pv] (·=.aK [(apply s ⟨12,id,n,path,v,x,labels⟩).1.pv,(apply s ⟨12,id,n,path,v,x,labels⟩).2.pv]):=by
 have hR:=iV ⟨12,id,n,path,v,x,labels⟩ ho;rw[hr]at hR;refine al Tryz.func225<|af hR rfl<|aa<|af (Dd id n path v x labels) rfl<|aa<|aa<|af (Dd id n path v x labels) rfl<|af (Pd s ⟨12,id,n,path,v,x,labels⟩ (by have:=h.sz.nodes;omega)) rfl ?_;have e:apply s ⟨12,id,n,path,v,x,labels⟩=match tf s (⟨12,id,n,path,v,x,labels⟩:aw)with|(t,id,e)=>match decide (e=0)with|false=>(s,.err e)|true=>({t with cJ:=tell t.cJ ⟨t.round,id,12⟩},{aP.z with id:=id}):=by unfold apply;rw[hr];rfl
 rw[e];have hok:cB m (tf s (⟨12,id,n,path,v,x,labels⟩:aw)).1:=oV (o:=⟨12,id,n,path,v,x,labels⟩) h ho.x;rcases he:tf s (⟨12,id,n,path,v,x,labels⟩:aw)with⟨t,i,e⟩
 rw[he]at hok;dsimp only at hok⊢;refine ae.two (fun h0=>?_) (fun h0=>?_)
 ·rw[show decide (e=0)=true from h0];exact aa<|ay (qd ⟨12,id,n,path,v,x,labels⟩) rfl<|ay (oM t.cJ ⟨t.round,i,12⟩ (by have:=hok.sz.au;omega)) rfl<|ar<|ab
 ·rw[show decide (e=0)=false from h0];exact ah<|ab
theorem T_(s:State){id n:UInt64}{path:BA}{v:V4}{x:Spec}{labels:List bM}{m:Nat}(h:cB m s)(hm:m≤20000000)(ho:eM ⟨13,id,n,path,v,x,labels⟩)(hr:(⟨13,id,n,path,v,x,labels⟩:aw).right=true):PC 225 [s.pv,(⟨13,id,n,path,v,x,labels⟩:aw).pv] (·=.aK [(apply s ⟨13,id,n,path,v,x,labels⟩).1.pv,(apply s ⟨13,id,n,path,v,x,labels⟩).2.pv]):=by
 have hR:=iV ⟨13,id,n,path,v,x,labels⟩ ho;rw[hr]at hR;refine al Tryz.func225<|af hR rfl<|aa<|af (Pf id n path v x labels) rfl<|aa<|ah<|af (VZ s h.sz (by omega) h.lf) rfl<|ar ?_;have e:apply s ⟨13,id,n,path,v,x,labels⟩=(s.tick,{aP.z with n:=s.tick.round}):=by unfold apply;rw[hr];rfl
 rw[e];exact ab
theorem Ps{k:Int}{f:fx}(h:known k=some f):k=1∨k=2∨k=3∨k=4∨k=5∨k=6∨k=7∨k=8∨k=9∨k=10∨k=11∨k=12∨k=13:=by
 have:=A5 h;omega
theorem W5(s:State)(o:aw){m:Nat}(h:cB m s)(hm:m≤20000000)(ho:eM o)(hf:o.kind=11→rG s.pool o.path):PC 225 [s.pv,o.pv] (·=.aK [(apply s o).1.pv,(apply s o).2.pv]):=by
 cases hr:o.right with
 |false=>
  refine al Tryz.func225 ?_;have hR:=iV o ho;rw[hr]at hR;refine af hR rfl ?_;have e:apply s o=(s,.err 2):=by unfold apply;rw[hr]
  rw[e];exact ah<|ab
 |true=>
 obtain⟨f,hi⟩:=AJ hr;have hk:=Ps hi.k;clear hi;obtain⟨k,id,n,path,v,x,labels⟩:=o;dsimp only at hk hf;rcases hk with rfl|rfl|rfl|rfl|rfl|rfl|rfl|rfl|rfl|rfl|rfl|rfl|rfl
 ·exact On s h hm ho hr
 ·exact OV s h hm ho hr
 ·exact SN s h hm ho hr
 ·exact Qb s h hm ho hr
 ·exact S3 s h hm ho hr
 ·exact U9 s h hm ho hr
 ·exact Zv s h hm ho hr
 ·exact ZT s h hm ho hr
 ·exact XY s h hm ho hr
 ·exact SG s h hm ho hr
 ·exact OY s h hm ho hr (hf rfl)
 ·exact NR s h hm ho hr
 ·exact T_ s h hm ho hr
def Bx(l:List QE)(k:Nat)(x:QE):Bool:=match x.oR with
 |true=>true
 |false=>match decide (ky l x.id=(k:Int))with
  |false=>true
  |true=>match k with
   |0=>false
   |k+1=>match l[k]? with
    |none=>false
    |some y=>!y.ahead x
def sm(l:List QE):Nat→List QE→Bool
 |_,[]=>decide (l.length≤32)
 |k,x::m=>match Bx l k x with
  |true=>false
  |false=>sm l (k+1) m
def nJ(l:List QE):Bool:=sm l 0 l
theorem XD(l:List QE){k:Nat}{x:QE}(h:l[k]? = some x):sm l k (l.drop k)=match Bx l k x with|true=>false|false=>sm l (k+1) (l.drop (k+1)):=by
 obtain⟨hlt,rfl⟩:=aaq.1 h;rw[aaX hlt];rfl
theorem WO(l:List QE)(hl:l.length≤1000000):PC 53 [sl QE.pv l] (·=bo (nJ l)):=by
 have hml:(l.map QE.pv).length=l.length:=aao ..;refine al Tryz.func53<|cW l.length ⟨fun _=>[],[0,5,6],fun _=>[],[]⟩ (fun q=>nJ l=sm l q (l.drop q)) rfl ?_ (fun q hq hj=>?_) (fun hj=>?_)
 ·exact bC
 ·obtain⟨x,hx⟩:=get_at hq;have hd:=XD l hx;have hw:=Mb x;have hp:=xJ l x.id (by omega);refine bx hx ?_;unfold Bx at hd;cases hb:x.oR with
  |true=>
   rw[hb]at hw hd;exact ay hw rfl<|ar<|ah<|⟨200,_,_,.inl rfl,(show bo false=bo (nJ l)by rw[hj,hd])⟩
  |false=>
   rw[hb]at hw hd;refine ay hw rfl<|ay hp rfl<|ae.is (decide (ky l x.id=(q:Int))) rfl ?_;cases hk:decide (ky l x.id=(q:Int))with
   |false=>
    rw[hk]at hd;exact ar<|ah<|⟨200,_,_,.inl rfl,(show bo false=bo (nJ l)by rw[hj,hd])⟩
   |true=>
    rw[hk]at hd;cases q with
    |zero=>
     exact ao<|ar<|aa<|bA.is id (hj.trans hd) rfl<|bC
    |succ q=>
     obtain⟨y,hy⟩:∃y,l[q]? = some y:=get_at (by omega);have ha:=Ia y x;dsimp only at hd;rw[hy]at hd;dsimp only at hd;refine ae.t (show(0:Int)<((q+1:Nat):Int)by omega)<|dH (q)<|bx hy<|ay ha rfl<|ar ?_;cases hay:y.ahead x with
     |true=>
      rw[hay]at hd;exact aa<|bA.is id (hj.trans hd) rfl<|bC
     |false=>
      rw[hay]at hd;exact ah<|⟨200,_,_,.inl rfl,(show bo false=bo (nJ l)by rw[hj,hd];rfl)⟩
 ·rw[aaR (aas _)]at hj;have hj:nJ l=decide (l.length≤32):=hj;exact ae.is (decide (l.length≤32)) (abq.2 (by omega))<|⟨200,_,_,.inl rfl,(show bo (decide (l.length≤32))=bo (nJ l)by rw[hj])⟩
def below(e x:aD):Bool:=match seq e.path aG with
 |true=>false
 |false=>seq (parent e.path) x.path
def yX(x:aD)(acc:V4)(e:aD):V4:=match below e x with
 |false=>acc
 |true=>(acc.add e.used).1
def oy(x:aD)(acc:V4):List aD→Option V4
 | []=>some acc
 |e::m=>match below e x with
  |false=>oy x acc m
  |true=>match acc.add e.used with
   |(_,false)=>none
   |(n,true)=>oy x n m
def og(t:List aD)(x:aD):Bool:=match oy x V4.z t with
 |none=>false
 |some v=>match x.used.fits x.bu with
  |false=>false
  |true=>v.fits x.used
def oI(t:List aD)(x:aD)(q:Nat):V4:=(t.take q).foldl (yX x) V4.z
theorem Oj{t:List aD}(x:aD){q:Nat}{e:aD}(h:t[q]? = some e):oI t x (q+1)=yX x (oI t x q) e:=by
 unfold oI;rw[eC h,abw];rfl
theorem Xr{t:List aD}(x:aD)(v:V4){q:Nat}{e:aD}(h:t[q]? = some e):oy x v (t.drop q)=match below e x with
 |false=>oy x v (t.drop (q+1))
 |true=>match v.add e.used with
  |(_,false)=>none
  |(n,true)=>oy x n (t.drop (q+1)):=by
 obtain⟨hlt,rfl⟩:=aaq.1 h
 rw[aaX hlt]
 rfl
theorem PU(t:List aD)(x:aD)(hl:t.length≤1000000)(hs:∀e∈t,e.path.size≤1000000):PC 124 [sl aD.pv t,x.pv] (·=bo (og t x)):=by
 refine al Tryz.func124<|cW t.length (.of (oI t x) (fun _=>[]) [3,5,10,11] (fun v=>[(2,.rows 4 [v.pv] true none 32)]) [0]) (fun q=>oy x V4.z t=oy x (oI t x q) (t.drop q)) rfl ?_ (fun q hq hj=>?_) (fun hj=>?_)
 ·exact bC
 ·obtain⟨e,he⟩:=get_at hq;have hn:=Oj x he;have hg:=Xr x (oI t x q) he;have hp:=zU e.path (hs e (aau he));generalize hv:oI t x q=v at hn hg hj;rw[bR hv];refine bx he ?_;unfold yX at hn;refine ae.two (fun h1=>?_) (fun h1=>?_)
  ·have hb:below e x=false:=by unfold below;rw[show seq e.path aG=true from h1]
   rw[hb]at hn hg;exact ar<|ah<|bA.of id hn (by rw[hn];exact hj.trans hg) rfl<|bC
  ·refine ay hp rfl<|ae.two (fun h2=>?_) (fun h2=>?_)
   ·have hb:below e x=true:=by unfold below;rw[show seq e.path aG=false from h1];exact h2
    rw[hb]at hn hg;refine ar<|aa<|af (qK v e.used) rfl ?_;rcases hw:v.add e.used with⟨w,_|_⟩
    ·rw[hw]at hg;exact ah<|⟨200,_,_,.inl rfl,(show bo false=bo (og t x)by unfold og;rw[hj,hg])⟩
    ·rw[hw]at hg hn;exact aa<|bA.of id hn (by rw[hn];exact hj.trans hg) rfl<|bC
   ·have hb:below e x=false:=by unfold below;rw[show seq e.path aG=false from h1];exact h2
    rw[hb]at hn hg;exact ar<|ah<|bA.of id hn (by rw[hn];exact hj.trans hg) rfl<|bC
 ·rw[aaR (aas _)]at hj;generalize hv:oI t x t.length=v at hj;have hj:oy x V4.z t=some v:=hj;rw[bR hv];have hh:og t x=match x.used.fits x.bu with|false=>false|true=>v.fits x.used:=by unfold og;rw[hj]
  rw[hh];refine af (rI x.used x.bu) rfl ?_;cases hf:x.used.fits x.bu with
  |false=>exact ab
  |true=>
   exact af (rI v x.used) rfl<|ab
def sle(a b:BA):Bool:=dL a b||seq a b
def DR(t:List aD)(y e:aD):Bool:=match sle e.path y.path with
 |true=>true
 |false=>match named e.path with
  |false=>true
  |true=>decide (eR t (parent e.path)<0)
def yQ(t:List aD)(k:Nat)(e:aD):Bool:=match k with
 |0=>false
 |k+1=>match t[k]? with
  |none=>false
  |some y=>DR t y e
def k_(t:List aD):Nat→List aD→Bool
 |_,[]=>!t.any fun x=>!og t x
 |k,x::m=>match yQ t k x with
  |true=>false
  |false=>k_ t (k+1) m
def sP:List aD→Bool
 | []=>false
 |e::m=>match decide (16<(e::m).length)with
  |true=>false
  |false=>match seq e.path aG with
   |false=>false
   |true=>k_ (e::m) 0 (e::m)
theorem Qp(t:List aD){k:Nat}{x:aD}(h:t[k]? = some x):k_ t k (t.drop k)=match yQ t k x with|true=>false|false=>k_ t (k+1) (t.drop (k+1)):=by
 obtain⟨hlt,rfl⟩:=aaq.1 h;rw[aaX hlt];rfl
theorem Ri(t:List aD)(x:aD)(hl:t.length≤1000000)(hs:∀e∈t,e.path.size≤1000000):PC 123 [x.pv,.ip [sl aD.pv t] 0] (·=bo (!og t x)):=al Tryz.func123<|af (PU t x hl hs) rfl<|ab
theorem OJ(t:List aD)(hl:t.length≤1000000)(hs:∀e∈t,e.path.size≤1000000):PC 52 [sl aD.pv t] (·=bo (sP t)):=by
 rcases ht:t with _|⟨e0,m0⟩
 ·exact al Tryz.func52<|cH<|ah<|ab
 have hml:(t.map aD.pv).length=t.length:=aao ..;have h1:1≤t.length:=by rw[ht,aaL];omega
 have h0:t[0]? = some e0:=by rw[ht];rfl
 have hr:sP t=match decide (16<t.length)with
  |true=>false
  |false=>match seq e0.path aG with
   |false=>false
   |true=>k_ t 0 t:=by rw[ht];rfl
 rw[← ht];refine al Tryz.func52<|ae.f (show¬(((t.map aD.pv).length:Nat):Int)<1 by omega) ?_;refine ae.is (decide (16<t.length)) (abq.2 (by omega)) ?_;cases h16:decide (16<t.length)with
 |true=>
  rw[h16]at hr;rw[hr];exact ah<|ab
 |false=>
 rw[h16]at hr;refine bx (i:=0) h0<|ae.is (seq e0.path aG) rfl ?_;cases hq:seq e0.path aG with
 |false=>
  rw[hq]at hr;rw[hr];exact ah<|ab
 |true=>
 rw[hq]at hr;have hr:sP t=k_ t 0 t:=hr;rw[hr];refine aa<|cW t.length ⟨fun _=>[],[1,20,21],fun _=>[],[0]⟩ (fun q=>k_ t 0 t=k_ t q (t.drop q)) rfl ?_ (fun q hq hj=>?_) (fun hj=>?_)
 ·exact bC
 ·obtain⟨x,hx⟩:=get_at hq;have hd:=Qp t hx;have hxs:=hs x (aau hx);have hnm:=Bw x.path hxs;have hpa:=zU x.path hxs;have hat:=rH t (parent x.path) (by omega);refine bx hx ?_;cases q with
  |zero=>
   exact ao<|ar<|aa<|bA.is id (hj.trans hd) rfl<|bC
  |succ q=>
   obtain⟨y,hy⟩:∃y,t[q]? = some y:=get_at (by omega);unfold yQ at hd;dsimp only at hd;rw[hy]at hd;dsimp only at hd;unfold DR at hd;refine ae.t (show(0:Int)<((q+1:Nat):Int)by omega)<|dH (q)<|bx hy<|ae.is (sle x.path y.path) rfl ?_;cases hle:sle x.path y.path with
   |true=>
    rw[hle]at hd;exact ar<|ah<|⟨200,_,_,.inl rfl,(show bo false=bo (k_ t 0 t)by rw[hj,hd])⟩
   |false=>
   rw[hle]at hd;cases hna:named x.path with
   |false=>
    rw[hna]at hd hnm;exact ay hnm rfl<|ar<|ah<|⟨200,_,_,.inl rfl,(show bo false=bo (k_ t 0 t)by rw[hj,hd])⟩
   |true=>
   rw[hna]at hd hnm;refine ay hnm rfl<|ay hpa rfl<|ay hat rfl<|ae.is (decide (eR t (parent x.path)<0)) rfl<|ar ?_;cases hta:decide (eR t (parent x.path)<0)with
   |true=>
    rw[hta]at hd;exact ah<|⟨200,_,_,.inl rfl,(show bo false=bo (k_ t 0 t)by rw[hj,hd])⟩
   |false=>
    rw[hta]at hd;exact aa<|bA.is id (hj.trans hd) rfl<|bC
 ·rw[aaR (aas _)]at hj;have hj:k_ t 0 t=!t.any fun x=>!og t x:=hj
  have hc:=Lk cA.one t (fun x=>!og t x) (by omega) fun x _=>Ri t x hl hs
  rw[hj];exact af hc rfl<|ab
def G9(p:aW)(k:Nat)(n:Node):Bool:=match k with
 |0=>false
 |k+1=>match p.nodes[k]? with
  |none=>false
  |some y=>sle n.name y.name
def Bt(p:aW)(k:Nat)(n:Node):Bool:=match(p.free n.name).2 with
 |false=>true
 |true=>match cQ n.name with
  |false=>true
  |true=>match gl n.labels with
   |false=>true
   |true=>G9 p k n
def sH(p:aW):Nat→List Node→Bool
 |_,[]=>match decide (p.nodes.length≤16)with
  |false=>false
  |true=>!p.places.any fun x=>decide (p.at x.node<0)
 |k,x::m=>match Bt p k x with
  |true=>false
  |false=>sH p (k+1) m
def nI(p:aW):Bool:=sH p 0 p.nodes
theorem VA(p:aW){k:Nat}{x:Node}(h:p.nodes[k]? = some x):sH p k (p.nodes.drop k)=match Bt p k x with|true=>false|false=>sH p (k+1) (p.nodes.drop (k+1)):=by
 obtain⟨hlt,rfl⟩:=aaq.1 h;rw[aaX hlt];rfl
theorem OG(p:aW)(x:Place)(hl:p.nodes.length≤1000000):PC 118 [x.pv,.ip [sl Node.pv p.nodes,sl Place.pv p.places] 0] (·=bo (decide (p.at x.node<0))):=al Tryz.func118<|af (vp p x.node (by omega)) rfl<|ae.is (decide (p.at x.node<0)) rfl<|ab
theorem PL(p:aW)(hl:p.nodes.length≤1000000)(hp:p.places.length≤1000000)(hs:∀n∈p.nodes,n.name.size≤1000000∧n.labels.length≤67108864∧∀q∈n.labels,q.k.size≤1000000∧q.v.size≤1000000):PC 51 [p.pv] (·=bo (nI p)):=by
 have hml:(p.nodes.map Node.pv).length=p.nodes.length:=aao ..;refine al Tryz.func51<|cW p.nodes.length ⟨fun _=>[],[1,9,10],fun _=>[],[0]⟩ (fun q=>nI p=sH p q (p.nodes.drop q)) rfl ?_ (fun q hq hj=>?_) (fun hj=>?_)
 ·exact bC
 ·obtain⟨x,hx⟩:=get_at hq;have hd:=VA p hx;obtain⟨s1,s2,s3⟩:=hs x (aau hx);have hfr:=we p x.name (by omega) (by omega);have hwr:=mm x.name (by omega);have hlr:=rZ x.labels s2 s3;unfold Bt at hd;refine bx hx ?_;rcases hf:p.free x.name with⟨v,_|_⟩
  ·rw[hf]at hd hfr;exact af hfr rfl<|ar<|ah<|⟨200,_,_,.inl rfl,(show bo false=bo (nI p)by rw[hj,hd])⟩
  rw[hf]at hd hfr;refine af hfr rfl ?_;cases hw:cQ x.name with
  |false=>
   rw[hw]at hd hwr;exact ay hwr rfl<|ar<|ah<|⟨200,_,_,.inl rfl,(show bo false=bo (nI p)by rw[hj,hd])⟩
  |true=>
  rw[hw]at hd hwr;refine ay hwr rfl ?_;cases hlb:gl x.labels with
  |false=>
   rw[hlb]at hd hlr;exact ay hlr rfl<|ar<|ah<|⟨200,_,_,.inl rfl,(show bo false=bo (nI p)by rw[hj,hd])⟩
  |true=>
  rw[hlb]at hd hlr;refine ay hlr rfl ?_;cases q with
  |zero=>
   exact ao<|ar<|aa<|bA.is id (hj.trans hd) rfl<|bC
  |succ q=>
   obtain⟨y,hy⟩:∃y,p.nodes[q]? = some y:=get_at (by omega);unfold G9 at hd;dsimp only at hd;rw[hy]at hd;dsimp only at hd;refine ae.t (show(0:Int)<((q+1:Nat):Int)by omega)<|dH (q)<|bx hy<|ae.is (sle x.name y.name) rfl<|ar ?_;cases hle:sle x.name y.name with
   |true=>
    rw[hle]at hd;exact ah<|⟨200,_,_,.inl rfl,(show bo false=bo (nI p)by rw[hj,hd])⟩
   |false=>
    rw[hle]at hd;exact aa<|bA.is id (hj.trans hd) rfl<|bC
 ·rw[aaR (aas _)]at hj;have hj:nI p=match decide (p.nodes.length≤16)with|false=>false|true=>!p.places.any fun x=>decide (p.at x.node<0):=hj
  have hc:=Tu (g:=118) cA.one p.places (fun x=>decide (p.at x.node<0)) (by omega) fun x _=>OG p x hl
  rw[hj];refine ae.is (decide (p.nodes.length≤16)) (abq.2 (by omega)) ?_;cases decide (p.nodes.length≤16)with
  |false=>exact ab
  |true=>
   exact af hc rfl<|ab
def nE(s:State)(q:Nat):Nat:=((s.aj.take q).filter fun j=>!j.runs).length
def State.waits(s:State):Nat:=(s.aj.filter fun j=>!j.runs).length
theorem ZA{s:State}{q:Nat}{x:az}(h:s.aj[q]? = some x):nE s (q+1)=match x.runs with|true=>nE s q|false=>nE s q+1:=by
 unfold nE;rw[eC h,acv];cases hr:x.runs with
 |true=>simp[hr]
 |false=>simp[hr]
theorem TM(s:State)(hl:s.aj.length≤1000000):PC 55 [s.pv] (·=i64 (s.waits:Nat)):=by
 refine al Tryz.func55<|cW s.aj.length (.of (nE s) (fun n=>[(3,i64 (n:Nat))]) [8,9] (fun _=>[]) []) (fun _=>True) trivial ?_ (fun q hq hj=>?_) (fun hj=>?_)
 ·exact bC
 ·obtain⟨x,hx⟩:=get_at hq;have hn:=ZA hx;have hle:nE s q≤q:=by
   unfold nE;exact aaJ (abp ..) (by rw[aax];omega)
  generalize hv:nE s q=n at hn hle;rw[bR hv];refine bx hx ?_;obtain⟨jid,jx,jr,jl⟩:=x;cases jr with
  |true=>
   exact aa<|bA.of id hn trivial rfl<|bC
  |false=>
   exact ah<|ax (cO n)<|bA.of id hn trivial rfl<|bC
 ·have hh:s.waits=nE s s.aj.length:=by unfold State.waits nE;rw[aaM]
  rw[hh];exact ab
def mI(e:aD)(j:az):Bool:=match j.runs with
 |false=>true
 |true=>match seq e.path aG with
  |true=>false
  |false=>!mw e.path j.x.path
def xY(e:aD)(acc:V4)(j:az):V4:=match mI e j with
 |true=>acc
 |false=>(acc.add j.x.total.1).1
def km(e:aD)(acc:V4):List az→Option V4
 | []=>some acc
 |j::m=>match mI e j with
  |true=>km e acc m
  |false=>match j.x.total with
   |(_,false)=>none
   |(v,true)=>match acc.add v with
    |(_,false)=>none
    |(n,true)=>km e n m
def State.jS(s:State)(e:aD):Bool:=match km e V4.z s.aj with
 |none=>false
 |some v=>V4.same v e.used
def pA(s:State)(e:aD)(q:Nat):V4:=(s.aj.take q).foldl (xY e) V4.z
theorem NE{s:State}(e:aD){q:Nat}{j:az}(h:s.aj[q]? = some j):pA s e (q+1)=xY e (pA s e q) j:=by
 unfold pA;rw[eC h,abw];rfl
theorem ND{l:List az}(e:aD)(v:V4){q:Nat}{j:az}(h:l[q]? = some j):km e v (l.drop q)=match mI e j with
 |true=>km e v (l.drop (q+1))
 |false=>match j.x.total with
  |(_,false)=>none
  |(w,true)=>match v.add w with
   |(_,false)=>none
   |(n,true)=>km e n (l.drop (q+1)):=by
 obtain⟨hlt,rfl⟩:=aaq.1 h
 rw[aaX hlt]
 rfl
theorem UW(s:State)(e:aD)(hl:s.aj.length≤1000000)(hs:∀j∈s.aj,j.x.path.size≤1000000):PC 59 [s.pv,e.pv] (·=bo (s.jS e)):=by
 refine al Tryz.func59<|cW s.aj.length (.of (pA s e) (fun _=>[]) [2,3,5,14,15] (fun v=>[(3,.rows 4 [v.pv] true none 32)]) [0,1]) (fun q=>km e V4.z s.aj=km e (pA s e q) (s.aj.drop q)) rfl ?_ (fun q hq hj=>?_) (fun hj=>?_)
 ·exact bC
 ·obtain⟨j,hx⟩:=get_at hq;have hn:=NE e hx;have hg:=ND e (pA s e q) hx;have hun:=vN e.path j.x.path (hs j (aau hx));have htot:=tC j.x;generalize hv:pA s e q=v at hn hg hj;rw[bR hv];refine bx hx ?_;unfold xY at hn;obtain⟨jid,jx,jr,jl⟩:=j;dsimp only at hn hg hun htot;cases jr with
  |false=>
   have hb:mI e ⟨jid,jx,false,jl⟩=true:=rfl;rw[hb]at hn hg;exact ah<|bA.of id hn (by rw[hn];exact hj.trans hg) rfl<|bC
  |true=>
  refine ae.two (fun h1=>?_) (fun h1=>?_)
  ·have hb:mI e ⟨jid,jx,true,jl⟩=false:=by unfold mI;dsimp only;rw[show seq e.path aG=true from h1]
   rw[hb]at hn hg;refine aa ?_;rcases ht:jx.total with⟨w,_|_⟩
   ·rw[ht]at htot hn hg;have hg:km e v (s.aj.drop q)=none:=hg;refine af htot rfl<|af (qK v w) rfl ?_;rcases v.add w with⟨u,o⟩
    exact ah<|⟨200,_,_,.inl rfl,(show bo false=bo (s.jS e)by unfold State.jS;rw[hj,hg])⟩
   ·rw[ht]at htot hn hg;dsimp only at hn hg;refine af htot rfl<|af (qK v w) rfl ?_;rcases ha:v.add w with⟨u,_|_⟩
    ·rw[ha]at hg;have hg:km e v (s.aj.drop q)=none:=hg;exact ah<|⟨200,_,_,.inl rfl,(show bo false=bo (s.jS e)by unfold State.jS;rw[hj,hg])⟩
    ·rw[ha]at hg hn;exact aa<|bA.of id hn (by rw[hn];exact hj.trans hg) rfl<|bC
  ·cases hw:mw e.path jx.path with
   |false=>
    have hb:mI e ⟨jid,jx,true,jl⟩=true:=by unfold mI;dsimp only;rw[show seq e.path aG=false from h1,hw];rfl
    rw[hb]at hn hg;rw[hw]at hun;exact af hun rfl<|ah<|bA.of id hn (by rw[hn];exact hj.trans hg) rfl<|bC
   |true=>
    have hb:mI e ⟨jid,jx,true,jl⟩=false:=by unfold mI;dsimp only;rw[show seq e.path aG=false from h1,hw];rfl
    rw[hb]at hn hg;rw[hw]at hun;refine af hun rfl<|aa ?_;rcases ht:jx.total with⟨w,_|_⟩
    ·rw[ht]at htot hn hg;have hg:km e v (s.aj.drop q)=none:=hg;refine af htot rfl<|af (qK v w) rfl ?_;rcases v.add w with⟨u,o⟩
     exact ah<|⟨200,_,_,.inl rfl,(show bo false=bo (s.jS e)by unfold State.jS;rw[hj,hg])⟩
    ·rw[ht]at htot hn hg;dsimp only at hn hg;refine af htot rfl<|af (qK v w) rfl ?_;rcases ha:v.add w with⟨u,_|_⟩
     ·rw[ha]at hg;have hg:km e v (s.aj.drop q)=none:=hg;exact ah<|⟨200,_,_,.inl rfl,(show bo false=bo (s.jS e)by unfold State.jS;rw[hj,hg])⟩
     ·rw[ha]at hg hn;exact aa<|bA.of id hn (by rw[hn];exact hj.trans hg) rfl<|bC
 ·rw[aaR (aas _)]at hj;generalize hv:pA s e s.aj.length=v at hj;have hj:km e V4.z s.aj=some v:=hj;rw[bR hv];have hh:s.jS e=V4.same v e.used:=by unfold State.jS;rw[hj]
  rw[hh];exact ae.is (V4.same v e.used) (wP _ _)<|ab
def y'(s:State)(k:Nat)(j:az):Bool:=match k with
 |0=>false
 |k+1=>match s.aj[k]? with
  |none=>false
  |some y=>decide (j.id.toNat≤y.id.toNat)
def State.ub(s:State)(k:Nat)(j:az):Bool:=
 match decide (j.id.toNat<1)with
 |true=>false
 |false=>match decide (s.next.toNat≤j.id.toNat)with
  |true=>false
  |false=>match y' s k j with
   |true=>false
   |false=>match decide (j.x.check=0)with
    |false=>false
    |true=>match there s.tree j.x.path with
     |false=>false
     |true=>match j.runs with
      |true=>match decide (1≤j.left)with
       |false=>false
       |true=>decide (j.left≤j.x.cN)
      |false=>match decide (j.left=0)with
       |false=>false
       |true=>s.queue.any fun y=>(⟨j.id,j.x.prio⟩:QE).same y
theorem Tz(s:State)(jid:UInt64)(jx:Spec)(jl:Int)(hq:s.queue.length≤1000000):PC 130 [sl QE.pv s.queue,(⟨jid,jx.prio⟩:QE).pv] (·=bo (s.queue.any fun y=>(⟨jid,jx.prio⟩:QE).same y)):=Ud s.queue ⟨jid,jx.prio⟩ (by omega)
theorem Tw(s:State)(k:Nat)(j:az)(hk:k≤s.aj.length)(hl:s.aj.length≤1000000)(hq:s.queue.length≤1000000)(ht:s.tree.length≤1000000)(hx:j.x.Sz):PC 54 [s.pv,i64 (k:Nat),j.pv] (·=bo (s.ub k j)):=by
 obtain⟨jid,jx,jr,jl⟩:=j;dsimp only at hx;have hck:=tH jx hx;have hth:=Kl s.tree jx.path (by omega) hx.1;have hct:=Tz s jid jx jl hq;refine al Tryz.func54 ?_;unfold State.ub;dsimp only;refine ae.is (decide (jid.toNat<1)) (abq.2 (by show((jid.toNat:Nat):Int)<1↔_;omega)) ?_;cases decide (jid.toNat<1)with
 |true=>
  exact ar<|ah<|ab
 |false=>
 dsimp only;refine ae.is (decide (s.next.toNat≤jid.toNat)) (abq.2 (by show((s.next.toNat:Nat):Int)≤((jid.toNat:Nat):Int)↔_;omega)) ?_;cases decide (s.next.toNat≤jid.toNat)with
 |true=>
  exact ar<|ah<|ab
 |false=>
 dsimp only;cases k with
 |zero=>
  unfold y';dsimp only;refine ao<|ay hck rfl<|ae.is (decide (jx.check=0)) rfl ?_;cases decide (jx.check=0)with
  |false=>
   exact ar<|ah<|ab
  |true=>
  dsimp only;cases hb:there s.tree jx.path with
  |false=>
   rw[hb]at hth;exact ay hth rfl<|ar<|ah<|ab
  |true=>
  rw[hb]at hth;dsimp only;refine ay hth rfl<|ar<|aa ?_;cases jr with
  |true=>
   refine ah ?_;dsimp only;refine ae.is (decide (1≤jl)) rfl ?_;cases decide (1≤jl)with
   |false=>exact ab
   |true=>
    dsimp only;exact ae.is (decide (jl≤jx.cN)) rfl<|ab
  |false=>
   refine aa ?_;dsimp only;refine ae.is (decide (jl=0)) rfl ?_;cases decide (jl=0)with
   |false=>exact ab
   |true=>
    dsimp only;exact af hct rfl<|ab
 |succ k=>
  obtain⟨y,hy⟩:∃y,s.aj[k]? = some y:=get_at (by omega);unfold y';dsimp only;rw[hy];dsimp only;refine ae.t (show(0:Int)<((k+1:Nat):Int)by omega)<|dH (k)<|bx hy<|ae.is (decide (jid.toNat≤y.id.toNat)) (abq.2 (by show((jid.toNat:Nat):Int)≤((y.id.toNat:Nat):Int)↔_;omega)) ?_;cases decide (jid.toNat≤y.id.toNat)with
  |true=>
   exact ar<|ah<|ab
  |false=>
  dsimp only;refine ay hck rfl<|ae.is (decide (jx.check=0)) rfl ?_;cases decide (jx.check=0)with
  |false=>
   exact ar<|ah<|ab
  |true=>
  dsimp only;cases hb:there s.tree jx.path with
  |false=>
   rw[hb]at hth;exact ay hth rfl<|ar<|ah<|ab
  |true=>
  rw[hb]at hth;dsimp only;refine ay hth rfl<|ar<|aa ?_;cases jr with
  |true=>
   refine ah ?_;dsimp only;refine ae.is (decide (1≤jl)) rfl ?_;cases decide (1≤jl)with
   |false=>exact ab
   |true=>
    dsimp only;exact ae.is (decide (jl≤jx.cN)) rfl<|ab
  |false=>
   refine aa ?_;dsimp only;refine ae.is (decide (jl=0)) rfl ?_;cases decide (jl=0)with
   |false=>exact ab
   |true=>
    dsimp only;exact af hct rfl<|ab
abbrev JG(s:State)(b:Bool):Prop:=PC 56 [s.pv] (·=bo b)
def yD(s:State)(b:Bool):Bool:=match decide (s.waits=s.queue.length)with
 |false=>false
 |true=>match b with
  |false=>false
  |true=>!s.tree.any fun e=>!s.jS e
def oQ(s:State)(b:Bool):Nat→List az→Bool
 |_,[]=>yD s b
 |k,j::m=>match s.ub k j with
  |false=>false
  |true=>oQ s b (k+1) m
def wX(s:State)(b:Bool):Bool:=match nI s.pool with
 |false=>false
 |true=>match sP s.tree with
  |false=>false
  |true=>match nJ s.queue with
   |false=>false
   |true=>match decide (32<s.aj.length)with
    |true=>false
    |false=>match decide (s.next.toNat<1)with
     |true=>false
     |false=>match decide (32<max s.events.l.length s.cJ.l.length)with
      |true=>false
      |false=>oQ s b 0 s.aj
theorem YS(s:State)(b:Bool){k:Nat}{j:az}(h:s.aj[k]? = some j):oQ s b k (s.aj.drop k)=match s.ub k j with|false=>false|true=>oQ s b (k+1) (s.aj.drop (k+1)):=by
 obtain⟨hlt,rfl⟩:=aaq.1 h;rw[aaX hlt];rfl
structure xi(s:State):Prop where
 nodes:s.pool.nodes.length≤1000000
 places:s.pool.places.length≤1000000
 node:∀n∈s.pool.nodes,n.name.size≤1000000∧n.labels.length≤67108864∧∀q∈n.labels,q.k.size≤1000000∧q.v.size≤1000000
 tree:s.tree.length≤1000000
 sy:∀e∈s.tree,e.path.size≤1000000
 queue:s.queue.length≤1000000
 aj:s.aj.length≤1000000
 aM:∀j∈s.aj,j.x.Sz
theorem Tx(s:State)(e:aD)(h:xi s):PC 58 [e.pv,.ip s.cells 0] (·=bo (!s.jS e)):=al Tryz.func58<|af (UW s e h.aj fun j hj=>(h.aM j hj).1) rfl<|ab
theorem TE(s:State){b:Bool}(h:xi s)(hP:JG s b):PC 22 [s.pv] (·=bo (wX s b)):=by
 have hpr:=PL s.pool h.nodes h.places h.node;have htr:=OJ s.tree h.tree h.sy;have hqr:=WO s.queue h.queue;have hwa:=TM s h.aj;have hml:(s.aj.map az.pv).length=s.aj.length:=aao ..;have hme:(s.events.l.map cK.pv).length=s.events.l.length:=aao ..;have hma:(s.cJ.l.map cK.pv).length=s.cJ.l.length:=aao ..;have hmq:(s.queue.map QE.pv).length=s.queue.length:=aao ..;refine al Tryz.func22 ?_;unfold wX;cases e1:nI s.pool with
 |false=>
  rw[e1]at hpr;exact af hpr rfl<|ah<|ab
 |true=>
 rw[e1]at hpr;dsimp only;refine af hpr rfl ?_;cases e2:sP s.tree with
 |false=>
  rw[e2]at htr;exact af htr rfl<|ah<|ab
 |true=>
 rw[e2]at htr;dsimp only;refine af htr rfl ?_;cases e3:nJ s.queue with
 |false=>
  rw[e3]at hqr;exact af hqr rfl<|ah<|ab
 |true=>
 rw[e3]at hqr;dsimp only;refine af hqr rfl<|ae.is (decide (32<s.aj.length)) (abq.2 (by show(32:Int)<(((s.aj.map az.pv).length:Nat):Int)↔_;omega)) ?_;cases decide (32<s.aj.length)with
 |true=>
  exact ah<|ab
 |false=>
 dsimp only;refine ae.is (decide (s.next.toNat<1)) (abq.2 (by show((s.next.toNat:Nat):Int)<1↔_;omega)) ?_;cases decide (s.next.toNat<1)with
 |true=>
  exact ah<|ab
 |false=>
 dsimp only;refine bN.intro ((max s.events.l.length s.cJ.l.length:Nat):Int) ?_ ?_
 ·rw[hme,hma];show(if _ then _ else _)=_;split<;>omega
 refine ae.is (decide (32<max s.events.l.length s.cJ.l.length)) (abq.2 (by omega)) ?_;cases decide (32<max s.events.l.length s.cJ.l.length)with
 |true=>
  exact ah<|ab
 |false=>
 refine aa ?_;dsimp only;refine Rs ⟨⟨rfl,rfl,rfl⟩,⟨rfl,rfl,rfl⟩,rfl,rfl,rfl⟩ s.aj.length (by have:=h.aj;omega) ⟨fun _=>[],[1,3,48,49],fun _=>[],[0,4]⟩ (fun q=>oQ s b 0 s.aj=oQ s b q (s.aj.drop q)) rfl (by show some _=_;rw[aao]) (fun _=>rfl) ⟨rfl,rfl,rfl,rfl,rfl⟩ rfl rfl ?_ (fun q hq hj=>?_) (fun hj=>?_)
 ·exact bC
 ·obtain⟨j,hx⟩:=get_at hq;have hd:=YS s b hx;have hjb:=Tw s q j (by omega) h.aj h.queue h.tree (h.aM j (aau hx));refine bx hx ?_;cases hb:s.ub q j with
  |false=>
   rw[hb]at hd hjb;exact af hjb rfl<|ah<|⟨200,_,_,.inl rfl,(show bo false=bo (oQ s b 0 s.aj)by rw[hj,hd])⟩
  |true=>
   rw[hb]at hd hjb;exact af hjb rfl<|aa<|bA.is id (hj.trans hd) rfl<|bC
 ·rw[aaR (aas _)]at hj;have hj:oQ s b 0 s.aj=yD s b:=hj;rw[hj];unfold yD;have hc:=Lk (g:=58) (cA.one (a:=s.cells)) s.tree (fun e=>!s.jS e) (by have:=h.tree;omega) fun e _=>Tx s e h
  refine ay hwa rfl<|ae.is (decide (s.waits=s.queue.length)) (abq.2 (by rw[hmq];omega)) ?_;cases decide (s.waits=s.queue.length)with
  |false=>
   exact ar<|ab
  |true=>
  dsimp only;refine ay hP rfl ?_;cases b with
  |false=>
   exact ar<|ab
  |true=>
   exact ay hc rfl<|ar<|ab
theorem zl(n:cK)(s:BA):(iu s n).size≤s.size+30:=by
 unfold iu;have h1:=bL n.round;have h2:=bL n.id;have h3:=bL (av n.kind);rw[aI,aI,aI];omega
theorem IV{n:BA}(h:n.size≤1000000)(s:BA):(mU s n).size≤s.size+1000010:=by
 unfold mU;have h2:=d_ n;rw[aI];omega
theorem LR{x:Place}(h:x.node.size≤1000000)(s:BA):(nk s x).size≤s.size+1000060:=by
 unfold nk;have h1:=bL x.aM;have h2:=d_ x.node;have h3:=iC x.v;rw[aI,aI,aI];omega
theorem G_{e:aD}(h:e.path.size≤1000000)(s:BA):(mM s e).size≤s.size+1000090:=by
 unfold mM;have h2:=d_ e.path;have h3:=iC e.bu;have h4:=iC e.used;rw[aI,aI,aI];omega
structure Node.jC(n:Node):Prop where
 name:n.name.size≤1000000
 len:n.labels.length≤67108864
 fA:∀p∈n.labels,p.k.size≤1000000∧p.v.size≤1000000
theorem Cp{n:Node}(h:n.jC):n.put.size≤22000000:=by
 unfold Node.put;have h1:=d_ n.name;have h2:=iC n.cap;have h3:=xB h.fA;have:=h.name;have h4:∀k,(an k).size≤10:=fun k=>(bL k).2
 rw[aI,aI,aI];refine aaJ (Nat.add_le_add_left (h4 _) _) ?_;omega
theorem B4{n:Node}(h:n.jC)(s:BA):(lI s n).size≤s.size+22000000:=by
 unfold lI;have:=Cp h;rw[aI];omega
theorem Br{j:az}(h:j.x.Sz)(s:BA):(ld s j).size≤s.size+40000020:=by
 unfold ld;have h1:=bL j.id;have h2:=u6 h;have h3:=bL (av j.left);rw[aI,aI,aI];omega
theorem Ka(x:Stream)(hl:x.l.length≤67108864):PC 325 [x.pv] (·=st x.put):=by
 refine al Tryz.func325 ?_;unfold Stream.put;have hf:=bL x.first;have hw:=bL (av (x.l.length:Nat));refine ay (dj x.first) rfl<|mZ<|ay (dj (av (x.l.length:Nat))) rfl<|ak.mk (bZ (by omega) (by omega))<|ar ?_;have h0:(an x.first++an (av (x.l.length:Nat))).size≤20:=by rw[aI];omega
 generalize an x.first++an (av (x.l.length:Nat))=s0 at h0⊢;refine cW x.l.length (.of (fun q=>(x.l.take q).foldl iu s0) (fun s=>[(3,st s)]) [16,17] (fun _=>[]) []) (fun _=>True) trivial ?_ (fun k hk hj=>?_) (fun hj=>?_)
 ·exact bC
 ·obtain⟨n,hx⟩:=get_at hk;have hn:=kg (f:=iu) (s:=s0) hx;have hsz:=kM (f:=iu) (l:=x.l) (s:=s0) (fun s p hp=>zl p s) k;generalize hL:(x.l.take k).foldl iu s0=s at hn hsz;rw[bR hL];have h1:=bL n.round;have h2:=bL n.id;have h3:=bL (av n.kind);exact bx hx<|ay (dj n.round) rfl<|ay (dj n.id) rfl<|ak.mk (bZ (by omega) (by omega))<|ax (ix n.kind)<|ay (dj (av n.kind)) rfl<|ak.mk (bZ (a:=an n.round++an n.id) (b:=an (av n.kind)) (by rw[aI];omega) (by omega))<|ak.mk (bZ (a:=s) (b:=an n.round++an n.id++an (av n.kind)) (by omega) (by rw[aI,aI];omega))<|ar<|bA.of id hn trivial rfl<|bC
 ·rw[← l6 (f:=iu) (s:=s0)];generalize hL:(x.l.take x.l.length).foldl iu s0=s;rw[bR hL];exact ab
theorem vK(x:Stream)(hl:x.l.length≤67108864):x.put.size≤3000000000:=by
 unfold Stream.put;have hf:=bL x.first;have hw:=bL (av (x.l.length:Nat));have:=jg (f:=iu) (l:=x.l) (s:=an x.first++an (av (x.l.length:Nat))) fun s p _=>zl p s
 rw[aI]at this;omega
theorem Uo(n:Node)(h:n.jC):PC 367 [n.pv] (·=st n.put):=by
 refine al Tryz.func367 ?_;unfold Node.put;have h1:=d_ n.name;have h2:=iC n.cap;have h3:=xB h.fA;have h5:=h.name;obtain⟨name,cap,lb,up⟩:=n;dsimp only at h1 h2 h3 h5;cases up with
 |false=>
  have h4:=bL 0;exact aa<|ay (jY name (by omega)) rfl<|ay (ou cap) rfl<|ak.mk (bZ (by omega) (by omega))<|ay (zY lb h.len h.fA) rfl<|ak.mk (bZ (a:=bz name++cr cap) (b:=fB lb) (by rw[aI];omega) (by omega))<|ay (dj 0) rfl<|ak.mk (bZ (a:=bz name++cr cap++fB lb) (b:=an 0) (by rw[aI,aI];omega) (by omega))<|ar<|ab
 |true=>
  have h4:=bL 1;exact ah<|ay (jY name (by omega)) rfl<|ay (ou cap) rfl<|ak.mk (bZ (by omega) (by omega))<|ay (zY lb h.len h.fA) rfl<|ak.mk (bZ (a:=bz name++cr cap) (b:=fB lb) (by rw[aI];omega) (by omega))<|ay (dj 1) rfl<|ak.mk (bZ (a:=bz name++cr cap++fB lb) (b:=an 1) (by rw[aI,aI];omega) (by omega))<|ar<|ab
theorem Pt(t:List aD)(hl:t.length≤67108864)(hs:∀e∈t,e.path.size≤1000000):PC 324 [sl aD.pv t] (·=st (lY t)):=by
 refine al Tryz.func324 ?_;unfold lY;have hw:=bL (av (t.length:Nat));refine mZ<|af (dj (av (t.length:Nat))) rfl ?_;generalize an (av (t.length:Nat))=s0 at hw⊢;refine cW t.length (.of (fun q=>(t.take q).foldl mM s0) (fun s=>[(3,st s)]) [10,11] (fun _=>[]) []) (fun _=>True) trivial ?_ (fun k hk hj=>?_) (fun hj=>?_)
 ·exact bC
 ·obtain⟨e,hx⟩:=get_at hk;have hxs:=hs e (aau hx);have hn:=kg (f:=mM) (s:=s0) hx;have hsz:=kM (f:=mM) (l:=t) (s:=s0) (fun s p hp=>G_ (hs p hp) s) k;generalize hL:(t.take k).foldl mM s0=s at hn hsz;rw[bR hL];have h1:=d_ e.path;have h2:=iC e.bu;have h3:=iC e.used;exact bx hx<|ay (jY e.path (by omega)) rfl<|ay (ou e.bu) rfl<|ak.mk (bZ (by omega) (by omega))<|ay (ou e.used) rfl<|ak.mk (bZ (a:=bz e.path++cr e.bu) (b:=cr e.used) (by rw[aI];omega) (by omega))<|ak.mk (bZ (a:=s) (b:=bz e.path++cr e.bu++cr e.used) (by omega) (by rw[aI,aI];omega))<|ar<|bA.of id hn trivial rfl<|bC
 ·rw[← l6 (f:=mM) (s:=s0)];generalize hL:(t.take t.length).foldl mM s0=s;rw[bR hL];exact ab
structure aW.jC(p:aW):Prop where
 nodes:p.nodes.length≤16
 places:p.places.length≤50000000
 node:∀n∈p.nodes,n.jC
 place:∀x∈p.places,x.node.size≤1000000
theorem Tp(p:aW)(h:p.jC):PC 323 [p.pv] (·=st p.put):=by
 refine al Tryz.func323 ?_;unfold aW.put;obtain⟨nodes,places⟩:=p;obtain⟨hn,hp,hns,cX⟩:=h;dsimp only at hn hp hns cX⊢;have hw:=bL (av (nodes.length:Nat));have hv:=bL (av (places.length:Nat));refine mZ<|af (dj (av (nodes.length:Nat))) rfl ?_;generalize an (av (nodes.length:Nat))=s0 at hw⊢;refine cW nodes.length (.of (fun q=>(nodes.take q).foldl lI s0) (fun s=>[(3,st s)]) [1,14,15] (fun _=>[]) [0]) (fun _=>True) trivial ?_ (fun k hk hj=>?_) (fun hj=>?_)
 ·exact bC
 ·obtain⟨n,hx⟩:=get_at hk;have hxs:=hns n (aau hx);have hn':=kg (f:=lI) (s:=s0) hx;have hsz:=kM (f:=lI) (l:=nodes) (s:=s0) (fun s p hp=>B4 (hns p hp) s) k;generalize hL:(nodes.take k).foldl lI s0=s at hn' hsz;rw[bR hL];have h1:=Cp hxs;exact bx hx<|af (Uo n hxs) rfl<|ak.mk (bZ (a:=s) (b:=n.put) (by omega) (by omega))<|bA.of id hn' trivial rfl<|bC
 ·rw[← l6 (f:=lI) (s:=s0)];have hsz:=kM (f:=lI) (l:=nodes) (s:=s0) (fun s p hp=>B4 (hns p hp) s) nodes.length;generalize hL:(nodes.take nodes.length).foldl lI s0=s1 at hsz;rw[bR hL];refine mZ<|af (dj (av (places.length:Nat))) rfl<|ak.mk (bZ (a:=s1) (b:=an (av (places.length:Nat))) (by omega) (by omega)) ?_;have hb:(s1++an (av (places.length:Nat))).size≤400000000:=by rw[aI];omega
  generalize s1++an (av (places.length:Nat))=s2 at hb⊢;refine cW places.length (.of (fun q=>(places.take q).foldl nk s2) (fun s=>[(3,st s)]) [33,34] (fun _=>[]) []) (fun _=>True) trivial ?_ (fun k hk hj=>?_) (fun hj=>?_)
  ·exact bC
  ·obtain⟨x,hx⟩:=get_at hk;have hxs:=cX x (aau hx);have hn':=kg (f:=nk) (s:=s2) hx;have hsz:=kM (f:=nk) (l:=places) (s:=s2) (fun s p hp=>LR (cX p hp) s) k;generalize hL:(places.take k).foldl nk s2=s at hn' hsz;rw[bR hL];have h1:=bL x.aM;have h2:=d_ x.node;have h3:=iC x.v;exact bx hx<|ay (dj x.aM) rfl<|ay (jY x.node (by omega)) rfl<|ak.mk (bZ (by omega) (by omega))<|ay (ou x.v) rfl<|ak.mk (bZ (a:=an x.aM++bz x.node) (b:=cr x.v) (by rw[aI];omega) (by omega))<|ak.mk (bZ (a:=s) (b:=an x.aM++bz x.node++cr x.v) (by omega) (by rw[aI,aI];omega))<|ar<|bA.of id hn' trivial rfl<|bC
  ·rw[← l6 (f:=nk) (s:=s2)];generalize hL:(places.take places.length).foldl nk s2=s;rw[bR hL];exact ab
theorem LU{p:aW}(h:p.jC):p.put.size≤60000000000000:=by
 unfold aW.put;have hw:=bL (av (p.nodes.length:Nat));have hv:=bL (av (p.places.length:Nat));have h1:=jg (f:=lI) (l:=p.nodes) (s:=an (av (p.nodes.length:Nat))) fun s n hn=>B4 (h.node n hn) s
 have h2:=jg (f:=nk) (l:=p.places) (s:=p.nodes.foldl lI (an (av (p.nodes.length:Nat)))++an (av (p.places.length:Nat))) fun s x hx=>LR (h.place x hx) s
 have:=h.nodes;have:=h.places;rw[aI]at h2;omega
structure State.jC(s:State):Prop where
 pool:s.pool.jC
 tree:s.tree.length≤16
 sy:∀e∈s.tree,e.path.size≤1000000
 aj:s.aj.length≤32
 aM:∀j∈s.aj,j.x.Sz
 ev:s.events.l.length≤67108864
 au:s.cJ.l.length≤67108864
theorem El{t:List aD}(hl:t.length≤16)(hs:∀e∈t,e.path.size≤1000000):(lY t).size≤20000000:=by
 unfold lY;have hw:=bL (av (t.length:Nat));have h1:=jg (f:=mM) (l:=t) (s:=an (av (t.length:Nat))) fun s e he=>G_ (hs e he) s
 omega
theorem ME(s:State)(h:s.jC):PC 279 [s.pv] (·=st s.put):=by
 refine al Tryz.func279 ?_;unfold State.put;have b1:=bL s.round;have b2:=bL s.next;have b3:=LU h.pool;have b4:=El h.tree h.sy;have b5:=bL (av (s.aj.length:Nat));have b6:=vK s.events h.ev;have b7:=vK s.cJ h.au;refine ay (dj s.round) rfl<|ay (dj s.next) rfl<|ak.mk (bZ (by omega) (by omega))<|ay (Tp s.pool h.pool) rfl<|ak.mk (bZ (a:=an s.round++an s.next) (b:=s.pool.put) (by rw[aI];omega) (by omega))<|ay (Pt s.tree (by have:=h.tree;omega) h.sy) rfl<|ak.mk (bZ (a:=an s.round++an s.next++s.pool.put) (b:=lY s.tree) (by rw[aI,aI];omega) (by omega))<|mZ<|ay (dj (av (s.aj.length:Nat))) rfl<|ak.mk (bZ (a:=an s.round++an s.next++s.pool.put++lY s.tree) (b:=an (av (s.aj.length:Nat))) (by rw[aI,aI,aI];omega) (by omega))<|ar ?_;have h0:(an s.round++an s.next++s.pool.put++lY s.tree++an (av (s.aj.length:Nat))).size≤70000000000000:=by rw[aI,aI,aI,aI];omega
 generalize an s.round++an s.next++s.pool.put++lY s.tree++an (av (s.aj.length:Nat))=s0 at h0⊢;have hjl:=h.aj;refine cW s.aj.length (.of (fun q=>(s.aj.take q).foldl ld s0) (fun s=>[(3,st s)]) [1,28,29] (fun _=>[]) [0]) (fun _=>True) trivial ?_ (fun k hk hj=>?_) (fun hj=>?_)
 ·exact bC
 ·obtain⟨j,hx⟩:=get_at hk;have hxs:=h.aM j (aau hx);have hn:=kg (f:=ld) (s:=s0) hx;have hsz:=kM (f:=ld) (l:=s.aj) (s:=s0) (fun s j hj=>Br (h.aM j hj) s) k;generalize hL:(s.aj.take k).foldl ld s0=u at hn hsz;rw[bR hL];have h1:=bL j.id;have h2:=u6 hxs;have h3:=bL (av j.left);exact bx hx<|ay (dj j.id) rfl<|ay (I1 j.x hxs) rfl<|ak.mk (bZ (by omega) (by omega))<|ax (ix j.left)<|ay (dj (av j.left)) rfl<|ak.mk (bZ (a:=an j.id++j.x.put) (b:=an (av j.left)) (by rw[aI];omega) (by omega))<|ak.mk (bZ (a:=u) (b:=an j.id++j.x.put++an (av j.left)) (by omega) (by rw[aI,aI];omega))<|ar<|bA.of id hn trivial rfl<|bC
 ·rw[← l6 (f:=ld) (s:=s0)];have hsz:=kM (f:=ld) (l:=s.aj) (s:=s0) (fun s j hj=>Br (h.aM j hj) s) s.aj.length;generalize hL:(s.aj.take s.aj.length).foldl ld s0=u at hsz;rw[bR hL];exact ay (Ka s.events h.ev) rfl<|ak.mk (bZ (a:=u) (b:=s.events.put) (by omega) (by omega))<|ay (Ka s.cJ h.au) rfl<|ak.mk (bZ (a:=u++s.events.put) (b:=s.cJ.put) (by rw[aI];omega) (by omega))<|ar<|ab
theorem P0(v:V4):PC 275 [v.pv] (·=sl aD.pv [⟨aG,v,V4.z⟩]):=al Tryz.func275<|ab
theorem U8:PC 216 [] (·=State.new.pv):=al Tryz.func216<|af (P0 V4.z) rfl<|ab
theorem R7(a:aP)(hn:a.nodes.length≤67108864)(hs:∀n∈a.nodes,n.size≤1000000)(hl:a.notes.length≤67108864):PC 70 [a.pv] (·=st a.put):=by
 refine al Tryz.func70 ?_;unfold aP.put;have b1:=bL (av a.e);have b2:=bL a.id;have b3:=bL a.n;have b4:=bL (av a.state);have b5:=iC a.v;have b6:=iC a.u;have b7:=bL (av (a.nodes.length:Nat));have b8:=bL (av (a.notes.length:Nat));refine ax (ix a.e)<|ay (dj (av a.e)) rfl<|ay (dj a.id) rfl<|ak.mk (bZ (by omega) (by omega))<|ay (dj a.n) rfl<|ak.mk (bZ (a:=an (av a.e)++an a.id) (b:=an a.n) (by rw[aI];omega) (by omega))<|ax (ix a.state)<|ay (dj (av a.state)) rfl<|ak.mk (bZ (a:=an (av a.e)++an a.id++an a.n) (b:=an (av a.state)) (by rw[aI,aI];omega) (by omega))<|ay (ou a.v) rfl<|ak.mk (bZ (a:=an (av a.e)++an a.id++an a.n++an (av a.state)) (b:=cr a.v) (by rw[aI,aI,aI];omega) (by omega))<|ay (ou a.u) rfl<|ak.mk (bZ (a:=an (av a.e)++an a.id++an a.n++an (av a.state)++cr a.v) (b:=cr a.u) (by rw[aI,aI,aI,aI];omega) (by omega))<|ar ?_;have h0:(an (av a.e)++an a.id++an a.n++an (av a.state)++cr a.v++cr a.u).size≤120:=by rw[aI,aI,aI,aI,aI];omega
 generalize an (av a.e)++an a.id++an a.n++an (av a.state)++cr a.v++cr a.u=s0 at h0⊢;refine mZ<|af (dj (av (a.nodes.length:Nat))) rfl<|ak.mk (bZ (a:=s0) (b:=an (av (a.nodes.length:Nat))) (by omega) (by omega)) ?_;have h0':(s0++an (av (a.nodes.length:Nat))).size≤130:=by rw[aI];omega
 generalize s0++an (av (a.nodes.length:Nat))=s1 at h0'⊢;refine cW a.nodes.length (.of (fun q=>(a.nodes.take q).foldl mU s1) (fun s=>[(3,st s)]) [1,41,42] (fun _=>[]) [0]) (fun _=>True) trivial ?_ (fun k hk hj=>?_) (fun hj=>?_)
 ·exact bC
 ·obtain⟨n,hx⟩:=get_at hk;have hxs:=hs n (aau hx);have hn':=kg (f:=mU) (s:=s1) hx;have hsz:=kM (f:=mU) (l:=a.nodes) (s:=s1) (fun s n hn=>IV (hs n hn) s) k;generalize hL:(a.nodes.take k).foldl mU s1=u at hn' hsz;rw[bR hL];have h2:=d_ n;exact bx hx<|af (jY n (by omega)) rfl<|ak.mk (bZ (a:=u) (b:=bz n) (by omega) (by omega))<|bA.of id hn' trivial rfl<|bC
 ·rw[← l6 (f:=mU) (s:=s1)];have hsz:=kM (f:=mU) (l:=a.nodes) (s:=s1) (fun s n hn=>IV (hs n hn) s) a.nodes.length;generalize hL:(a.nodes.take a.nodes.length).foldl mU s1=u at hsz;rw[bR hL];refine mZ<|af (dj (av (a.notes.length:Nat))) rfl<|ak.mk (bZ (a:=u) (b:=an (av (a.notes.length:Nat))) (by omega) (by omega)) ?_;have h1':(u++an (av (a.notes.length:Nat))).size≤u.size+10:=by rw[aI];omega
  generalize u++an (av (a.notes.length:Nat))=s2 at h1'⊢;refine cW a.notes.length (.of (fun q=>(a.notes.take q).foldl iu s2) (fun s=>[(3,st s)]) [60,61] (fun _=>[]) []) (fun _=>True) trivial ?_ (fun k hk hj=>?_) (fun hj=>?_)
  ·exact bC
  ·obtain⟨n,hx⟩:=get_at hk;have hn':=kg (f:=iu) (s:=s2) hx;have hsz2:=kM (f:=iu) (l:=a.notes) (s:=s2) (fun s p hp=>zl p s) k;generalize hL:(a.notes.take k).foldl iu s2=w at hn' hsz2;rw[bR hL];have h1:=bL n.round;have h2:=bL n.id;have h3:=bL (av n.kind);exact bx hx<|ay (dj n.round) rfl<|ay (dj n.id) rfl<|ak.mk (bZ (by omega) (by omega))<|ax (ix n.kind)<|ay (dj (av n.kind)) rfl<|ak.mk (bZ (a:=an n.round++an n.id) (b:=an (av n.kind)) (by rw[aI];omega) (by omega))<|ak.mk (bZ (a:=w) (b:=an n.round++an n.id++an (av n.kind)) (by omega) (by rw[aI,aI];omega))<|ar<|bA.of id hn' trivial rfl<|bC
  ·rw[← l6 (f:=iu) (s:=s2)];generalize hL:(a.notes.take a.notes.length).foldl iu s2=w;rw[bR hL];exact ab
end
end Go.Proofs.YtbnonpbnhenkfaaGreatDoor
