/- Part 2 of the proof; the last part says what is proved. -/
import Derived.Test.YtbnonpbnhenkfaaGreatDoorQ01
import Derived.Laws.MakeOwn
import Derived.Lib.AppendZerosOnto
import Derived.Laws.BytesArg
set_option linter.all false
set_option maxRecDepth 1000000
set_option maxHeartbeats 8000000
namespace Go.Proofs.YtbnonpbnhenkfaaGreatDoor
section
open Go.RowKit
section
variable {P:Program}{T:TT}{S:ct}{F:Nat→Prop}{nx:Nat}{hp:Nat→Option aA}{c:RC}{ρ:Operand→Value}{o:Oper}{K:PV→bW→Prop}{vs:List PV}
theorem Zs(d:Nat){t:TypeId}{e:TypeId}(hd:P.underlying t=some (.slice e))(a:Option Addr)(n q:Nat)(w:World):(Op.equalIn (d+1) t (.slice a n q) (.slice none 0 0)).run P w=.ok a.isNone w:=by
 have hu:=run_underlying (P:=P) hd w;cases a<;>simp only[Op.equalIn,Sem.run_bind,hu,Result.andThen_ok]<;>rfl
theorem AP{t:TypeId}{e:TypeId}(hd:P.underlying t=some (.slice e))(a:Option Addr)(n q:Nat)(w:World):(Op.equal t (.slice a n q) (.slice none 0 0)).run P w=.ok a.isNone w:=Zs 9999 hd a n q w
theorem z7(hs:Sat S F hp c){b:BinOp}{t t2:TypeId}{x y:Operand}{k k':IntKind}{a b':Int}(ho:o.op=.binOp b t x y t2)(hx:ρ x=.int k a)(hy:ρ y=.int k' b')(h:(sq b k a b').wp hp K):Sound P S (less F nx) hp c ρ o K:=by
 unfold sq at h;split at h
 ·obtain⟨hb,c',hc,h⟩:=h;refine cm hs h ⟨rfl,rfl⟩ (.inl ?_);rw[← hc];have hn:¬b'<0:=by omega
  unfold execOp;simp[ho,hx,hy,eqGuard,binOp,Op.shift,hn]
 ·obtain⟨hb,c',hc,h⟩:=h;refine cm hs h ⟨rfl,rfl⟩ (.inl ?_);rw[← hc];have hn:¬b'<0:=by omega
  unfold execOp;simp[ho,hx,hy,eqGuard,binOp,Op.shift,hn]
 ·exact False.elim h
theorem N0(hT:cL P T)(hs:Sat S F hp c)(b:BinOp)(t t2:TypeId)(x y:Operand)(hcn:∀v,y=.const v→ρ y=v)(hv:aC vs c [ρ x,ρ y])(ho:o.op=.binOp b t x y t2)(h:(BM T b t y vs).wp hp K):Sound P S (less F nx) hp c ρ o K:=by
 unfold BM at h;split at h
 ·rename_i k a k' b';obtain⟨⟨hx,_⟩,hy,_⟩:=eV hv;split at h
  ·rename_i ek;obtain rfl:=aat ek;cases b with
   |eql|neq|lss|leq|gtr|geq=>
    obtain⟨q,rfl,h⟩:=h;refine cm hs h ⟨rfl,rfl⟩ (.inl ?_);unfold execOp;simp[ho,hx,hy,eqGuard,binOp,Op.intCmp,Bool.beq_eq_decide_eq,bne]
   |add|sub|mul=>
    obtain⟨c',hc,h⟩:=h;refine cm hs h ⟨rfl,rfl⟩ (.inl ?_);rw[← hc];unfold execOp;simp[ho,hx,hy,eqGuard,binOp,Op.intArith]
   |quo|rem=>
    obtain⟨hb,c',hc,h⟩:=h;refine cm hs h ⟨rfl,rfl⟩ (.inl ?_);rw[← hc];unfold execOp;simp[ho,hx,hy,eqGuard,binOp,Op.intDiv,hb]
   |shl=>exact z7 hs ho hx hy h
   |shr=>
    unfold E3 at h;dsimp only at h;split at h
    ·obtain⟨hb,c',hc,h⟩:=h;subst hb;refine cm hs h ⟨rfl,rfl⟩ (.inl ?_);rw[← hc];have h1:min 1 k.bits=1:=by cases k<;>rfl
     unfold execOp;simp[ho,hx,hy,eqGuard,binOp,Op.shift,h1]
    ·exact z7 hs ho hx hy h
   |and|xor=>
    obtain⟨c',hc,h⟩:=h;refine cm hs h ⟨rfl,rfl⟩ (.inl ?_);rw[← hc];unfold execOp;simp[ho,hx,hy,eqGuard,binOp,Op.intBits]
   |_=>exact False.elim h
  ·exact z7 hs ho hx hy h
 ·rename_i a b';obtain⟨⟨hx,_⟩,hy,_⟩:=eV hv;cases b with
  |add=>
   obtain⟨hb,h⟩:=h;refine cm hs h ⟨rfl,rfl⟩ (.inl ?_);have hn:¬(((a.size+b'.size:Nat):Int)>IntKind.i64.max):=by
    have:IntKind.i64.max=9223372036854775807:=by decide
    rw[this];omega
   unfold execOp;simp only[ho,hx,hy,eqGuard,binOp,Op.stringOp,hn];simp
  |eql|neq|lss|leq|gtr|geq=>
   obtain⟨q,rfl,h⟩:=h;refine cm hs h ⟨rfl,rfl⟩ (.inl ?_);unfold execOp;simp[ho,hx,hy,eqGuard,binOp,Op.stringOp,seq,dL,ByteArray.toList_eq]
  |_=>exact False.elim h
 ·rename_i a b';obtain⟨⟨hx,_⟩,hy,_⟩:=eV hv;split at h
  ·rename_i e3;obtain⟨d,hd,_,rfl⟩:=(hT t _ e3).de;exact pJ hs ho hx hy (fun b=>by cases b<;>rfl) (run_equal_bool c.w t a b' hd) rfl rfl h
  ·exact False.elim h
 ·rename_i f cs;obtain⟨⟨vs,hx,_⟩,hy,_⟩:=eV hv;split at h
  ·rename_i e3;obtain⟨d,hd,_,p1,p2,p3,rfl⟩:=(hT t _ e3).de;exact pJ hs ho hx hy (fun b=>by cases b<;>rfl) (Ow hd _ _ _ c.w) rfl rfl h
  ·exact False.elim h
 ·obtain⟨⟨hx,_⟩,hy,_⟩:=eV hv;split at h
  ·rename_i e3;obtain⟨d,hd,_,p1,p2,p3,rfl⟩:=(hT t _ e3).de;exact pJ hs ho hx hy (fun b=>by cases b<;>rfl) (RE hd c.w) rfl rfl h
  ·exact False.elim h
 ·rename_i xs ys;split at h
  ·rename_i sz z kd eq e;split at h
   ·rename_i r e2;obtain⟨hX,hY⟩:=eV hv;have hrun:=Aa hT 100 10000 (by omega) e e2 rfl rfl hX hY;obtain⟨us,hx,_⟩:=hX;obtain⟨ws,hy,_⟩:=hY;have heq:eq=true:=by
     cases eq with
     |true=>rfl
     |false=>
      unfold mP at e2;rw[e]at e2;cases e2
    obtain⟨_,g2,_⟩:=(hT t _ e).F4 heq;rw[hx,hy]at hrun;refine pJ hs ho hx hy (fun b=>run_eqGuard_agg c.w b t x y _ _ g2) hrun ?_ ?_ h<;>(simp only[binOp])
   ·exact False.elim h
  ·exact False.elim h
 ·rename_i cl rows q;obtain⟨hX,hY⟩:=eV hv;split at h
  ·rename_i sz ag z e eq eT;obtain⟨d,hd,_,rfl⟩:=(hT t _ eT).de;have hy:=hcn _ rfl;obtain⟨us,r1,a,cap,hx,h2,h3,h4⟩:=hX;have hl:=r1.length;have hfin:(pB b a.isNone).wp hp K:=by
    by_cases h0:rows.length=0
    ·exact h.h2 h0 _
    ·have ha:a.isNone=false:=by
      rcases h4 with rfl|⟨bb,off,k,rfl,_⟩
      ·exact absurd hl.symm h0
      ·rfl
     rw[ha];exact h.h1 h0
   exact pJ hs ho hx hy (fun b=>by cases b<;>rfl) (AP hd _ _ _ c.w) rfl rfl hfin
  ·exact False.elim h
 ·rename_i j lo len q;obtain⟨hX,hY⟩:=eV hv;split at h
  ·rename_i sz ag z e eq eT;obtain⟨d,hd,_,rfl⟩:=(hT t _ eT).de;have hy:=hcn _ rfl;rcases hX with⟨h0,a,hx⟩|⟨B,k,cap,aB,e',f,h1,hx,h3,_⟩
   ·exact pJ hs ho hx hy (fun b=>by cases b<;>rfl) (AP hd _ _ _ c.w) rfl rfl (h.h2 h0 _)
   ·refine pJ hs ho hx hy (fun b=>by cases b<;>rfl) (AP hd _ _ _ c.w) rfl rfl ?_;by_cases h0:len=0
    ·exact h.h2 h0 _
    ·exact h.h1 h0
  ·exact False.elim h
 ·exact False.elim h
theorem PX(hT:cL P T)(hs:Sat S F hp c)(t:TypeId)(x y:Operand)(hv:aC vs c [ρ x,ρ y])(ho:o.op=.index t x y)(h:(Af T t vs).wp hp K):Sound P S (less F nx) hp c ρ o K:=by
 unfold Af at h;split at h
 ·rename_i sz ag z n e eq xs k q e2;split at h
  ·rename_i te e4;obtain⟨⟨h2,h3⟩,h⟩:=h;split at h
   ·rename_i v h1 hv';obtain⟨⟨vs,hx,hr⟩,hy,_⟩:=eV hv;obtain⟨d,hd,_,rfl⟩:=(hT t _ e2).de;have hu:=run_underlying (P:=P) hd c.w;obtain⟨u,hu2,hru⟩:=qD (P:=P) (hT e te e4) hr h1 hv';refine cm hs h hru (.inl ?_);unfold execOp;simp[ho,hx,hy,Instr.index,asIntOf,hu,h2,h3,(hT e te e4).size,hu2]
   ·exact False.elim h
  ·exact False.elim h
 ·rename_i sz ag z eq s k q e2;obtain⟨⟨h2,h3⟩,c',hc,h⟩:=h;obtain⟨⟨hx,_⟩,hy,_⟩:=eV hv;obtain⟨d,hd,_,rfl⟩:=(hT t _ e2).de;have hu:=run_underlying (P:=P) hd c.w;refine cm hs h ⟨rfl,rfl⟩ (.inl ?_);rw[← hc];have hlt:q.toNat<s.size:=by omega
  have hg:s[q.toNat]? = some (s.data.toList.getD q.toNat 0):=by
   have hlt2:q.toNat<s.data.toList.length:=by simpa using hlt
   rw[aba,aay hlt2,getElem?_pos s q.toNat hlt];rfl
  unfold execOp;simp only[ho,hx,hy,Instr.index,asIntOf,Sem.run_bind,Sem.run_pure,Result.andThen_ok,hu,abb h2,hg]
 ·exact False.elim h
theorem To(hT:cL P T)(hs:Sat S F hp c)(t:TypeId)(x:Operand)(f:Nat)(hv:aC vs c [ρ x])(ho:o.op=.field t x f)(h:(AU T t f vs).wp hp K):Sound P S (less F nx) hp c ρ o K:=by
 unfold AU at h;split at h
 ·rename_i sz ag z fs eq xs e2;split at h
  ·rename_i off e hn;split at h
   ·rename_i te e4;split at h
    ·rename_i v h1 hv';obtain⟨vs,hx,hr⟩:=fP hv;obtain⟨d,hd,_,fields,rfl,_,hf⟩:=(hT t _ e2).de;obtain⟨fl,f1,rfl,rfl,i,h4,h5⟩:=hf f _ _ hn;have hu:=run_underlying (P:=P) hd c.w;obtain⟨u,hu2,hru⟩:=qD (P:=P) (hT _ te e4) hr h1 hv';refine cm hs h hru (.inl ?_);unfold execOp;simp[ho,hx,Instr.field,hu,f1,asAgg,hu2]
    ·exact False.elim h
   ·exact False.elim h
  ·exact False.elim h
 ·exact False.elim h
theorem K6{lo hi:Option Operand}{n:Nat}{Q:Nat→Nat→Tr}(hv:aC vs c ((lo.toList++hi.toList).map ρ))(h:(jf lo.isSome hi.isSome n vs Q).wp hp K):∃l u,(Q l u).wp hp K∧l≤u∧u≤n∧
 (∀(i:Bool) (cap:Nat) (w:World),n≤cap→(Instr.sliceBounds i n cap (lo.map ρ) (hi.map ρ) none).run P w=.ok (l,u,cap) w)∧(lo=none→l=0):=by
 cases lo with
 |none=>
  cases hi with
  |none=>
   unfold jf at h
   split at h<;>first|exact False.elim h|skip
   all_goals first
    |exact⟨_,_,h,aaF _,aas _,fun i cap w _=>by simp[Instr.sliceBounds],fun _=>rfl⟩
    |simp_all
  |some u=>
   unfold jf at h
   split at h<;>try (first|exact False.elim h|(simp_all;done))
   rename_i k b _ _
   obtain⟨⟨h0,h1⟩,h⟩:=h
   obtain⟨hu,_⟩:=fP hv
   refine⟨_,_,h,by omega,by omega,fun i cap w hc=>?_,fun _=>rfl⟩
   have:b≤(cap:Int):=by omega
   simp[Instr.sliceBounds,hu,Instr.sliceBound,asIntOf,h0,this]
 |some l=>
  cases hi with
  |none=>
   unfold jf at h
   split at h<;>try (first|exact False.elim h|(simp_all;done))
   rename_i k a _ _
   obtain⟨⟨h0,h1⟩,h⟩:=h
   obtain⟨hl,_⟩:=fP hv
   refine⟨_,_,h,by omega,aas _,fun i cap w _=>?_,fun e=>by cases e⟩
   simp[Instr.sliceBounds,hl,Instr.sliceBound,asIntOf,h0,h1]
  |some u=>
   unfold jf at h
   split at h<;>try (first|exact False.elim h|(simp_all;done))
   rename_i k a k' b _ _
   obtain⟨⟨h0,h1,h2⟩,h⟩:=h
   obtain⟨⟨hl,_⟩,hu,_⟩:=eV hv
   refine⟨_,_,h,by omega,by omega,fun i cap w hc=>?_,fun e=>by cases e⟩
   have g1:b≤(cap:Int):=by omega
   have g2:0≤b:=by omega
   have g3:a≤max b 0:=by omega
   simp[Instr.sliceBounds,hl,hu,Instr.sliceBound,asIntOf,h0,g1,g2,g3]
theorem pk{lo hi:Option Operand}{n:Nat}{Q:Nat→Nat→Tr}(hv:aC vs c ((lo.toList++hi.toList).map ρ))(h:(jf lo.isSome hi.isSome n vs Q).wp hp K):∃l u,(Q l u).wp hp K∧l≤u∧u≤n∧
 ∀(i:Bool) (cap:Nat) (w:World),n≤cap→(Instr.sliceBounds i n cap (lo.map ρ) (hi.map ρ) none).run P w=.ok (l,u,cap) w:=by
 obtain⟨l,u,h1,h2,h3,h4,_⟩:=K6 (P:=P) hv h
 exact⟨l,u,h1,h2,h3,h4⟩
theorem aC.drop:∀{ps:List PV} {c:RC} {vs:List Value} (n:Nat),aC ps c vs→aC (ps.drop n) c (vs.drop n)
 |_,_,_,0,r=>r
 | [],_,vs,_+1,r=>by rw[show vs=[]from r];exact rfl
 |_::_,_,_,n+1,r=>by
  obtain⟨v,vs',rfl,_,r2⟩:=r
  exact aC.drop n r2
theorem aC.take:∀{ps:List PV} {c:RC} {vs:List Value} (n:Nat),aC ps c vs→aC (ps.take n) c (vs.take n)
 |_,_,_,0,_=>rfl
 | [],_,vs,_+1,r=>by rw[show vs=[]from r];exact rfl
 |_::_,_,_,n+1,r=>by
  obtain⟨v,vs',rfl,r1,r2⟩:=r
  exact⟨v,_,rfl,r1,aC.take n r2⟩
theorem pc(a b:List Value):flat (a++b)=flat a++flat b:=by simp[flat]
theorem CI{k:Nat}{vs:List Value}(hk:∀x∈vs,x.cells.size=k){l m i:Nat}{x:Value}(hl:l≤vs.length)(h:(flat ((vs.drop l).take m))[i]? = some x):(flat vs)[l*k+i]? = some x:=by
 have e:vs=vs.take l++((vs.drop l).take m++(vs.drop l).drop m):=by rw[abD,abD]
 rw[e,pc,pc];have h1:(flat (vs.take l)).length=l*k:=by
  rw[f_ fun x hx=>hk x (aaV hx),aax,abU hl]
 rw[abf (by omega),h1,Nat.add_sub_cancel_left,abt (aaq.1 h).1];exact h
theorem yc{t e:TypeId}{te:TI}(hd:P.underlying t=some (.slice e))(hte:fz P e te){n cap l u:Nat}{lo hi:Option Value}{a:Option Addr}{w:World}(h:(Instr.sliceBounds true n cap lo hi none).run P w=.ok (l,u,cap) w):
 (Instr.sliceAt t (.slice a n cap) lo hi none).run P w=.ok (.slice (if cap=l then a else a.map (·.add (l*te.size))) (u-l) (cap-l)) w:=by
 have hu:=run_underlying (P:=P) hd w
 simp[Instr.sliceAt,Instr.slice,hu,h,hte.size]
theorem Z_{t e:TypeId}{te:TI}{cl:Bool}{v:Value}{rows:List PV}{vs:List Value}{lo hi:Option Value}{l u:Nat}(hd:P.underlying t=some (.slice e))(hte:fz P e te)(r1:aC rows c.pure vs)(r2:iB c.w c.Z cl v vs)(hk:pq rows te.size)
 (hlu:l≤u) (hun:u≤rows.length) (hb:∀(cap:Nat),rows.length≤cap→(Instr.sliceBounds true rows.length cap lo hi none).run P c.w=.ok (l,u,cap) c.w):
 ∃x,(Instr.sliceAt t v lo hi none).run P c.w=.ok x c.w∧Rel (.sl false ((rows.drop l).take (u-l))) c x:=by
 obtain⟨a,cap,rfl,h1,h2,h3⟩:=r2
 have hl:=r1.length
 have:=hb cap (by omega)
 rw[← hl]at this
 refine⟨_,yc hd hte this,(vs.drop l).take (u-l),(r1.drop l).take (u-l),?_⟩
 have hlen:((vs.drop l).take (u-l)).length=u-l:=by rw[aax,aaO];omega
 refine⟨_,cap-l,by rw[hlen],by omega,(fun e=>by cases e),?_⟩
 by_cases hz:u-l=0
 ·left;rw[hz];rfl
 rcases h3 with rfl|⟨b,off,k,rfl,hk2,hc⟩
 ·left;simp
 ·right
  have hne:¬cap=l:=by
   have:l<u:=by omega
   omega
  have hkk:k=te.size:=by
   have h0:0<vs.length:=by omega
   obtain⟨q,hq⟩:∃q,vs[0]? = some q:=⟨vs[0],by simp[h0]⟩
   cases hr:rows with
   |nil=>rw[hr,abQ]at hl;omega
   |cons p ps=>
    rw[hr]at r1 hk
    obtain⟨w0,ws,rfl,g1,_⟩:=r1
    rw[← hk2 w0 aaA,← aaK,g1.cells.length]
    exact hk p aaA
  subst hkk
  refine⟨b,off+l*te.size,te.size,by rw[abg hne,ach,Addr.add_lit],fun x hx=>hk2 x (aby (aaV hx)),fun i x hi=>?_⟩
  have:=hc _ x (CI hk2 (by omega) hi)
  rwa [← abB]at this
theorem nt(hs:Sat S F hp c){j k:Nat}{rs:List PV}{wr:Bool}{cp:Option Nat}{e:TypeId}(hj:hp j=some (.rows k rs wr cp e)){B m:Nat}(hB:c.hb j=some (B,m)):m=k∧∃aB vs,dl c.w B aB e (0,0)∧aC rs c vs∧(∀x∈vs,x.cells.size=k)∧(∀(i:Nat) (x:Value),(flat vs)[i]? = some x→aB[i]? = some x)∧(∀n,cp=some n→aB.size=n*k)∧rs.length*k≤aB.size:=by
 rcases hs.cD j _ hj with⟨_,_,hz⟩|⟨B',arr',vs,b1,b2,b3,b4,b5,b6,b7,b8,b9⟩
 ·rw[hz]at hB;cases hB
 ·rw[b1]at hB;cases hB;refine⟨rfl,arr',vs,b3,b4,b5,b6,b9,?_⟩;rw[← b4.length,← f_ b5];by_cases h0:(flat vs).length=0
  ·omega
  ·have hl:(flat vs).length-1<(flat vs).length:=by omega
   have:=b6 _ _ (aay hl);have:=(aaP.1 this).1;omega
theorem Sm(hT:cL P T)(hs:Sat S F hp c)(t:TypeId)(x:Operand)(lo hi mx:Option Operand)(hv:aC vs c (ρ x::(lo.toList++hi.toList++mx.toList).map ρ))(ho:o.op=.slice t x lo hi mx)(h:(yG T t lo.isSome hi.isSome mx.isSome vs).wp hp K):Sound P S (less F nx) hp c ρ o K:=by
 unfold yG at h;split at h
 ·rename_i sz ag z eq s vs' hm e2;obtain rfl:mx=none:=by cases mx with|none=>rfl|some _=>cases hm
  obtain⟨v,l,e,r1,r2⟩:=hv;cases e;rw[Option.toList_none,abe]at r2;obtain⟨l,u,hk,hlu,hun,hb⟩:=pk (P:=P) r2 h;obtain⟨hx,_⟩:=r1;obtain⟨d,hd,_,rfl⟩:=(hT t _ e2).de;have hu:=run_underlying (P:=P) hd c.w;have:=hb false s.size c.w (aas _);refine cm hs hk ⟨rfl,rfl⟩ (.inl ?_);unfold execOp;simp[ho,hx,Instr.sliceAt,Instr.slice,hu,this]
 ·rename_i sz ag z e eq p vs' hm e2;obtain rfl:mx=none:=by cases mx with|none=>rfl|some _=>cases hm
  obtain⟨v,l,e',r1,r2⟩:=hv;cases e';rw[Option.toList_none,abe]at r2;split at h
  ·rename_i te e4;have key2:∀{j q len k:Nat} {rs:List PV} {wr:Bool} {cp:Option Nat} {ee:TypeId} {l u N B m cap:Nat} {aB:Array Value} {e6:TypeId} {f:Nat×Nat},c.hb j=some (B,m)→ρ x=.slice (some ⟨B,q*m,none⟩) len cap→cap≤maxLen→dl c.w B aB e6 f→(q+cap)*m=aB.size→P.underlying t=some (.slice e)→
    hp j=some (.rows k rs wr cp ee)→Nat.beq k te.size=true→l≤u→u≤N→N≤cap→(Instr.sliceBounds true len cap (lo.map ρ) (hi.map ρ) none).run P c.w=.ok (l,u,cap) c.w→
    ∃v,(execOp ρ o).run P c.w=.ok (.value v) c.w∧Rel (.aH j (q+l) (u-l)) c v∧(l=0→u=0→Rel (.eD j q) c v):=by
    intro j q len k rs wr cp ee l u N B m cap aB e6 f hB hx g1' g2 g3 hd hj e5 hlu hun hNc hb;have hk:=aaE e5;obtain rfl:=(nt hs hj hB).1;have hv:=yc (P:=P) (a:=some ⟨B,q*m,none⟩) hd (hT e te e4) hb;rw[← hx]at hv;have hv2:(execOp ρ o).run P c.w=.ok (.value (.slice (if cap=l then some ⟨B,q*m,none⟩else(some ⟨B,q*m,none⟩:Option Addr).map (·.add (l*te.size))) (u-l) (cap-l))) c.w:=by
     unfold execOp;simp only[ho,Option.map_none,hv,Sem.run_bind,Result.andThen_ok,Sem.run_pure]
    refine⟨_,hv2,?_,fun hl hu=>?_⟩
    ·by_cases hc:cap=l
     ·rw[show u-l=0 by omega,show cap-l=0 by omega];exact .inl ⟨rfl,_,rfl⟩
     ·rw[abg hc,ach,Addr.add_lit,← hk,← acw];exact .inr ⟨B,m,cap-l,aB,e6,f,hB,rfl,by omega,by omega,g2,by rw[← g3];congr 1;omega⟩
    ·subst hl hu;refine⟨B,m,cap,aB,e6,f,hB,?_,g1',g2,g3⟩;by_cases hc:cap=0
     ·rw[abb hc,hc]
     ·rw[abg hc,ach,Addr.add_lit,abI,abM];rfl
   split at h
   ·rename_i cl rows;obtain⟨hk,h⟩:=h;obtain⟨l,u,hK,hlu,hun,hb⟩:=pk (P:=P) r2 h;obtain⟨vs,r1,r3⟩:=r1;obtain⟨d,hd,_,rfl⟩:=(hT t _ e2).de;obtain⟨v,hv,hr⟩:=Z_ hd (hT e te e4) r1 r3 hk hlu hun (fun cap hc=>hb true cap c.w hc);refine cm hs hK hr (.inl ?_);unfold execOp;simp[ho,hv]
   ·rename_i j q len;obtain⟨d,hd,_,rfl⟩:=(hT t _ e2).de;have key:∀{k:Nat} {rs:List PV} {wr:Bool} {cp:Option Nat} {ee:TypeId} {l u N:Nat},hp j=some (.rows k rs wr cp ee)→Nat.beq k te.size=true→l≤u→u≤N→
     (∀(cap:Nat),N≤cap→(Instr.sliceBounds true len cap (lo.map ρ) (hi.map ρ) none).run P c.w=.ok (l,u,cap) c.w)→(len=0→N=0)→(∀B m cap (aB:Array Value),c.hb j=some (B,m)→len≤cap→(q+cap)*m=aB.size→(∃e f,dl c.w B aB e f)→N≤cap)→
     ∃v,(execOp ρ o).run P c.w=.ok (.value v) c.w∧Rel (.aH j (q+l) (u-l)) c v∧(l=0→u=0→0<len→Rel (.eD j q) c v):=by
     intro k rs wr cp ee l u N hj e5 hlu hun hb hN0 hN;rcases r1 with⟨hz,a,hx⟩|⟨B,m,cap,aB,e6,f,hB,hx,g1,g1',g2,g3⟩
     ·have hN:=hN0 hz;subst hz;obtain rfl:u=0:=by omega
      obtain rfl:l=0:=by omega
      have hv:=yc (P:=P) (a:=a) hd (hT e te e4) (hb 0 (by omega));rw[← hx]at hv;refine⟨.slice (if 0=0 then a else a.map (·.add (0*te.size))) (0-0) (0-0),?_,.inl ⟨rfl,_,rfl⟩,fun _ _ h=>by omega⟩;unfold execOp;simp only[ho,Option.map_none,hv,Sem.run_bind,Result.andThen_ok,Sem.run_pure]
     have hNc:=hN B m cap aB hB g1 g3 ⟨_,_,g2⟩;obtain⟨v,h1,h2,h3⟩:=key2 hB hx g1' g2 g3 hd hj e5 hlu hun hNc (hb cap hNc);exact⟨v,h1,h2,fun a b _=>h3 a b⟩
    simp only[Tr.wp]at h;split at h
    ·rename_i k rs wr n ee hj;split at h
     ·rename_i e5 eh e1k;obtain⟨hlen,h⟩:=h;cases hi with
      |none=>cases eh
      |some hi=>
       obtain⟨l,u,hK,hlu,hun,hb⟩:=pk (P:=P) (hi:=some hi) r2 h;have hN:∀B m cap (aB:Array Value),c.hb j=some (B,m)→len≤cap→(q+cap)*m=aB.size→(∃e f,dl c.w B aB e f)→n-q≤cap:=by
        rintro B m cap aB hB g1 g3 ⟨e',f',g2⟩;rcases hs.cD j _ hj with⟨_,hz,_⟩|⟨B',arr',vs',b1,_,b3,_,_,_,_,_,b9⟩
        ·cases hz
        ·rw[b1]at hB;cases hB;rw[dl]at b3 g2;rw[b3]at g2;cases g2;have h1:=b9 n rfl;rw[← g3]at h1;have hk0:0<k:=by rw[aaE e5];exact aaG e1k
         have:=adB hk0 h1;omega
       obtain⟨v,hv,hr,_⟩:=key hj e5 hlu hun (fun cap hc=>by
        have:=hb true cap c.w hc;unfold Instr.sliceBounds at this⊢;exact this) (fun h=>by omega) hN
       exact cm hs hK hr (.inl hv)
     ·rename_i e5 eh e1k;cases hi with
      |some hi=>cases eh
      |none=>
       obtain⟨l,u,hK,hlu,hun,hb⟩:=pk (P:=P) (hi:=none) r2 h;obtain⟨v,hv,hr,_⟩:=key hj e5 hlu hun (fun cap hc=>hb true cap c.w hc) id (fun B m cap aB hB g1 g3 _=>g1);exact cm hs hK hr (.inl hv)
     ·exact False.elim h
    ·rename_i k rs wr ee hj;have hR:0<te.size→Nat.beq k te.size=true→∀B m cap (aB:Array Value),c.hb j=some (B,m)→len≤cap→(q+cap)*m=aB.size→(∃e f,dl c.w B aB e f)→rs.length-q≤cap:=by
      rintro h0 e5 B m cap aB hB g1 g3 ⟨e',f',g2⟩;obtain⟨rfl,arr',vs',b3,b4,b5,b6,b9,b10⟩:=nt hs hj hB;rw[dl]at b3 g2;rw[b3]at g2;cases g2;rw[← g3]at b10;have:=acV b10 (by rw[aaE e5];exact h0);omega
     split at h
     ·rename_i e5 elo ehi;obtain⟨lo,rfl⟩:=adb.1 elo;obtain⟨hi,rfl⟩:=adb.1 ehi;rcases h.h with h|⟨⟨h1,h2⟩,h⟩
      ·obtain⟨l,u,hK,hlu,hun,hb⟩:=pk (P:=P) (lo:=some lo) (hi:=some hi) r2 h;obtain⟨v,hv,hr,_⟩:=key hj e5 hlu hun (fun cap hc=>hb true cap c.w hc) id (fun B m cap aB hB g1 g3 _=>g1);exact cm hs hK hr (.inl hv)
      ·obtain⟨l,u,hK,hlu,hun,hb⟩:=pk (P:=P) (lo:=some lo) (hi:=some hi) r2 h;obtain⟨v,hv,hr,_⟩:=key hj e5 hlu hun (fun cap hc=>by
        have:=hb true cap c.w hc;unfold Instr.sliceBounds at this⊢;exact this) (fun h=>by omega) (hR h2 e5)
       exact cm hs hK hr (.inl hv)
     ·rename_i e5 elo ehi;rw[← elo,← ehi]at h;obtain⟨l,u,hK,hlu,hun,hb⟩:=pk (P:=P) r2 h;obtain⟨v,hv,hr,_⟩:=key hj e5 hlu hun (fun cap hc=>hb true cap c.w hc) id (fun B m cap aB hB g1 g3 _=>g1);exact cm hs hK hr (.inl hv)
     ·rename_i e5 elo;have elo':=elo;rw[← elo]at h;obtain⟨l,u,hK,hlu,hun,hb,hl0⟩:=K6 (P:=P) r2 h;obtain rfl:l=0:=by
       cases lo with
       |some lo=>cases elo'
       |none=>exact hl0 rfl
      obtain⟨v,hv,hr,hr2⟩:=key hj e5 hlu hun (fun cap hc=>hb true cap c.w hc) id (fun B m cap aB hB g1 g3 _=>g1);rcases hK.h with hK|⟨⟨hu,hl⟩,hK⟩
      ·exact cm hs hK (by rw[abM,ado]at hr;exact hr) (.inl hv)
      ·exact cm hs hK (hr2 rfl hu hl) (.inl hv)
     ·exact False.elim h
    ·exact False.elim h
   ·rename_i j q;obtain⟨d,hd,_,rfl⟩:=(hT t _ e2).de;obtain⟨B,m,cap,aB,e6,f,hB,hx,g1',g2,g3⟩:=r1;simp only[Tr.wp]at h;split at h
    ·rename_i k rs wr ee hj;split at h
     ·rename_i e5 ehi;obtain⟨h0,h⟩:=h;rw[← ehi]at h;obtain⟨l,u,hK,hlu,hun,hb⟩:=pk (P:=P) r2 h;have hNc:rs.length-q≤cap:=by
       obtain⟨rfl,arr',vs',b3,b4,b5,b6,b9,b10⟩:=nt hs hj hB;have g2':=g2;rw[dl]at b3 g2';rw[b3]at g2';cases g2';rw[← g3]at b10;have:=acV b10 (by rw[aaE e5];exact h0);omega
      cases hi with
      |none=>cases ehi
      |some hi=>
       obtain⟨v,hv,hr,_⟩:=key2 hB hx g1' g2 g3 hd hj e5 hlu hun hNc (by
        have:=hb true cap c.w hNc;unfold Instr.sliceBounds at this⊢;exact this)
       exact cm hs hK hr (.inl hv)
     ·exact False.elim h
    ·exact False.elim h
   ·exact False.elim h
  ·exact False.elim h
 ·rename_i sz ag z e eq p k1 a1 k2 a2 hm e2;split at h
  ·rename_i te cl rows hl hh e4;obtain⟨hk,⟨h0,h1,h2⟩,h⟩:=h;obtain rfl:lo=none:=by cases lo with|none=>rfl|some _=>cases hl
   cases hi with
   |none=>cases hh
   |some hi=>
   cases mx with
   |none=>cases hm
   |some mx=>
   obtain⟨⟨us,r1,r2⟩,⟨hy,_⟩,hz,_⟩:=uz hv;obtain⟨d,hd,_,rfl⟩:=(hT t _ e2).de;have hl:=r1.length;obtain⟨a,cap,hx,g1,g2,g3⟩:=r2;have hu:=run_underlying (P:=P) hd c.w;have hrun:(Instr.sliceAt t (ρ x) none (some (ρ hi)) (some (ρ mx))).run P c.w=.ok (.slice (if a2.toNat=0 then a else a.map (·.add (0*te.size))) a1.toNat a2.toNat) c.w:=by
    have b1:(0:Int)≤a2:=by omega
    have b2:a2≤(cap:Int):=by omega
    have b3:a1≤max a2 0:=by omega
    simp[Instr.sliceAt,Instr.slice,hu,hx,Instr.sliceBounds,hy,hz,Instr.sliceBound,asIntOf,b1,b2,h0,b3,(hT e te e4).size]
   have hadd:(if a2.toNat=0 then a else a.map (·.add (0*te.size)))=a:=by
    rw[abI];split
    ·rfl
    ·cases a<;>rfl
   rw[hadd]at hrun;have htl:(us.take a1.toNat).length=a1.toNat:=by rw[aax];omega
   refine cm (v:=.slice a a1.toNat a2.toNat) hs h ⟨us.take a1.toNat,r1.take a1.toNat,a,a2.toNat,by rw[htl],by rw[htl];omega,fun _=>by rw[htl];omega,?_⟩ (.inl ?_)
   ·rcases g3 with rfl|⟨b,off,k,rfl,hk2,hc⟩
    ·exact .inl (List.take_nil)
    ·right;refine⟨b,off,k,rfl,fun x hx=>hk2 x (aaV hx),fun i x hi=>?_⟩;have:=CI (l:=0) (m:=a1.toNat) hk2 (aaF _) (i:=i) (x:=x) (by rw[acO];exact hi);rw[abI,aav]at this;exact hc i x this
   ·unfold execOp;simp[ho,hrun]
  ·exact False.elim h
 ·rename_i sz ag z e eq j o2 len k0 a0 k1 a1 k2 a2 hm e2;split at h
  ·rename_i te hl hh e4;obtain⟨⟨h0,h1,h2,h3⟩,h⟩:=h;cases lo with
   |none=>cases hl
   |some lo=>
   cases hi with
   |none=>cases hh
   |some hi=>
   cases mx with
   |none=>cases hm
   |some mx=>
   obtain⟨v,l,ev,r1,r2⟩:=hv;cases ev;obtain⟨⟨hx0,_⟩,⟨hy,_⟩,hz,_⟩:=uz r2;obtain⟨d,hd,_,rfl⟩:=(hT t _ e2).de;have hu:=run_underlying (P:=P) hd c.w;have fin:∀{ad:Option Addr} {n cap:Nat},ρ x=.slice ad n cap→n=len→n≤cap→Sound P S (less F nx) hp c ρ o K:=by
    intro ad n cap hx hn hcap;subst hn;have b1:a2≤(cap:Int):=by omega
    have b0:(0:Int)≤a2:=by omega
    have b2:(0:Int)≤a1:=by omega
    have b3:a1≤max a2 0:=by omega
    have b4:a0≤max a1 0:=by omega
    refine cm (v:=.slice (if a2.toNat=a0.toNat then ad else ad.map (·.add (a0.toNat*te.size))) (a1.toNat-a0.toNat) (a2.toNat-a0.toNat)) hs h rfl (.inl ?_);unfold execOp;simp[ho,Instr.sliceAt,Instr.slice,hu,hx,Instr.sliceBounds,hx0,hy,hz,Instr.sliceBound,asIntOf,b1,b0,b2,b3,b4,h0,(hT e te e4).size]
   rcases r1 with⟨hz0,ad,hx⟩|⟨B,m,cap,aB,e6,f,hB,hx,g1,g1',g2,g3⟩
   ·exact fin hx hz0.symm (aas _)
   ·exact fin hx rfl g1
  ·exact False.elim h
 ·exact False.elim h
theorem M5(hT:cL P T)(hs:Sat S F hp c)(t:TypeId)(x:Operand)(hv:aC vs c [ρ x])(ho:o.op=.makeInterface t x)(h:(yo T t vs).wp hp K):Sound P S (less F nx) hp c ρ o K:=by
 unfold yo at h;split at h
 ·rename_i v ti e2;obtain⟨d,hd,_,hk⟩:=(hT t _ e2).de;have hu:=run_underlying (P:=P) hd c.w;have hr:=fP hv;have hn:(∀ms,d≠.interface ms)∧K (.dq t v) []:=by
   cases hkd:ti.kd with
   |other=>rw[hkd]at h;exact False.elim h
   |struct fs=>
    rw[hkd]at h hk;obtain⟨f,rfl,_⟩:=hk;exact⟨fun ms e=>(by simp at e),h⟩
   |func=>
    rw[hkd]at h hk;obtain⟨a,b,c,rfl⟩:=hk;exact⟨fun ms e=>(by simp at e),h⟩
   |ptr=>
    rw[hkd]at h hk;obtain⟨a,rfl⟩:=hk;exact⟨fun ms e=>(by simp at e),h⟩
   |_=>
    rw[hkd]at h hk;obtain rfl:=hk;exact⟨fun ms e=>(by simp at e),h⟩
  refine cm hs hn.2 ⟨_,rfl,hr⟩ (.inl ?_);unfold execOp;simp only[ho,Instr.makeInterface,Sem.run_bind,hu,Result.andThen_ok];cases d with
  |interface ms=>exact(hn.1 ms rfl).elim
  |_=>rfl
 ·exact False.elim h
theorem Wh(hT:cL P T)(hs:Sat S F hp c)(x:Operand)(xt t:TypeId)(ok:Bool)(hv:aC vs c [ρ x])(ho:o.op=.typeAssert x xt t ok)(h:(zi T t ok vs).wp hp K):Sound P S (less F nx) hp c ρ o K:=by
 unfold zi at h;split at h
 ·rename_i tt v ti e2;obtain⟨d,hd,_,hk⟩:=(hT t _ e2).de;have hu:=run_underlying (P:=P) hd c.w;obtain⟨u,hx,hr⟩:=fP hv;have hn:(∀ms,d≠.interface ms)∧(match Nat.beq tt t,ok with
   |true,false=>Tr.ok v []
   |true,true=>.ok (.aK [v,.at (.bool true)]) []
   |false,true=>.ok (.aK [ti.zero,.at (.bool false)]) []
   |false,false=>.bad).wp hp K:=by
   cases hkd:ti.kd with
   |other=>rw[hkd]at h;exact False.elim h
   |struct fs=>
    rw[hkd]at h hk;obtain⟨f,rfl,_⟩:=hk;exact⟨fun ms e=>(by simp at e),h⟩
   |func=>
    rw[hkd]at h hk;obtain⟨a,b,c,rfl⟩:=hk;exact⟨fun ms e=>(by simp at e),h⟩
   |ptr=>
    rw[hkd]at h hk;obtain⟨a,rfl⟩:=hk;exact⟨fun ms e=>(by simp at e),h⟩
   |_=>
    rw[hkd]at h hk;obtain rfl:=hk;exact⟨fun ms e=>(by simp at e),h⟩
  obtain⟨hn,h⟩:=hn;obtain⟨z,hz,_,hrz⟩:=(hT t _ e2).zeroV c;have key:∀{r:Value},(if tt=t then(pure (if ok then .tuple #[u,.bool true]else u):Sem Value)else if ok then(do pure (.tuple #[← zeroValue t,.bool false]))else runtimePanic (.typeAssertion (some xt) (some tt) t "")).run P c.w=.ok r c.w→(execOp ρ o).run P c.w=.ok (.value r) c.w:=by
   intro r hr;unfold execOp;simp only[ho,hx,Instr.typeAssert,Sem.run_bind,hu,Result.andThen_ok];cases d with
   |interface ms=>exact(hn ms rfl).elim
   |_=>exact(by simp only[hr,Result.andThen_ok,Sem.run_pure])
  cases e:Nat.beq tt t<;>cases ok<;>rw[e]at h
  ·exact False.elim h
  rotate_left
  ·refine cm hs h hr (.inl (key ?_));rw[abb (aaE e)];rfl
  ·refine cm hs h ⟨[u,.bool true],rfl,u,_,rfl,hr,_,[],rfl,⟨rfl,rfl⟩,rfl⟩ (.inl (key ?_));rw[abb (aaE e)];rfl
  ·refine cm hs h ⟨[z,.bool false],rfl,z,_,rfl,hrz,_,[],rfl,⟨rfl,rfl⟩,rfl⟩ (.inl (key ?_));rw[abg (by rintro rfl;rw[acI]at e;cases e)];simp[hz]
 ·exact False.elim h
theorem Pk(hs:Sat S F hp c)(x:Operand)(hv:aC vs c [ρ x])(ho:o.op=.nilCheck x)(h:(tr T nx (.nilCheck x) vs).wp hp K):Sound P S (less F nx) hp c ρ o K:=by
 simp only[tr]at h;split at h
 ·have hr:=fP hv;have hr2:=hr;obtain⟨vs,hx,_⟩:=hr2;refine cm hs h hr (.inl ?_);unfold execOp;simp[ho,hx]
 ·have hr:=fP hv;have hr2:=hr;obtain⟨B,k,_,hx⟩:=hr2;refine cm hs h hr (.inl ?_);unfold execOp;simp[ho,hx]
 ·have hr:=fP hv;have hr2:=hr;obtain⟨B,k,_,hx⟩:=hr2;refine cm hs h hr (.inl ?_);unfold execOp;simp[ho,hx]
 ·have hr:=fP hv;have hr2:=hr;obtain⟨b,base,vs,hx,_⟩:=hr2;refine cm hs h hr (.inl ?_);unfold execOp;simp[ho,hx]
 ·exact False.elim h
end
section
variable {P:Program}{T:TT}{S:ct}{F:Nat→Prop}{nx:Nat}{hp:Nat→Option aA}{c:RC}{ρ:Operand→Value}{o:Oper}{K:PV→bW→Prop}{vs:List PV}
theorem U7(hT:cL P T)(hs:Sat S F hp c)(t:TypeId)(parts:Array (Nat×Operand))(hr:aC vs c ((parts.toList.map (·.2)).map ρ))(ho:o.op=.build t parts)(h:(tr T nx (.build t parts) vs).wp hp K):Sound P S (less F nx) hp c ρ o K:=by
 simp only[tr]at h;split at h
 ·rename_i ti e1;rw[Rt]at h;split at h
  ·rename_i cs e0 e3;obtain⟨i,z,h1,h2,h3,_,_,h5⟩:=(hT t ti e1).ex;obtain⟨d,hd,_,hk⟩:=(hT t ti e1).de;have hfin:∃place,P.built t (parts.map fun(i,x)=>(i,ρ x)).toList=Instr.fill place z.cells (parts.map fun(i,x)=>(i,ρ x)).toList∧∀i x,u7 T ti.kd i=some x→place i=some x:=by
    cases hkd:ti.kd with
    |struct fs=>
     rw[hkd]at hk;obtain⟨fields,rfl,⟨places,hp1,hp2⟩,hf⟩:=hk;refine⟨(places.toArray[·]?),by simp only[Program.built,h1,hd,h3,hp1],fun n x hx=>?_⟩;unfold u7 at hx;dsimp only at hx;split at hx
     ·rename_i off e hn;split at hx
      ·rename_i te hte;cases hx;obtain⟨i2,z2,g1,g2,_⟩:=(hT e te hte).ex;have:=hp2 n off e i2 hn g1;rw[g2]at this;simpa using this
      ·cases hx
     ·cases hx
    |aB n e=>
     rw[hkd]at hk;obtain rfl:=hk;cases hte:T e with
     |none=>rw[hkd]at e0;simp only[IZ,hte]at e0;cases e0
     |some te=>
      obtain⟨i2,z2,g1,g2,_⟩:=(hT e te hte).ex;refine⟨fun q=>some (q*i2.size,i2.size),by simp only[Program.built,h1,hd,h3,g1],fun n x hx=>?_⟩;simp only[u7,hte]at hx;cases hx;rw[g2]
    |_=>rw[hkd]at e0;cases e0
   obtain⟨place,hpl,hpp⟩:=hfin;obtain⟨ys,g1,g2⟩:=C7 hpp (h5 c).cells hr e3;rw[zN]at hpl;have hb:P.built t (parts.map fun(i,x)=>(i,ρ x)).toList=some ys.toArray:=by
    rw[zN,hpl];exact g1
   refine cm hs h ⟨ys,rfl,g2⟩ (.inl ?_);unfold execOp;simp only[ho,Sem.run_bind,run_build c.w t _ _ hb,Result.andThen_ok,Sem.run_pure]
  ·exact False.elim h
 ·exact False.elim h
theorem Eh{k:Nat}:∀{vs:List PV},vk k vs=true→pq vs k
 | [],_=>fun _ h=>by cases h
 |v::vs,h=>by
  unfold vk at h
  split at h
  ·rename_i e
   intro x hx
   rcases aaI.1 hx with rfl|hx
   ·exact aaE e
   ·exact Eh h x hx
  ·cases h
theorem aC.oo{k:Nat}:∀{ps:List PV} {c:RC} {vs:List Value},aC ps c vs→pq ps k→∀u∈vs,u.cells.size=k
 | [],_,vs,r,_=>by rw[show vs=[]from r];intro u hu;cases hu
 |p::ps,_,_,r,h=>by
  obtain⟨v,vs',rfl,r1,r2⟩:=r
  intro u hu
  rcases aaI.1 hu with rfl|hu
  ·rw[← aaK,r1.cells.length];exact h p aaA
  ·exact aC.oo r2 (fun x hx=>h x (aaz _ hx)) u hu
theorem JJ{w:World}{cells:Array Value}{vs:List Value}{e:TypeId}(h:cells.toList.take (flat vs).length=flat vs):∀i x,(flat vs)[i]? = some x→(w.alloc (.cells cells e)).cell? ⟨w.heap.size,i,none⟩=some x:=by
 intro i x hx;rw[cell_of_row _ _ _ _ _ _ (heap_alloc_new w _),← aaU];have hlt:=(aaq.1 hx).1;rw[← h,acF hlt]at hx;exact hx
theorem aal(hT:cL P T)(hs:Sat S F hp c)(t:TypeId)(len:Nat)(parts:Array (Nat×Operand))(hr:aC vs c ((parts.toList.map (·.2)).map ρ))(ho:o.op=.buildSlice t len parts)(h:(tr T nx (.buildSlice t len parts) vs).wp hp K):Sound P S (less F nx) hp c ρ o K:=by
 simp only[tr]at h;split at h
 ·rename_i sz ag z e eq e2;split at h
  ·rename_i te e4;split at h
   ·rename_i h1 h2 h3 h5;simp only[Tr.wp]at h;split at h
    ·rename_i rs l h6;have hlen:=aaE h2;have hk:=hr.oo (Eh h3);have hus:=hr.length;generalize hgu:List.map ρ (List.map (fun x=>x.2) parts.toList)=us at hr hk hus;have hrr:=jA hs l 200 h6 (fun _ h=>h) hr;rw[RC.rq]at hrr;have hs1:=hs.dE l;obtain⟨d,hd,_,rfl⟩:=(hT t _ e2).de;obtain⟨i,zz,g1,g2,g3,g4,_⟩:=(hT e te e4).ex;have hfl:(flat us).length=len*te.size:=by rw[f_ hk,hus,hlen]
     have hfill:∀A:Array Value,A.size=len*te.size→Instr.fill (fun i=>some (i*te.size,te.size)) A (parts.map fun(i,x)=>(i,ρ x)).toList=some (flat us).toArray:=by
      intro A hA;rw[zN,hgu,C5 _ us 0 A h1 (by rw[← hgu];simp) hk (by rw[hA,hus,hlen,aav];exact aas _)];rw[abI,aav,hus,hlen,← hA,← aaK,abZ];simp
     have hbel:=Gt c.w (.cells (flat us).toArray e);have hx1:Ext c (fK hp c l):=m_ hp c l;let Z':Nat→Nat→Prop:=fun b o=>(fK hp c l).Z b o∨(b=c.w.heap.size∧o<(flat us).length)
     have hx2:Ext (fK hp c l) ⟨c.w.alloc (.cells (flat us).toArray e),Z',c.hb⟩:=pT (c:=fK hp c l) hs1.dG hbel (fun b o z=>.inl z);have hs2:Sat S F (dE hp l) ⟨c.w.alloc (.cells (flat us).toArray e),Z',c.hb⟩  :=qH (c:=fK hp c l) hs1 hbel (fun b o z=>.inl z) (fun b o z=>by
      rcases z with z|⟨rfl,_⟩
      ·exact .inl z
      ·exact .inr ⟨aas _,by simp⟩)
     refine⟨_,_,h,.slice (some ⟨c.w.heap.size,0,none⟩) len len,_,.inl ?_,hx1.trans hx2,?_,?_⟩
     ·have hu:=run_underlying (P:=P) hd c.w;have hsz:=(hT e te e4).size c.w;have hz:(zeroValue e).run P c.w=.ok zz c.w:=by simp[zeroValue,typeInfo,g1,g3]
      have hle:¬len*te.size>2^24:=by have:=aaG h5;omega
      unfold execOp;simp only[ho,Instr.buildSlice,Sem.run_bind,hu,hsz,Result.andThen_ok];rw[abg hle];by_cases h0:len*te.size=0
      ·simp only[Sem.run_bind,Sem.run_pure,Result.andThen_ok,abb h0];rw[hfill _ (by simp)];simp[newRow]
      ·simp only[Sem.run_bind,Sem.run_pure,Result.andThen_ok,abg h0,hz];rw[hfill _ (by simp)];simp[newRow]
     ·rw[pI];exact hs2.up fun _ h=>h.1
     ·have hul:us.length=len:=by omega
      refine⟨us,aC.ext rs hx2.pure hrr,some ⟨c.w.heap.size,0,none⟩,len,by rw[hul],by omega,fun _=>hul.symm,.inr ⟨c.w.heap.size,0,te.size,rfl,hk,fun q x hq=>⟨.inr ⟨rfl,?_⟩,?_⟩⟩⟩
      ·rw[aav];exact(aaq.1 hq).1
      ·rw[aav];exact JJ (w:=c.w) (e:=e) (by simp) q x hq
    ·exact False.elim h
   ·exact False.elim h
  ·exact False.elim h
 ·exact False.elim h
theorem Eb(t ty e:TypeId){te:TI}(hd:P.underlying t=some (.slice e))(hte:fz P e te)(a b:Option Addr)(n cap q:Nat)(h:n≤cap)(w:World):
 (Builtin.append_ #[t,t] ty #[.slice a n cap,.slice b 0 q]).run P w=.ok (.slice a n cap) w:=by
 have hu:=run_underlying (P:=P) hd w
 cases a<;>cases b<;>simp[Builtin.append_,hu,hte.size,Builtin.lenOf,h,Builtin.firstCells,loadCells,loadCellsFrom,storeCells]
theorem tg{c:RC}:∀{ys:List PV} {us:List Value},aC ys c us→(∀r∈ys,PV.ke r.cells=true)→∀x∈flat us,x.oneCell'=true
 | [],us,r,_=>by rw[show us=[]from r];intro x hx;cases hx
 |p::ps,_,r,h=>by
  obtain⟨v,vs',rfl,r1,r2⟩:=r
  intro x hx
  rw[gV]at hx
  rcases aaN.1 hx with hx|hx
  ·exact r1.cells.wD (h p aaA) x hx
  ·exact tg r2 (fun q hq=>h q (aaz _ hq)) x hx
theorem Ai{cl:Bool}{v:Value}{rows:List PV}{vs:List Value}(r1:aC rows c.pure vs)(r2:iB c.w c.Z cl v vs)(hne:vs≠[]):
 ∃b off cap,v=.slice (some ⟨b,off,none⟩) vs.length cap∧vs.length≤cap∧∀j x,(flat vs)[j]? = some x→c.w.cell? ((⟨b,off,none⟩:Addr).add j)=some x:=by
 obtain⟨a,cap,rfl,h1,h2,h3⟩:=r2
 rcases h3 with rfl|⟨b,off,k',rfl,hk2,hc⟩
 ·exact(hne rfl).elim
 ·exact⟨b,off,cap,rfl,h1,fun j x hj=>by rw[Addr.add_lit];exact(hc j x hj).2⟩
theorem yf(hs:Sat S F hp c)(hF:F nx){t ty e:TypeId}{te:TI}(hd:P.underlying t=some (.slice e))(hte:fz P e te){rows ys:List PV}{vs us:List Value}{a:Option Addr}{cap:Nat}{cl:Bool}{u:Value}
 (r1:aC rows c vs) (hvc:vs=[]∨∃b off,a=some ⟨b,off,none⟩∧∀j x,(flat vs)[j]? = some x→c.w.cell? ⟨b,off+j,none⟩=some x) (q1:aC ys c.pure us) (q2:iB c.w c.Z cl u us) (ha:mj rows ys te.size) (hne:us≠[]) (hcap:cap<vs.length+us.length) (hle:vs.length≤cap) (hnil:a=none→cap=0):
 ∃v' c',(Builtin.append_ #[t,t] ty #[.slice a vs.length cap,u]).run P c.w=.ok v' c'.w∧Ext c c'∧Sat S (less F nx) (ck hp nx (some (.rows te.size (rows++ys) true none e))) c'∧Rel (.aH nx 0 (rows.length+ys.length)) c' v':=by
 obtain⟨i,z,g1,g2,g3,g4,g5,_⟩:=hte.ex
 obtain⟨b,off,ucap,rfl,hu1,hu2⟩:=Ai q1 q2 hne
 have hvk:=r1.oo ha.rows
 have huk:=q1.oo (fun r hr=>(ha.ys r hr).1)
 have hfv:=f_ hvk
 have hfu:=f_ huk
 have hn:=ha.n
 have hlv:=r1.length
 have hlu:=q1.length
 have hpos:0<us.length:=adx.2 hne
 have hby:(vs.length+us.length)*i.bytes≤140737488355328:=aaJ (adm (show vs.length+us.length≤67108864 by omega) g5) (by decide)
 have hrun:(Builtin.append_ #[t,t] ty #[.slice a vs.length cap,.slice (some ⟨b,off,none⟩) us.length ucap]).run P c.w=
  .ok (.slice (some ⟨c.w.heap.size,0,none⟩) (vs.length+us.length) (grownCap c.w (vs.length+us.length) cap e))
   (c.w.drew.alloc (.cells ((flat vs).toArray++(flat us).toArray++Builtin.zeroCells z.cells (grownCap c.w (vs.length+us.length) cap e-(vs.length+us.length))) e)):=by
  cases a with
  |none=>
   have hv0:vs=[]:=by
    rcases hvc with h3|⟨_,_,e,_⟩
    ·exact h3
    ·cases e
   subst hv0
   have hc0:=hnil rfl
   subst hc0
   have:=run_append_nil (P:=P) c.w t ty e i z hd g1 g3 ⟨b,off,none⟩ us.length ucap (flat us) (by rw[hfu,g2]) hu2 hpos (by omega) (by simp only[abQ,aav]at hby;omega)
   simpa[flat]using this
  |some ad=>
   refine run_append_grow (P:=P) c.w t ty e i z hd g1 g3 ad vs.length cap (flat vs) (by rw[hfv,g2]) (fun j x hj=>?_) ⟨b,off,none⟩ us.length ucap (flat us) (by rw[hfu,g2]) hu2 (by omega) (by omega) (growslice_fits (by omega) hby)
   rcases hvc with rfl|⟨b',off',e,hc⟩
   ·cases hj
   ·cases e
    rw[Addr.add_lit];exact hc j x hj
 have hge:=grownCap_ge c.w (vs.length+us.length) cap e
 have hle:=grownCap_le_maxLen c.w (vs.length+us.length) cap e (by simp only[maxLen];omega)
 generalize grownCap c.w (vs.length+us.length) cap e=nc at hrun hge hle
 generalize hcells:(flat vs).toArray++(flat us).toArray++Builtin.zeroCells z.cells (nc-(vs.length+us.length))=cells at hrun
 have hcs:cells.size=nc*te.size:=by
  rw[← hcells]
  simp only[Array.size_append,abv,size_zeroCells,g4,hfv,hfu,← acw]
  congr 1;omega
 have htk:cells.toList.take (flat (vs++us)).length=flat (vs++us):=by
  rw[← hcells,pc]
  simp only[Array.toList_append]
  exact List.take_left
 have hall:∀x∈vs++us,x.cells.size=te.size:=fun x hx=>by
  rcases aaN.1 hx with h|h
  ·exact hvk x h
  ·exact huk x h
 obtain⟨c',k1,k2,k3,k4,k5⟩:=hs.xD hF (w1:=c.w.drew) ((Below.refl c.w.heap.size c.w).drew) rfl (rs:=rows++ys) (vs:=vs++us) (r1.od (aC.ext ys (Ext.jz c) q1)) cells e te.size hall (fun q x hq=>by
  rw[← aaU]
  have hlt:=(aaq.1 hq).1
  rw[← htk,acF hlt]at hq
  exact hq) none (fun _ e=>by cases e)
 refine⟨_,c',by rw[k1];exact hrun,k4,k5,.inr ⟨c.w.heap.size,te.size,nc,cells,e,(0,0),by rw[k3];exact dm _ _ _,?_,?_,hle,?_,by rw[hcs,aav]⟩⟩
 ·rw[abI,hlv,hlu]
 ·rw[← hlv,← hlu];exact hge
 ·rw[k1];exact heap_alloc_new c.w.drew _
theorem EG(hs:Sat S F hp c)(hF:F nx){t ty e:TypeId}{te:TI}(hd:P.underlying t=some (.slice e))(hte:fz P e te){rows ys:List PV}{vs us:List Value}{a:Option Addr}{cl:Bool}{u:Value}
 (r1:aC rows c vs) (hvc:vs=[]∨∃b off,a=some ⟨b,off,none⟩∧∀j x,(flat vs)[j]? = some x→c.w.cell? ⟨b,off+j,none⟩=some x) (q1:aC ys c.pure us) (q2:iB c.w c.Z cl u us) (ha:mj rows ys te.size) (h0:ys=[]→vs=[]):
 ∃v' c',(Builtin.append_ #[t,t] ty #[.slice a vs.length vs.length,u]).run P c.w=.ok v' c'.w∧Ext c c'∧Sat S (less F nx) (ck hp nx (some (.rows te.size (rows++ys) true none e))) c'∧Rel (.aH nx 0 (rows.length+ys.length)) c' v':=by
 by_cases hne:us=[]
 ·subst hne
  have hy:ys=[]:=abz.1 q1.length.symm
  subst hy
  obtain rfl:=h0 rfl
  have hr0:rows=[]:=abz.1 r1.length.symm
  subst hr0
  obtain⟨b,cap,rfl,_⟩:=q2
  have hx:=qk (c:=c) (x:=none) (hs.fresh _ hF)
  exact⟨_,c.named nx none,Eb t ty e hd hte a b _ _ cap (aas _) c.w,hx,qC hs hF (.inl ⟨rfl,rfl,dm _ _ _⟩) (fun _ _ _ _ _ _ _ h=>by cases h),.inl ⟨rfl,a,rfl⟩⟩
 ·have hpos:0<us.length:=adx.2 hne
  refine yf hs hF hd hte r1 hvc q1 q2 ha hne (by omega) (aas _) fun h=>?_
  rcases hvc with rfl|⟨_,_,e,_⟩
  ·rfl
  ·rw[h]at e;cases e
theorem fh.move{j:Nat}{b:aA}{x:Nat×Nat}(h:fh S c j b)(hx:Ext c (c.named nx (some x)))(hb:c.hb j=some x):fh S (c.named nx (some x)) nx b:=by
 have hn:(c.named nx (some x)).hb nx=some x:=dm _ _ _;cases b with
 |rows k rs wr f e=>
  rcases h with⟨_,_,h⟩|⟨B,aB,vs,h1,h2,h3,h4,h5⟩
  ·rw[h]at hb;cases hb
  ·rw[h1]at hb;cases hb;exact .inr ⟨B,aB,vs,hn,h2,h3,aC.ext rs hx h4,h5⟩
 |map ks ps wr=>
  obtain⟨B,es,cl,h1,h2,h3,h4,h5,h6⟩:=h;rw[h1]at hb;cases hb;exact⟨B,es,cl,hn,h2,h3,h4,aC.ext ps hx h5,h6⟩
theorem G1(hs:Sat S F hp c)(hF:F nx){j:Nat}{b:aA}{x:Nat×Nat}(hj:hp j=some b)(hb:c.hb j=some x)(ho:b.own=true):Ext c (c.named nx (some x))∧Sat S (less F nx) (ck (ck hp j none) nx (some b)) (c.named nx (some x)):=by
 have hx:=qk (x:=some x) (hs.fresh _ hF);refine⟨hx,qC (DD hs j) hF ((hs.cD j b hj).move hx hb) fun i bi y z _ hi hy hz=>?_⟩;cases hz;by_cases e:i=j
 ·subst e;rw[dm]at hi;cases hi
 ·rw[dR _ _ e]at hi;exact fun h=>hs.sep j i _ bi hj hi (fun h=>e h.symm) ho _ _ hb hy h.symm
theorem UH(hs:Sat S F hp c)(hF:F nx){t ty e:TypeId}{te:TI}(hd:P.underlying t=some (.slice e))(hte:fz P e te){rs ys:List PV}{us:List Value}{j len:Nat}{cl:Bool}{u x:Value}
 (hj:hp j=some (.rows te.size rs true none e)) (hx:Rel (.aH j 0 len) c x) (hlen:len=rs.length) (q1:aC ys c.pure us) (q2:iB c.w c.Z cl u us) (ha:mj rs ys te.size):
 ∃v' c',(Builtin.append_ #[t,t] ty #[x,u]).run P c.w=.ok v' c'.w∧Ext c c'∧Sat S (less F nx) (ck (ck hp j none) nx (some (.rows te.size (rs++ys) true none e))) c'∧Rel (.aH nx 0 (len+ys.length)) c' v':=by
 subst hlen
 have hs0:=DD hs j
 rcases hx with⟨h0,a,rfl⟩|⟨B,k,cap,aB,e',f,hB,rfl,hle,hmax,hrow,hcap⟩
 ·have hr0:rs=[]:=abz.1 h0
  subst hr0
  exact EG (vs:=[]) hs0 hF hd hte rfl (.inl rfl) q1 q2 ha (fun _=>rfl)
 rcases hs.cD j _ hj with⟨_,_,hz⟩|⟨B',arr',vs,b1,b2,b3,b4,b5,b6,b7,b8,b9⟩
 ·rw[hz]at hB;cases hB
 have hBm:=hB
 rw[b1]at hBm;cases hBm
 have h3:dl c.w B aB e' f:=hrow
 rw[dl]at h3 b3
 rw[b3]at h3;cases h3
 rw[aav]at hcap
 have hlv:=b4.length
 have hlu:=q1.length
 have hvk:=b5
 have huk:=q1.oo (fun r hr=>(ha.ys r hr).1)
 have hfv:=f_ hvk
 have hfu:=f_ huk
 rw[abI,← hlv]
 by_cases hne:us=[]
 ·subst hne
  have hy:ys=[]:=abz.1 q1.length.symm
  subst hy
  obtain⟨b,ucap,rfl,_⟩:=q2
  obtain⟨hx,hsat⟩:=G1 hs hF hj b1 rfl
  rw[abe]
  refine⟨_,c.named nx (some (B,te.size)),Eb t ty e hd hte _ b _ cap ucap (by omega) c.w,hx,hsat,.inr ⟨B,te.size,cap,aB,e,(0,0),dm _ _ _,by rw[abI];rfl,by rw[abQ];omega,hmax,b3,by rw[aav];exact hcap⟩⟩
 ·by_cases hroom:vs.length+us.length≤cap
  ·obtain⟨b,off,ucap,rfl,hu1,hu2⟩:=Ai q1 q2 hne
   obtain⟨i,z,g1,g2,g3,g4,g5,_⟩:=hte.ex
   have hmul:=abx te.size hroom
   rw[acw]at hmul
   have hrun:=run_append_room (P:=P) c.w t ty e i hd g1 B vs.length cap aB b3 ⟨b,off,none⟩ us.length ucap (flat us) (by rw[hfu,g2]) hu2 (tg q1 fun r hr=>(ha.ys r hr).2) hroom (by rw[g2,hfu,← hcap];exact hmul)
   rw[g2]at hrun
   generalize hnew:(aB.toList.take (vs.length*te.size)++flat us++aB.toList.drop (vs.length*te.size+(flat us).length)).toArray=new at hrun
   have hns:new.size=aB.size:=by
    rw[← hnew,abv]
    simp only[aap,aax,aaO,aaK,hfu]
    rw[hcap]at hmul
    omega
   have hget:∀o,new[o]? = if o<vs.length*te.size then aB[o]? else if o<vs.length*te.size+(flat us).length then(flat us)[o-vs.length*te.size]? else aB[o]?:=by
    intro o
    rw[← hnew,acS,tU _ _ _ _ (by have h9:aB.toList.length=cap*te.size:=hcap.symm;rw[hfu,h9];exact hmul)]
    simp only[aaU]
   have hall:∀x∈vs++us,x.cells.size=te.size:=fun x hx=>by
    rcases aaN.1 hx with h|h
    ·exact hvk x h
    ·exact huk x h
   obtain⟨hx1,hs1⟩:=wq hs (full':=none) hj b1 b3 hns (b4.od (aC.ext ys (Ext.jz c) q1)) hall (fun q x hq=>by
    rw[hget]
    rw[pc]at hq
    by_cases h1:q<(flat vs).length
    ·rw[abt h1]at hq
     rw[abb (by omega)]
     exact b6 q x hq
    ·rw[abf (by omega),hfv]at hq
     have h2:=(aaq.1 hq).1
     rw[abg (by omega),abb (by omega)]
     exact hq) (fun _ e=>by cases e)
   obtain⟨hx2,hs2⟩:=G1 hs1 hF (dm _ _ _) (x:=(B,te.size)) b1 rfl
   have hf:ck (ck hp j (some (.rows te.size (rs++ys) true none e))) j none=ck hp j none:=by
    funext i
    by_cases h:i=j
    ·subst h;rw[dm,dm]
    ·rw[dR _ _ h,dR _ _ h,dR _ _ h]
   rw[hf]at hs2
   refine⟨_,_,hrun,hx1.trans hx2,hs2,.inr ⟨B,te.size,cap,new,e,(0,0),dm _ _ _,?_,by rw[← hlu];exact hroom,hmax,setRow_heap _ _ _ _ _ _ b3,by rw[aav,hns];exact hcap⟩⟩
   rw[abI,hlu]
  ·have:=yf (ty:=ty) hs0 hF hd hte (rows:=rs) (ys:=ys) (vs:=vs) (us:=us) (a:=some ⟨B,0,none⟩) (cap:=cap) b4 (.inr ⟨B,0,rfl,fun q x hq=>by rw[aav,cell_of_row _ _ _ _ _ _ b3];exact b6 q x hq⟩) q1 q2 ha hne (by omega) (by omega) (fun h=>by cases h)
   rw[← hlv]at this
   exact this
theorem MD(hs:Sat S F hp c)(hF:F nx){t ty e:TypeId}{te:TI}(hd:P.underlying t=some (.slice e))(hte:fz P e te){rs ys:List PV}{us:List Value}{j len:Nat}{cl:Bool}{u x:Value}
 (hj:hp j=some (.rows te.size rs true none e)) (hx:Rel (.aH j 0 len) c x) (hlen:len=rs.length) (q1:aC ys c.pure us) (q2:iB c.w c.Z cl u us) (ha:mj rs ys te.size) (hrs:rs≠[]) (hys:ys≠[]):
 (∃v' c',(Builtin.append_ #[t,t] ty #[x,u]).run P c.w=.ok v' c'.w∧Ext c c'∧Sat S F (ck hp j (some (.rows te.size (rs++ys) true none e))) c'∧Rel (.aH j 0 (len+ys.length)) c' v')∨
 (∃v' c',(Builtin.append_ #[t,t] ty #[x,u]).run P c.w=.ok v' c'.w∧Ext c c'∧Sat S (less F nx) (ck hp nx (some (.rows te.size (rs++ys) true none e))) c'∧Rel (.aH nx 0 (len+ys.length)) c' v'):=by
 subst hlen
 rcases hx with⟨h0,a,rfl⟩|⟨B,k,cap,aB,e',f,hB,rfl,hle,hmax,hrow,hcap⟩
 ·have hr0:rs=[]:=abz.1 h0
  exact absurd hr0 hrs
 rcases hs.cD j _ hj with⟨_,_,hz⟩|⟨B',arr',vs,b1,b2,b3,b4,b5,b6,b7,b8,b9⟩
 ·rw[hz]at hB;cases hB
 have hBm:=hB
 rw[b1]at hBm;cases hBm
 have h3:dl c.w B aB e' f:=hrow
 rw[dl]at h3 b3
 rw[b3]at h3;cases h3
 rw[aav]at hcap
 have hlv:=b4.length
 have hlu:=q1.length
 have hvk:=b5
 have huk:=q1.oo (fun r hr=>(ha.ys r hr).1)
 have hfv:=f_ hvk
 have hfu:=f_ huk
 rw[abI,← hlv]
 have hne:us≠[]:=fun h=>by
  subst h
  exact hys (abz.1 q1.length.symm)
 by_cases hroom:vs.length+us.length≤cap
 ·obtain⟨b,off,ucap,rfl,hu1,hu2⟩:=Ai q1 q2 hne
  obtain⟨i,z,g1,g2,g3,g4,g5,_⟩:=hte.ex
  have hmul:=abx te.size hroom
  rw[acw]at hmul
  have hrun:=run_append_room (P:=P) c.w t ty e i hd g1 B vs.length cap aB b3 ⟨b,off,none⟩ us.length ucap (flat us) (by rw[hfu,g2]) hu2 (tg q1 fun r hr=>(ha.ys r hr).2) hroom (by rw[g2,hfu,← hcap];exact hmul)
  rw[g2]at hrun
  generalize hnew:(aB.toList.take (vs.length*te.size)++flat us++aB.toList.drop (vs.length*te.size+(flat us).length)).toArray=new at hrun
  have hns:new.size=aB.size:=by
   rw[← hnew,abv]
   simp only[aap,aax,aaO,aaK,hfu]
   rw[hcap]at hmul
   omega
  have hget:∀o,new[o]? = if o<vs.length*te.size then aB[o]? else if o<vs.length*te.size+(flat us).length then(flat us)[o-vs.length*te.size]? else aB[o]?:=by
   intro o
   rw[← hnew,acS,tU _ _ _ _ (by have h9:aB.toList.length=cap*te.size:=hcap.symm;rw[hfu,h9];exact hmul)]
   simp only[aaU]
  have hall:∀x∈vs++us,x.cells.size=te.size:=fun x hx=>by
   rcases aaN.1 hx with h|h
   ·exact hvk x h
   ·exact huk x h
  obtain⟨hx1,hs1⟩:=wq hs (full':=none) hj b1 b3 hns (b4.od (aC.ext ys (Ext.jz c) q1)) hall (fun q x hq=>by
   rw[hget]
   rw[pc]at hq
   by_cases h1:q<(flat vs).length
   ·rw[abt h1]at hq
    rw[abb (by omega)]
    exact b6 q x hq
   ·rw[abf (by omega),hfv]at hq
    have h2:=(aaq.1 hq).1
    rw[abg (by omega),abb (by omega)]
    exact hq) (fun _ e=>by cases e)
  refine .inl ⟨_,_,hrun,hx1,hs1,.inr ⟨B,te.size,cap,new,e,(0,0),b1,?_,by rw[← hlu];exact hroom,hmax,setRow_heap _ _ _ _ _ _ b3,by rw[aav,hns];exact hcap⟩⟩
  rw[abI,hlu]
 ·have:=yf (ty:=ty) hs hF hd hte (rows:=rs) (ys:=ys) (vs:=vs) (us:=us) (a:=some ⟨B,0,none⟩) (cap:=cap) b4 (.inr ⟨B,0,rfl,fun q x hq=>by rw[aav,cell_of_row _ _ _ _ _ _ b3];exact b6 q x hq⟩) q1 q2 ha hne (by omega) (by omega) (fun h=>by cases h)
  rw[← hlv]at this
  exact .inr this
theorem Nt(hT:cL P T)(hs:Sat S F hp c)(hF:F nx)(x y:Operand)(t t':TypeId){px:PV}{ys:List PV}{cl:Bool}(hx:Rel px c (ρ x))(hy:Rel (.sl cl ys) c (ρ y))(ho:o.op=.call ⟨.builtin .append,#[x,y],#[t,t']⟩)(h:(zc T nx t t' px ys).wp hp K):Sound P S (less F nx) hp c ρ o K:=by
 unfold zc at h;split at h
 ·rename_i sz ag z e eq et h1;obtain rfl:=aaE h1;obtain⟨d,hd,_,rfl⟩:=(hT t _ et).de;obtain⟨us,q1,q2⟩:=hy;have key:∀{v':Value} {w':World},(Builtin.append_ #[t,t] o.type #[ρ x,ρ y]).run P c.w=.ok v' w'→(execOp ρ o).run P c.w=.ok (.value v') w':=by
   intro v' w' hr;unfold execOp;simp[ho,resolve,invoke,builtin,hr]
  split at h
  ·rename_i te h2;have hte:=hT e te h2;split at h
   ·rename_i rows _;obtain⟨⟨ha,h0⟩,h⟩:=h;obtain⟨vs,r1,a,cap,hx2,g1,g2,g3⟩:=hx;have hcap:=g2 rfl;subst hcap;obtain⟨v',c',hr,k1,k2,k3⟩:=EG (ty:=o.type) hs hF hd hte (aC.ext rows (Ext.jz c) r1) (by
     rcases g3 with g3|⟨b,off,k,e1,_,hc⟩
     ·exact .inl g3
     ·exact .inr ⟨b,off,e1,fun j x hj=>(hc j x hj).2⟩) q1 q2 ha (fun e=>by
      have:=h0 e;subst this;exact r1)
    exact⟨_,_,h,v',c',.inl (key (by rw[hx2];exact hr)),k1,k2,k3⟩
   ·rename_i j len _;simp only[Tr.wp]at h;split at h
    ·rename_i k rs e' hj;split at h
     ·rename_i h5 h6;obtain rfl:=aaE h5;obtain rfl:=aaE h6;rcases h with⟨h|h⟩
      ·obtain⟨⟨ha,hlen⟩,h⟩:=h;obtain⟨v',c',hr,k1,k2,k3⟩:=UH (ty:=o.type) hs hF hd hte hj hx hlen q1 q2 ha;refine⟨_,_,h,v',c',.inl (key hr),k1,?_,k3⟩;exact k2
      ·obtain⟨⟨ha,hlen,hrs,hys⟩,h⟩:=h;rcases MD (ty:=o.type) hs hF hd hte hj hx hlen q1 q2 ha hrs hys with⟨v',c',hr,k1,k2,k3⟩|⟨v',c',hr,k1,k2,k3⟩
       ·exact⟨_,_,h.h 0 trivial,v',c',.inl (key hr),k1,k2.up (fun j hj=>hj.1),k3⟩
       ·exact⟨_,_,h.h 1 trivial,v',c',.inl (key hr),k1,k2,k3⟩
     ·exact False.elim h
    ·exact False.elim h
   ·exact False.elim h
  ·exact False.elim h
 ·exact False.elim h
end
theorem vJ{k:Nat}:∀{vs:List Value} (n:Nat),(∀x∈vs,x.cells.size=k)→flat (vs.take n)=(flat vs).take (n*k)
 |_,0,_=>by simp[flat]
 | [],n+1,_=>by simp[flat]
 |v::vs,n+1,h=>by
  have hv:=h v aaA
  rw[abV,gV,gV,vJ n (fun x hx=>h x (aaz _ hx)),abL,show n*k+k=v.cells.toList.length+n*k by rw[aaK,hv];omega,List.take_length_add_append]
theorem AM{k:Nat}:∀{vs:List Value} (n:Nat),(∀x∈vs,x.cells.size=k)→flat (vs.drop n)=(flat vs).drop (n*k)
 |_,0,_=>by simp
 | [],n+1,_=>by simp[flat]
 |v::vs,n+1,h=>by
  have hv:=h v aaA
  rw[ady,gV,AM n (fun x hx=>h x (aaz _ hx)),abL,show n*k+k=v.cells.toList.length+n*k by rw[aaK,hv];omega,adz]
section
variable {P:Program}{T:TT}{S:ct}{F:Nat→Prop}{nx:Nat}{hp:Nat→Option aA}{c:RC}{ρ:Operand→Value}{o:Oper}{K:PV→bW→Prop}{vs:List PV}
theorem KI(hs:Sat S F hp c){j k lo:Nat}{rs ns:List PV}{cp:Option Nat}{e:TypeId}(hj:hp j=some (.rows k rs true cp e)){us:List Value}(r:aC ns c us)(hk:∀x∈us,x.cells.size=k)(h1:∀x∈flat us,x.oneCell'=true)(hlo:lo≤rs.length){B m:Nat}(hB:c.hb j=some (B,m)){aB:Array Value}{e':TypeId}{f:Nat×Nat}(hrow:dl c.w B aB e' f)(hfit:(lo+us.length)*k≤aB.size):
 m=k∧∃c',(storeCells ⟨B,lo*k,none⟩ (flat us)).run P c.w=.ok () c'.w∧Ext c c'∧Sat S F (ck hp j (some (.rows k (dr rs lo ns) true cp e))) c':=by
 rcases hs.cD j _ hj with⟨_,_,hz⟩|⟨B',arr',vs,b1,b2,b3,b4,b5,b6,b7,b8,b9⟩
 ·rw[hz]at hB;cases hB
 rw[b1]at hB;cases hB
 rw[dl]at b3 hrow
 rw[b3]at hrow;cases hrow
 refine⟨rfl,?_⟩
 have hfu:=f_ hk
 have hfv:=f_ b5
 have hmul:lo*k+(flat us).length≤aB.toList.length:=by rw[hfu,← acw];exact hfit
 have hrun:=run_storeCells_at (P:=P) B (lo*k) e (flat us) 0 aB c.w b3 (by rw[abM,hfu,← acw];exact hfit) h1
 rw[abM]at hrun
 generalize hnew:(aB.toList.take (lo*k)++flat us++aB.toList.drop (lo*k+(flat us).length)).toArray=new at hrun
 have hns:new.size=aB.size:=by
  rw[← hnew,abv]
  simp only[aap,aax,aaO,aaK]at hmul⊢
  omega
 have hrl:aC (dr rs lo ns) c (vs.take lo++us++vs.drop (lo+us.length)):=by
  unfold dr
  rw[← r.length]
  exact((b4.take lo).od r).od (b4.drop _)
 have hall:∀x∈vs.take lo++us++vs.drop (lo+us.length),x.cells.size=k:=fun x hx=>by
  rcases aaN.1 hx with hx|hx
  ·rcases aaN.1 hx with hx|hx
   ·exact b5 x (aaV hx)
   ·exact hk x hx
  ·exact b5 x (aby hx)
 obtain⟨hext,hsat⟩:=wq hs (full':=cp) hj b1 b3 hns hrl hall (fun q x hq=>by
  rw[pc,pc,vJ lo b5,AM _ b5,acw,← hfu]at hq
  rw[← hnew,acS,tU _ _ _ _ hmul]
  have hlv:lo*k≤(flat vs).length:=by rw[hfv];exact abx k (by rw[b4.length];exact hlo)
  have htl:((flat vs).take (lo*k)).length=lo*k:=by rw[aax];omega
  by_cases m1:q<lo*k
  ·rw[abb m1]
   rw[abd,abt (by omega),acF m1]at hq
   rw[aaU];exact b6 q x hq
  ·rw[abg m1]
   by_cases m2:q<lo*k+(flat us).length
   ·rw[abb m2]
    rw[abt (by rw[aap];omega),abf (by omega),htl]at hq
    exact hq
   ·rw[abg m2]
    rw[abf (by rw[aap];omega),aap,htl,abH,show lo*k+(flat us).length+(q-(lo*k+(flat us).length))=q by omega]at hq
    rw[aaU];exact b6 q x hq) (fun n h=>by rw[hns];exact b9 n h)
 exact⟨⟨c.w.setRow B new,c.Z,c.hb⟩,hrun,hext,hsat⟩
theorem tp{p:PV}{v:Value}(r:Rel p c v):∀n,aC (List.replicate n p) c (List.replicate n v)
 |0=>rfl
 |n+1=>⟨v,_,rfl,r,tp r n⟩
theorem US(v:Value)(n:Nat):flat (List.replicate (n+1) v)=v.cells.toList++flat (List.replicate n v):=by rw[List.replicate_succ,gV]
theorem Pe(z:Array Value):(List.range z.size).map (fun i=>z[i%z.size]!)=z.toList:=by
 apply List.ext_getElem
 ·simp
 ·intro i h1 h2;have hi:i<z.size:=by simpa using h1
  simp only[List.getElem_map,List.getElem_range,aco hi,Array.getElem_toList];exact adC z i hi
theorem zO(v:Value)(n:Nat):(Builtin.zeroCells v.cells n).toList=flat (List.replicate n v):=by
 unfold Builtin.zeroCells;rw[Array.toList_map,Array.toList_range];induction n with
 |zero=>simp[flat]
 |succ n ih=>
  rw[US,← ih,abL,Nat.add_comm,List.range_add,aaC,Pe,abX];congr 1;apply acb;intro i _;simp only[Function.comp,Nat.add_mod_left]
theorem Ta(hs:Sat S F hp c){j k:Nat}{rs:List PV}{cp cp':Option Nat}{e:TypeId}(hj:hp j=some (.rows k rs true cp e)){B m:Nat}{aB:Array Value}{e':TypeId}{f:Nat×Nat}(hB:c.hb j=some (B,m))(hrow:dl c.w B aB e' f)(h:∀n,cp'=some n→aB.size=n*k):Sat S F (ck hp j (some (.rows k rs true cp' e))) c:=by
 have old:∀{q b},ck hp j (some (.rows k rs true cp' e)) q=some b→∃b',hp q=some b'∧b'.own=b.own:=by
  intro q b hq;by_cases hqj:q=j
  ·subst hqj;rw[dm]at hq;cases hq;exact⟨_,hj,rfl⟩
  ·rw[dR _ _ hqj]at hq;exact⟨b,hq,rfl⟩
 refine⟨hs.keeps,hs.base,hs.gd,hs.dG,hs.fresh,fun q b hq=>?_,fun a b ba bb ha hb hne ho x y hx hy=>?_,hs.low,hs.jw⟩
 ·by_cases hqj:q=j
  ·subst hqj;rw[dm]at hq;cases hq;rcases hs.cD q _ hj with⟨_,_,hz⟩|⟨B',arr',vs,b1,b2,b3,b4,b5,b6,b7,b8,_⟩
   ·rw[hz]at hB;cases hB
   ·rw[b1]at hB;cases hB;refine .inr ⟨_,arr',vs,b1,b2,b3,b4,b5,b6,b7,b8,?_⟩;rw[dl]at b3 hrow;rw[b3]at hrow;cases hrow;exact h
  ·rw[dR _ _ hqj]at hq;exact hs.cD q b hq
 ·obtain⟨ba',ha',hoa⟩:=old ha;obtain⟨bb',hb',_⟩:=old hb;exact hs.sep a b ba' bb' ha' hb' hne (hoa.trans ho) x y hx hy
theorem Uz{α:Type}{f:Nat→Option α}{k:Nat}{v:Option α}(h:f k=v):ck f k v=f:=by
 funext x;by_cases e:x=k
 ·subst e;rw[dm,h]
 ·rw[dR _ _ e]
theorem VD(rs:List PV)(lo:Nat):dr rs lo []=rs:=by
 unfold dr;rw[abQ,abM,abe,abD]
theorem A3(k:Nat)(a:Option Addr)(l q:Nat)(w:World):(Builtin.firstCells k 0 (.slice a l q)).run P w=.ok #[] w:=by cases a<;>simp[Builtin.firstCells,loadCells,loadCellsFrom]
theorem zL(hs:Sat S F hp c){j k lo len n:Nat}{rs:List PV}{wr:Bool}{cp:Option Nat}{e:TypeId}(hj:hp j=some (.rows k rs wr cp e)){x:Value}(hx:Rel (.aH j lo len) c x)(hn:n≤len)(hle:n≤rs.length-lo):
 ∃us a q,x=.slice a len q∧len≤q∧aC (PV.sub rs lo n) c us∧us.length=n∧(∀u∈us,u.cells.size=k)∧∀w:World,w.heap=c.w.heap→(Builtin.firstCells k n x).run P w=.ok (flat us).toArray w:=by
 rcases hx with⟨rfl,a,rfl⟩|⟨B,m,cap,aB,e',f,hB,rfl,hcap,_,hrow,hsz⟩
 ·obtain rfl:n=0:=by omega
  refine⟨[],a,0,rfl,aas _,?_,rfl,(fun u h=>by cases h),fun w _=>A3 _ _ _ _ w⟩
  cases rs<;>rfl
 ·obtain⟨rfl,arr',vs,b3,b4,b5,b6,b9,b10⟩:=nt hs hj hB
  have h3:=hrow
  rw[dl]at h3 b3
  rw[b3]at h3;cases h3
  have hus:∀u∈(vs.drop lo).take n,u.cells.size=m:=fun u hu=>b5 u (aby (aaV hu))
  have hlen:((vs.drop lo).take n).length=n:=by rw[aax,aaO,b4.length];omega
  refine⟨(vs.drop lo).take n,_,cap,rfl,hcap,?_,hlen,hus,fun w hw=>?_⟩
  ·by_cases h0:n=0
   ·subst h0;rw[List.take_zero];cases rs<;>rfl
   ·exact b4.sub lo n (by omega)
  refine run_firstCells_some w m n _ _ _ (flat ((vs.drop lo).take n)) (by rw[f_ hus,hlen]) fun q y hq=>?_
  rw[Addr.add_lit]
  rw[vJ n (fun u hu=>b5 u (aby hu)),AM lo b5]at hq
  have hq2:(flat vs)[lo*m+q]? = some y:=by
   rw[abT]at hq
   split at hq
   ·rw[abH]at hq;exact hq
   ·cases hq
  have:=b6 _ _ hq2
  simp[World.cell?,hw,b3,this]
theorem Ks{us:List Value}{ps:List PV}{k:Nat}(r:aC ps c us)(h:lj ps k):(∀u∈us,u.cells.size=k)∧∀x∈flat us,x.oneCell'=true:=
 ⟨r.oo fun p hp=>(h p hp).1,tg r fun p hp=>(h p hp).2⟩
theorem Q2(hT:cL P T)(hs:Sat S F hp c)(x:Operand)(t:TypeId){p:PV}(hx:Rel p c (ρ x))(ho:o.op=.call ⟨.builtin .cap,#[x],#[t]⟩)(h:(Cm T t p).wp hp K):Sound P S (less F nx) hp c ρ o K:=by
 have key:∀{v':Value} {w':World},(Builtin.cap_ #[t] o.type #[ρ x]).run P c.w=.ok v' w'→(execOp ρ o).run P c.w=.ok (.value v') w':=by
  intro v' w' hr;unfold execOp;simp[ho,resolve,invoke,builtin,hr]
 have cap_run:∀{e:TypeId} (_:P.underlying t=some (.slice e)) {a:Option Addr} {l q:Nat} (_:ρ x=.slice a l q),(execOp ρ o).run P c.w=.ok (.value (.int .i64 q)) c.w:=by
  intro e hd a l q hv;refine key ?_;have hu:=run_underlying (P:=P) hd c.w;simp[Builtin.cap_,hu,hv,goInt]
 unfold Cm at h;split at h
 ·rename_i rows _ _ _ e _ e2;obtain⟨vs,r1,a,cap,hv,g1,g2,g3⟩:=hx;obtain⟨d,hd,_,rfl⟩:=(hT t _ e2).de;obtain rfl:=g2 rfl;refine cm hs h ⟨by rw[r1.length],rfl⟩ (.inl (cap_run hd hv))
 ·rename_i j len _ _ _ e _ e2;obtain⟨d,hd,_,rfl⟩:=(hT t _ e2).de;split at h
  ·rename_i te e4;obtain⟨hlen,h⟩:=h;rcases hx with⟨rfl,_⟩|⟨B,m,cap,aB,e',f,hB,hv,hcap,hmax,hrow,hsz⟩
   ·omega
   simp only[Tr.wp]at h;split at h
   ·rename_i k rs e5 hj;split at h
    ·rename_i h5 h6;obtain rfl:=aaE h5;have h6:=aaG h6;obtain⟨rfl,arr',vs,b3,b4,b5,b6,b9,b10⟩:=nt hs hj hB;have h3:=hrow;rw[dl]at h3 b3;rw[b3]at h3;cases h3;rw[aav]at hsz;rw[← hsz]at b10;have hk:=h.h cap ⟨hcap,acV b10 h6,hmax⟩;exact⟨_,_,hk,.int .i64 cap,c,.inl (cap_run hd hv),Ext.refl c,(Ta hs hj hB hrow (fun n e=>by cases e;exact hsz.symm)).up (fun _ h=>h.1),rfl,rfl⟩
    ·exact False.elim h
   ·rename_i k rs cc e5 hj;split at h
    ·rename_i h6;have h6:=aaG h6;obtain⟨rfl,arr',vs,b3,b4,b5,b6,b9,b10⟩:=nt hs hj hB;have h3:=hrow;rw[dl]at h3 b3;rw[b3]at h3;cases h3;rw[aav,b9 cc rfl]at hsz;obtain rfl:=adB h6 hsz;exact cm hs h ⟨rfl,rfl⟩ (.inl (cap_run hd hv))
    ·exact False.elim h
   ·exact False.elim h
  ·exact False.elim h
 ·exact False.elim h
theorem Gc(hs:Sat S F hp c){j k lo len:Nat}{rs ns:List PV}{cp:Option Nat}{e:TypeId}(hj:hp j=some (.rows k rs true cp e)){us:List Value}(r:aC ns c us)(hk:∀x∈us,x.cells.size=k)(h1:∀x∈flat us,x.oneCell'=true)(hlo:lo≤rs.length){x:Value}(hx:Rel (.aH j lo len) c x)(hn:us.length≤len):
 ∃a q c',x=.slice a len q∧(∀b,a=some b→(storeCells b (flat us)).run P c.w=.ok () c'.w)∧(a=none→c'.w=c.w)∧(len=0→c'.w=c.w)∧Ext c c'∧Sat S F (ck hp j (some (.rows k (dr rs lo ns) true cp e))) c':=by
 by_cases hne:us=[]
 ·subst hne
  obtain rfl:ns=[]:=abz.1 r.length.symm
  rw[VD,Uz hj]
  have h0:∀b,(storeCells b (flat [])).run P c.w=.ok () c.w:=fun b=>by simp[flat,storeCells]
  rcases hx with⟨rfl,a,rfl⟩|⟨B,m,cap,aB,e',f,hB,rfl,_⟩
  ·exact⟨a,0,c,rfl,fun b _=>h0 b,fun _=>rfl,fun _=>rfl,Ext.refl c,hs⟩
  ·exact⟨_,cap,c,rfl,fun b _=>h0 b,fun _=>rfl,fun _=>rfl,Ext.refl c,hs⟩
 ·have hpos:0<us.length:=adx.2 hne
  rcases hx with⟨rfl,a,rfl⟩|⟨B,m,cap,aB,e',f,hB,rfl,hcap,hmax,hrow,hsz⟩
  ·omega
  ·obtain⟨rfl,c',h2,h3,h4⟩:=KI hs hj r hk h1 hlo hB hrow (by
    have:=abx k (show lo+us.length≤lo+cap by omega)
    have hm:=(nt hs hj hB).1
    subst hm
    omega)
   exact⟨_,cap,c',rfl,(fun b hb=>by cases hb;exact h2),(fun h=>by cases h),(fun h=>by omega),h3,h4⟩
theorem Yy(hT:cL P T)(hs:Sat S F hp c)(x:Operand)(t:TypeId){p:PV}(hx:Rel p c (ρ x))(ho:o.op=.call ⟨.builtin .clear,#[x],#[t]⟩)(h:(zo T t p).wp hp K):Sound P S (less F nx) hp c ρ o K:=by
 have key:∀{v':Value} {w':World},(Builtin.clear_ #[t] o.type #[ρ x]).run P c.w=.ok v' w'→(execOp ρ o).run P c.w=.ok (.value v') w':=by
  intro v' w' hr;unfold execOp;simp[ho,resolve,invoke,builtin,hr]
 unfold zo at h;split at h
 ·rename_i _ _ _ e _ e2;obtain⟨vs,r1,a,cap,hv,g1,g2,g3⟩:=hx;obtain⟨d,hd,_,rfl⟩:=(hT t _ e2).de;obtain rfl:vs=[]:=r1;have hu:=run_underlying (P:=P) hd c.w;exact cm hs h ⟨[],rfl,rfl⟩ (.inl (key (by cases a<;>simp[Builtin.clear_,hv,hu])))
 ·rename_i j lo len _ _ _ e _ e2;obtain⟨d,hd,_,rfl⟩:=(hT t _ e2).de;have hu:=run_underlying (P:=P) hd c.w;split at h
  ·rename_i te e4;simp only[Tr.wp]at h;split at h
   ·rename_i k rs cp e' hj;split at h
    ·rename_i h5 h6;obtain rfl:=aaE h5;obtain⟨hle,h⟩:=h;obtain⟨z,hz,hzs,hzr⟩:=(hT e _ e4).zeroV c;have hus:∀u∈List.replicate len z,u.cells.size=te.size:=fun u hu=>by rw[abK hu];exact hzs
     obtain⟨a,q,c',hv,g1,g2,g3,g4,g5⟩:=Gc (P:=P) hs hj (tp hzr len) hus (tg (tp hzr len) fun p hp=>by rw[abK hp];exact h6) (by omega) hx (by rw[abh];exact aas _);refine⟨_,_,h,.tuple #[],c',.inl (key ?_),g4,g5.up (fun _ h=>h.1),⟨[],rfl,rfl⟩⟩;by_cases h0:len=0
     ·rw[g3 h0,hv];subst h0;cases a<;>simp[Builtin.clear_,hu]
     ·cases a with
      |none=>
       rw[g2 rfl,hv];simp[Builtin.clear_,hu]
      |some b=>
       have:=g1 b rfl;rw[← zO]at this;rw[hv];obtain⟨n,rfl⟩:=Nat.exists_eq_succ_of_ne_zero h0;simp[Builtin.clear_,hu,hz,this]
    ·exact False.elim h
   ·exact False.elim h
  ·exact False.elim h
 ·exact False.elim h
theorem Lr(hT:cL P T)(hs:Sat S F hp c)(x y:Operand)(t e:TypeId)(hd:P.underlying t=some (.slice e)){te:TI}(e4:T e=some te){j lo len:Nat}{ys:List PV}{m:Nat}(hx:Rel (.aH j lo len) c (ρ x))(hl:(Builtin.lenOf (ρ y)).run P c.w=.ok m c.w)(hm:Nat.min m len=Nat.min ys.length len){us:List Value}(hr:aC (ys.take len) c us)(hul:us.length≤len)
 (hc:(Builtin.firstCells te.size (Nat.min m len) (ρ y)).run P c.w=.ok (flat us).toArray c.w) (ho:o.op=.call ⟨.builtin .copy,#[x,y],#[t,t]⟩) (h:(tI te j lo len ys).wp hp K):Sound P S (less F nx) hp c ρ o K:=by
 unfold tI at h
 simp only[Tr.wp]at h
 split at h
 ·rename_i k rs cp e' hj
  split at h
  ·rename_i h5
   obtain rfl:=aaE h5
   obtain⟨⟨h1,h2⟩,q,hq,h⟩:=h
   obtain⟨k1,k2⟩:=Ks hr (fun p hp=>h1 p (aaV hp))
   obtain⟨a,q',c',hv,g1,g2,g3,g4,g5⟩:=Gc (P:=P) hs hj hr k1 k2 h2 hx hul
   have hu:=run_underlying (P:=P) hd c.w
   refine⟨_,_,h,.int .i64 q,c',.inl ?_,g4,g5.up (fun _ h=>h.1),rfl,rfl⟩
   have hsz:=(hT e te e4).size c.w
   unfold execOp
   simp only[ho,resolve,invoke,builtin]
   rw[← hq,← hm]
   cases a with
   |none=>rw[g2 rfl];simp[Builtin.copy_,hu,hv,hl,hsz,hc,goInt]
   |some b=>have:=g1 b rfl;simp[Builtin.copy_,hu,hv,hl,hsz,hc,this,goInt]
  ·exact False.elim h
 ·exact False.elim h
theorem Wv(hT:cL P T)(hs:Sat S F hp c)(x y:Operand)(t:TypeId){p q:PV}(hx:Rel p c (ρ x))(hy:Rel q c (ρ y))(ho:o.op=.call ⟨.builtin .copy,#[x,y],#[t,t]⟩)(h:(Bb T t p q).wp hp K):Sound P S (less F nx) hp c ρ o K:=by
 unfold Bb at h;split at h
 ·rename_i j lo len _ _ _ e _ e2;obtain⟨d,hd,_,rfl⟩:=(hT t _ e2).de;split at h
  ·rename_i te e4;split at h
   ·rename_i cl ys;obtain⟨vs,r1,a,cap,hv,g1,g2,g3⟩:=hy;have r2:=aC.ext ys (Ext.jz c) r1;have hlen:=r2.length;refine Lr hT hs x y t e hd e4 (m:=vs.length) (us:=vs.take len) hx (by simp[Builtin.lenOf,hv]) (by rw[hlen]) (r2.take len) (by rw[aax];exact adu _ _) ?_ ho h;rw[hv];by_cases hk:vs=[]
    ·subst hk;rw[show Nat.min ([]:List Value).length len=0 from Nat.zero_min _,List.take_nil];exact A3 _ _ _ _ _
    ·rcases g3 with g3|⟨b,off,k,rfl,h2,hc⟩
     ·exact(hk g3).elim
     have hks:k=te.size:=by
      unfold tI at h;simp only[Tr.wp]at h;split at h
      ·split at h
       ·obtain⟨⟨h1,_⟩,_⟩:=h;obtain⟨v,hv⟩:=List.exists_mem_of_ne_nil _ hk;rw[← h2 v hv];exact r2.oo (fun p hp=>(h1 p hp).1) v hv
       ·exact False.elim h
      ·exact False.elim h
     subst hks;refine run_firstCells_some c.w _ _ _ _ _ (flat (vs.take len)) (by rw[f_ (fun u hu=>h2 u (aaV hu)),aax,Nat.min_comm]) fun q y hq=>?_
     rw[Addr.add_lit];rw[vJ len h2]at hq;rw[abT]at hq;split at hq
     ·exact(hc q y hq).2
     ·cases hq
   ·rename_i j' lo' len';simp only[Tr.wp]at h;split at h
    ·rename_i k' rs' wr' cp' ee' hj';split at h
     ·rename_i h5;obtain rfl:=aaE h5;obtain⟨hle,h⟩:=h;obtain⟨us,a,q,hv,g1,g2,g3,g4,g5⟩:=zL (P:=P) hs hj' hy (n:=Nat.min len' len) (adu _ _) hle;have hsub:(PV.sub rs' lo' (Nat.min len' len)).length=Nat.min len' len:=by rw[← g2.length,g3]
      have hml:Nat.min len' len≤len:=abO _ _;refine Lr hT hs x y t e hd e4 (m:=len') (us:=us) hx (by simp[Builtin.lenOf,hv]) (by rw[hsub];exact(abU hml).symm) (by rw[aaQ (by rw[hsub];exact hml)];exact g2) (by rw[g3];exact hml) (g5 _ rfl) ho h
     ·exact False.elim h
    ·exact False.elim h
   ·exact False.elim h
  ·exact False.elim h
 ·rename_i _ _ _ e _ e2;obtain⟨vs,r1,a,cap,hv,g1,g2,g3⟩:=hx;obtain⟨d,hd,_,rfl⟩:=(hT t _ e2).de;obtain rfl:vs=[]:=r1;have hu:=run_underlying (P:=P) hd c.w;split at h
  ·rename_i te e4;have hsz:=(hT e te e4).size c.w;have key:∀{b:Option Addr} {l q:Nat},ρ y=.slice b l q→(execOp ρ o).run P c.w=.ok (.value (.int .i64 0)) c.w:=by
    intro b l q hv2;unfold execOp;have hf:(Builtin.firstCells te.size 0 (.slice b l q)).run P c.w=.ok #[] c.w:=A3 _ _ _ _ _;cases a<;>simp[ho,resolve,invoke,builtin,Builtin.copy_,hu,hv,hv2,Builtin.lenOf,hf,goInt,hsz,storeCells]
   split at h
   ·obtain⟨_,_,_,_,hv2,_⟩:=hy;exact cm hs h ⟨rfl,rfl⟩ (.inl (key hv2))
   ·rcases hy with⟨_,_,hv2⟩|⟨_,_,_,_,_,_,_,hv2,_⟩
    ·exact cm hs h ⟨rfl,rfl⟩ (.inl (key hv2))
    ·exact cm hs h ⟨rfl,rfl⟩ (.inl (key hv2))
   ·exact False.elim h
  ·exact False.elim h
 ·exact False.elim h
theorem H7(hT:cL P T)(hs:Sat S F hp c)(ex:Bool)(x y:Operand)(t:TypeId){j lo len j' lo' len':Nat}(hx:ex=true∨0<len→∃B k cap aB e f,c.hb j=some (B,k)∧ρ x=.slice (some ⟨B,lo*k,none⟩) len cap∧len≤cap∧cap≤maxLen∧dl c.w B aB e f∧(lo+cap)*k=aB.size)(hy:Rel (.aH j' lo' len') c (ρ y))(ho:o.op=.call ⟨.builtin .append,#[x,y],#[t,t]⟩)(h:(qM T ex t t j lo len j' lo' len').wp hp K):Sound P S (less F nx) hp c ρ o K:=by
 unfold qM at h;split at h
 ·rename_i _ _ _ e _ e2 _;obtain⟨d,hd,_,rfl⟩:=(hT t _ e2).de;have hu:=run_underlying (P:=P) hd c.w;split at h
  ·rename_i te e4;simp only[Tr.wp]at h;split at h
   ·rename_i k' rs' wr' cp' ee' k rs cp e' hj' hj;split at h
    ·rename_i h5 h6 h7;obtain rfl:=aaE h5;obtain rfl:=aaE h6;have h7:=aaG h7;obtain⟨⟨g1,g3,g4⟩,g5,h⟩:=h;obtain⟨us,a',q',hv',_,k2,k3,k4,k5⟩:=zL (P:=P) hs hj' hy (n:=len') (aas _) (by omega);obtain⟨k6,k7⟩:=Ks k2 g5;obtain⟨B,m,cap,aB,e9,f,hB,hv,hcap,hmax,hrow,hsz⟩:=hx g1;obtain⟨rfl,arr',vs,b3,b4,b5,b6,b9,b10⟩:=nt hs hj hB;have hc:lo+len+len'≤lo+cap:=by
      have h3:=hrow;rw[dl]at h3 b3;rw[b3]at h3;cases h3;rw[← hsz]at b10;exact aaJ g3 (acV b10 h7)
     obtain⟨_,c',r1,r2,r3⟩:=KI (P:=P) hs hj k2 k6 k7 (lo:=lo+len) (by omega) hB hrow (by
      rw[← hsz,k3];exact abx _ hc)
     have hsz2:=(hT e te e4).size c.w;have run:(execOp ρ o).run P c.w=.ok (.value (.slice (some ⟨B,lo*te.size,none⟩) (len+len') cap)) c'.w:=?run
     ·rcases h.h with h|⟨h0,h⟩
      ·exact⟨_,_,h,_,c',.inl run,r2,r3.up (fun _ h=>h.1),Rel.ext (.aH j lo (len+len')) r2 (.inr ⟨B,te.size,cap,aB,e9,f,hB,rfl,by omega,hmax,hrow,hsz⟩)⟩
      ·rw[h0]at run;exact⟨_,_,h,_,c',.inl run,r2,r3.up (fun _ h=>h.1),Rel.ext (.eD j lo) r2 ⟨B,te.size,cap,aB,e9,f,hB,rfl,hmax,hrow,hsz⟩⟩
     unfold execOp;rw[acw]at r1;have hroom:len+len'≤cap:=by omega
     have k5:=k5 c.w rfl;rw[hv']at k5;simp[ho,resolve,invoke,builtin,Builtin.append_,hu,hv,hv',Builtin.lenOf,hsz2,hroom,k5,r1,Addr.add_lit]
    ·exact False.elim h
   ·exact False.elim h
  ·exact False.elim h
 ·exact False.elim h
theorem vy{α:Type}:∀(l:List α) (n:Nat),PV.sub l 0 n=l.take n
 |l,0=>by cases l<;>rfl
 | [],n+1=>rfl
 |a::l,n+1=>by rw[abV,← vy l n];rfl
theorem Wu(hT:cL P T)(hs:Sat S F hp c)(hF:F nx)(x y:Operand)(t t':TypeId){j len:Nat}{kd:IntKind}{q:Int}(hx:Rel (.aH j 0 len) c (ρ x))(hy:ρ y=.int kd q)(ho:o.op=.call ⟨.builtin .append,#[x,y],#[t,t']⟩)(h:(AL T nx t t' j len q).wp hp K):Sound P S (less F nx) hp c ρ o K:=by
 unfold AL at h;split at h
 ·rename_i sz ag zz e eq sz2 ag2 z2 kn eq2 e2 e3;obtain⟨d,hd,_,rfl⟩:=(hT t _ e2).de;obtain⟨d',hd',_,rfl⟩:=(hT t' _ e3).de;split at h
  ·rename_i te e4;simp only[Tr.wp]at h;split at h
   ·rename_i k rs cc e' hj;split at h
    ·rename_i h5 h6 h7;obtain rfl:=aaE h5;obtain rfl:=aaE h6;have h7:=aaG h7;obtain⟨⟨g1,g2,g3,g4⟩,h⟩:=h;obtain⟨n,rfl⟩:=ack (Int.le_of_lt g1);have h:K (.aH nx 0 (len+n)) [(nx,some (.rows te.size (rs.take len++List.replicate n te.zero) true none _))]:=h;have hTe:=hT _ te e4;obtain⟨i,z,q1,q2,q3,q4,q5,q6⟩:=hTe.ex;obtain⟨us,a,cap,hv,g6,k2,k3,k4,k5⟩:=zL (P:=P) hs hj hx (n:=len) (aas _) (by omega);have hcap:cap<len+n:=by
      rcases hx with⟨rfl,a',hv'⟩|⟨B,m,cap',aB,e9,f,hB,hv',_,_,hrow,hsz⟩
      ·rw[hv]at hv';cases hv';omega
      ·rw[hv]at hv';cases hv';obtain⟨rfl,arr',vs,b3,b4,b5,b6,b9,b10⟩:=nt hs hj hB;have h3:=hrow;rw[dl]at h3 b3;rw[b3]at h3;cases h3;rw[aav,b9 cc rfl]at hsz;have:=adB h7 hsz;omega
     have hby:(len+n)*i.bytes≤140737488355328:=aaJ (adm (show len+n≤67108864 by omega) q5) (by decide);have hby2:n*i.bytes≤140737488355328:=aaJ (adm (show n≤67108864 by omega) q5) (by decide);have hrun:=Go.Lib.run_append_grow_zeros (P:=P) (ty:=o.type) c.w t t' _ i z kd _ hd hd' q1 q3 a len cap (flat us) (by rw[q2,← hv];exact k5 _ rfl) n (by omega) (by omega) hcap (by omega) (by omega) (growslice_fits (by omega) hby);have hge:=grownCap_ge c.w (len+n) cap e';have hle:=grownCap_le_maxLen c.w (len+n) cap e' (by simp only[maxLen];omega);generalize grownCap c.w (len+n) cap e'=nc at hrun hge hle;generalize hcells:(flat us).toArray++Builtin.zeroCells z.cells n++Builtin.zeroCells z.cells (nc-(len+n))=cells at hrun;have hfu:=f_ k4;have hcs:cells.size=nc*te.size:=by
      rw[← hcells];simp only[Array.size_append,abv,size_zeroCells,q4,hfu,k3,← acw];congr 1;omega
     have hall:∀x∈us++List.replicate n z,x.cells.size=te.size:=fun x hx=>by
      rcases aaN.1 hx with h|h
      ·exact k4 x h
      ·rw[abK h];exact q4
     have htk:cells.toList.take (flat (us++List.replicate n z)).length=flat (us++List.replicate n z):=by
      rw[← hcells,pc,← zO];simp only[Array.toList_append];exact List.take_left
     have hsub:PV.sub rs 0 len=rs.take len:=vy rs len;rw[hsub]at k2;obtain⟨c',r1,r2,r3,r4,r5⟩:=hs.xD hF (w1:=c.w.drew) ((Below.refl c.w.heap.size c.w).drew) rfl (rs:=rs.take len++List.replicate n te.zero) (vs:=us++List.replicate n z) (k2.od (tp (q6 c) n)) cells e' te.size hall (fun q x hq=>by
      rw[← aaU];have hlt:=(aaq.1 hq).1;rw[← htk,acF hlt]at hq;exact hq) none (fun _ e=>by cases e)
     refine⟨_,_,h,.slice (some ⟨c.w.heap.size,0,none⟩) (len+n) nc,c',.inl ?_,r4,r5,.inr ⟨c.w.heap.size,te.size,nc,cells,e',(0,0),by rw[r3];exact dm _ _ _,by rw[abI],hge,hle,?_,by rw[hcs,aav]⟩⟩
     ·unfold execOp;rw[← hv]at hrun;simp[ho,resolve,invoke,builtin,hy,hrun,r1]
     ·rw[r1];exact heap_alloc_new c.w.drew _
    ·exact False.elim h
   ·exact False.elim h
  ·exact False.elim h
 ·exact False.elim h
theorem NB(hT:cL P T)(hs:Sat S F hp c)(hF:F nx)(t:TypeId)(x y:Operand)(hv:aC vs c [ρ x,ρ y])(ho:o.op=.makeSlice t x y)(h:(AO T nx t vs).wp hp K):Sound P S (less F nx) hp c ρ o K:=by
 unfold AO at h;split at h
 ·rename_i sz ag zz e eq k1 n k2 m e2;obtain⟨d,hd,_,rfl⟩:=(hT t _ e2).de;split at h
  ·rename_i te e4;obtain⟨⟨g1,g2,g3⟩,h⟩:=h;subst g2;obtain⟨⟨hx,_⟩,hy,_⟩:=eV hv;obtain⟨i,z,q1,q2,q3,q4,q5,q6⟩:=(hT _ te e4).ex;obtain⟨n,rfl⟩:=ack g1;have h:K (.aH nx 0 n) [(nx,some (.rows te.size (List.replicate n te.zero) true none e))]:=h;have hby:i.bytes*n≤281474976710656:=by
    have:i.bytes*n≤1048576*67108864:=adm q5 (by omega);omega
   have hrun:=run_make (P:=P) c.w t e i z hd q1 q3 k1 k2 n n (by omega) (Int.le_refl _) (by omega) (by omega);simp only[abk]at hrun;have hcells:(madeCells z.cells (n*i.size)).toList=flat (List.replicate n z):=by
    rw[← zO];unfold Builtin.zeroCells madeCells;rw[q2,q4]
   generalize madeCells z.cells (n*i.size)=cells at hrun hcells;have hall:∀x∈List.replicate n z,x.cells.size=te.size:=fun x hx=>by rw[abK hx];exact q4
   have hcs:cells.size=n*te.size:=by
    rw[← aaK,hcells,f_ hall,abh]
   obtain⟨c',r1,r2,r3,r4,r5⟩:=hs.xD hF (w1:=c.w) (Below.refl c.w.heap.size c.w) rfl (tp (q6 c) n) cells e te.size hall (fun q x hq=>by
    rw[← hcells,aaU]at hq;exact hq) none (fun _ e=>by cases e)
   refine⟨_,_,h,.slice (some ⟨c.w.heap.size,0,none⟩) n n,c',.inl ?_,r4,r5,.inr ⟨c.w.heap.size,te.size,n,cells,e,(0,0),by rw[r3];exact dm _ _ _,by rw[abI],aas _,by simp only[maxLen];omega,?_,by rw[hcs,aav]⟩⟩
   ·unfold execOp;simp[ho,hx,hy,hrun,r1]
   ·rw[r1];exact heap_alloc_new c.w _
  ·exact False.elim h
 ·exact False.elim h
end
section
variable {P:Program}{T:TT}{S:ct}{F:Nat→Prop}{nx:Nat}{hp:Nat→Option aA}{c:RC}{ρ:Operand→Value}{o:Oper}{K:PV→bW→Prop}{vs:List PV}
def Bv:TypeDesc→Value→Prop
 |.int _,.int _ _=>True
 |.string,.string _=>True
 |_,_=>False
theorem X5{d:TypeDesc}{x k:Value}(hd:Bv d x)(h:fS x k≠none):Instr.sameNow d x k=fS x k:=by
 cases x with
 |int kx a=>
  cases d with
  |int q=>
   cases k with
   |int kk b=>
    unfold fS at h⊢;unfold Instr.sameNow;dsimp only at h⊢;by_cases e:kx=kk
    ·subst e;simp only[decide_true,if_true,adI];by_cases e2:a=b<;>simp[e2]
    ·simp only[e,decide_false]at h;exact absurd rfl h
   |_=>exact absurd rfl h
  |_=>exact hd.elim
 |string s=>
  cases d with
  |string=>
   cases k with
   |string u=>
    unfold fS Instr.sameNow;dsimp only;rw[beq_toListBytes,xk]
   |_=>exact absurd rfl h
  |_=>exact hd.elim
 |_=>cases d<;>exact hd.elim
theorem A2{d:TypeDesc}{x:Value}(hd:Bv d x):∀(es:List MapEntry) (i:Nat) {ps:List PV},aC ps c (es.map (·.val))→ql (es.map (·.key)) x→
 ∃r,Instr.findNow d x es i=some r∧((∃n p v,r=some (i+n,v)∧lr (es.map (·.key)) ps x=some p∧Rel p c v∧(∃e,es[n]? = some e∧fS x e.key=some true)∧
  (∀(nw:Value) (p':PV),Rel p' c nw→∃es',es'=es.modify n (fun e=>{e with key:=x,val:=nw})∧es'.map (·.key)=kL (es.map (·.key)) x∧aC (me (es.map (·.key)) ps x p') c (es'.map (·.val))))∨
  (r=none∧lr (es.map (·.key)) ps x=none∧∀(nw:Value) (p':PV) (b:Nat),Rel p' c nw→(es++[({key:=x,val:=nw,born:=b}:MapEntry)]).map (·.key)=kL (es.map (·.key)) x∧aC (me (es.map (·.key)) ps x p') c ((es++[({key:=x,val:=nw,born:=b}:MapEntry)]).map (·.val))))
 | [],i,ps,r,_=>by
  cases ps with
  |cons p ps=>obtain⟨_,_,e,_⟩:=r;cases e
  |nil=>exact⟨none,rfl,.inr ⟨rfl,rfl,fun nw p' b h=>⟨rfl,nw,[],rfl,h,rfl⟩⟩⟩
 |e::es,i,ps,r,hk=>by
  cases ps with
  |nil=>cases r
  |cons p ps=>
   obtain⟨v,vs',e1,r1,r2⟩:=r
   cases e1
   have hne:=hk e.key (aaA)
   have hs:=X5 hd hne
   rw[aaZ]
   unfold Instr.findNow lr kL me
   rw[hs]
   cases hq:fS x e.key with
   |none=>exact absurd hq hne
   |some b=>
    cases b with
    |true=>
     refine⟨_,rfl,.inl ⟨0,p,e.val,rfl,rfl,r1,⟨e,rfl,hq⟩,fun nw p' h=>⟨_,rfl,rfl,nw,es.map (·.val),rfl,h,r2⟩⟩⟩
    |false=>
     obtain⟨r,h1,h2⟩:=A2 hd es (i+1) r2 (fun k hk'=>hk k (aaz _ hk'))
     refine⟨r,h1,?_⟩
     rcases h2 with⟨n,p2,v2,h3,h4,h5,h6,h7⟩|⟨h3,h4,h5⟩
     ·refine .inl ⟨n+1,p2,v2,by rw[h3];congr 2;omega,h4,h5,?_,fun nw p' h=>?_⟩
      ·simpa using h6
      ·obtain⟨es',g1,g2,g3⟩:=h7 nw p' h
       refine⟨e::es',by rw[g1];rfl,by rw[aaZ,g2],e.val,es'.map (·.val),rfl,r1,g3⟩
     ·refine .inr ⟨h3,h4,fun nw p' b h=>?_⟩
      obtain⟨g1,g2⟩:=h5 nw p' b h
      exact⟨by rw[aca,aaZ,g1],e.val,_,rfl,r1,g2⟩
theorem C9(hT:cL P T){kt:TypeId}{tk:TI}(e:T kt=some tk){p:PV}{x:Value}(h:vC tk.kd p=some x):∃d,P.underlying kt=some d∧Bv d x∧p=.at x∧∀(n:Nat) (b:Bool) (w:World),(Instr.checkKey b (n+1) kt x).run P w=.ok () w:=by
 obtain⟨d,hd,_,hk⟩:=(hT kt tk e).de;have hu:=fun w=>run_underlying (P:=P) hd w
 unfold vC at h;split at h
 ·rename_i k q a hkd;cases h;rw[hkd]at hk;obtain rfl:=hk;exact⟨_,hd,trivial,rfl,fun n b w=>by simp only[Instr.checkKey,Sem.run_bind,hu,Result.andThen_ok];rfl⟩
 ·rename_i s hkd;cases h;rw[hkd]at hk;obtain rfl:=hk;exact⟨_,hd,trivial,rfl,fun n b w=>by simp only[Instr.checkKey,Sem.run_bind,hu,Result.andThen_ok];rfl⟩
 ·cases h
theorem OO(hT:cL P T)(hs:Sat S F hp c)(t:TypeId)(x y:Operand)(ok:Bool)(hv:aC vs c [ρ x,ρ y])(ho:o.op=.lookup t x y ok)(h:(Bn T t ok vs).wp hp K):Sound P S (less F nx) hp c ρ o K:=by
 unfold Bn at h;split at h
 ·rename_i sz ag z kt e eq m p eT;obtain⟨d,hd,_,rfl⟩:=(hT t _ eT).de;split at h
  ·rename_i tk te ek ee;split at h
   ·rename_i key hk;obtain⟨dk,hdk,hkk,rfl,hck⟩:=C9 hT ek hk;obtain⟨hm,hy,_⟩:=eV hv;obtain⟨zv,hz,_,hrz⟩:=(hT e _ ee).zeroV c;have fin:∀{es:Array MapEntry} {cl r:Nat} {ps:List PV},ρ x=.map (some r)→lv c.w r es cl→aC ps c (es.toList.map (·.val))→(B6 te ok (es.toList.map (·.key)) ps key).wp hp K→Sound P S (less F nx) hp c ρ o K:=by
     intro es cl r ps hx hmap hr h;obtain⟨hks,q,hq,h⟩:=h;obtain⟨r',g1,g2⟩:=A2 (c:=c) hkk es.toList 0 hr hks;have hrun:∀{u:Value},(match r' with|some (_,v)=>(if ok then Value.tuple #[v,.bool true]else v)|none=>(if ok then Value.tuple #[zv,.bool false]else zv))=u→(execOp ρ o).run P c.w=.ok (.value u) c.w:=by
      intro u hu';have hg:(getObj r).run P c.w=.ok (.map es cl) c.w:=by
       rw[lv]at hmap;simp[getObj,Sem.run,hmap]
      unfold execOp;simp only[ho,hx,hy,Instr.lookup,Sem.run_bind,run_underlying hd,Result.andThen_ok,hg,Sem.run_pure,hck 9999,Instr.findKey,run_underlying hdk,g1];cases r' with
      |none=>simp only[Sem.run_bind,hz,Result.andThen_ok,Sem.run_pure];rw[← hu']
      |some nv=>obtain⟨n,v⟩:=nv;rw[← hu'];cases ok<;>rfl
     rcases g2 with⟨n,p,v,h3,h4,h5,_⟩|⟨h3,h4,_⟩
     ·rw[h4]at hq;subst hq h3;cases ok with
      |true=>exact cm hs h ⟨[v,.bool true],rfl,v,_,rfl,h5,_,[],rfl,⟨rfl,rfl⟩,rfl⟩ (.inl (hrun rfl))
      |false=>exact cm hs h h5 (.inl (hrun rfl))
     ·rw[h4]at hq;subst hq h3;cases ok with
      |true=>exact cm hs h ⟨[zv,.bool false],rfl,zv,_,rfl,hrz,_,[],rfl,⟨rfl,rfl⟩,rfl⟩ (.inl (hrun rfl))
      |false=>exact cm hs h hrz (.inl (hrun rfl))
    split at h
    ·obtain⟨r,es,cl,hx,_,hmap,_,rfl,hr⟩:=hm;exact fin hx hmap (aC.ext _ (Ext.jz c) hr) h
    ·obtain⟨B,k,hB,hx⟩:=hm;simp only[Tr.wp]at h;split at h
     ·rename_i ks ps wr hj;obtain⟨B',es,cl,h1,h2,h3,rfl,h5,_⟩:=hs.cD _ _ hj;rw[h1]at hB;cases hB;exact fin hx h3 h5 h
     ·exact False.elim h
    ·exact False.elim h
   ·exact False.elim h
  ·exact False.elim h
 ·exact False.elim h
theorem ss(w:World)(B:Nat)(x:Obj)(k:Nat)(h:k≠B):({w with heap:=w.heap.setIfInBounds B x}:World).heap[k]? = w.heap[k]?:=by
 show(w.heap.setIfInBounds B x)[k]? = _
 rw[ace];split
 ·rename_i e;exact absurd e.symm h
 ·rfl
theorem Wb{es:Array MapEntry}{cl:Nat}(h:gY es cl)(n:Nat)(f:MapEntry→MapEntry)(hf:∀e,(f e).born=e.born):gY (es.modify n f) cl:=by
 refine⟨by rw[Array.size_modify];exact h.1,fun i e he=>?_⟩;rw[Array.getElem?_modify]at he;split at he
 ·cases e2:es[i]? with
  |none=>rw[e2]at he;cases he
  |some x=>
   rw[e2]at he;cases he;exact(hf x).trans (h.2 i x e2)
 ·exact h.2 i e he
theorem N1{es:Array MapEntry}{cl:Nat}(h:gY es cl)(k v:Value):gY (es.push {key:=k,val:=v,born:=cl}) (cl+1):=by
 refine⟨by rw[Array.size_push,h.1],fun i e he=>?_⟩;rw[Array.getElem?_push]at he;split at he
 ·rename_i hi;cases he;exact h.1.trans hi.symm
 ·exact h.2 i e he
theorem Cr(hs:Sat S F hp c){j:Nat}{ks ks':List Value}{ps ps':List PV}(hj:hp j=some (.map ks ps true)){B:Nat}{es es':Array MapEntry}{cl cl':Nat}(hB:c.hb j=some (B,0))(hm:lv c.w B es cl)(hk:es'.toList.map (·.key)=ks')(hr:aC ps' c (es'.toList.map (·.val)))(hmk:gY es' cl'):
 Ext c ⟨{c.w with heap:=c.w.heap.setIfInBounds B (.map es' cl')},c.Z,c.hb⟩∧Sat S F (ck hp j (some (.map ks' ps' true))) ⟨{c.w with heap:=c.w.heap.setIfInBounds B (.map es' cl')},c.Z,c.hb⟩:=by
 have cI:=hs.cD j _ hj
 obtain⟨hown,_⟩:=cI.at hB
 have hlt:B<c.w.heap.size:=(aaP.1 hm).1
 have hnz:∀o,¬c.Z B o:=by
  obtain⟨B',_,_,b1,_,_,_,_,b7,_⟩:=cI
  rw[b1]at hB;cases hB;exact b7 rfl
 have hext:Ext c ⟨{c.w with heap:=c.w.heap.setIfInBounds B (.map es' cl')},c.Z,c.hb⟩:=by
  refine⟨fun _ _ h=>h,fun _ _ h=>h,fun b o z=>?_,fun b a2 e2 f2 hr2=>?_,fun r2 es2 cl2 z hm2=>?_⟩
  ·have hne:b≠B:=by rintro rfl;exact hnz _ z
   exact World.cell?_of_block (ss _ _ _ _ hne)
  ·have hne:b≠B:=by
    rintro rfl
    rw[lv]at hm;rw[dl]at hr2
    rw[hm]at hr2;cases hr2
   exact⟨a2,f2,(ss _ _ _ _ hne).trans hr2,rfl⟩
  ·have hne:r2≠B:=by rintro rfl;exact hnz _ z
   exact(ss _ _ _ _ hne).trans hm2
 refine⟨hext,?_⟩
 have hkeep:e_ (fun i=>i=B) c.w {c.w with heap:=c.w.heap.setIfInBounds B (.map es' cl')}:=⟨rfl,rfl,rfl,by simp,fun q _ hq=>ss _ _ _ _ hq⟩
 refine⟨hs.keeps.step hkeep (fun i hi h=>?_),hs.base.trans hext,hs.gd,fun b o z=>by show b<(c.w.heap.setIfInBounds B _).size;rw[Array.size_setIfInBounds];exact hs.dG b o z,hs.fresh,fun q b hq=>?_,fun a b ba bb ha hb hne ho x y hx hy=>?_,hs.low,hs.jw⟩
 ·subst h;rcases hown with h|h
  ·omega
  ·exact h
 ·by_cases hqj:q=j
  ·subst hqj
   rw[dm]at hq;cases hq
   refine⟨B,es',cl',hB,hown,?_,hk,aC.ext _ hext hr,fun _=>hnz,(fun h=>by cases h),hmk⟩
   show(c.w.heap.setIfInBounds B _)[B]? = _
   rw[ace];simp[hlt]
  ·rw[dR _ _ hqj]at hq
   refine(hs.cD q b hq).aQ hext id fun B2 n2 h2=>⟨ss _ _ _ _ ?_,fun _=>adE⟩
   exact fun e=>hs.sep j q _ b hj hq (fun e=>hqj e.symm) rfl _ _ hB h2 e.symm
 ·have old:∀{q b},ck hp j (some (.map ks' ps' true)) q=some b→∃b',hp q=some b'∧b'.own=b.own:=by
   intro q b hq
   by_cases hqj:q=j
   ·subst hqj;rw[dm]at hq;cases hq;exact⟨_,hj,rfl⟩
   ·rw[dR _ _ hqj]at hq;exact⟨b,hq,rfl⟩
  obtain⟨ba',ha',hoa⟩:=old ha
  obtain⟨bb',hb',_⟩:=old hb
  exact hs.sep a b ba' bb' ha' hb' hne (hoa.trans ho) x y hx hy
theorem seq_eq{a b:ByteArray}(h:seq a b=true):a=b:=by
 unfold seq at h;have:=eq_of_beq h;obtain⟨⟨x⟩⟩:=a;obtain⟨⟨y⟩⟩:=b;simpa using this
theorem qi{α:Type}{l:List α}(h:l.length=2):∃x y,l=[x,y]:=by
 match l,h with
 | [x,y],_=>exact⟨x,y,rfl⟩
theorem P5{x k:Value}(h:fS x k=some true)(n:Nat):Instr.sameBits n k x=true:=by
 cases x with
 |int a b=>
  cases k with
  |int a' b'=>
   unfold fS at h;dsimp only at h;split at h
   ·rename_i e;obtain rfl:=aat e;cases hb:decide (b=b')with
    |false=>rw[hb]at h;cases h
    |true=>obtain rfl:=aat hb;cases n<;>simp[Instr.sameBits]
   ·cases h
  |_=>cases h
 |string s=>
  cases k with
  |string u=>
   unfold fS at h;have:seq s u=true:=abl h;obtain rfl:s=u:=seq_eq this;cases n<;>simp[Instr.sameBits,beq_toListBytes]
  |_=>cases h
 |bool s=>
  cases k with
  |bool u=>
   unfold fS at h;have:(s==u)=true:=abl h;obtain rfl:=eq_of_beq this;cases n<;>simp[Instr.sameBits]
  |_=>cases h
 |_=>cases h
theorem CA(hT:cL P T)(hs:Sat S F hp c)(t:TypeId)(x y zz:Operand)(hv:aC vs c [ρ x,ρ y,ρ zz])(ho:o.op=.insert t x y zz∨o.op=.mapUpdate t x y zz)(h:(zk T t vs).wp hp K):Sound P S (less F nx) hp c ρ o K:=by
 unfold zk at h;split at h
 ·rename_i sz ag z kt e eq j p v eT;obtain⟨d,hd,_,rfl⟩:=(hT t _ eT).de;split at h
  ·rename_i tk ek;split at h
   ·rename_i key hk;obtain⟨dk,hdk,hkk,rfl,hck⟩:=C9 hT ek hk;obtain⟨⟨B,k,hB,hx⟩,⟨hy,_⟩,hz⟩:=uz hv;simp only[Tr.wp]at h;split at h
    ·rename_i ks ps hj;obtain⟨hks,h⟩:=h;obtain⟨B',es,cl,h1,h2,h3,rfl,h5,_,_,hmk⟩:=hs.cD _ _ hj;have hB2:=hB;rw[h1]at hB2;cases hB2;obtain⟨r',g1,g2⟩:=A2 (c:=c) hkk es.toList 0 h5 hks;have hg:(getObj B).run P c.w=.ok (.map es cl) c.w:=by
      rw[lv]at h3;simp[getObj,Sem.run,h3]
     have hset:∀ob,(setObj B ob).run P c.w=.ok () {c.w with heap:=c.w.heap.setIfInBounds B ob}:=by
      intro ob;rw[lv]at h3;simp[setObj,Sem.run,h3]
     have key2:∀{w':World},(Instr.mapUpdate t (ρ x) (ρ y) (ρ zz)).run P c.w=.ok () w'→(execOp ρ o).run P c.w=.ok .skip w':=by
      intro w' hr;unfold execOp;rcases ho with ho|ho<;>simp[ho,hr]
     rcases g2 with⟨n,p2,v2,h6,h7,h8,⟨en,h9,h10⟩,h11⟩|⟨h6,h7,h8⟩
     ·subst h6;obtain⟨es',e1,e2,e3⟩:=h11 (ρ zz) v hz;have e4:(es.modify n fun e=>{e with key:=key,val:=ρ zz}).toList=es':=by rw[Array.toList_modify,e1]
      obtain⟨hext,hsat⟩:=Cr hs (ks':=kL (es.toList.map (·.key)) key) (cl':=cl) hj h1 h3 (es':=es.modify n fun e=>{e with key:=key,val:=ρ zz}) (by rw[e4];exact e2) (by rw[e4];exact e3) (Wb hmk n _ fun _=>rfl);have hfin:∀{c':RC},(Instr.mapUpdate t (ρ x) (ρ y) (ρ zz)).run P c.w=.ok () c'.w→Ext c c'→Sat S F (ck hp j (some (.map (kL (es.toList.map (·.key)) key) (me (es.toList.map (·.key)) ps key v) true))) c'→Sound P S (less F nx) hp c ρ o K:=fun h1 h2 h3=>⟨_,_,h,undef,_,.inr ⟨rfl,key2 h1⟩,h2,h3.up (fun _ h=>h.1),⟨[],rfl,rfl⟩⟩
      refine hfin ?_ hext hsat;rw[aav]at g1;have hen:es[n]? = some en:=by rw[← aaU];exact h9
      simp only[Instr.mapUpdate,Sem.run_bind,run_underlying hd,Result.andThen_ok,hx,hg,hy,hck 9999,Instr.findKey,run_underlying hdk,g1,Sem.run_pure,hen,ach,acK,Instr.keyThatStays,P5 h10 10000,if_true,hset]
     ·subst h6;obtain⟨e1,e2⟩:=h8 (ρ zz) v cl hz;have e4:(es.push ({key:=key,val:=ρ zz,born:=cl}:MapEntry)).toList=es.toList++[({key:=key,val:=ρ zz,born:=cl}:MapEntry)]:=Array.toList_push;obtain⟨hext,hsat⟩:=Cr hs (ks':=kL (es.toList.map (·.key)) key) (cl':=cl+1) hj h1 h3 (es':=es.push ({key:=key,val:=ρ zz,born:=cl}:MapEntry)) (by rw[e4];exact e1) (by rw[e4];exact e2) (N1 hmk _ _);have hfin:∀{c':RC},(Instr.mapUpdate t (ρ x) (ρ y) (ρ zz)).run P c.w=.ok () c'.w→Ext c c'→Sat S F (ck hp j (some (.map (kL (es.toList.map (·.key)) key) (me (es.toList.map (·.key)) ps key v) true))) c'→Sound P S (less F nx) hp c ρ o K:=fun h1 h2 h3=>⟨_,_,h,undef,_,.inr ⟨rfl,key2 h1⟩,h2,h3.up (fun _ h=>h.1),⟨[],rfl,rfl⟩⟩
      refine hfin ?_ hext hsat;simp only[Instr.mapUpdate,Sem.run_bind,run_underlying hd,Result.andThen_ok,hx,hg,hy,hck 9999,Instr.findKey,run_underlying hdk,g1,Sem.run_pure,hset]
    ·exact False.elim h
   ·exact False.elim h
  ·exact False.elim h
 ·exact False.elim h
theorem aaj(hs:Sat S F hp c)(hF:F nx)(t:TypeId)(ho:o.op=.makeMap t none)(h:(tr T nx (.makeMap t none) vs).wp hp K):Sound P S (less F nx) hp c ρ o K:=by
 simp only[tr]at h;split at h
 ·have hbel:=Gt c.w (.map #[] 0);have hx1:=pT (Z':=c.Z) hs.dG hbel (fun _ _ z=>z);have hs1:=qH (Z':=c.Z) hs hbel (fun _ _ z=>z) (fun _ _ z=>.inl z);have hx2:=qk (c:=⟨c.w.alloc (.map #[] 0),c.Z,c.hb⟩) (x:=some (c.w.heap.size,0)) (hs1.fresh _ hF);refine⟨_,_,h,.map (some c.w.heap.size),RC.named ⟨c.w.alloc (.map #[] 0),c.Z,c.hb⟩ nx (some (c.w.heap.size,0)),.inl ?_,hx1.trans hx2,qC hs1 hF ?_ ?_,c.w.heap.size,0,dm _ _ _,rfl⟩
  ·unfold execOp;simp[ho,Instr.makeMap,newObj];rfl
  ·exact⟨c.w.heap.size,#[],0,dm _ _ _,.inl hs.keeps.size,heap_alloc_new _ _,rfl,rfl,fun _ o z=>Nat.lt_irrefl _ (hs.dG _ o z),(fun h=>by cases h),rfl,fun i e he=>by simp at he⟩
  ·intro j bj y z hj hpj hy hz;cases hz;have:=((hs.cD j bj hpj).at (B:=y.1) (n:=y.2) hy).2.lt;show y.1≠c.w.heap.size
   omega
 ·exact False.elim h
theorem tm{t:TypeId}{x:Value}{n:Nat}{args:Array Operand}{tys:Array TypeId}{a:Operand}(ha:args.toList=[a])(ht:tys.toList=[t])(hx:ρ a=x)(ho:o.op=.call ⟨.builtin .len,args,tys⟩)
 (h:∀ty,(Builtin.len_ #[t] ty #[x]).run P c.w=.ok (goInt n) c.w):yU P ρ o c.w (.int .i64 n) c.w:=by
 left
 have e1:args=#[a]:=abN ha
 have e2:tys=#[t]:=abN ht
 subst e1 e2
 unfold execOp
 simp[ho,resolve,invoke,builtin,hx,h,goInt]
theorem X2(hT:cL P T)(hs:Sat S F hp c)(hF:F nx)(b:Builtin)(args:Array Operand)(tys:Array TypeId)(hv:aC vs c (args.toList.map ρ))(ho:o.op=.call ⟨.builtin b,args,tys⟩)(h:(Ch T nx b tys.toList vs).wp hp K):Sound P S (less F nx) hp c ρ o K:=by
 unfold Ch at h;split at h
 ·rename_i p t et;obtain⟨x,ea⟩:∃x,args.toList=[x]:=by
   have:=hv.length;rw[aao]at this;exact acP.1 this
  rw[ea]at hv;have hr:=fP hv;unfold Gz at h;split at h
  ·rename_i e2;obtain⟨hx,_⟩:=hr;obtain⟨d,hd,_,rfl⟩:=(hT t _ e2).de;have hu:=run_underlying (P:=P) hd c.w;exact cm hs h ⟨rfl,rfl⟩ (tm ea et hx ho fun ty=>by simp[Builtin.len_,hu])
  ·rename_i e2;obtain⟨vs,r1,a,cap,hx,_⟩:=hr;rw[r1.length]at hx;obtain⟨d,hd,_,rfl⟩:=(hT t _ e2).de;have hu:=run_underlying (P:=P) hd c.w;exact cm hs h ⟨rfl,rfl⟩ (tm ea et hx ho fun ty=>by simp[Builtin.len_,hu])
  ·rename_i e2;obtain⟨d,hd,_,rfl⟩:=(hT t _ e2).de;have hu:=run_underlying (P:=P) hd c.w;rcases hr with⟨rfl,a,hx⟩|⟨B,k,cap,aB,e6,f,_,hx,_⟩
   ·exact cm hs h ⟨rfl,rfl⟩ (tm ea et hx ho fun ty=>by simp[Builtin.len_,hu])
   ·exact cm hs h ⟨rfl,rfl⟩ (tm ea et hx ho fun ty=>by simp[Builtin.len_,hu])
  ·rename_i e2;obtain⟨d,hd,_,rfl⟩:=(hT t _ e2).de;have hu:=run_underlying (P:=P) hd c.w;obtain⟨B,k,cap,aB,e6,f,_,hx,_⟩:=hr;exact cm hs h ⟨rfl,rfl⟩ (tm (n:=0) ea et hx ho fun ty=>by simp[Builtin.len_,hu])
  ·exact False.elim h
 ·rename_i px cl ys t t' et;obtain⟨x,y,ea⟩:∃x y,args.toList=[x,y]:=by
   have:=hv.length;rw[aao]at this;exact qi this
  rw[ea]at hv;obtain⟨hx,hy⟩:=eV hv;obtain rfl:args=#[x,y]:=abN ea;obtain rfl:tys=#[t,t']:=abN et;exact Nt hT hs hF x y t t' hx hy ho h
 ·rename_i j lo len j' lo' len' t t' et;obtain⟨x,y,ea⟩:∃x y,args.toList=[x,y]:=by
   have:=hv.length;rw[aao]at this;exact qi this
  rw[ea]at hv;obtain rfl:args=#[x,y]:=abN ea;obtain⟨hx,hy⟩:=eV hv;obtain rfl:tys=#[t,t']:=abN et;have e:t=t':=by
   unfold qM at h;split at h
   ·rename_i e;exact aaE e
   ·exact False.elim h
  subst e;refine H7 hT hs false x y t (fun h1=>?_) hy ho h;rcases hx with⟨rfl,_⟩|hx
  ·rcases h1 with h1|h1
   ·cases h1
   ·omega
  ·exact hx
 ·rename_i j lo j' lo' len' t t' et;obtain⟨x,y,ea⟩:∃x y,args.toList=[x,y]:=by
   have:=hv.length;rw[aao]at this;exact qi this
  rw[ea]at hv;obtain rfl:args=#[x,y]:=abN ea;obtain⟨hx,hy⟩:=eV hv;obtain rfl:tys=#[t,t']:=abN et;have e:t=t':=by
   unfold qM at h;split at h
   ·rename_i e;exact aaE e
   ·exact False.elim h
  subst e;refine H7 hT hs true x y t (fun _=>?_) hy ho h;obtain⟨B,k,cap,aB,e,f,h1,h2,h3,h4,h5⟩:=hx;exact⟨B,k,cap,aB,e,f,h1,h2,aaF _,h3,h4,h5⟩
 ·rename_i j len kd q t t' et;obtain⟨x,y,ea⟩:∃x y,args.toList=[x,y]:=by
   have:=hv.length;rw[aao]at this;exact qi this
  rw[ea]at hv;obtain rfl:args=#[x,y]:=abN ea;obtain⟨hx,hy,_⟩:=eV hv;obtain rfl:tys=#[t,t']:=abN et;exact Wu hT hs hF x y t t' hx hy ho h
 ·rename_i p t et;obtain⟨x,ea⟩:∃x,args.toList=[x]:=by
   have:=hv.length;rw[aao]at this;exact acP.1 this
  rw[ea]at hv;obtain rfl:args=#[x]:=abN ea;obtain rfl:tys=#[t]:=abN et;exact Q2 hT hs x t (fP hv) ho h
 ·rename_i p t et;obtain⟨x,ea⟩:∃x,args.toList=[x]:=by
   have:=hv.length;rw[aao]at this;exact acP.1 this
  rw[ea]at hv;obtain rfl:args=#[x]:=abN ea;obtain rfl:tys=#[t]:=abN et;exact Yy hT hs x t (fP hv) ho h
 ·rename_i p q t t' et;obtain⟨x,y,ea⟩:∃x y,args.toList=[x,y]:=by
   have:=hv.length;rw[aao]at this;exact qi this
  rw[ea]at hv;obtain rfl:args=#[x,y]:=abN ea;obtain⟨hx,hy⟩:=eV hv;obtain rfl:tys=#[t,t']:=abN et;split at h
  ·rename_i e;obtain rfl:=aaE e;exact Wv hT hs x y t hx hy ho h
  ·exact False.elim h
 ·rename_i k a k' b _;obtain⟨x,y,ea⟩:∃x y,args.toList=[x,y]:=by
   have:=hv.length;rw[aao]at this;exact qi this
  rw[ea]at hv;obtain⟨⟨hx,_⟩,hy,_⟩:=eV hv;obtain⟨d,hd,h⟩:=h;refine cm hs h ⟨rfl,rfl⟩ (.inl ?_);have e1:args=#[x,y]:=abN ea;subst e1;rw[← hd];unfold execOp;simp[ho,resolve,invoke,builtin,hx,hy,Builtin.min_,Builtin.min2]
 ·rename_i k a k' b _;obtain⟨x,y,ea⟩:∃x y,args.toList=[x,y]:=by
   have:=hv.length;rw[aao]at this;exact qi this
  rw[ea]at hv;obtain⟨⟨hx,_⟩,hy,_⟩:=eV hv;obtain⟨d,hd,h⟩:=h;refine cm hs h ⟨rfl,rfl⟩ (.inl ?_);have e1:args=#[x,y]:=abN ea;subst e1;rw[← hd];unfold execOp;simp[ho,resolve,invoke,builtin,hx,hy,Builtin.max_,Builtin.max2]
 ·exact False.elim h
theorem Yc(hs:Sat S F hp c)(f:Fn)(a b:Array Operand)(hv:aC vs c ((a++b).toList.map ρ))(ho:o.op=.makeFunc f a b)(h:(tr T nx (.makeFunc f a b) vs).wp hp K):Sound P S (less F nx) hp c ρ o K:=by
 cases f with
 |func f=>
  simp only[tr]at h;split at h
  ·rename_i e1;have ha:a=#[]:=by cases a;simp_all
   subst ha;rw[Array.empty_append]at hv;refine cm hs h ⟨_,rfl,hv⟩ (.inl ?_);unfold execOp;have hm:Array.map ρ b=(List.map ρ b.toList).toArray:=abN (by simp);simp only[ho,Instr.makeFunc,Sem.run_bind,Sem.run_pure,Result.andThen_ok,hm,Array.map_empty]
  ·rename_i y x e1 e2;obtain rfl:a=#[y]:=by cases a;simp_all
   obtain rfl:b=#[]:=by cases b;simp_all
   obtain⟨u,us,e3,r1,r2⟩:=hv;cases r2;have e3:ρ y=u:=by simpa using e3
   subst e3;refine cm hs h ⟨_,rfl,r1⟩ (.inl ?_);unfold execOp;simp[ho,Instr.makeFunc]
  ·exact False.elim h
 |_=>exact False.elim h
theorem Jg:∀{us:List Value},(∀v∈us,v.oneCell'=true)→(∀v∈us,v.cells.size=1)∧flat us=us
 | [],_=>⟨fun _ h=>(by cases h),rfl⟩
 |u::us,h=>by
  obtain⟨h1,h2⟩:=Jg fun v hv=>h v (aaz _ hv)
  have hu:u.cells=#[u]:=by
   have:=h u aaA
   cases u<;>first|rfl|cases this
  refine⟨fun v hv=>?_,?_⟩
  ·rcases aaI.1 hv with rfl|hv
   ·rw[hu];rfl
   ·exact h1 v hv
  ·show u.cells.toList++flat us=_
   rw[hu,h2];rfl
theorem TD(hT:cL P T)(hs:Sat S F hp c)(t:TypeId)(x:Operand)(lo hi mx:Option Operand){n:Nat}{e:TypeId}{sz:Nat}{ag eq:Bool}{z:PV}(hte:T t=some ⟨sz,ag,z,.aB n e,eq⟩)(hv:aC vs c (ρ x::(lo.toList++hi.toList++mx.toList).map ρ))(ho:o.op=.slice t x lo hi mx)(h:(yI T n e lo.isSome hi.isSome mx.isSome vs).wp hp K):Sound P S (less F nx) hp c ρ o K:=by
 unfold yI at h;split at h
 ·rename_i p z' kd' eq' h1 h2 h3 h4;obtain rfl:lo=none:=by cases lo with|none=>rfl|some _=>cases h1
  obtain rfl:hi=none:=by cases hi with|none=>rfl|some _=>cases h2
  obtain rfl:mx=none:=by cases mx with|none=>rfl|some _=>cases h3
  simp only[Tr.wp]at h;split at h
  ·rename_i rs l h6;have hrr:=jA hs l 200 h6 (fun _ h=>h) hv;rw[RC.rq]at hrr;have hs1:=hs.dE l;split at h
   ·rename_i cs;split at h
    ·rename_i h7 h8;simp only[Tr.wp]at h;obtain⟨v,vs',e1,r1,r2⟩:=hrr;injection e1 with e1 _
     obtain⟨b,base,us,e2,r3,hc⟩:=r1;have hx:ρ x=.pointer (some ⟨b,base,none⟩):=e1.trans e2;obtain⟨d',hd,_,rfl⟩:=(hT t _ hte).de;have hn:us.length=n:=by rw[r3.length];exact aaE h7
     obtain⟨o1,o2⟩:=Jg (aC.wD r3 h8);refine⟨_,_,h,.slice (some ⟨b,base,none⟩) n n,fK hp c l,.inl ?_,m_ hp c l,?_,?_⟩
     ·have hu:=run_underlying (P:=P) hd c.w;have hsz:=(hT e _ h4).size c.w;have hb:(Instr.sliceBounds false n n none none none).run P c.w=.ok (0,n,n) c.w:=by
       simp[Instr.sliceBounds]
      unfold execOp;simp[ho,hx,Instr.sliceAt,Instr.sureAddr,hu,hb,hsz,Addr.add_lit];rfl
     ·rw[pI];exact hs1.up fun _ h=>h.1
     ·exact⟨us,r3,some ⟨b,base,none⟩,n,by rw[hn],by omega,(fun e=>by cases e),.inr ⟨b,base,1,rfl,o1,by rw[o2];exact hc⟩⟩
    ·exact False.elim h
   ·exact False.elim h
  ·exact False.elim h
 ·exact False.elim h
theorem Ha{c:RC}:∀{ps:List PV} {vs:List Value} {l:List Int},vU ps=some l→aC ps c vs→vs=l.map (Value.int .u8)
 | [],vs,l,h,r=>by cases h;exact r
 |p::ps,vs,l,h,r=>by
  unfold vU at h
  split at h
  ·rename_i hp;cases hp
  ·rename_i n l' hp
   injection hp with h1 h2
   subst h1 h2
   split at h
   ·rename_i r' hr'
    cases h
    obtain⟨v,vs',rfl,⟨rfl,_⟩,r2⟩:=r
    rw[Ha hr' r2];rfl
   ·cases h
  ·cases h
theorem E':∀l:List Int,flat (l.map (Value.int .u8))=l.map (Value.int .u8)
 | []=>rfl
 |x::l=>by show[Value.int .u8 x]++flat (l.map (Value.int .u8))=_;rw[E' l];rfl
theorem QM(hT:cL P T)(hs:Sat S F hp c)(t u:TypeId)(x:Operand){e:TypeId}{sz sz2:Nat}{ag ag2 eq eq2:Bool}{z z2:PV}{p:PV}(e1:T t=some ⟨sz,ag,z,.sl e,eq⟩)(e2:T u=some ⟨sz2,ag2,z2,.str,eq2⟩)(hv:aC [p] c [ρ x])(ho:o.op=.convert t u x)(h:(zD T e p).wp hp K):Sound P S (less F nx) hp c ρ o K:=by
 unfold zD at h;split at h
 ·rename_i h3;simp only[Tr.wp]at h;split at h
  ·rename_i rs l h6;have hrr:=jA hs l 200 h6 (fun _ h=>h) hv;rw[RC.rq]at hrr;have hs1:=hs.dE l;split at h
   ·rename_i cl r rows;split at h
    ·rename_i ns h7;simp only[Tr.wp]at h;obtain⟨v,vs',e3,r1,r2⟩:=hrr;injection e3 with e3 _
     obtain⟨us,hus,a,cap,hva,hle,_,hsl⟩:=r1;have hun:=Ha h7 hus;have hn:us.length=ns.length:=by rw[hun,aao]
     rcases hsl with hnil|⟨b,off,k,rfl,hk,hc⟩
     ·rw[hnil]at hus;obtain⟨_,_,e4,_⟩:=hus;cases e4
     obtain⟨d1,hd1,_,rfl⟩:=(hT t _ e1).de;obtain⟨d2,hd2,_,rfl⟩:=(hT u _ e2).de;obtain⟨d3,hd3,_,rfl⟩:=(hT e _ h3).de;have hx:ρ x=.slice (some ⟨b,off,none⟩) us.length cap:=e3.trans hva;refine⟨_,_,h,.string (bytesOf ns),fK hp c l,.inl ?_,m_ hp c l,?_,⟨rfl,rfl⟩⟩
     ·have hcell:∀i,i<ns.length→c.w.cell? ⟨b,off+i,none⟩=some (.int .u8 (ns.getD i 0)):=fun i hi=>by
       have:=(hc i (.int .u8 (ns.getD i 0)) (by
        rw[hun,E',aaT,aay hi,aba,aay hi];rfl)).2
       exact this
      have hrun:=Go.run_convert_bytes_arg (P:=P) c.w t e hd1 hd3 b off us.length cap ns hn.symm (fun i hi=>hcell i (by omega)) u hd2;unfold execOp;simp[ho,hx,hrun];exact⟨rfl,rfl⟩
     ·rw[pI];exact hs1.up fun _ h=>h.1
    ·exact False.elim h
   ·exact False.elim h
  ·exact False.elim h
 ·exact False.elim h
theorem RN(hT:cL P T)(hs:Sat S F hp c)(t u:TypeId)(x:Operand)(hv:aC vs c [ρ x])(ho:o.op=.convert t u x)(h:(tr T nx (.convert t u x) vs).wp hp K):Sound P S (less F nx) hp c ρ o K:=by
 simp only[tr]at h;split at h
 ·rename_i k1 _ _ _ _ k2 _ k3 a e1 e2;obtain⟨b,hb,h⟩:=h;obtain⟨d,hd,_,rfl⟩:=(hT t _ e1).de;obtain⟨d2,hd2,_,rfl⟩:=(hT u _ e2).de;obtain⟨hx,_⟩:=fP hv;refine cm hs h ⟨rfl,rfl⟩ (.inl ?_);rw[← hb];unfold execOp;have hc:(convert t u (.int k3 a)).run P c.w=.ok (.int k2 (k2.wrap a)) c.w:=by simp[convert,run_underlying hd,run_underlying hd2,Conv.intToInt]
  simp[ho,hx,hc]
 ·rename_i e1 e2;exact QM hT hs t u x e1 e2 hv ho h
 ·exact False.elim h
theorem QO(hT:cL P T)(hs:Sat S F hp c)(hF:F nx){ev:Operand→Option PV}(hev:∀x p,ev x=some p→Rel p c (ρ x))(hcn:∀v,ρ (.const v)=v){op:Op}(ho:o.op=op)(h:act T nx op ev hp K):Sound P S (less F nx) hp c ρ o K:=by
 unfold act at h;split at h
 ·rename_i vs e;have hv:=rP hev e;cases op with
  |move x=>exact Gw hs x hv (.inl ho) h
  |assign x=>exact Gw hs x hv (.inr ho) h
  |pick x a b=>exact OD hs x a b hv ho h
  |alloc t=>exact Wm hT hs hF t ho h
  |box t x=>exact MT hs hF t x hv ho h
  |load t x=>exact Pa hT hs t x hv ho h
  |store t x y=>exact Wa hT hs t x y hv ho h
  |fieldAddr t x f=>exact RL hT hs t x f hv ho h
  |indexAddr t x y=>exact ZR hT hs t x y hv ho h
  |extract x i=>exact Mz hs x i hv ho h
  |unOp u t x=>exact Yf hs u t x hv ho h
  |binOp b t x y t2=>exact N0 hT hs b t t2 x y (fun v hy=>by rw[hy];exact hcn v) hv ho h
  |index t x y=>exact PX hT hs t x y hv ho h
  |field t x f=>exact To hT hs t x f hv ho h
  |slice t x lo hi mx=>
   have:(Op.slice t x lo hi mx).operands.toList=x::(lo.toList++hi.toList++mx.toList):=by
    simp[Op.operands]
   rw[this]at hv;simp only[tr]at h;split at h
   ·rename_i hte;exact TD hT hs t x lo hi mx hte hv ho h
   ·exact Sm hT hs t x lo hi mx hv ho h
  |makeInterface t x=>exact M5 hT hs t x hv ho h
  |nilCheck x=>exact Pk hs x hv ho h
  |typeAssert x xt t ok=>exact Wh hT hs x xt t ok hv ho h
  |convert t u x=>exact RN hT hs t u x hv ho h
  |lookup t x y ok=>exact OO hT hs t x y ok hv ho h
  |insert t x y z=>exact CA hT hs t x y z hv (.inl ho) h
  |mapUpdate t x y z=>exact CA hT hs t x y z hv (.inr ho) h
  |makeSlice t x y=>exact NB hT hs hF t x y hv ho h
  |makeMap t r=>
   cases r with
   |none=>exact aaj hs hF t ho h
   |some r=>exact False.elim h
  |call q=>
   obtain⟨cal,args,tys⟩:=q;cases cal with
   |builtin b=>
    refine X2 hT hs hF b args tys ?_ ho h;have:(Op.call ⟨.builtin b,args,tys⟩).operands.toList=args.toList:=by simp[Op.operands,Call.operands]
    rw[this]at hv;exact hv
   |_=>exact False.elim h
  |build t parts=>exact U7 hT hs t parts (by have:=hv;simp only[Op.operands]at this;exact this) ho h
  |buildSlice t len parts=>exact aal hT hs t len parts (by have:=hv;simp only[Op.operands]at this;exact this) ho h
  |makeFunc f a b=>exact Yc hs f a b hv ho h
  |_=>exact False.elim h
 ·exact h.elim
end
def cC{α:Type}(q:α→Prop):List α→Prop
 | []=>True
 |x::l=>q x∧cC q l
theorem cC.mem{α:Type}{q:α→Prop}:∀{l:List α},cC q l→∀x∈l,q x
 |y::l,h,x,hx=>by
  rcases aaI.1 hx with rfl|hx
  ·exact h.1
  ·exact cC.mem h.2 x hx
def ln(w w':World)(Z:Nat→Nat→Prop)(b o:Nat):Prop:=Z b o∨(w.heap.size≤b∧b<w'.heap.size)
def gB(P:Program)(G:World→Prop)(f:FuncId)(args:List PV)(post:PV→Prop):Prop:=
 (∀args w,(callFunc f args).run P w=.ok (.enter f args) w)∧
 ∀(w:World) (Z:Nat→Nat→Prop) (vs:List Value),G w→(∀b o,Z b o→b<w.heap.size)→aC args ⟨w,Z,fun _=>none⟩ vs→
  Calls P f vs.toArray w fun e w'=>∃r v,e=.returned v∧post r∧Rel r ⟨w',ln w w' Z,fun _=>none⟩ v∧Below w.heap.size w w'
structure HC(P:Program)(G:World→Prop)(f:FuncId)(args:List PV)(bs:List (Nat×aA))(nx:Nat)(post:PV→bW→Prop):Prop where
 enter:∀args w,(callFunc f args).run P w=.ok (.enter f args) w
 run:∀{S:ct} {F:Nat→Prop} {hp:Nat→Option aA} {c:RC} {vs:List Value},S.G=G→F nx→Sat S F hp c→cC (fun x:Nat×aA=>hp x.1=some x.2) bs→aC args c vs→
  Calls P f vs.toArray c.w fun e w'=>∃r d v c',e=.returned v∧c'.w=w'∧post r d∧Good S (less F nx) (dh hp d) c c' r v
def lV(hp:Nat→Option aA)(l:List Nat)(r:PV):bW:=match r.bare with|true=>[]|false=>jt hp l
structure XC(P:Program)(f:FuncId)(args:List PV)(bs:List (Nat×aA))(r:PV):Prop where
 run:∀{S:ct} {F:Nat→Prop} {hp:Nat→Option aA} {c:RC} {vs:List Value},Sat S F hp c→cC (fun x:Nat×aA=>hp x.1=some x.2) bs→aC args c vs→∃v,(callFunc f vs.toArray).run P c.w=.ok (.value v) c.w∧Rel r c v
structure a_(P:Program)(G:World→Prop)(hp:Nat→Option aA)(nx:Nat)(f:FuncId)(args:List PV)(k:PV→bW→Prop):Prop where
 h:(∃n rs l post,cY [] n hp args=some (rs,l)∧gB P G f rs post∧∀r,post r→k r (lV hp l r))∨
  (∃X n rs l bs post,cY X n hp args=some (rs,l)∧cC (fun x:Nat×aA=>dE hp l x.1=some x.2) bs∧HC P G f rs bs nx post∧∀r d,post r d→k r (d++jt hp l))∨
  ∃X n rs l bs r,cY X n hp args=some (rs,l)∧cC (fun x:Nat×aA=>dE hp l x.1=some x.2) bs∧XC P f rs bs r∧k r (jt hp l)
section
variable {P:Program}{G:World→Prop}{hp:Nat→Option aA}{nx:Nat}
theorem a_.is{f:FuncId}{args rs:List PV}{l:List Nat}{k:PV→bW→Prop}{r:PV}(h:gB P G f rs (·=r))(hk:k r (lV hp l r))(hr:cY [] 200 hp args=some (rs,l):=by exact rfl):a_ P G hp nx f args k:=⟨.inl ⟨200,rs,l,_,hr,h,fun _ e=>e▸hk⟩⟩
theorem a_.by{n:Nat}{f:FuncId}{args rs:List PV}{l:List Nat}{k:PV→bW→Prop}{r:PV}(h:gB P G f rs (·=r))(hr:cY [] n hp args=some (rs,l))(hk:k r (lV hp l r)):a_ P G hp nx f args k:=⟨.inl ⟨n,rs,l,_,hr,h,fun _ e=>e▸hk⟩⟩
theorem a_.some{f:FuncId}{args rs:List PV}{l:List Nat}{k:PV→bW→Prop}{post:PV→Prop}(h:gB P G f rs post)(hk:∀r,post r→k r (lV hp l r))(hr:cY [] 200 hp args=some (rs,l):=by exact rfl):a_ P G hp nx f args k:=⟨.inl ⟨200,rs,l,_,hr,h,hk⟩⟩
theorem a_.bB(X:List Nat){n:Nat}{f:FuncId}{args rs':List PV}{l':List Nat}{k:PV→bW→Prop}{bs:List (Nat×aA)}{r:PV}{d:bW}(h:HC P G f rs' bs nx fun r' d'=>r'=r∧d'=d)(hr:cY X n hp args=.some (rs',l'))(hb:cC (fun x:Nat×aA=>dE hp l' x.1=.some x.2) bs)(hk:k r (d++jt hp l')):a_ P G hp nx f args k:=
 ⟨.inr (.inl ⟨X,n,rs',l',bs,_,hr,hb,h,fun _ _ e=>by rw[e.1,e.2];exact hk⟩)⟩
theorem a_.ext(X:List Nat){n:Nat}{f:FuncId}{args rs':List PV}{l':List Nat}{k:PV→bW→Prop}{bs:List (Nat×aA)}{r:PV}(h:XC P f rs' bs r)(hr:cY X n hp args=.some (rs',l'))(hb:cC (fun x:Nat×aA=>dE hp l' x.1=.some x.2) bs)(hk:k r (jt hp l')):a_ P G hp nx f args k:=
 ⟨.inr (.inr ⟨X,n,rs',l',bs,r,hr,hb,h,hk⟩)⟩
end
structure oh(P:Program)(t:TypeId)(name:String)(k:FuncId→Prop):Prop where
 h:∃g,(∀x w,(Go.method (P.types.size+Made.depth) t x name).run P w=.ok (g,x) w)∧k g
theorem oh.is{P:Program}{t:TypeId}{name:String}{k:FuncId→Prop}(g:FuncId)(h:∀x w,(Go.method (P.types.size+Made.depth) t x name).run P w=.ok (g,x) w)(hk:k g):oh P t name k:=⟨g,h,hk⟩
structure eO(t:Bool)(A B:Prop):Prop where
 h1:t=true→A
 h2:t=false→B
theorem eO.t{t:Bool}{A B:Prop}(h:t=true)(a:A):eO t A B:=⟨fun _=>a,fun e=>(by rw[h]at e;cases e)⟩
theorem eO.f{t:Bool}{A B:Prop}(h:t=false)(b:B):eO t A B:=⟨fun e=>(by rw[h]at e;cases e),fun _=>b⟩
inductive Ex where
 |normal|ret|exit (i:Nat)
def Ex.to:Ex→Exit
 |.normal=>.normal
 |.ret=>.ret
 |.exit i=>.exit i
def mC(n:Nat)(env:Nat→Option PV)(hp:Nat→Option aA)(d:Option Nat)(v:PV)(k:AS→Prop):Prop:=
 match d with
 |none=>k ⟨env,hp⟩
 |some d=>match Nat.ble (d+1) n with|true=>k ⟨ck env d (some v),hp⟩|false=>False
def ja(n:Nat)(s:AS)(d:Option Nat)(v:PV)(k:AS→Prop):Prop:=match s with|⟨env,hp⟩=>mC n env hp d v k
theorem vH(n:Nat)(s:AS)(d:Option Nat)(v:PV)(k:AS→Prop):ja n s d v k=match d with
 |none=>k s
 |some d=>match Nat.ble (d+1) n with|true=>k ⟨ck s.env d (some v),s.hp⟩|false=>False:=by cases s;rfl
def n_(all:List Oper)(s:AS)(j:Nat)(want:Bool):Option Bool:=
 match PV.nth all j with
 |some o=>match o.dst with
  |some d=>match s.env d with
   |some (.at (.bool b))=>match b,want with
    |true,true|false,false=>some true
    |_,_=>some false
   |some (.aK [])=>some false
   |_=>none
  |none=>none
 |none=>none
section
variable (P:Program)(G:World→Prop)(T:TT)
def Uw(n nx:Nat)(o:Oper)(env:Nat→Option PV)(hp:Nat→Option aA)(k:AS→Prop):Prop:=
 match o.op with
 |.call ⟨.value f,args,_⟩=>match gD env f,dZ (gD env) args.toList with
  |some (.fn g fe),some ps=>a_ P G hp nx g (ps++fe) fun r d=>mC n env (dh hp d) o.dst r k
  |some (.mv g v),some ps=>a_ P G hp nx g (v::ps) fun r d=>mC n env (dh hp d) o.dst r k
  |_,_=>False
 |.call ⟨.invoke x name,args,_⟩=>match gD env x,dZ (gD env) args.toList with
  |some (.dq t v),some ps=>oh P t name fun g=>a_ P G hp nx g (v::ps) fun r d=>mC n env (dh hp d) o.dst r k
  |_,_=>False
 |op=>act T nx op (gD env) hp fun v d=>mC n env (dh hp d) o.dst v k
def o7(n nx:Nat)(o:Oper)(s:AS)(k:AS→Prop):Prop:=match s with|⟨env,hp⟩=>Uw P G T n nx o env hp k
theorem B3(n nx:Nat)(o:Oper)(s:AS)(k:AS→Prop):o7 P G T n nx o s k=match o.op with
 |.call ⟨.value f,args,_⟩=>match s.ev f,dZ s.ev args.toList with
  |some (.fn g fe),some ps=>a_ P G s.hp nx g (ps++fe) fun r d=>ja n ⟨s.env,dh s.hp d⟩ o.dst r k
  |some (.mv g v),some ps=>a_ P G s.hp nx g (v::ps) fun r d=>ja n ⟨s.env,dh s.hp d⟩ o.dst r k
  |_,_=>False
 |.call ⟨.invoke x name,args,_⟩=>match s.ev x,dZ s.ev args.toList with
  |some (.dq t v),some ps=>oh P t name fun g=>a_ P G s.hp nx g (v::ps) fun r d=>ja n ⟨s.env,dh s.hp d⟩ o.dst r k
  |_,_=>False
 |op=>act T nx op s.ev s.hp fun v d=>ja n ⟨s.env,dh s.hp d⟩ o.dst v k:=by cases s;rfl
def j7(n:Nat)(all:List Oper):List Oper→Nat→AS→(Nat→AS→Prop)→Prop
 | [],nx,s,k=>k nx s
 |o::os,nx,s,k=>
  match o.guard with
  |none=>o7 P G T n nx o s fun s=>j7 n all os (nx+1) s k
  |some (j,want)=>match n_ all s j want with
   |some true=>o7 P G T n nx o s fun s=>j7 n all os (nx+1) s k
   |some false=>ja n s o.dst (.aK []) fun s=>j7 n all os (nx+1) s k
   |none=>False
end
theorem A4{env:Nat→Option PV}{c:RC}{a:Act}(he:∀t p,env t=some p→∃v,a.tmps[t]? = some v∧Rel p c v)(x:Operand)(p:PV)(h:gD env x=some p):Rel p c (a.eval x):=by
 cases x with
 |tmp t=>
  obtain⟨v,hv,hr⟩:=he t p h;have:a.eval (.tmp t)=v:=by simp[Act.eval,abA,hv]
  rw[this];exact hr
 |const v=>
  unfold gD at h;split at h
  ·rename_i e;cases e
  ·rename_i e;cases e;cases h;exact⟨[],rfl,none,0,rfl,aas _,fun _=>rfl,.inl rfl⟩
  ·rename_i e;cases e;split at h
   ·cases h;exact⟨rfl,by assumption⟩
   ·cases h
  ·rename_i e;cases e
  ·rename_i e;cases e
 |func f=>cases h;exact⟨[],rfl,rfl⟩
 |global g=>cases h
structure c_(S:ct)(n:Nat)(F:Nat→Prop)(s:AS)(a:Act)(c:RC):Prop where
 sat:Sat S F s.hp c
 size:a.tmps.size=n
 env:∀t p,s.env t=some p→∃v,a.tmps[t]? = some v∧Rel p c v
 defers:a.defers=S.D
theorem c_.up{S:ct}{n:Nat}{F F':Nat→Prop}{s:AS}{a:Act}{c:RC}(h:c_ S n F s a c)(hm:∀j,F' j→F j):c_ S n F' s a c:=⟨h.sat.up hm,h.size,h.env,h.defers⟩
theorem nW{S:ct}{n:Nat}{F F':Nat→Prop}{s:AS}{a:Act}{c c':RC}{k:AS→Prop}(hm:c_ S n F s a c)(hx:Ext c c'){hp':Nat→Option aA}(hs:Sat S F' hp' c'){p:PV}{v:Value}(hr:Rel p c' v)(d:Option Nat)
 (h:ja n ⟨s.env,hp'⟩ d p k):∃s',k s'∧c_ S n F' s' (a.put d v) c':=by
 have henv:∀t p,s.env t=some p→∃v,a.tmps[t]? = some v∧Rel p c' v:=fun t p e=>by
  obtain⟨v,h1,h2⟩:=hm.env t p e
  exact⟨v,h1,Rel.ext p hx h2⟩
 cases d with
 |none=>exact⟨_,h,hs,hm.size,henv,hm.defers⟩
 |some d=>
  rw[vH]at h
  dsimp only at h
  split at h
  ·rename_i hd
   have hd':=aaG hd
   refine⟨_,h,hs,by simp[Act.put,hm.size],fun t q e=>?_,hm.defers⟩
   replace e:ck s.env d (some p) t=some q:=e
   by_cases ht:t=d
   ·subst ht
    rw[dm]at e;cases e
    have h9:t<a.tmps.size:=by have:=hm.size;omega
    exact⟨v,by simp[Act.put,h9],hr⟩
   ·rw[dR _ _ ht]at e
    obtain⟨u,h1,h2⟩:=henv t q e
    exact⟨u,by simp[Act.put,Ne.symm ht,h1],h2⟩
  ·exact h.elim
theorem p9{α:Type}:∀{l:List α} {j:Nat} {x:α},PV.nth l j=some x→l[j]? = some x
 | [],j,_,h=>by cases j<;>cases h
 |_::_,0,_,h=>by cases h;rfl
 |_::l,j+1,_,h=>by have:=p9 (l:=l) h;simpa using this
theorem Km{c:RC}{w':World}(hz:∀b o,c.Z b o→b<c.w.heap.size)(hb:Below c.w.heap.size c.w w'):Ext c ⟨w',ln c.w w' c.Z,c.hb⟩:=pT hz hb fun _ _ z=>.inl z
theorem I8{S:ct}{F:Nat→Prop}{hp:Nat→Option aA}{c:RC}{w':World}(h:Sat S F hp c)(hb:Below c.w.heap.size c.w w'):Sat S F hp ⟨w',ln c.w w' c.Z,c.hb⟩:=qH h hb (fun _ _ z=>.inl z) fun _ _ z=>z
theorem As(hp:Nat→Option aA):∀d e:bW,dh hp (d++e)=dh (dh hp e) d
 | [],_=>rfl
 |(j,b)::d,e=>by show ck (dh hp (d++e)) j b=ck (dh (dh hp e) d) j b;rw[As hp d e]
theorem zq{P:Program}{G:World→Prop}{S:ct}{F:Nat→Prop}{hp:Nat→Option aA}{nx:Nat}{c:RC}{g:FuncId}{args:List PV}{k:PV→bW→Prop}{vs:List Value}(hG:S.G=G)(hF:F nx)(hs:Sat S F hp c)(hv:aC args c vs)
 (h:a_ P G hp nx g args k):((∀args w,(callFunc g args).run P w=.ok (.enter g args) w)∧Calls P g vs.toArray c.w fun e w'=>∃r d v c',e=.returned v∧c'.w=w'∧k r d∧Good S (less F nx) (dh hp d) c c' r v)∨∃r d v c',(callFunc g vs.toArray).run P c.w=.ok (.value v) c'.w∧k r d∧Good S (less F nx) (dh hp d) c c' r v:=by
 rcases h.h with⟨n,rs,l,post,he,⟨hen,hcall⟩,hpost⟩|⟨X,n,rs',l',bs,post,hr,hb,hc,hpost⟩|⟨X,n,rs',l',bs,r,hr,hb,hc,hk⟩
 ·have hall:=jA hs l n he (fun _ h=>h) hv
  rw[RC.rq]at hall
  have hsat:=hs.dE l
  refine .inl ⟨hen,(hcall c.w (fK hp c l).Z _ (hG▸S.hG hs.keeps) hsat.dG hall).mono ?_⟩
  rintro e w' ⟨r,v,rfl,hp',hr,hbl⟩
  have hk:=hpost r hp'
  unfold lV at hk
  cases hba:r.bare with
  |true=>
   rw[hba]at hk
   exact⟨r,[],v,⟨w',ln c.w w' c.Z,c.hb⟩,rfl,rfl,hk,Km hs.dG hbl,(I8 hs hbl).up fun _ h=>h.1,Z9 r hba hr⟩
  |false=>
   rw[hba]at hk
   have hx1:Ext c (fK hp c l):=m_ _ _ _
   have hx2:=Km (c:=fK hp c l) hsat.dG hbl
   refine⟨r,_,v,_,rfl,rfl,hk,hx1.trans hx2,?_,Rel.ext r (Ext.jz _) hr⟩
   rw[pI]
   exact(I8 hsat hbl).up fun _ h=>h.1
 ·have hall:=aC.ext _ (JU _ X) (jA hs l' n hr (fun _ h=>h) hv)
  have hsat:=hs.dE l'
  refine .inl ⟨hc.enter,(hc.run hG hF hsat hb hall).mono ?_⟩
  rintro e w' ⟨r,d,v,c',rfl,hw,hp',hg⟩
  refine⟨r,_,v,c',rfl,hw,hpost r d hp',(m_ hp c l').trans hg.x,?_,hg.r⟩
  rw[As,pI]
  exact hg.s
 ·have hall:=aC.ext _ (JU _ X) (jA hs l' n hr (fun _ h=>h) hv)
  have hsat:=hs.dE l'
  obtain⟨v,hrun,hv⟩:=hc.run hsat hb hall
  refine .inr ⟨r,_,v,_,hrun,hk,m_ hp c l',?_,hv⟩
  rw[pI]
  exact hsat.up fun _ h=>h.1
theorem wF{S:ct}{n:Nat}{F:Nat→Prop}{s:AS}{a:Act}{c:RC}(hm:c_ S n F s a c){ops:Array Oper}{o:Oper}{j:Nat}{want b:Bool}(hg:o.guard=some (j,want))(hb:n_ ops.toList s j want=some b):Region.wanted o (yielded ops a.tmps)=b:=by
 unfold n_ at hb;unfold Region.wanted;rw[hg];split at hb
 ·rename_i o' ho';have hn:=p9 ho';rw[aaU]at hn;split at hb
  ·rename_i d hd;split at hb
   ·rename_i b' hb';obtain⟨v,hv,rfl,_⟩:=hm.env d _ hb';have hy:yielded ops a.tmps j=some b':=by unfold yielded;simp[hn,hd,hv]
    dsimp only;rw[hy];cases b'<;>cases want<;>cases hb<;>rfl
   ·rename_i hb';obtain⟨v,hv,us,rfl,_⟩:=hm.env d _ hb';have hy:yielded ops a.tmps j=none:=by unfold yielded;simp[hn,hd,hv]
    dsimp only;rw[hy];cases hb;rfl
   ·cases hb
  ·cases hb
 ·cases hb
section
variable {P:Program}{G:World→Prop}{T:TT}{S:ct}
theorem II(hT:cL P T)(hG:S.G=G){n nx:Nat}{F:Nat→Prop}(hF:F nx){o:Oper}{s:AS}{a:Act}{c:RC}{k:AS→Prop}(hm:c_ S n F s a c)(h:o7 P G T n nx o s k){next:Act→World→Prop}{Q:Exit→Act→World→Prop}
 (hk:∀s' a' c',k s'→c_ S n (less F nx) s' a' c'→next a' c'.w):o.wp P a c.w next Q:=by
 have hev:=A4 hm.env
 have plain:∀{op:Op},o.op=op→act T nx op s.ev s.hp (fun v d=>ja n ⟨s.env,dh s.hp d⟩ o.dst v k)→o.wp P a c.w next Q:=by
  intro op ho h
  obtain⟨p,d,hput,v,c',hrun,hx,hs,hr⟩:=QO hT hm.sat hF hev (fun _=>rfl) ho h
  obtain⟨s',hk',hm'⟩:=nW hm hx hs hr o.dst hput
  unfold Oper.wp
  rcases hrun with hrun|⟨rfl,hrun⟩
  ·rw[hrun];exact hk s' _ c' hk' hm'
  ·rw[hrun];exact hk s' _ c' hk' hm'
 rw[B3]at h
 split at h
 ·rename_i f args ty ho
  split at h
  ·rename_i g fe ps e1 e2
   obtain⟨cs,hf,hcs⟩:=hev f _ e1
   have cX:=rP hev e2
   have he:(args.map a.eval++cs.toArray)=(args.toList.map a.eval++cs).toArray:=abN (by simp)
   rcases zq hG hF hm.sat (aC.od cX hcs) h with⟨hen,key⟩|⟨r,d,v,c',hrun0,hput,hg⟩
   ·unfold Oper.wp
    have hrun:(execOp a.eval o).run P c.w=.ok (.enter g (args.toList.map a.eval++cs).toArray) c.w:=by
     unfold execOp
     simp[ho,resolve,hf,Deferred.ofValue,invoke,hen,he]
    rw[hrun]
    refine key.mono ?_
    rintro e w' ⟨r,d,v,c',rfl,rfl,hput,hg⟩
    obtain⟨s',hk',hm'⟩:=nW hm hg.x hg.s hg.r o.dst hput
    exact hk s' _ _ hk' hm'
   ·unfold Oper.wp
    have hrun:(execOp a.eval o).run P c.w=.ok (.value v) c'.w:=by
     unfold execOp
     simp[ho,resolve,hf,Deferred.ofValue,invoke,hrun0,he]
    rw[hrun]
    obtain⟨s',hk',hm'⟩:=nW hm hg.x hg.s hg.r o.dst hput
    exact hk s' _ _ hk' hm'
  ·rename_i g v0 ps e1 e2
   obtain⟨x0,hf,hx0⟩:=hev f _ e1
   have cX:=rP hev e2
   have he:(#[x0]++args.map a.eval)=(x0::args.toList.map a.eval).toArray:=abN (by simp)
   rcases zq hG hF hm.sat (show aC (v0::ps) c (x0::args.toList.map a.eval)from⟨x0,_,rfl,hx0,cX⟩) h with⟨hen,key⟩|⟨r,d,v,c',hrun0,hput,hg⟩
   ·unfold Oper.wp
    have hrun:(execOp a.eval o).run P c.w=.ok (.enter g (x0::args.toList.map a.eval).toArray) c.w:=by
     unfold execOp
     simp[ho,resolve,hf,Deferred.ofValue,invoke,hen,he]
    rw[hrun]
    refine key.mono ?_
    rintro e w' ⟨r,d,v,c',rfl,rfl,hput,hg⟩
    obtain⟨s',hk',hm'⟩:=nW hm hg.x hg.s hg.r o.dst hput
    exact hk s' _ _ hk' hm'
   ·unfold Oper.wp
    have hrun:(execOp a.eval o).run P c.w=.ok (.value v) c'.w:=by
     unfold execOp
     simp[ho,resolve,hf,Deferred.ofValue,invoke,hrun0,he]
    rw[hrun]
    obtain⟨s',hk',hm'⟩:=nW hm hg.x hg.s hg.r o.dst hput
    exact hk s' _ _ hk' hm'
  ·exact h.elim
 ·rename_i x name args ty ho
  split at h
  ·rename_i t v0 ps e1 e2
   obtain⟨g,hmeth,h⟩:=h.h
   obtain⟨x0,hf,hx0⟩:=hev x _ e1
   have cX:=rP hev e2
   have he:(#[x0]++args.map a.eval)=(x0::args.toList.map a.eval).toArray:=abN (by simp)
   have h0:(#[Value.iface t x0]++args.map a.eval)[0]? = some (.iface t x0):=by simp[Array.getElem?_append]
   have h1:(args.map a.eval).extract 0 args.size=args.map a.eval:=by
    have:=Array.extract_size (xs:=args.map a.eval)
    rwa [Array.size_map]at this
   rcases zq hG hF hm.sat (show aC (v0::ps) c (x0::args.toList.map a.eval)from⟨x0,_,rfl,hx0,cX⟩) h with⟨hen,key⟩|⟨r,d,v,c',hrun0,hput,hg⟩
   ·unfold Oper.wp
    have hrun:(execOp a.eval o).run P c.w=.ok (.enter g (x0::args.toList.map a.eval).toArray) c.w:=by
     unfold execOp
     simp[ho,resolve,hf,invoke,callMethod,h0,h1,hmeth,hen,he]
    rw[hrun]
    refine key.mono ?_
    rintro e w' ⟨r,d,v,c',rfl,rfl,hput,hg⟩
    obtain⟨s',hk',hm'⟩:=nW hm hg.x hg.s hg.r o.dst hput
    exact hk s' _ _ hk' hm'
   ·unfold Oper.wp
    have hrun:(execOp a.eval o).run P c.w=.ok (.value v) c'.w:=by
     unfold execOp
     simp[ho,resolve,hf,invoke,callMethod,h0,h1,hmeth,hrun0,he]
    rw[hrun]
    obtain⟨s',hk',hm'⟩:=nW hm hg.x hg.s hg.r o.dst hput
    exact hk s' _ _ hk' hm'
  ·exact h.elim
 ·exact plain rfl h
theorem vx(hT:cL P T)(hG:S.G=G){n:Nat}{all:List Oper}{Q:Exit→Act→World→Prop}:∀{os:List Oper} {nx:Nat} {s:AS} {a:Act} {c:RC} {k:Nat→AS→Prop},c_ S n (ge nx) s a c→j7 P G T n all os nx s k→
 (∀m s' a' c',k m s'→c_ S n (ge m) s' a' c'→Q .normal a' c'.w)→wpList P all.toArray Q os a c.w
 | [],nx,s,a,c,k,hm,h,hk=>hk nx s a c h hm
 |o::os,nx,s,a,c,k,hm,h,hk=>by
  have go:o7 P G T n nx o s (fun s=>j7 P G T n all os (nx+1) s k)→Region.wanted o (yielded all.toArray a.tmps)=true→wpList P all.toArray Q (o::os) a c.w:=by
   intro h hw
   unfold wpList
   rw[abb hw]
   exact .inl (II hT hG (aas nx) hm h fun s' a' c' h' hm'=>vx hT hG (hm'.up fun j (hj:nx+1≤j)=>⟨show nx≤j by omega,by omega⟩) h' hk)
  unfold j7 at h
  split at h
  ·rename_i hg
   exact go h (by unfold Region.wanted;rw[hg])
  ·rename_i j want hg
   split at h
   ·rename_i hb
    exact go h (wF hm hg (by simpa using hb))
   ·rename_i hb
    unfold wpList
    rw[abg (by rw[wF hm hg (by simpa using hb)];exact acm)]
    obtain⟨s',hk',hm'⟩:=nW (v:=undef) hm (Ext.refl c) (hm.sat.up (F':=ge (nx+1)) fun j hj=>Nat.le_of_succ_le hj) (show Rel (.aK []) c undef from⟨[],rfl,rfl⟩) o.dst h
    exact vx hT hG hm' hk' hk
   ·exact h.elim
end
end
end Go.Proofs.YtbnonpbnhenkfaaGreatDoor
