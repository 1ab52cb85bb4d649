/- Part 2 of the proof; the last part says what is proved. -/
import Derived.Test.YtbnonpbnhenkfaaGreatDoorQ01
import Derived.Laws.MakeOwn
import Derived.Lib.AppendZerosOnto
import Derived.Laws.BytesArg
set_option linter.all false
set_option maxRecDepth 1000000
set_option maxHeartbeats 8000000
namespace Go.Proofs.YtbnonpbnhenkfaaGreatDoor
section
open Go.RowKit
section
variable {P:Program}{T:TT}{S:dr}{F:Nat→Prop}{nx:Nat}{hp:Nat→Option aI}{c:RC}{ρ:Operand→Value}{o:Oper}{K:PV→cU→Prop}{vs:List PV}
theorem afk(d:Nat){t:TypeId}{e:TypeId}(b:P.underlying t=some (.slice e))(a:Option Addr)(n q:Nat)(w:World):(Op.equalIn (d+1) t (.slice a n q) (.slice none 0 0)).run P w=.ok a.isNone w:=by
 have f:=run_underlying (P:=P) b w;cases a<;>simp only[Op.equalIn,Sem.run_bind,f,Result.andThen_ok]<;>rfl
theorem Hz{t:TypeId}{e:TypeId}(b:P.underlying t=some (.slice e))(a:Option Addr)(n q:Nat)(w:World):(Op.equal t (.slice a n q) (.slice none 0 0)).run P w=.ok a.isNone w:=afk 9999 b a n q w
theorem I'(f:bU S F hp c){b:BinOp}{t t2:TypeId}{x y:Operand}{k k':IntKind}{a b':Int}(g:o.op=.binOp b t x y t2)(i:ρ x=.int k a)(j:ρ y=.int k' b')(h:(zb b k a b').wp hp K):eV P S (dz F nx) hp c ρ o K:=by
 unfold zb at h;split at h
 ·obtain⟨hb,c',d,h⟩:=h;refine dl f h ⟨rr,rr⟩ (.inl ?_);rw[<-d];have e:¬b'<0:=om
  unfold execOp;simp[g,i,j,eqGuard,binOp,Op.shift,e]
 ·obtain⟨hb,c',d,h⟩:=h;refine dl f h ⟨rr,rr⟩ (.inl ?_);rw[<-d];have e:¬b'<0:=om
  unfold execOp;simp[g,i,j,eqGuard,binOp,Op.shift,e]
 ·exact False.elim h
theorem adU(s:dV P T)(l:bU S F hp c)(b:BinOp)(t t2:TypeId)(x y:Operand)(C:∀v,y=.const v->ρ y=v)(hv:aM vs c [ρ x,ρ y])(m:o.op=.binOp b t x y t2)(h:(EX T b t y vs).wp hp K):eV P S (dz F nx) hp c ρ o K:=by
 unfold EX at h;split at h
 ·rename_i k a k' b';obtain⟨⟨g,_⟩,i,_⟩:=gW hv;split at h
  ·rename_i ek;obtain rfl:=j5 ek;cases b with
   |eql|neq|lss|leq|gtr|geq=>
    obtain⟨q,rfl,h⟩:=h;refine dl l h ⟨rr,rr⟩ (.inl ?_);unfold execOp;simp[m,g,i,eqGuard,binOp,Op.intCmp,Bool.beq_eq_decide_eq,bne]
   |add|sub|mul=>
    obtain⟨c',u,h⟩:=h;refine dl l h ⟨rr,rr⟩ (.inl ?_);rw[<-u];unfold execOp;simp[m,g,i,eqGuard,binOp,Op.intArith]
   |quo|rem=>
    obtain⟨hb,c',u,h⟩:=h;refine dl l h ⟨rr,rr⟩ (.inl ?_);rw[<-u];unfold execOp;simp[m,g,i,eqGuard,binOp,Op.intDiv,hb]
   |shl=>exact I' l m g i h
   |shr=>
    unfold Rs at h;dsimp only at h;split at h
    ·obtain⟨hb,c',u,h⟩:=h;subst hb;refine dl l h ⟨rr,rr⟩ (.inl ?_);rw[<-u];have h1:min 1 k.bits=1:=by cases k<;>rfl
     unfold execOp;simp[m,g,i,eqGuard,binOp,Op.shift,h1]
    ·exact I' l m g i h
   |and|xor=>
    obtain⟨c',u,h⟩:=h;refine dl l h ⟨rr,rr⟩ (.inl ?_);rw[<-u];unfold execOp;simp[m,g,i,eqGuard,binOp,Op.intBits]
   |_=>exact False.elim h
  ·exact I' l m g i h
 ·rename_i a b';obtain⟨⟨g,_⟩,i,_⟩:=gW hv;cases b with
  |add=>
   obtain⟨hb,h⟩:=h;refine dl l h ⟨rr,rr⟩ (.inl ?_);have H:¬(((a.size+b'.size:Nat):Int)>IntKind.i64.max):=by
    have:IntKind.i64.max=9223372036854775807:=by decide
    rw[this];omega
   unfold execOp;simp only[m,g,i,eqGuard,binOp,Op.stringOp,H];simp
  |eql|neq|lss|leq|gtr|geq=>
   obtain⟨q,rfl,h⟩:=h;refine dl l h ⟨rr,rr⟩ (.inl ?_);unfold execOp;simp[m,g,i,eqGuard,binOp,Op.stringOp,seq,dG,ByteArray.toList_eq]
  |_=>exact False.elim h
 ·rename_i a b';obtain⟨⟨g,_⟩,i,_⟩:=gW hv;split at h
  ·rename_i e3;obtain⟨d,n,_,rfl⟩:=(s t _ e3).de;exact vZ l m g i (λb=>by cases b<;>rfl) (run_equal_bool c.w t a b' n) rr rr h
  ·exact False.elim h
 ·rename_i f cs;obtain⟨⟨vs,g,_⟩,i,_⟩:=gW hv;split at h
  ·rename_i e3;obtain⟨d,n,_,N,O,p3,rfl⟩:=(s t _ e3).de;exact vZ l m g i (λb=>by cases b<;>rfl) (YX n _ _ _ c.w) rr rr h
  ·exact False.elim h
 ·obtain⟨⟨g,_⟩,i,_⟩:=gW hv;split at h
  ·rename_i e3;obtain⟨d,n,_,N,O,p3,rfl⟩:=(s t _ e3).de;exact vZ l m g i (λb=>by cases b<;>rfl) (aer n c.w) rr rr h
  ·exact False.elim h
 ·rename_i xs ys;split at h
  ·rename_i sz z kd eq e;split at h
   ·rename_i r e2;obtain⟨A,E⟩:=gW hv;have p:=G' s 100 10000 om e e2 rr rr A E;obtain⟨us,g,_⟩:=A;obtain⟨ws,i,_⟩:=E;have G:eq=true:=by
     cases eq
     case true=>rfl
     unfold rU at e2;rw[e]at e2;cases e2
    obtain⟨_,g2,_⟩:=(s t _ e).OB G;rw[g,i]at p;refine vZ l m g i (λb=>run_eqGuard_agg c.w b t x y _ _ g2) p ?_ ?_ h<;>(simp only[binOp])
   ·exact False.elim h
  ·exact False.elim h
 ·rename_i cl rows q;obtain⟨A,E⟩:=gW hv;split at h
  ·rename_i sz ag z e eq eT;obtain⟨d,n,_,rfl⟩:=(s t _ eT).de;have i:=C _ rr;obtain⟨us,r1,a,cap,g,h2,I,J⟩:=A;have L:=r1.length;have D:(uU b a.isNone).wp hp K:=by
    by_cases h0:rows.length=0
    ·exact h.h2 h0 _
    ·have M:a.isNone=false:=by
      rcases J with rfl|⟨Q,off,k,rfl,_⟩
      ·exact absurd L.symm h0
      ·rfl
     rw[M];exact h.h1 h0
   exact vZ l m g i (λb=>by cases b<;>rfl) (Hz n _ _ _ c.w) rr rr D
  ·exact False.elim h
 ·rename_i j lo len q;obtain⟨A,E⟩:=gW hv;split at h
  ·rename_i sz ag z e eq eT;obtain⟨d,n,_,rfl⟩:=(s t _ eT).de;have i:=C _ rr;rcases A with⟨h0,a,g⟩|⟨B,k,cap,aK,e',f,h1,g,I,_⟩
   ·exact vZ l m g i (λb=>by cases b<;>rfl) (Hz n _ _ _ c.w) rr rr (h.h2 h0 _)
   ·refine vZ l m g i (λb=>by cases b<;>rfl) (Hz n _ _ _ c.w) rr rr ?_;by_cases h0:len=0
    ·exact h.h2 h0 _
    ·exact h.h1 h0
  ·exact False.elim h
 ·exact False.elim h
theorem ZI(f:dV P T)(A:bU S F hp c)(t:TypeId)(x y:Operand)(hv:aM vs c [ρ x,ρ y])(B:o.op=.index t x y)(h:(FP T t vs).wp hp K):eV P S (dz F nx) hp c ρ o K:=by
 unfold FP at h;split at h
 ·rename_i sz ag z n e eq xs k q e2;split at h
  ·rename_i te e4;obtain⟨⟨h2,C⟩,h⟩:=h;split at h
   ·rename_i v h1 g;obtain⟨⟨vs,i,D⟩,j,_⟩:=gW hv;obtain⟨d,l,_,rfl⟩:=(f t _ e2).de;have m:=run_underlying (P:=P) l c.w;obtain⟨u,p,r⟩:=ya (P:=P) (f e te e4) D h1 g;refine dl A h r (.inl ?_);unfold execOp;simp[B,i,j,Instr.index,asIntOf,m,h2,C,(f e te e4).size,p]
   ·exact False.elim h
  ·exact False.elim h
 ·rename_i sz ag z eq s k q e2;obtain⟨⟨h2,C⟩,c',E,h⟩:=h;obtain⟨⟨i,_⟩,j,_⟩:=gW hv;obtain⟨d,l,_,rfl⟩:=(f t _ e2).de;have m:=run_underlying (P:=P) l c.w;refine dl A h ⟨rr,rr⟩ (.inl ?_);rw[<-E];have a:q.toNat<s.size:=om
  have G:s[q.toNat]? = some (s.data.toList.getD q.toNat 0):=by
   have b:q.toNat<s.data.toList.length:=by simpa using a
   rw[y5,j8 b,getElem?_pos s q.toNat a];rfl
  unfold execOp;simp only[B,i,j,Instr.index,asIntOf,Sem.run_bind,Sem.run_pure,Result.andThen_ok,m,z7 h2,G]
 ·exact False.elim h
theorem aok(j:dV P T)(k:bU S F hp c)(t:TypeId)(x:Operand)(f:Nat)(hv:aM vs c [ρ x])(l:o.op=.field t x f)(h:(FE T t f vs).wp hp K):eV P S (dz F nx) hp c ρ o K:=by
 unfold FE at h;split at h
 ·rename_i sz ag z fs eq xs e2;split at h
  ·rename_i off e m;split at h
   ·rename_i te e4;split at h
    ·rename_i v h1 a;obtain⟨vs,n,p⟩:=jj hv;obtain⟨d,q,_,fields,rfl,_,r⟩:=(j t _ e2).de;obtain⟨B,f1,rfl,rfl,i,y,A⟩:=r f _ _ m;have s:=run_underlying (P:=P) q c.w;obtain⟨u,b,g⟩:=ya (P:=P) (j _ te e4) p h1 a;refine dl k h g (.inl ?_);unfold execOp;simp[l,n,Instr.field,s,f1,asAgg,b]
    ·exact False.elim h
   ·exact False.elim h
  ·exact False.elim h
 ·exact False.elim h
theorem Ll{lo hi:Option Operand}{n:Nat}{Q:Nat->Nat->Tr}(hv:aM vs c ((lo.toList++hi.toList).map ρ))(h:(nl lo.isSome hi.isSome n vs Q).wp hp K):∃l u,(Q l u).wp hp K/\l<=u/\u<=n/\
 (∀(i:Bool) (cap:Nat) (w:World),n<=cap->(Instr.sliceBounds i n cap (lo.map ρ) (hi.map ρ) none).run P w=.ok (l,u,cap) w)/\(lo=none->l=0):=by
 cases lo with
 |none=>
  cases hi with
  |none=>
   unfold nl at h
   split at h<;>first|exact False.elim h|skip
   all_goals first
    |exact⟨_,_,h,j9 _,j2 _,λi cap w _=>by simp[Instr.sliceBounds],λ_=>rfl⟩
    |simp_all
  |some u=>
   unfold nl at h
   split at h<;>try (first|exact False.elim h|(simp_all;done))
   rename_i k b _ _
   obtain⟨⟨h0,h1⟩,h⟩:=h
   obtain⟨d,_⟩:=jj hv
   refine⟨_,_,h,om,om,λi cap w g=>?_,λ_=>rfl⟩
   have:b<=(cap:Int):=om
   simp[Instr.sliceBounds,d,Instr.sliceBound,asIntOf,h0,this]
 |some l=>
  cases hi with
  |none=>
   unfold nl at h
   split at h<;>try (first|exact False.elim h|(simp_all;done))
   rename_i k a _ _
   obtain⟨⟨h0,h1⟩,h⟩:=h
   obtain⟨f,_⟩:=jj hv
   refine⟨_,_,h,om,j2 _,λi cap w _=>?_,λe=>by cases e⟩
   simp[Instr.sliceBounds,f,Instr.sliceBound,asIntOf,h0,h1]
  |some u=>
   unfold nl at h
   split at h<;>try (first|exact False.elim h|(simp_all;done))
   rename_i k a k' b _ _
   obtain⟨⟨h0,h1,h2⟩,h⟩:=h
   obtain⟨⟨f,_⟩,d,_⟩:=gW hv
   refine⟨_,_,h,om,om,λi cap w g=>?_,λe=>by cases e⟩
   have g1:b<=(cap:Int):=om
   have g2:0<=b:=om
   have g3:a<=max b 0:=om
   simp[Instr.sliceBounds,f,d,Instr.sliceBound,asIntOf,h0,g1,g2,g3]
theorem vj{lo hi:Option Operand}{n:Nat}{Q:Nat->Nat->Tr}(hv:aM vs c ((lo.toList++hi.toList).map ρ))(h:(nl lo.isSome hi.isSome n vs Q).wp hp K):∃l u,(Q l u).wp hp K/\l<=u/\u<=n/\
 ∀(i:Bool) (cap:Nat) (w:World),n<=cap->(Instr.sliceBounds i n cap (lo.map ρ) (hi.map ρ) none).run P w=.ok (l,u,cap) w:=by
 obtain⟨l,u,h1,h2,a,b,_⟩:=Ll (P:=P) hv h
 exact⟨l,u,h1,h2,a,b⟩
theorem aM.drop:∀{a:List PV} {c:RC} {vs:List Value} (n:Nat),aM a c vs->aM (a.drop n) c (vs.drop n)
 |_,_,_,0,r=>r
 | [],_,vs,_+1,r=>by rw[show vs=[]from r];exact rr
 |_::_,_,_,n+1,r=>by
  obtain⟨v,b,rfl,_,r2⟩:=r
  exact aM.drop n r2
theorem aM.take:∀{a:List PV} {c:RC} {vs:List Value} (n:Nat),aM a c vs->aM (a.take n) c (vs.take n)
 |_,_,_,0,_=>rfl
 | [],_,vs,_+1,r=>by rw[show vs=[]from r];exact rr
 |_::_,_,_,n+1,r=>by
  obtain⟨v,b,rfl,r1,r2⟩:=r
  exact⟨v,_,rr,r1,aM.take n r2⟩
theorem ui(a b:List Value):bV (a++b)=bV a++bV b:=by simp[bV]
theorem Mm{k:Nat}{vs:List Value}(a:∀x∈vs,x.cells.size=k){l m i:Nat}{x:Value}(b:l<=vs.length)(h:(bV ((vs.drop l).take m))[i]? = some x):(bV vs)[l*k+i]? = some x:=by
 have e:vs=vs.take l++((vs.drop l).take m++(vs.drop l).drop m):=by rw[A5,A5]
 rw[e,ui,ui];have h1:(bV (vs.take l)).length=l*k:=by
  rw[jF λx d=>a x (u6 d),l8,E9 b]
 rw[A4 om,h1,Nat.add_sub_cancel_left,A8 (c9.1 h).1];exact h
theorem IX{t e:TypeId}{d:TI}(f:P.underlying t=some (.slice e))(b:iR P e d){n cap l u:Nat}{lo hi:Option Value}{a:Option Addr}{w:World}(h:(Instr.sliceBounds true n cap lo hi none).run P w=.ok (l,u,cap) w):
 (Instr.sliceAt t (.slice a n cap) lo hi none).run P w=.ok (.slice (if cap=l then a else a.map (·.add (l*d.size))) (u-l) (cap-l)) w:=by
 have g:=run_underlying (P:=P) f w
 simp[Instr.sliceAt,Instr.slice,g,h,b.size]
theorem ak1{t e:TypeId}{g:TI}{cl:Bool}{v:Value}{rows:List PV}{vs:List Value}{lo hi:Option Value}{l u:Nat}(y:P.underlying t=some (.slice e))(h:iR P e g)(r1:aM rows c.pure vs)(r2:lO c.w c.Z cl v vs)(n:uN rows g.size)
 (z:l<=u) (A:u<=rows.length) (hb:∀(cap:Nat),rows.length<=cap->(Instr.sliceBounds true rows.length cap lo hi none).run P c.w=.ok (l,u,cap) c.w):
 ∃x,(Instr.sliceAt t v lo hi none).run P c.w=.ok x c.w/\bW (.sl false ((rows.drop l).take (u-l))) c x:=by
 obtain⟨a,cap,rfl,h1,h2,B⟩:=r2
 have r:=r1.length
 have:=hb cap om
 rw[<-r]at this
 refine⟨_,IX y h this,(vs.drop l).take (u-l),(r1.drop l).take (u-l),?_⟩
 have f:((vs.drop l).take (u-l)).length=u-l:=by rw[l8,w7];omega
 refine⟨_,cap-l,by rw[f],om,(λe=>by cases e),?_⟩
 by_cases C:u-l=0
 ·left;rw[C];rfl
 rcases B with rfl|⟨b,off,k,rfl,d,D⟩
 ·left;simp
 ·right
  have j:¬cap=l:=by
   have:l<u:=om
   omega
  have m:k=g.size:=by
   have h0:0<vs.length:=om
   obtain⟨q,hq⟩:∃q,vs[0]? = some q:=⟨vs[0],by simp[h0]⟩
   cases s:rows with
   |nil=>rw[s,B9]at r;omega
   |cons p ps=>
    rw[s]at r1 n
    obtain⟨w0,ws,rfl,g1,_⟩:=r1
    rw[<-d w0 j6,<-p8,g1.cells.length]
    exact n p j6
  subst m
  refine⟨b,off+l*g.size,g.size,by rw[y8 j,E3,Addr.add_lit],λx E=>d x (B3 (u6 E)),λi x hi=>?_⟩
  have:=D _ x (Mm d om hi)
  rwa [<-B4]at this
theorem sq(l:bU S F hp c){j k:Nat}{rs:List PV}{wr:Bool}{f:Option Nat}{e:TypeId}(p:hp j=some (.rows k rs wr f e)){B m:Nat}(b:c.hb j=some (B,m)):m=k/\∃aK vs,fe c.w B aK e (0,0)/\aM rs c vs/\(∀x∈vs,x.cells.size=k)/\(∀(i:Nat) (x:Value),(bV vs)[i]? = some x->aK[i]? = some x)/\(∀n,f=some n->aK.size=n*k)/\rs.length*k<=aK.size:=by
 rcases l.dK j _ p with⟨_,_,q⟩|⟨B',a,vs,s,v,t,d,h,g,z,y,u⟩
 ·rw[q]at b;cases b
 ·rw[s]at b;cases b;refine⟨rr,a,vs,t,d,h,g,u,?_⟩;rw[<-d.length,<-jF h];by_cases h0:(bV vs).length=0
  ·omega
  ·have r:(bV vs).length-1<(bV vs).length:=om
   have:=g _ _ (j8 r);have:=(u7.1 this).1;omega
theorem abY(O:dV P T)(E:bU S F hp c)(t:TypeId)(x:Operand)(lo hi mx:Option Operand)(hv:aM vs c (ρ x::(lo.toList++hi.toList++mx.toList).map ρ))(ho:o.op=.slice t x lo hi mx)(h:(EZ T t lo.isSome hi.isSome mx.isSome vs).wp hp K):eV P S (dz F nx) hp c ρ o K:=by
 unfold EZ at h;split at h
 ·rename_i sz ag z eq s U hm e2;obtain rfl:mx=none:=by cases mx with|none=>rfl|some _=>cases hm
  obtain⟨v,l,e,r1,r2⟩:=hv;cases e;rw[Option.toList_none,A2]at r2;obtain⟨l,u,hk,g,r,hb⟩:=vj (P:=P) r2 h;obtain⟨A,_⟩:=r1;obtain⟨d,I,_,rfl⟩:=(O t _ e2).de;have R:=run_underlying (P:=P) I c.w;have:=hb false s.size c.w (j2 _);refine dl E hk ⟨rr,rr⟩ (.inl ?_);unfold execOp;simp[ho,A,Instr.sliceAt,Instr.slice,R,this]
 ·rename_i sz ag z e eq p U hm e2;obtain rfl:mx=none:=by cases mx with|none=>rfl|some _=>cases hm
  obtain⟨v,l,e',r1,r2⟩:=hv;cases e';rw[Option.toList_none,A2]at r2;split at h
  ·rename_i te e4;have Z:∀{j q len k:Nat} {rs:List PV} {wr:Bool} {cp:Option Nat} {ee:TypeId} {l u N B m cap:Nat} {aK:Array Value} {e6:TypeId} {f:Nat×Nat},c.hb j=some (B,m)->ρ x=.slice (some ⟨B,q*m,none⟩) len cap->cap<=maxLen->fe c.w B aK e6 f->(q+cap)*m=aK.size->P.underlying t=some (.slice e)->
    hp j=some (.rows k rs wr cp ee)->Nat.beq k te.size=true->l<=u->u<=N->N<=cap->(Instr.sliceBounds true len cap (lo.map ρ) (hi.map ρ) none).run P c.w=.ok (l,u,cap) c.w->
    ∃v,(execOp ρ o).run P c.w=.ok (.value v) c.w/\bW (.aS j (q+l) (u-l)) c v/\(l=0->u=0->bW (.gJ j q) c v):=by
    intro j q len k rs wr cp ee l u N B m cap aK e6 f C A L g2 g3 I G e5 g r J hb;have hk:=n9 e5;obtain rfl:=(sq E G C).1;have hv:=IX (P:=P) (a:=some ⟨B,q*m,none⟩) I (O e te e4) hb;rw[<-A]at hv;have hv2:(execOp ρ o).run P c.w=.ok (.value (.slice (if cap=l then some ⟨B,q*m,none⟩else(some ⟨B,q*m,none⟩:Option Addr).map (·.add (l*te.size))) (u-l) (cap-l))) c.w:=by
     unfold execOp;simp only[ho,Option.map_none,hv,Sem.run_bind,Result.andThen_ok,Sem.run_pure]
    refine⟨_,hv2,?_,λV R=>?_⟩
    ·by_cases y:cap=l
     ·rw[show u-l=0 by omega,show cap-l=0 by omega];exact .inl ⟨rr,_,rr⟩
     ·rw[y8 y,E3,Addr.add_lit,<-hk,<-G7];exact .inr ⟨B,m,cap-l,aK,e6,f,C,rr,om,om,g2,by rw[<-g3];congr 1;omega⟩
    ·subst V R;refine⟨B,m,cap,aK,e6,f,C,?_,L,g2,g3⟩;by_cases y:cap=0
     ·rw[z7 y,y]
     ·rw[y8 y,E3,Addr.add_lit,C9,D0];rfl
   split at h
   ·rename_i cl rows;obtain⟨hk,h⟩:=h;obtain⟨l,u,D,g,r,hb⟩:=vj (P:=P) r2 h;obtain⟨vs,r1,r3⟩:=r1;obtain⟨d,I,_,rfl⟩:=(O t _ e2).de;obtain⟨v,hv,H⟩:=ak1 I (O e te e4) r1 r3 hk g r (λcap y=>hb true cap c.w y);refine dl E D H (.inl ?_);unfold execOp;simp[ho,hv]
   ·rename_i j q len;obtain⟨d,I,_,rfl⟩:=(O t _ e2).de;have key:∀{k:Nat} {rs:List PV} {wr:Bool} {cp:Option Nat} {ee:TypeId} {l u N:Nat},hp j=some (.rows k rs wr cp ee)->Nat.beq k te.size=true->l<=u->u<=N->
     (∀(cap:Nat),N<=cap->(Instr.sliceBounds true len cap (lo.map ρ) (hi.map ρ) none).run P c.w=.ok (l,u,cap) c.w)->(len=0->N=0)->(∀B m cap (aK:Array Value),c.hb j=some (B,m)->len<=cap->(q+cap)*m=aK.size->(∃e f,fe c.w B aK e f)->N<=cap)->
     ∃v,(execOp ρ o).run P c.w=.ok (.value v) c.w/\bW (.aS j (q+l) (u-l)) c v/\(l=0->u=0->0<len->bW (.gJ j q) c v):=by
     intro k rs wr cp ee l u N G e5 g r hb hN0 hN;rcases r1 with⟨W,a,A⟩|⟨B,m,cap,aK,e6,f,C,A,g1,L,g2,g3⟩
     ·have hN:=hN0 W;subst W;obtain rfl:u=0:=om
      obtain rfl:l=0:=om
      have hv:=IX (P:=P) (a:=a) I (O e te e4) (hb 0 om);rw[<-A]at hv;refine⟨.slice (if 0=0 then a else a.map (·.add (0*te.size))) (0-0) (0-0),?_,.inl ⟨rr,_,rr⟩,λ_ _ h=>om⟩;unfold execOp;simp only[ho,Option.map_none,hv,Sem.run_bind,Result.andThen_ok,Sem.run_pure]
     have J:=hN B m cap aK C g1 g3 ⟨_,_,g2⟩;obtain⟨v,h1,h2,h3⟩:=Z C A L g2 g3 I G e5 g r J (hb cap J);exact⟨v,h1,h2,λa b _=>h3 a b⟩
    simp only[Tr.wp]at h;split at h
    ·rename_i k rs wr n ee G;split at h
     ·rename_i e5 eh e1k;obtain⟨hlen,h⟩:=h;cases hi with
      |none=>cases eh
      |some hi=>
       obtain⟨l,u,D,g,r,hb⟩:=vj (P:=P) (hi:=some hi) r2 h;have hN:∀B m cap (aK:Array Value),c.hb j=some (B,m)->len<=cap->(q+cap)*m=aK.size->(∃e f,fe c.w B aK e f)->n-q<=cap:=by
        rintro B m cap aK C g1 g3 ⟨e',f',g2⟩;rcases E.dK j _ G with⟨_,W,_⟩|⟨B',Y,U,b1,_,M,_,_,_,_,_,b9⟩
        ·cases W
        ·rw[b1]at C;cases C;rw[fe]at M g2;rw[M]at g2;cases g2;have h1:=b9 n rr;rw[<-g3]at h1;have hk0:0<k:=by rw[n9 e5];exact o9 e1k
         have:=O0 hk0 h1;omega
       obtain⟨v,hv,H,_⟩:=key G e5 g r (λcap y=>by
        have:=hb true cap c.w y;unfold Instr.sliceBounds at this⊢;exact this) (λh=>om) hN
       exact dl E D H (.inl hv)
     ·rename_i e5 eh e1k;cases hi with
      |some hi=>cases eh
      |none=>
       obtain⟨l,u,D,g,r,hb⟩:=vj (P:=P) (hi:=none) r2 h;obtain⟨v,hv,H,_⟩:=key G e5 g r (λcap y=>hb true cap c.w y) id (λB m cap aK C g1 g3 _=>g1);exact dl E D H (.inl hv)
     ·exact False.elim h
    ·rename_i k rs wr ee G;have hR:0<te.size->Nat.beq k te.size=true->∀B m cap (aK:Array Value),c.hb j=some (B,m)->len<=cap->(q+cap)*m=aK.size->(∃e f,fe c.w B aK e f)->rs.length-q<=cap:=by
      rintro h0 e5 B m cap aK C g1 g3 ⟨e',f',g2⟩;obtain⟨rfl,Y,U,M,b4,b5,b6,b9,Q⟩:=sq E G C;rw[fe]at M g2;rw[M]at g2;cases g2;rw[<-g3]at Q;have:=J8 Q (by rw[n9 e5];exact h0);omega
     split at h
     ·rename_i e5 elo ehi;obtain⟨lo,rfl⟩:=K3.1 elo;obtain⟨hi,rfl⟩:=K3.1 ehi;rcases h.h with h|⟨⟨h1,h2⟩,h⟩
      ·obtain⟨l,u,D,g,r,hb⟩:=vj (P:=P) (lo:=some lo) (hi:=some hi) r2 h;obtain⟨v,hv,H,_⟩:=key G e5 g r (λcap y=>hb true cap c.w y) id (λB m cap aK C g1 g3 _=>g1);exact dl E D H (.inl hv)
      ·obtain⟨l,u,D,g,r,hb⟩:=vj (P:=P) (lo:=some lo) (hi:=some hi) r2 h;obtain⟨v,hv,H,_⟩:=key G e5 g r (λcap y=>by
        have:=hb true cap c.w y;unfold Instr.sliceBounds at this⊢;exact this) (λh=>om) (hR h2 e5)
       exact dl E D H (.inl hv)
     ·rename_i e5 elo ehi;rw[<-elo,<-ehi]at h;obtain⟨l,u,D,g,r,hb⟩:=vj (P:=P) r2 h;obtain⟨v,hv,H,_⟩:=key G e5 g r (λcap y=>hb true cap c.w y) id (λB m cap aK C g1 g3 _=>g1);exact dl E D H (.inl hv)
     ·rename_i e5 elo;have elo':=elo;rw[<-elo]at h;obtain⟨l,u,D,g,r,hb,hl0⟩:=Ll (P:=P) r2 h;obtain rfl:l=0:=by
       cases lo with
       |some lo=>cases elo'
       |none=>exact hl0 rr
      obtain⟨v,hv,H,hr2⟩:=key G e5 g r (λcap y=>hb true cap c.w y) id (λB m cap aK C g1 g3 _=>g1);rcases D.h with D|⟨⟨R,V⟩,D⟩
      ·exact dl E D (by rw[D0,L7]at H;exact H) (.inl hv)
      ·exact dl E D (hr2 rr R V) (.inl hv)
     ·exact False.elim h
    ·exact False.elim h
   ·rename_i j q;obtain⟨d,I,_,rfl⟩:=(O t _ e2).de;obtain⟨B,m,cap,aK,e6,f,C,A,L,g2,g3⟩:=r1;simp only[Tr.wp]at h;split at h
    ·rename_i k rs wr ee G;split at h
     ·rename_i e5 ehi;obtain⟨h0,h⟩:=h;rw[<-ehi]at h;obtain⟨l,u,D,g,r,hb⟩:=vj (P:=P) r2 h;have J:rs.length-q<=cap:=by
       obtain⟨rfl,Y,U,M,b4,b5,b6,b9,Q⟩:=sq E G C;have g2':=g2;rw[fe]at M g2';rw[M]at g2';cases g2';rw[<-g3]at Q;have:=J8 Q (by rw[n9 e5];exact h0);omega
      cases hi with
      |none=>cases ehi
      |some hi=>
       obtain⟨v,hv,H,_⟩:=Z C A L g2 g3 I G e5 g r J (by
        have:=hb true cap c.w J;unfold Instr.sliceBounds at this⊢;exact this)
       exact dl E D H (.inl hv)
     ·exact False.elim h
    ·exact False.elim h
   ·exact False.elim h
  ·exact False.elim h
 ·rename_i sz ag z e eq p k1 a1 k2 a2 hm e2;split at h
  ·rename_i te cl rows V hh e4;obtain⟨hk,⟨h0,h1,h2⟩,h⟩:=h;obtain rfl:lo=none:=by cases lo with|none=>rfl|some _=>cases V
   cases hi with
   |none=>cases hh
   |some hi=>
   cases mx with
   |none=>cases hm
   |some mx=>
   obtain⟨⟨us,r1,r2⟩,⟨hy,_⟩,W,_⟩:=zW hv;obtain⟨d,I,_,rfl⟩:=(O t _ e2).de;have V:=r1.length;obtain⟨a,cap,A,g1,g2,g3⟩:=r2;have R:=run_underlying (P:=P) I c.w;have X:(Instr.sliceAt t (ρ x) none (some (ρ hi)) (some (ρ mx))).run P c.w=.ok (.slice (if a2.toNat=0 then a else a.map (·.add (0*te.size))) a1.toNat a2.toNat) c.w:=by
    have b1:(0:Int)<=a2:=om
    have b2:a2<=(cap:Int):=om
    have M:a1<=max a2 0:=om
    simp[Instr.sliceAt,Instr.slice,R,A,Instr.sliceBounds,hy,W,Instr.sliceBound,asIntOf,b1,b2,h0,M,(O e te e4).size]
   have hadd:(if a2.toNat=0 then a else a.map (·.add (0*te.size)))=a:=by
    rw[C9];split
    ·rfl
    ·cases a<;>rfl
   rw[hadd]at X;have htl:(us.take a1.toNat).length=a1.toNat:=by rw[l8];omega
   refine dl (v:=.slice a a1.toNat a2.toNat) E h ⟨us.take a1.toNat,r1.take a1.toNat,a,a2.toNat,by rw[htl],by rw[htl];omega,λ_=>by rw[htl];omega,?_⟩ (.inl ?_)
   ·rcases g3 with rfl|⟨b,off,k,rfl,hk2,y⟩
    ·exact .inl (List.take_nil)
    ·right;refine⟨b,off,k,rr,λx A=>hk2 x (u6 A),λi x hi=>?_⟩;have:=Mm (l:=0) (m:=a1.toNat) hk2 (j9 _) (i:=i) (x:=x) (by rw[J9];exact hi);rw[C9,j7]at this;exact y i x this
   ·unfold execOp;simp[ho,X]
  ·exact False.elim h
 ·rename_i sz ag z e eq j o2 len k0 a0 k1 a1 k2 a2 hm e2;split at h
  ·rename_i te V hh e4;obtain⟨⟨h0,h1,h2,h3⟩,h⟩:=h;cases lo with
   |none=>cases V
   |some lo=>
   cases hi with
   |none=>cases hh
   |some hi=>
   cases mx with
   |none=>cases hm
   |some mx=>
   obtain⟨v,l,ev,r1,r2⟩:=hv;cases ev;obtain⟨⟨hx0,_⟩,⟨hy,_⟩,W,_⟩:=zW r2;obtain⟨d,I,_,rfl⟩:=(O t _ e2).de;have R:=run_underlying (P:=P) I c.w;have fin:∀{ad:Option Addr} {n cap:Nat},ρ x=.slice ad n cap->n=len->n<=cap->eV P S (dz F nx) hp c ρ o K:=by
    intro ad n cap A hn hcap;subst hn;have b1:a2<=(cap:Int):=om
    have b0:(0:Int)<=a2:=om
    have b2:(0:Int)<=a1:=om
    have M:a1<=max a2 0:=om
    have b4:a0<=max a1 0:=om
    refine dl (v:=.slice (if a2.toNat=a0.toNat then ad else ad.map (·.add (a0.toNat*te.size))) (a1.toNat-a0.toNat) (a2.toNat-a0.toNat)) E h rr (.inl ?_);unfold execOp;simp[ho,Instr.sliceAt,Instr.slice,R,A,Instr.sliceBounds,hx0,hy,W,Instr.sliceBound,asIntOf,b1,b0,b2,M,b4,h0,(O e te e4).size]
   rcases r1 with⟨hz0,ad,A⟩|⟨B,m,cap,aK,e6,f,C,A,g1,L,g2,g3⟩
   ·exact fin A hz0.symm (j2 _)
   ·exact fin A rr g1
  ·exact False.elim h
 ·exact False.elim h
theorem abX(l:dV P T)(m:bU S F hp c)(t:TypeId)(x:Operand)(hv:aM vs c [ρ x])(n:o.op=.makeInterface t x)(h:(GD T t vs).wp hp K):eV P S (dz F nx) hp c ρ o K:=by
 unfold GD at h;split at h
 ·rename_i v ti e2;obtain⟨d,p,_,i⟩:=(l t _ e2).de;have q:=run_underlying (P:=P) p c.w;have r:=jj hv;have k:(∀j,d≠.interface j)/\K (.fm t v) []:=by
   cases g:ti.kd with
   |fj=>rw[g]at h;exact False.elim h
   |struct fs=>
    rw[g]at h i;obtain⟨f,rfl,_⟩:=i;exact⟨λj e=>(by simp at e),h⟩
   |func=>
    rw[g]at h i;obtain⟨a,b,c,rfl⟩:=i;exact⟨λj e=>(by simp at e),h⟩
   |ptr=>
    rw[g]at h i;obtain⟨a,rfl⟩:=i;exact⟨λj e=>(by simp at e),h⟩
   |_=>
    rw[g]at h i;obtain rfl:=i;exact⟨λj e=>(by simp at e),h⟩
  refine dl m k.2 ⟨_,rr,r⟩ (.inl ?_);unfold execOp;simp only[n,Instr.makeInterface,Sem.run_bind,q,Result.andThen_ok];cases d with
  |interface j=>exact(k.1 j rr).elim
  |_=>rfl
 ·exact False.elim h
theorem adX(p:dV P T)(l:bU S F hp c)(x:Operand)(q t:TypeId)(ok:Bool)(hv:aM vs c [ρ x])(s:o.op=.typeAssert x q t ok)(h:(KZ T t ok vs).wp hp K):eV P S (dz F nx) hp c ρ o K:=by
 unfold KZ at h;split at h
 ·rename_i tt v ti e2;obtain⟨d,y,_,i⟩:=(p t _ e2).de;have A:=run_underlying (P:=P) y c.w;obtain⟨u,B,k⟩:=jj hv;have m:(∀j,d≠.interface j)/\(match Nat.beq tt t,ok with
   |true,false=>Tr.ok v []
   |true,true=>.ok (.aU [v,.at (.bool true)]) []
   |false,true=>.ok (.aU [ti.zero,.at (.bool false)]) []
   |false,false=>.bF).wp hp K:=by
   cases g:ti.kd with
   |fj=>rw[g]at h;exact False.elim h
   |struct fs=>
    rw[g]at h i;obtain⟨f,rfl,_⟩:=i;exact⟨λj e=>(by simp at e),h⟩
   |func=>
    rw[g]at h i;obtain⟨a,b,c,rfl⟩:=i;exact⟨λj e=>(by simp at e),h⟩
   |ptr=>
    rw[g]at h i;obtain⟨a,rfl⟩:=i;exact⟨λj e=>(by simp at e),h⟩
   |_=>
    rw[g]at h i;obtain rfl:=i;exact⟨λj e=>(by simp at e),h⟩
  obtain⟨m,h⟩:=m;obtain⟨z,C,_,n⟩:=(p t _ e2).Ck c;have key:∀{r:Value},(if tt=t then(pure (if ok then .tuple #[u,.bool true]else u):Sem Value)else if ok then(do pure (.tuple #[<-zeroValue t,.bool false]))else runtimePanic (.typeAssertion (some q) (some tt) t "")).run P c.w=.ok r c.w->(execOp ρ o).run P c.w=.ok (.value r) c.w:=by
   intro r k;unfold execOp;simp only[s,B,Instr.typeAssert,Sem.run_bind,A,Result.andThen_ok];cases d with
   |interface j=>exact(m j rr).elim
   |_=>exact(by simp only[k,Result.andThen_ok,Sem.run_pure])
  cases e:Nat.beq tt t<;>cases ok<;>rw[e]at h
  ·exact False.elim h
  rotate_left
  ·refine dl l h k (.inl (key ?_));rw[z7 (n9 e)];rfl
  ·refine dl l h ⟨[u,.bool true],rr,u,_,rr,k,_,[],rr,⟨rr,rr⟩,rr⟩ (.inl (key ?_));rw[z7 (n9 e)];rfl
  ·refine dl l h ⟨[z,.bool false],rr,z,_,rr,n,_,[],rr,⟨rr,rr⟩,rr⟩ (.inl (key ?_));rw[y8 (by rintro rfl;rw[I6]at e;cases e)];simp[C]
 ·exact False.elim h
theorem ZJ(f:bU S F hp c)(x:Operand)(hv:aM vs c [ρ x])(g:o.op=.nilCheck x)(h:(tr T nx (.nilCheck x) vs).wp hp K):eV P S (dz F nx) hp c ρ o K:=by
 simp only[tr]at h;split at h
 ·have d:=jj hv;have a:=d;obtain⟨vs,e,_⟩:=a;refine dl f h d (.inl ?_);unfold execOp;simp[g,e]
 ·have d:=jj hv;have a:=d;obtain⟨B,k,_,e⟩:=a;refine dl f h d (.inl ?_);unfold execOp;simp[g,e]
 ·have d:=jj hv;have a:=d;obtain⟨B,k,_,e⟩:=a;refine dl f h d (.inl ?_);unfold execOp;simp[g,e]
 ·have d:=jj hv;have a:=d;obtain⟨b,bZ,vs,e,_⟩:=a;refine dl f h d (.inl ?_);unfold execOp;simp[g,e]
 ·exact False.elim h
end
section
variable {P:Program}{T:TT}{S:dr}{F:Nat→Prop}{nx:Nat}{hp:Nat→Option aI}{c:RC}{ρ:Operand→Value}{o:Oper}{K:PV→cU→Prop}{vs:List PV}
theorem ak9(k:dV P T)(v:bU S F hp c)(t:TypeId)(parts:Array (Nat×Operand))(y:aM vs c ((parts.toList.map (·.2)).map ρ))(A:o.op=.build t parts)(h:(tr T nx (.build t parts) vs).wp hp K):eV P S (dz F nx) hp c ρ o K:=by
 simp only[tr]at h;split at h
 ·rename_i ti e1;rw[aft]at h;split at h
  ·rename_i cs e0 e3;obtain⟨i,z,h1,h2,s,_,_,B⟩:=(k t ti e1).ex;obtain⟨d,u,_,l⟩:=(k t ti e1).de;have g:∃kX,P.built t (parts.map fun(i,x)=>(i,ρ x)).toList=Instr.fill kX z.cells (parts.map fun(i,x)=>(i,ρ x)).toList/\∀i x,ED T ti.kd i=some x->kX i=some x:=by
    cases f:ti.kd with
    |struct fs=>
     rw[f]at l;obtain⟨fields,rfl,⟨places,m,p⟩,D⟩:=l;refine⟨(places.toArray[·]?),by simp only[Program.built,h1,u,s,m],λn x b=>?_⟩;unfold ED at b;dsimp only at b;split at b
     ·rename_i off e C;split at b
      ·rename_i te a;cases b;obtain⟨i2,z2,g1,g2,_⟩:=(k e te a).ex;have:=p n off e i2 C g1;rw[g2]at this;simpa using this
      ·cases b
     ·cases b
    |aK n e=>
     rw[f]at l;obtain rfl:=l;cases a:T e with
     |none=>rw[f]at e0;simp only[NV,a]at e0;cases e0
     |some te=>
      obtain⟨i2,z2,g1,g2,_⟩:=(k e te a).ex;refine⟨λq=>some (q*i2.size,i2.size),by simp only[Program.built,h1,u,s,g1],λn x b=>?_⟩;simp only[ED,a]at b;cases b;rw[g2]
    |_=>rw[f]at e0;cases e0
   obtain⟨kX,j,r⟩:=g;obtain⟨ys,g1,g2⟩:=Wq r (B c).cells y e3;rw[Fg]at j;have hb:P.built t (parts.map fun(i,x)=>(i,ρ x)).toList=some ys.toArray:=by
    rw[Fg,j];exact g1
   refine dl v h ⟨ys,rr,g2⟩ (.inl ?_);unfold execOp;simp only[A,Sem.run_bind,run_build c.w t _ _ hb,Result.andThen_ok,Sem.run_pure]
  ·exact False.elim h
 ·exact False.elim h
theorem Vd{k:Nat}:∀{vs:List PV},BT k vs=true->uN vs k
 | [],_=>λ_ h=>by cases h
 |v::vs,h=>by
  unfold BT at h
  split at h
  ·rename_i e
   intro x a
   rcases p9.1 a with rfl|a
   ·exact n9 e
   ·exact Vd h x a
  ·cases h
theorem aM.tK{k:Nat}:∀{b:List PV} {c:RC} {vs:List Value},aM b c vs->uN b k->∀u∈vs,u.cells.size=k
 | [],_,vs,r,_=>by rw[show vs=[]from r];intro u a;cases a
 |p::b,_,_,r,h=>by
  obtain⟨v,e,rfl,r1,r2⟩:=r
  intro u a
  rcases p9.1 a with rfl|a
  ·rw[<-p8,r1.cells.length];exact h p j6
  ·exact aM.tK r2 (λx d=>h x (j3 _ d)) u a
theorem Wa{w:World}{cells:Array Value}{vs:List Value}{e:TypeId}(h:cells.toList.take (bV vs).length=bV vs):∀i x,(bV vs)[i]? = some x->(w.alloc (.cells cells e)).cell? ⟨w.heap.size,i,none⟩=some x:=by
 intro i x a;rw[cell_of_row _ _ _ _ _ _ (heap_alloc_new w _),<-w8];have b:=(c9.1 a).1;rw[<-h,G4 b]at a;exact a
theorem ad8(v:dV P T)(E:bU S F hp c)(t:TypeId)(len:Nat)(parts:Array (Nat×Operand))(s:aM vs c ((parts.toList.map (·.2)).map ρ))(H:o.op=.buildSlice t len parts)(h:(tr T nx (.buildSlice t len parts) vs).wp hp K):eV P S (dz F nx) hp c ρ o K:=by
 simp only[tr]at h;split at h
 ·rename_i sz ag z e eq e2;split at h
  ·rename_i te e4;split at h
   ·rename_i h1 h2 I J;simp only[Tr.wp]at h;split at h
    ·rename_i rs l L;have a:=n9 h2;have u:=s.tK (Vd I);have g:=s.length;generalize k:List.map ρ (List.map (λx=>x.2) parts.toList)=us at s u g;have m:=mN E l 200 L (λ_ h=>h) s;rw[RC.xT]at m;have n:=E.fx l;obtain⟨d,M,_,rfl⟩:=(v t _ e2).de;obtain⟨i,R,g1,g2,g3,g4,_⟩:=(v e te e4).ex;have N:(bV us).length=len*te.size:=by rw[jF u,g,a]
     have f:∀A:Array Value,A.size=len*te.size->Instr.fill (λi=>some (i*te.size,te.size)) A (parts.map fun(i,x)=>(i,ρ x)).toList=some (bV us).toArray:=by
      intro A G;rw[Fg,k,Xc _ us 0 A h1 (by rw[<-k];simp) u (by rw[G,g,a,j7];exact j2 _)];rw[C9,j7,g,a,<-G,<-p8,F7];simp
     have j:=GZ c.w (.cells (bV us).toArray e);have y:cI c (jc hp c l):=qV hp c l;let Z':Nat->Nat->Prop:=λb o=>(jc hp c l).Z b o\/(b=c.w.heap.size/\o<(bV us).length)
     have p:cI (jc hp c l) ⟨c.w.alloc (.cells (bV us).toArray e),Z',c.hb⟩:=wM (c:=jc hp c l) n.fC j (λb o z=>.inl z);have B:bU S F (fx hp l) ⟨c.w.alloc (.cells (bV us).toArray e),Z',c.hb⟩  :=xo (c:=jc hp c l) n j (λb o z=>.inl z) (λb o z=>by
      rcases z with z|⟨rfl,_⟩
      ·exact .inl z
      ·exact .inr ⟨j2 _,by simp⟩)
     refine⟨_,_,h,.slice (some ⟨c.w.heap.size,0,none⟩) len len,_,.inl ?_,y.trans p,?_,?_⟩
     ·have O:=run_underlying (P:=P) M c.w;have C:=(v e te e4).size c.w;have Q:(zeroValue e).run P c.w=.ok R c.w:=by simp[zeroValue,typeInfo,g1,g3]
      have D:¬len*te.size>2^24:=by have:=o9 J;omega
      unfold execOp;simp only[H,Instr.buildSlice,Sem.run_bind,O,C,Result.andThen_ok];rw[y8 D];by_cases h0:len*te.size=0
      ·simp only[Sem.run_bind,Sem.run_pure,Result.andThen_ok,z7 h0];rw[f _ (by simp)];simp[newRow]
      ·simp only[Sem.run_bind,Sem.run_pure,Result.andThen_ok,y8 h0,Q];rw[f _ (by simp)];simp[newRow]
     ·rw[wH];exact B.up λ_ h=>h.1
     ·have r:us.length=len:=om
      refine⟨us,aM.ext rs p.pure m,some ⟨c.w.heap.size,0,none⟩,len,by rw[r],om,λ_=>r.symm,.inr ⟨c.w.heap.size,0,te.size,rr,u,λq x hq=>⟨.inr ⟨rr,?_⟩,?_⟩⟩⟩
      ·rw[j7];exact(c9.1 hq).1
      ·rw[j7];exact Wa (w:=c.w) (e:=e) (by simp) q x hq
    ·exact False.elim h
   ·exact False.elim h
  ·exact False.elim h
 ·exact False.elim h
theorem U'(t ty e:TypeId){i:TI}(f:P.underlying t=some (.slice e))(d:iR P e i)(a b:Option Addr)(n cap q:Nat)(h:n<=cap)(w:World):
 (Builtin.append_ #[t,t] ty #[.slice a n cap,.slice b 0 q]).run P w=.ok (.slice a n cap) w:=by
 have g:=run_underlying (P:=P) f w
 cases a<;>cases b<;>simp[Builtin.append_,g,d.size,Builtin.lenOf,h,Builtin.firstCells,loadCells,loadCellsFrom,storeCells]
theorem ze{c:RC}:∀{ys:List PV} {us:List Value},aM ys c us->(∀r∈ys,PV.oV r.cells=true)->∀x∈bV us,x.oneCell'=true
 | [],us,r,_=>by rw[show us=[]from r];intro x a;cases a
 |p::ps,_,r,h=>by
  obtain⟨v,b,rfl,r1,r2⟩:=r
  intro x a
  rw[ln]at a
  rcases s8.1 a with a|a
  ·exact r1.cells.DS (h p j6) x a
  ·exact ze r2 (λq hq=>h q (j3 _ hq)) x a
theorem Ld{cl:Bool}{v:Value}{rows:List PV}{vs:List Value}(r1:aM rows c.pure vs)(r2:lO c.w c.Z cl v vs)(d:vs≠[]):
 ∃b off cap,v=.slice (some ⟨b,off,none⟩) vs.length cap/\vs.length<=cap/\∀j x,(bV vs)[j]? = some x->c.w.cell? ((⟨b,off,none⟩:Addr).add j)=some x:=by
 obtain⟨a,cap,rfl,h1,h2,e⟩:=r2
 rcases e with rfl|⟨b,off,k',rfl,f,g⟩
 ·exact(d rr).elim
 ·exact⟨b,off,cap,rr,h1,λj x h=>by rw[Addr.add_lit];exact(g j x h).2⟩
theorem It(hs:bU S F hp c)(hF:F nx){t ty e:TypeId}{l:TI}(W:P.underlying t=some (.slice e))(L:iR P e l){rows ys:List PV}{vs us:List Value}{a:Option Addr}{cap:Nat}{cl:Bool}{u:Value}
 (r1:aM rows c vs) (m:vs=[]\/∃b off,a=some ⟨b,off,none⟩/\∀j x,(bV vs)[j]? = some x->c.w.cell? ⟨b,off+j,none⟩=some x) (J:aM ys c.pure us) (q2:lO c.w c.Z cl u us) (M:ph rows ys l.size) (p:us≠[]) (X:cap<vs.length+us.length) (g:vs.length<=cap) (s:a=none->cap=0):
 ∃v' c',(Builtin.append_ #[t,t] ty #[.slice a vs.length cap,u]).run P c.w=.ok v' c'.w/\cI c c'/\bU S (dz F nx) (da hp nx (some (.rows l.size (rows++ys) true none e))) c'/\bW (.aS nx 0 (rows.length+ys.length)) c' v':=by
 obtain⟨i,z,g1,g2,g3,g4,g5,_⟩:=L.ex
 obtain⟨b,off,f,rfl,hu1,v⟩:=Ld J q2 p
 have y:=r1.tK M.rows
 have A:=J.tK (λr hr=>(M.ys r hr).1)
 have B:=jF y
 have k:=jF A
 have hn:=M.n
 have C:=r1.length
 have D:=J.length
 have E:0<us.length:=N6.2 p
 have G:(vs.length+us.length)*i.bytes<=140737488355328:=r8 (L5 (show vs.length+us.length<=67108864 by omega) g5) (by decide)
 have d:(Builtin.append_ #[t,t] ty #[.slice a vs.length cap,.slice (some ⟨b,off,none⟩) us.length f]).run P c.w=
  .ok (.slice (some ⟨c.w.heap.size,0,none⟩) (vs.length+us.length) (grownCap c.w (vs.length+us.length) cap e))
   (c.w.drew.alloc (.cells ((bV vs).toArray++(bV us).toArray++Builtin.zeroCells z.cells (grownCap c.w (vs.length+us.length) cap e-(vs.length+us.length))) e)):=by
  cases a with
  |none=>
   have N:vs=[]:=by
    rcases m with h3|⟨_,_,e,_⟩
    ·exact h3
    ·cases e
   subst N
   have O:=s rr
   subst O
   have:=run_append_nil (P:=P) c.w t ty e i z W g1 g3 ⟨b,off,none⟩ us.length f (bV us) (by rw[k,g2]) v E om (by simp only[B9,j7]at G;omega)
   simpa[bV]using this
  |some ad=>
   refine run_append_grow (P:=P) c.w t ty e i z W g1 g3 ad vs.length cap (bV vs) (by rw[B,g2]) (λj x Y=>?_) ⟨b,off,none⟩ us.length f (bV us) (by rw[k,g2]) v om om (growslice_fits om G)
   rcases m with rfl|⟨b',off',e,hc⟩
   ·cases Y
   ·cases e
    rw[Addr.add_lit];exact hc j x Y
 have H:=grownCap_ge c.w (vs.length+us.length) cap e
 have g:=grownCap_le_maxLen c.w (vs.length+us.length) cap e (by simp only[maxLen];omega)
 generalize grownCap c.w (vs.length+us.length) cap e=V at d H g
 generalize hcells:(bV vs).toArray++(bV us).toArray++Builtin.zeroCells z.cells (V-(vs.length+us.length))=cells at d
 have Q:cells.size=V*l.size:=by
  rw[<-hcells]
  simp only[Array.size_append,A9,size_zeroCells,g4,B,k,<-G7]
  congr 1;omega
 have R:cells.toList.take (bV (vs++us)).length=bV (vs++us):=by
  rw[<-hcells,ui]
  simp only[Array.toList_append]
  exact List.take_left
 have I:∀x∈vs++us,x.cells.size=l.size:=λx hx=>by
  rcases s8.1 hx with h|h
  ·exact y x h
  ·exact A x h
 obtain⟨c',k1,k2,k3,k4,k5⟩:=hs.DL hF (w1:=c.w.drew) ((Below.refl c.w.heap.size c.w).drew) rfl (rs:=rows++ys) (vs:=vs++us) (r1.tF (aM.ext ys (cI.ng c) J)) cells e l.size I (λq x hq=>by
  rw[<-w8]
  have U:=(c9.1 hq).1
  rw[<-R,G4 U]at hq
  exact hq) none (λ_ e=>by cases e)
 refine⟨_,c',by rw[k1];exact d,k4,k5,.inr ⟨c.w.heap.size,l.size,V,cells,e,(0,0),by rw[k3];exact fc _ _ _,?_,?_,g,?_,by rw[Q,j7]⟩⟩
 ·rw[C9,C,D]
 ·rw[<-C,<-D];exact H
 ·rw[k1];exact heap_alloc_new c.w.drew _
theorem YD(i:bU S F hp c)(k:F nx){t ty e:TypeId}{m:TI}(n:P.underlying t=some (.slice e))(f:iR P e m){rows ys:List PV}{vs us:List Value}{a:Option Addr}{cl:Bool}{u:Value}
 (r1:aM rows c vs) (g:vs=[]\/∃b off,a=some ⟨b,off,none⟩/\∀j x,(bV vs)[j]? = some x->c.w.cell? ⟨b,off+j,none⟩=some x) (r:aM ys c.pure us) (q:lO c.w c.Z cl u us) (s:ph rows ys m.size) (h0:ys=[]->vs=[]):
 ∃v' c',(Builtin.append_ #[t,t] ty #[.slice a vs.length vs.length,u]).run P c.w=.ok v' c'.w/\cI c c'/\bU S (dz F nx) (da hp nx (some (.rows m.size (rows++ys) true none e))) c'/\bW (.aS nx 0 (rows.length+ys.length)) c' v':=by
 by_cases d:us=[]
 ·subst d
  have v:ys=[]:=B5.1 r.length.symm
  subst v
  obtain rfl:=h0 rfl
  have l:rows=[]:=B5.1 r1.length.symm
  subst l
  obtain⟨b,cap,rfl,_⟩:=q
  have y:=wa (c:=c) (x:=none) (i.fresh _ k)
  exact⟨_,c.named nx none,U' t ty e n f a b _ _ cap (j2 _) c.w,y,wY i k (.inl ⟨rr,rr,fc _ _ _⟩) (λ_ _ _ _ _ _ _ h=>by cases h),.inl ⟨rr,a,rr⟩⟩
 ·have p:0<us.length:=N6.2 d
  refine It i k n f r1 g r q s d om (j2 _) λh=>?_
  rcases g with rfl|⟨_,_,e,_⟩
  ·rfl
  ·rw[h]at e;cases e
theorem im.move{j:Nat}{b:aI}{x:Nat×Nat}(h:im S c j b)(i:cI c (c.named nx (some x)))(hb:c.hb j=some x):im S (c.named nx (some x)) nx b:=by
 have l:(c.named nx (some x)).hb nx=some x:=fc _ _ _;cases b with
 |rows k rs wr f e=>
  rcases h with⟨_,_,h⟩|⟨B,aK,vs,h1,h2,a,d,g⟩
  ·rw[h]at hb;cases hb
  ·rw[h1]at hb;cases hb;exact .inr ⟨B,aK,vs,l,h2,a,aM.ext rs i d,g⟩
 |map ks ps wr=>
  obtain⟨B,es,cl,h1,h2,a,d,g,m⟩:=h;rw[h1]at hb;cases hb;exact⟨B,es,cl,l,h2,a,d,aM.ext ps i g,m⟩
theorem Uo(a:bU S F hp c)(d:F nx){j:Nat}{b:aI}{x:Nat×Nat}(f:hp j=some b)(hb:c.hb j=some x)(k:b.own=true):cI c (c.named nx (some x))/\bU S (dz F nx) (da (da hp j none) nx (some b)) (c.named nx (some x)):=by
 have g:=wa (x:=some x) (a.fresh _ d);refine⟨g,wY (LK a j) d ((a.dK j b f).move g hb) λi bi y z _ hi l m=>?_⟩;cases m;by_cases e:i=j
 ·subst e;rw[fc]at hi;cases hi
 ·rw[fU _ _ e]at hi;exact λh=>a.eW j i _ bi f hi (λh=>e h.symm) k _ _ hb l h.symm
theorem aaY(Y:bU S F hp c)(hF:F nx){t ty e:TypeId}{g:TI}(hd:P.underlying t=some (.slice e))(s:iR P e g){rs ys:List PV}{us:List Value}{j len:Nat}{cl:Bool}{u x:Value}
 (hj:hp j=some (.rows g.size rs true none e)) (G:bW (.aS j 0 len) c x) (H:len=rs.length) (C:aM ys c.pure us) (q2:lO c.w c.Z cl u us) (ha:ph rs ys g.size):
 ∃v' c',(Builtin.append_ #[t,t] ty #[x,u]).run P c.w=.ok v' c'.w/\cI c c'/\bU S (dz F nx) (da (da hp j none) nx (some (.rows g.size (rs++ys) true none e))) c'/\bW (.aS nx 0 (len+ys.length)) c' v':=by
 subst H
 have I:=LK Y j
 rcases G with⟨h0,a,rfl⟩|⟨B,k,cap,aK,e',f,hB,rfl,hle,y,J,d⟩
 ·have hr0:rs=[]:=B5.1 h0
  subst hr0
  exact YD (vs:=[]) I hF hd s rr (.inl rr) C q2 ha (λ_=>rfl)
 rcases Y.dK j _ hj with⟨_,_,hz⟩|⟨B',arr',vs,b1,b2,E,b4,b5,b6,b7,b8,b9⟩
 ·rw[hz]at hB;cases hB
 have L:=hB
 rw[b1]at L;cases L
 have h3:fe c.w B aK e' f:=J
 rw[fe]at h3 E
 rw[E]at h3;cases h3
 rw[j7]at d
 have M:=b4.length
 have N:=C.length
 have O:=b5
 have Q:=C.tK (λr hr=>(ha.ys r hr).1)
 have hfv:=jF O
 have v:=jF Q
 rw[C9,<-M]
 by_cases D:us=[]
 ·subst D
  have hy:ys=[]:=B5.1 C.length.symm
  subst hy
  obtain⟨b,p,rfl,_⟩:=q2
  obtain⟨G,R⟩:=Uo Y hF hj b1 rfl
  rw[A2]
  refine⟨_,c.named nx (some (B,g.size)),U' t ty e hd s _ b _ cap p om c.w,G,R,.inr ⟨B,g.size,cap,aK,e,(0,0),fc _ _ _,by rw[C9];rfl,by rw[B9];omega,y,E,by rw[j7];exact d⟩⟩
 ·by_cases l:vs.length+us.length<=cap
  ·obtain⟨b,off,p,rfl,hu1,hu2⟩:=Ld C q2 D
   obtain⟨i,z,g1,g2,g3,g4,g5,_⟩:=s.ex
   have m:=B8 g.size l
   rw[G7]at m
   have n:=run_append_room (P:=P) c.w t ty e i hd g1 B vs.length cap aK E ⟨b,off,none⟩ us.length p (bV us) (by rw[v,g2]) hu2 (ze C λr hr=>(ha.ys r hr).2) l (by rw[g2,v,<-d];exact m)
   rw[g2]at n
   generalize A:(aK.toList.take (vs.length*g.size)++bV us++aK.toList.drop (vs.length*g.size+(bV us).length)).toArray=new at n
   have U:new.size=aK.size:=by
    rw[<-A,A9]
    simp only[i6,l8,w7,p8,v]
    rw[d]at m
    omega
   have V:∀o,new[o]? = if o<vs.length*g.size then aK[o]? else if o<vs.length*g.size+(bV us).length then(bV us)[o-vs.length*g.size]? else aK[o]?:=by
    intro o
    rw[<-A,J5,Az _ _ _ _ (by have h9:aK.toList.length=cap*g.size:=d.symm;rw[v,h9];exact m)]
    simp only[w8]
   have W:∀x∈vs++us,x.cells.size=g.size:=λx G=>by
    rcases s8.1 G with h|h
    ·exact O x h
    ·exact Q x h
   obtain⟨hx1,hs1⟩:=DD Y (full':=none) hj b1 E U (b4.tF (aM.ext ys (cI.ng c) C)) W (λq x hq=>by
    rw[V]
    rw[ui]at hq
    by_cases h1:q<(bV vs).length
    ·rw[A8 h1]at hq
     rw[z7 om]
     exact b6 q x hq
    ·rw[A4 om,hfv]at hq
     have h2:=(c9.1 hq).1
     rw[y8 om,z7 om]
     exact hq) (λ_ e=>by cases e)
   obtain⟨hx2,X⟩:=Uo hs1 hF (fc _ _ _) (x:=(B,g.size)) b1 rfl
   have hf:da (da hp j (some (.rows g.size (rs++ys) true none e))) j none=da hp j none:=by
    funext i
    by_cases h:i=j
    ·subst h;rw[fc,fc]
    ·rw[fU _ _ h,fU _ _ h,fU _ _ h]
   rw[hf]at X
   refine⟨_,_,n,hx1.trans hx2,X,.inr ⟨B,g.size,cap,new,e,(0,0),fc _ _ _,?_,by rw[<-N];exact l,y,setRow_heap _ _ _ _ _ _ E,by rw[j7,U];exact d⟩⟩
   rw[C9,N]
  ·have:=It (ty:=ty) I hF hd s (rows:=rs) (ys:=ys) (vs:=vs) (us:=us) (a:=some ⟨B,0,none⟩) (cap:=cap) b4 (.inr ⟨B,0,rr,λq x hq=>by rw[j7,cell_of_row _ _ _ _ _ _ E];exact b6 q x hq⟩) C q2 ha D om om (λh=>by cases h)
   rw[<-M]at this
   exact this
theorem acO(U:bU S F hp c)(hF:F nx){t ty e:TypeId}{m:TI}(hd:P.underlying t=some (.slice e))(A:iR P e m){rs ys:List PV}{us:List Value}{j len:Nat}{cl:Bool}{u x:Value}
 (hj:hp j=some (.rows m.size rs true none e)) (V:bW (.aS j 0 len) c x) (C:len=rs.length) (v:aM ys c.pure us) (q2:lO c.w c.Z cl u us) (W:ph rs ys m.size) (X:rs≠[]) (Y:ys≠[]):
 (∃v' c',(Builtin.append_ #[t,t] ty #[x,u]).run P c.w=.ok v' c'.w/\cI c c'/\bU S F (da hp j (some (.rows m.size (rs++ys) true none e))) c'/\bW (.aS j 0 (len+ys.length)) c' v')\/
 (∃v' c',(Builtin.append_ #[t,t] ty #[x,u]).run P c.w=.ok v' c'.w/\cI c c'/\bU S (dz F nx) (da hp nx (some (.rows m.size (rs++ys) true none e))) c'/\bW (.aS nx 0 (len+ys.length)) c' v'):=by
 subst C
 rcases V with⟨h0,a,rfl⟩|⟨B,k,cap,aK,e',f,hB,rfl,hle,D,E,d⟩
 ·have hr0:rs=[]:=B5.1 h0
  exact absurd hr0 X
 rcases U.dK j _ hj with⟨_,_,hz⟩|⟨B',arr',vs,b1,b2,y,b4,b5,b6,b7,b8,b9⟩
 ·rw[hz]at hB;cases hB
 have G:=hB
 rw[b1]at G;cases G
 have h3:fe c.w B aK e' f:=E
 rw[fe]at h3 y
 rw[y]at h3;cases h3
 rw[j7]at d
 have H:=b4.length
 have I:=v.length
 have J:=b5
 have L:=v.tK (λr hr=>(W.ys r hr).1)
 have hfv:=jF J
 have p:=jF L
 rw[C9,<-H]
 have M:us≠[]:=λh=>by
  subst h
  exact Y (B5.1 v.length.symm)
 by_cases g:vs.length+us.length<=cap
 ·obtain⟨b,off,R,rfl,hu1,hu2⟩:=Ld v q2 M
  obtain⟨i,z,g1,g2,g3,g4,g5,_⟩:=A.ex
  have l:=B8 m.size g
  rw[G7]at l
  have n:=run_append_room (P:=P) c.w t ty e i hd g1 B vs.length cap aK y ⟨b,off,none⟩ us.length R (bV us) (by rw[p,g2]) hu2 (ze v λr hr=>(W.ys r hr).2) g (by rw[g2,p,<-d];exact l)
  rw[g2]at n
  generalize s:(aK.toList.take (vs.length*m.size)++bV us++aK.toList.drop (vs.length*m.size+(bV us).length)).toArray=new at n
  have N:new.size=aK.size:=by
   rw[<-s,A9]
   simp only[i6,l8,w7,p8,p]
   rw[d]at l
   omega
  have O:∀o,new[o]? = if o<vs.length*m.size then aK[o]? else if o<vs.length*m.size+(bV us).length then(bV us)[o-vs.length*m.size]? else aK[o]?:=by
   intro o
   rw[<-s,J5,Az _ _ _ _ (by have h9:aK.toList.length=cap*m.size:=d.symm;rw[p,h9];exact l)]
   simp only[w8]
  have Q:∀x∈vs++us,x.cells.size=m.size:=λx V=>by
   rcases s8.1 V with h|h
   ·exact J x h
   ·exact L x h
  obtain⟨hx1,hs1⟩:=DD U (full':=none) hj b1 y N (b4.tF (aM.ext ys (cI.ng c) v)) Q (λq x hq=>by
   rw[O]
   rw[ui]at hq
   by_cases h1:q<(bV vs).length
   ·rw[A8 h1]at hq
    rw[z7 om]
    exact b6 q x hq
   ·rw[A4 om,hfv]at hq
    have h2:=(c9.1 hq).1
    rw[y8 om,z7 om]
    exact hq) (λ_ e=>by cases e)
  refine .inl ⟨_,_,n,hx1,hs1,.inr ⟨B,m.size,cap,new,e,(0,0),b1,?_,by rw[<-I];exact g,D,setRow_heap _ _ _ _ _ _ y,by rw[j7,N];exact d⟩⟩
  rw[C9,I]
 ·have:=It (ty:=ty) U hF hd A (rows:=rs) (ys:=ys) (vs:=vs) (us:=us) (a:=some ⟨B,0,none⟩) (cap:=cap) b4 (.inr ⟨B,0,rr,λq x hq=>by rw[j7,cell_of_row _ _ _ _ _ _ y];exact b6 q x hq⟩) v q2 W M om om (λh=>by cases h)
  rw[<-H]at this
  exact .inr this
theorem anB(H:dV P T)(s:bU S F hp c)(u:F nx)(x y:Operand)(t t':TypeId){I:PV}{ys:List PV}{cl:Bool}(v:bW I c (ρ x))(J:bW (.sl cl ys) c (ρ y))(L:o.op=.call ⟨.builtin .append,#[x,y],#[t,t']⟩)(h:(FC T nx t t' I ys).wp hp K):eV P S (dz F nx) hp c ρ o K:=by
 unfold FC at h;split at h
 ·rename_i sz ag z e eq et h1;obtain rfl:=n9 h1;obtain⟨d,A,_,rfl⟩:=(H t _ et).de;obtain⟨us,G,E⟩:=J;have key:∀{v':Value} {w':World},(Builtin.append_ #[t,t] o.type #[ρ x,ρ y]).run P c.w=.ok v' w'->(execOp ρ o).run P c.w=.ok (.value v') w':=by
   intro v' w' g;unfold execOp;simp[L,resolve,invoke,builtin,g]
  split at h
  ·rename_i te h2;have i:=H e te h2;split at h
   ·rename_i rows _;obtain⟨⟨q,h0⟩,h⟩:=h;obtain⟨vs,r1,a,cap,B,g1,g2,g3⟩:=v;have r:=g2 rr;subst r;obtain⟨v',c',g,l,m,n⟩:=YD (ty:=o.type) s u A i (aM.ext rows (cI.ng c) r1) (by
     rcases g3 with g3|⟨b,off,k,e1,_,M⟩
     ·exact .inl g3
     ·exact .inr ⟨b,off,e1,λj x p=>(M j x p).2⟩) G E q (λe=>by
      have:=h0 e;subst this;exact r1)
    exact⟨_,_,h,v',c',.inl (key (by rw[B];exact g)),l,m,n⟩
   ·rename_i j len _;simp only[Tr.wp]at h;split at h
    ·rename_i k rs e' p;split at h
     ·rename_i N O;obtain rfl:=n9 N;obtain rfl:=n9 O;rcases h with⟨h|h⟩
      ·obtain⟨⟨q,f⟩,h⟩:=h;obtain⟨v',c',g,l,m,n⟩:=aaY (ty:=o.type) s u A i p v f G E q;refine⟨_,_,h,v',c',.inl (key g),l,?_,n⟩;exact m
      ·obtain⟨⟨q,f,C,D⟩,h⟩:=h;rcases acO (ty:=o.type) s u A i p v f G E q C D with⟨v',c',g,l,m,n⟩|⟨v',c',g,l,m,n⟩
       ·exact⟨_,_,h.h 0 trivial,v',c',.inl (key g),l,m.up (λj p=>p.1),n⟩
       ·exact⟨_,_,h.h 1 trivial,v',c',.inl (key g),l,m,n⟩
     ·exact False.elim h
    ·exact False.elim h
   ·exact False.elim h
  ·exact False.elim h
 ·exact False.elim h
end
theorem Db{k:Nat}:∀{vs:List Value} (n:Nat),(∀x∈vs,x.cells.size=k)->bV (vs.take n)=(bV vs).take (n*k)
 |_,0,_=>by simp[bV]
 | [],n+1,_=>by simp[bV]
 |v::vs,n+1,h=>by
  have hv:=h v j6
  rw[G8,ln,ln,Db n (λx a=>h x (j3 _ a)),D7,show n*k+k=v.cells.toList.length+n*k by rw[p8,hv];omega,List.take_length_add_append]
theorem HJ{k:Nat}:∀{vs:List Value} (n:Nat),(∀x∈vs,x.cells.size=k)->bV (vs.drop n)=(bV vs).drop (n*k)
 |_,0,_=>by simp
 | [],n+1,_=>by simp[bV]
 |v::vs,n+1,h=>by
  have hv:=h v j6
  rw[N7,ln,HJ n (λx a=>h x (j3 _ a)),D7,show n*k+k=v.cells.toList.length+n*k by rw[p8,hv];omega,N8]
section
variable {P:Program}{T:TT}{S:dr}{F:Nat→Prop}{nx:Nat}{hp:Nat→Option aI}{c:RC}{ρ:Operand→Value}{o:Oper}{K:PV→cU→Prop}{vs:List PV}
theorem LF(J:bU S F hp c){j k lo:Nat}{rs ns:List PV}{I:Option Nat}{e:TypeId}(L:hp j=some (.rows k rs true I e)){us:List Value}(r:aM ns c us)(M:∀x∈us,x.cells.size=k)(h1:∀x∈bV us,x.oneCell'=true)(D:lo<=rs.length){B m:Nat}(A:c.hb j=some (B,m)){aK:Array Value}{e':TypeId}{f:Nat×Nat}(a:fe c.w B aK e' f)(g:(lo+us.length)*k<=aK.size):
 m=k/\∃c',(storeCells ⟨B,lo*k,none⟩ (bV us)).run P c.w=.ok () c'.w/\cI c c'/\bU S F (da hp j (some (.rows k (fo rs lo ns) true I e))) c':=by
 rcases J.dK j _ L with⟨_,_,R⟩|⟨B',O,vs,N,W,C,H,z,Q,Y,X,V⟩
 ·rw[R]at A;cases A
 rw[N]at A;cases A
 rw[fe]at C a
 rw[C]at a;cases a
 refine⟨rr,?_⟩
 have p:=jF M
 have E:=jF z
 have i:lo*k+(bV us).length<=aK.toList.length:=by rw[p,<-G7];exact g
 have b:=run_storeCells_at (P:=P) B (lo*k) e (bV us) 0 aK c.w C (by rw[D0,p,<-G7];exact g) h1
 rw[D0]at b
 generalize l:(aK.toList.take (lo*k)++bV us++aK.toList.drop (lo*k+(bV us).length)).toArray=new at b
 have s:new.size=aK.size:=by
  rw[<-l,A9]
  simp only[i6,l8,w7,p8]at i⊢
  omega
 have G:aM (fo rs lo ns) c (vs.take lo++us++vs.drop (lo+us.length)):=by
  unfold fo
  rw[<-r.length]
  exact((H.take lo).tF r).tF (H.drop _)
 have t:∀x∈vs.take lo++us++vs.drop (lo+us.length),x.cells.size=k:=λx d=>by
  rcases s8.1 d with d|d
  ·rcases s8.1 d with d|d
   ·exact z x (u6 d)
   ·exact M x d
  ·exact z x (B3 d)
 obtain⟨u,v⟩:=DD J (full':=I) L N C s G t (λq x hq=>by
  rw[ui,ui,Db lo z,HJ _ z,G7,<-p]at hq
  rw[<-l,J5,Az _ _ _ _ i]
  have U:lo*k<=(bV vs).length:=by rw[E];exact B8 k (by rw[H.length];exact D)
  have y:((bV vs).take (lo*k)).length=lo*k:=by rw[l8];omega
  by_cases m1:q<lo*k
  ·rw[z7 m1]
   rw[A7,A8 om,G4 m1]at hq
   rw[w8];exact Q q x hq
  ·rw[y8 m1]
   by_cases m2:q<lo*k+(bV us).length
   ·rw[z7 m2]
    rw[A8 (by rw[i6];omega),A4 om,y]at hq
    exact hq
   ·rw[y8 m2]
    rw[A4 (by rw[i6];omega),i6,y,E7,show lo*k+(bV us).length+(q-(lo*k+(bV us).length))=q by omega]at hq
    rw[w8];exact Q q x hq) (λn h=>by rw[s];exact V n h)
 exact⟨⟨c.w.setRow B new,c.Z,c.hb⟩,b,u,v⟩
theorem zI{p:PV}{v:Value}(r:bW p c v):∀n,aM (List.replicate n p) c (List.replicate n v)
 |0=>rfl
 |n+1=>⟨v,_,rr,r,zI r n⟩
theorem alq(v:Value)(n:Nat):bV (List.replicate (n+1) v)=v.cells.toList++bV (List.replicate n v):=by rw[List.replicate_succ,ln]
theorem anm(z:Array Value):(List.range z.size).map (λi=>z[i%z.size]!)=z.toList:=by
 apply List.ext_getElem
 ·simp
 ·intro i h1 h2;have hi:i<z.size:=by simpa using h1
  simp only[List.getElem_map,List.getElem_range,D1 hi,Array.getElem_toList];exact getElem!_pos z i hi
theorem GX(v:Value)(n:Nat):(Builtin.zeroCells v.cells n).toList=bV (List.replicate n v):=by
 unfold Builtin.zeroCells;rw[Array.toList_map,Array.toList_range];induction n with
 |zero=>simp[bV]
 |succ n ih=>
  rw[alq,<-ih,D7,Nat.add_comm,List.range_add,l6,anm,F3];congr 1;apply C4;intro i _;simp only[Function.comp,Nat.add_mod_left]
theorem acr(i:bU S F hp c){j k:Nat}{rs:List PV}{N l:Option Nat}{e:TypeId}(D:hp j=some (.rows k rs true N e)){B m:Nat}{aK:Array Value}{e':TypeId}{f:Nat×Nat}(r:c.hb j=some (B,m))(d:fe c.w B aK e' f)(h:∀n,l=some n->aK.size=n*k):bU S F (da hp j (some (.rows k rs true l e))) c:=by
 have old:∀{q b},da hp j (some (.rows k rs true l e)) q=some b->∃b',hp q=some b'/\b'.own=b.own:=by
  intro q b hq;by_cases g:q=j
  ·subst g;rw[fc]at hq;cases hq;exact⟨_,D,rr⟩
  ·rw[fU _ _ g]at hq;exact⟨b,hq,rr⟩
 refine⟨i.fL,i.bZ,i.jU,i.fC,i.fresh,λq b hq=>?_,λa b ba bb G hb s H x y I J=>?_,i.dL,i.mY⟩
 ·by_cases g:q=j
  ·subst g;rw[fc]at hq;cases hq;rcases i.dK q _ D with⟨_,_,L⟩|⟨B',p,vs,E,O,A,M,R,Q,V,U,_⟩
   ·rw[L]at r;cases r
   ·rw[E]at r;cases r;refine .inr ⟨_,p,vs,E,O,A,M,R,Q,V,U,?_⟩;rw[fe]at A d;rw[A]at d;cases d;exact h
  ·rw[fU _ _ g]at hq;exact i.dK q b hq
 ·obtain⟨C,t,u⟩:=old G;obtain⟨z,v,_⟩:=old hb;exact i.eW a b C z t v s (u.trans H) x y I J
theorem al0{α:Type}{f:Nat->Option α}{k:Nat}{v:Option α}(h:f k=v):da f k v=f:=by
 funext x;by_cases e:x=k
 ·subst e;rw[fc,h]
 ·rw[fU _ _ e]
theorem aks(rs:List PV)(lo:Nat):fo rs lo []=rs:=by
 unfold fo;rw[B9,D0,A2,A5]
theorem FU(k:Nat)(a:Option Addr)(l q:Nat)(w:World):(Builtin.firstCells k 0 (.slice a l q)).run P w=.ok #[] w:=by cases a<;>simp[Builtin.firstCells,loadCells,loadCellsFrom]
theorem KK(A:bU S F hp c){j k lo len n:Nat}{rs:List PV}{wr:Bool}{J:Option Nat}{e:TypeId}(C:hp j=some (.rows k rs wr J e)){x:Value}(D:bW (.aS j lo len) c x)(N:n<=len)(E:n<=rs.length-lo):
 ∃us a q,x=.slice a len q/\len<=q/\aM (PV.sub rs lo n) c us/\us.length=n/\(∀u∈us,u.cells.size=k)/\∀w:World,w.heap=c.w.heap->(Builtin.firstCells k n x).run P w=.ok (bV us).toArray w:=by
 rcases D with⟨rfl,a,rfl⟩|⟨B,m,cap,aK,e',f,G,rfl,d,_,g,H⟩
 ·obtain rfl:n=0:=om
  refine⟨[],a,0,rr,j2 _,?_,rr,(λu h=>by cases h),λw _=>FU _ _ _ _ w⟩
  cases rs<;>rfl
 ·obtain⟨rfl,z,vs,s,v,t,L,O,M⟩:=sq A C G
  have l:=g
  rw[fe]at l s
  rw[s]at l;cases l
  have i:∀u∈(vs.drop lo).take n,u.cells.size=m:=λu p=>t u (B3 (u6 p))
  have b:((vs.drop lo).take n).length=n:=by rw[l8,w7,v.length];omega
  refine⟨(vs.drop lo).take n,_,cap,rr,d,?_,b,i,λw I=>?_⟩
  ·by_cases h0:n=0
   ·subst h0;rw[List.take_zero];cases rs<;>rfl
   ·exact v.sub lo n om
  refine run_firstCells_some w m n _ _ _ (bV ((vs.drop lo).take n)) (by rw[jF i,b]) λq y hq=>?_
  rw[Addr.add_lit]
  rw[Db n (λu p=>t u (B3 p)),HJ lo t]at hq
  have r:(bV vs)[lo*m+q]? = some y:=by
   rw[K7]at hq
   split at hq
   ·rw[E7]at hq;exact hq
   ·cases hq
  have:=L _ _ r
  simp[World.cell?,I,s,this]
theorem Th{us:List Value}{a:List PV}{k:Nat}(r:aM a c us)(h:pj a k):(∀u∈us,u.cells.size=k)/\∀x∈bV us,x.oneCell'=true:=
 ⟨r.tK λp hp=>(h p hp).1,ze r λp hp=>(h p hp).2⟩
theorem ajt(G:dV P T)(v:bU S F hp c)(x:Operand)(t:TypeId){p:PV}(H:bW p c (ρ x))(L:o.op=.call ⟨.builtin .cap,#[x],#[t]⟩)(h:(Kt T t p).wp hp K):eV P S (dz F nx) hp c ρ o K:=by
 have key:∀{v':Value} {w':World},(Builtin.cap_ #[t] o.type #[ρ x]).run P c.w=.ok v' w'->(execOp ρ o).run P c.w=.ok (.value v') w':=by
  intro v' w' M;unfold execOp;simp[L,resolve,invoke,builtin,M]
 have cap_run:∀{e:TypeId} (_:P.underlying t=some (.slice e)) {a:Option Addr} {l q:Nat} (_:ρ x=.slice a l q),(execOp ρ o).run P c.w=.ok (.value (.int .i64 q)) c.w:=by
  intro e u a l q hv;refine key ?_;have N:=run_underlying (P:=P) u c.w;simp[Builtin.cap_,N,hv,goInt]
 unfold Kt at h;split at h
 ·rename_i rows _ _ _ e _ e2;obtain⟨vs,r1,a,cap,hv,g1,g2,g3⟩:=H;obtain⟨d,u,_,rfl⟩:=(G t _ e2).de;obtain rfl:=g2 rfl;refine dl v h ⟨by rw[r1.length],rr⟩ (.inl (cap_run u hv))
 ·rename_i j len _ _ _ e _ e2;obtain⟨d,u,_,rfl⟩:=(G t _ e2).de;split at h
  ·rename_i te e4;obtain⟨I,h⟩:=h;rcases H with⟨rfl,_⟩|⟨B,m,cap,aK,e',f,E,hv,y,z,b,g⟩
   ·omega
   simp only[Tr.wp]at h;split at h
   ·rename_i k rs e5 D;split at h
    ·rename_i O i;obtain rfl:=n9 O;have i:=o9 i;obtain⟨rfl,C,vs,A,R,V,U,J,s⟩:=sq v D E;have r:=b;rw[fe]at r A;rw[A]at r;cases r;rw[j7]at g;rw[<-g]at s;have Q:=h.h cap ⟨y,J8 s i,z⟩;exact⟨_,_,Q,.int .i64 cap,c,.inl (cap_run u hv),cI.refl c,(acr v D E b (λn e=>by cases e;exact g.symm)).up (λ_ h=>h.1),rr,rr⟩
    ·exact False.elim h
   ·rename_i k rs cc e5 D;split at h
    ·rename_i i;have i:=o9 i;obtain⟨rfl,C,vs,A,R,V,U,J,s⟩:=sq v D E;have r:=b;rw[fe]at r A;rw[A]at r;cases r;rw[j7,J cc rfl]at g;obtain rfl:=O0 i g;exact dl v h ⟨rr,rr⟩ (.inl (cap_run u hv))
    ·exact False.elim h
   ·exact False.elim h
  ·exact False.elim h
 ·exact False.elim h
theorem Tx(i:bU S F hp c){j k lo len:Nat}{rs ns:List PV}{y:Option Nat}{e:TypeId}(l:hp j=some (.rows k rs true y e)){us:List Value}(r:aM ns c us)(z:∀x∈us,x.cells.size=k)(h1:∀x∈bV us,x.oneCell'=true)(n:lo<=rs.length){x:Value}(s:bW (.aS j lo len) c x)(G:us.length<=len):
 ∃a q c',x=.slice a len q/\(∀b,a=some b->(storeCells b (bV us)).run P c.w=.ok () c'.w)/\(a=none->c'.w=c.w)/\(len=0->c'.w=c.w)/\cI c c'/\bU S F (da hp j (some (.rows k (fo rs lo ns) true y e))) c':=by
 by_cases d:us=[]
 ·subst d
  obtain rfl:ns=[]:=B5.1 r.length.symm
  rw[aks,al0 l]
  have h0:∀b,(storeCells b (bV [])).run P c.w=.ok () c.w:=λb=>by simp[bV,storeCells]
  rcases s with⟨rfl,a,rfl⟩|⟨B,m,cap,aK,e',f,p,rfl,_⟩
  ·exact⟨a,0,c,rr,λb _=>h0 b,λ_=>rfl,λ_=>rfl,cI.refl c,i⟩
  ·exact⟨_,cap,c,rr,λb _=>h0 b,λ_=>rfl,λ_=>rfl,cI.refl c,i⟩
 ·have t:0<us.length:=N6.2 d
  rcases s with⟨rfl,a,rfl⟩|⟨B,m,cap,aK,e',f,p,rfl,u,v,g,A⟩
  ·omega
  ·obtain⟨rfl,c',h2,C,D⟩:=LF i l r z h1 n p g (by
    have:=B8 k (show lo+us.length<=lo+cap by omega)
    have E:=(sq i l p).1
    subst E
    omega)
   exact⟨_,cap,c',rr,(λb hb=>by cases hb;exact h2),(λh=>by cases h),(λh=>om),C,D⟩
theorem aln(i:dV P T)(s:bU S F hp c)(x:Operand)(t:TypeId){p:PV}(v:bW p c (ρ x))(y:o.op=.call ⟨.builtin .clear,#[x],#[t]⟩)(h:(K_ T t p).wp hp K):eV P S (dz F nx) hp c ρ o K:=by
 have key:∀{v':Value} {w':World},(Builtin.clear_ #[t] o.type #[ρ x]).run P c.w=.ok v' w'->(execOp ρ o).run P c.w=.ok (.value v') w':=by
  intro v' w' A;unfold execOp;simp[y,resolve,invoke,builtin,A]
 unfold K_ at h;split at h
 ·rename_i _ _ _ e _ e2;obtain⟨vs,r1,a,cap,hv,g1,g2,g3⟩:=v;obtain⟨d,l,_,rfl⟩:=(i t _ e2).de;obtain rfl:vs=[]:=r1;have f:=run_underlying (P:=P) l c.w;exact dl s h ⟨[],rr,rr⟩ (.inl (key (by cases a<;>simp[Builtin.clear_,hv,f])))
 ·rename_i j lo len _ _ _ e _ e2;obtain⟨d,l,_,rfl⟩:=(i t _ e2).de;have f:=run_underlying (P:=P) l c.w;split at h
  ·rename_i te e4;simp only[Tr.wp]at h;split at h
   ·rename_i k rs cp e' B;split at h
    ·rename_i C D;obtain rfl:=n9 C;obtain⟨E,h⟩:=h;obtain⟨z,G,m,g⟩:=(i e _ e4).Ck c;have r:∀u∈List.replicate len z,u.cells.size=te.size:=λu f=>by rw[D5 f];exact m
     obtain⟨a,q,c',hv,g1,g2,g3,g4,g5⟩:=Tx (P:=P) s B (zI g len) r (ze (zI g len) λp hp=>by rw[D5 hp];exact D) om v (by rw[A1];exact j2 _);refine⟨_,_,h,.tuple #[],c',.inl (key ?_),g4,g5.up (λ_ h=>h.1),⟨[],rr,rr⟩⟩;by_cases h0:len=0
     ·rw[g3 h0,hv];subst h0;cases a<;>simp[Builtin.clear_,f]
     ·cases a with
      |none=>
       rw[g2 rr,hv];simp[Builtin.clear_,f]
      |some b=>
       have:=g1 b rr;rw[<-GX]at this;rw[hv];obtain⟨n,rfl⟩:=Nat.exists_eq_succ_of_ne_zero h0;simp[Builtin.clear_,f,G,this]
    ·exact False.elim h
   ·exact False.elim h
  ·exact False.elim h
 ·exact False.elim h
theorem UK(s:dV P T)(u:bU S F hp c)(x y:Operand)(t e:TypeId)(v:P.underlying t=some (.slice e)){f:TI}(e4:T e=some f){j lo len:Nat}{ys:List PV}{m:Nat}(z:bW (.aS j lo len) c (ρ x))(i:(Builtin.lenOf (ρ y)).run P c.w=.ok m c.w)(A:Nat.min m len=Nat.min ys.length len){us:List Value}(l:aM (ys.take len) c us)(g:us.length<=len)
 (n:(Builtin.firstCells f.size (Nat.min m len) (ρ y)).run P c.w=.ok (bV us).toArray c.w) (B:o.op=.call ⟨.builtin .copy,#[x,y],#[t,t]⟩) (h:(Ac f j lo len ys).wp hp K):eV P S (dz F nx) hp c ρ o K:=by
 unfold Ac at h
 simp only[Tr.wp]at h
 split at h
 ·rename_i k rs cp e' C
  split at h
  ·rename_i D
   obtain rfl:=n9 D
   obtain⟨⟨h1,h2⟩,q,hq,h⟩:=h
   obtain⟨E,G⟩:=Th l (λp hp=>h1 p (u6 hp))
   obtain⟨a,q',c',hv,g1,g2,g3,g4,g5⟩:=Tx (P:=P) u C l E G h2 z g
   have r:=run_underlying (P:=P) v c.w
   refine⟨_,_,h,.int .i64 q,c',.inl ?_,g4,g5.up (λ_ h=>h.1),rr,rr⟩
   have d:=(s e f e4).size c.w
   unfold execOp
   simp only[B,resolve,invoke,builtin]
   rw[<-hq,<-A]
   cases a with
   |none=>rw[g2 rfl];simp[Builtin.copy_,r,hv,i,d,n,goInt]
   |some b=>have:=g1 b rr;simp[Builtin.copy_,r,hv,i,d,n,this,goInt]
  ·exact False.elim h
 ·exact False.elim h
theorem alT(s:dV P T)(r:bU S F hp c)(x y:Operand)(t:TypeId){p q:PV}(C:bW p c (ρ x))(A:bW q c (ρ y))(D:o.op=.call ⟨.builtin .copy,#[x,y],#[t,t]⟩)(h:(Ik T t p q).wp hp K):eV P S (dz F nx) hp c ρ o K:=by
 unfold Ik at h;split at h
 ·rename_i j lo len _ _ _ e _ e2;obtain⟨d,B,_,rfl⟩:=(s t _ e2).de;split at h
  ·rename_i te e4;split at h
   ·rename_i cl ys;obtain⟨vs,r1,a,cap,hv,g1,g2,g3⟩:=A;have r2:=aM.ext ys (cI.ng c) r1;have z:=r2.length;refine UK s r x y t e B e4 (m:=vs.length) (us:=vs.take len) C (by simp[Builtin.lenOf,hv]) (by rw[z]) (r2.take len) (by rw[l8];exact N3 _ _) ?_ D h;rw[hv];by_cases E:vs=[]
    ·subst E;rw[show Nat.min ([]:List Value).length len=0 from Nat.zero_min _,List.take_nil];exact FU _ _ _ _ _
    ·rcases g3 with g3|⟨b,off,k,rfl,h2,M⟩
     ·exact(E g3).elim
     have G:k=te.size:=by
      unfold Ac at h;simp only[Tr.wp]at h;split at h
      ·split at h
       ·obtain⟨⟨h1,_⟩,_⟩:=h;obtain⟨v,hv⟩:=List.exists_mem_of_ne_nil _ E;rw[<-h2 v hv];exact r2.tK (λp hp=>(h1 p hp).1) v hv
       ·exact False.elim h
      ·exact False.elim h
     subst G;refine run_firstCells_some c.w _ _ _ _ _ (bV (vs.take len)) (by rw[jF (λu H=>h2 u (u6 H)),l8,Nat.min_comm]) λq y hq=>?_
     rw[Addr.add_lit];rw[Db len h2]at hq;rw[K7]at hq;split at hq
     ·exact(M q y hq).2
     ·cases hq
   ·rename_i j' lo' len';simp only[Tr.wp]at h;split at h
    ·rename_i k' rs' wr' cp' ee' I;split at h
     ·rename_i N;obtain rfl:=n9 N;obtain⟨J,h⟩:=h;obtain⟨us,a,q,hv,g1,g2,g3,g4,g5⟩:=KK (P:=P) r I A (n:=Nat.min len' len) (N3 _ _) J;have g:(PV.sub rs' lo' (Nat.min len' len)).length=Nat.min len' len:=by rw[<-g2.length,g3]
      have i:Nat.min len' len<=len:=F1 _ _;refine UK s r x y t e B e4 (m:=len') (us:=us) C (by simp[Builtin.lenOf,hv]) (by rw[g];exact(E9 i).symm) (by rw[u5 (by rw[g];exact i)];exact g2) (by rw[g3];exact i) (g5 _ rr) D h
     ·exact False.elim h
    ·exact False.elim h
   ·exact False.elim h
  ·exact False.elim h
 ·rename_i _ _ _ e _ e2;obtain⟨vs,r1,a,cap,hv,g1,g2,g3⟩:=C;obtain⟨d,B,_,rfl⟩:=(s t _ e2).de;obtain rfl:vs=[]:=r1;have H:=run_underlying (P:=P) B c.w;split at h
  ·rename_i te e4;have L:=(s e te e4).size c.w;have key:∀{b:Option Addr} {l q:Nat},ρ y=.slice b l q->(execOp ρ o).run P c.w=.ok (.value (.int .i64 0)) c.w:=by
    intro b l q f;unfold execOp;have O:(Builtin.firstCells te.size 0 (.slice b l q)).run P c.w=.ok #[] c.w:=FU _ _ _ _ _;cases a<;>simp[D,resolve,invoke,builtin,Builtin.copy_,H,hv,f,Builtin.lenOf,O,goInt,L,storeCells]
   split at h
   ·obtain⟨_,_,_,_,f,_⟩:=A;exact dl r h ⟨rr,rr⟩ (.inl (key f))
   ·rcases A with⟨_,_,f⟩|⟨_,_,_,_,_,_,_,f,_⟩
    ·exact dl r h ⟨rr,rr⟩ (.inl (key f))
    ·exact dl r h ⟨rr,rr⟩ (.inl (key f))
   ·exact False.elim h
  ·exact False.elim h
 ·exact False.elim h
theorem XI(C:dV P T)(u:bU S F hp c)(ex:Bool)(x y:Operand)(t:TypeId){j lo len j' lo' len':Nat}(J:ex=true\/0<len->∃B k cap aK e f,c.hb j=some (B,k)/\ρ x=.slice (some ⟨B,lo*k,none⟩) len cap/\len<=cap/\cap<=maxLen/\fe c.w B aK e f/\(lo+cap)*k=aK.size)(L:bW (.aS j' lo' len') c (ρ y))(M:o.op=.call ⟨.builtin .append,#[x,y],#[t,t]⟩)(h:(wZ T ex t t j lo len j' lo' len').wp hp K):eV P S (dz F nx) hp c ρ o K:=by
 unfold wZ at h;split at h
 ·rename_i _ _ _ e _ e2 _;obtain⟨d,N,_,rfl⟩:=(C t _ e2).de;have O:=run_underlying (P:=P) N c.w;split at h
  ·rename_i te e4;simp only[Tr.wp]at h;split at h
   ·rename_i k' rs' wr' cp' ee' k rs cp e' v D;split at h
    ·rename_i Q R z;obtain rfl:=n9 Q;obtain rfl:=n9 R;have z:=o9 z;obtain⟨⟨g1,g3,g4⟩,g5,h⟩:=h;obtain⟨us,a',q',l,_,G,V,Y,s⟩:=KK (P:=P) u v L (n:=len') (j2 _) om;obtain⟨X,W⟩:=Th G g5;obtain⟨B,m,cap,aK,e9,f,r,hv,E,g,a,b⟩:=J g1;obtain⟨rfl,H,vs,I,b4,b5,b6,Z,q⟩:=sq u D r;have U:lo+len+len'<=lo+cap:=by
      have A:=a;rw[fe]at A I;rw[I]at A;cases A;rw[<-b]at q;exact r8 g3 (J8 q z)
     obtain⟨_,c',r1,r2,r3⟩:=LF (P:=P) u D G X W (lo:=lo+len) om r a (by
      rw[<-b,V];exact B8 _ U)
     have p:=(C e te e4).size c.w;have run:(execOp ρ o).run P c.w=.ok (.value (.slice (some ⟨B,lo*te.size,none⟩) (len+len') cap)) c'.w:=?run
     ·rcases h.h with h|⟨h0,h⟩
      ·exact⟨_,_,h,_,c',.inl run,r2,r3.up (λ_ h=>h.1),bW.ext (.aS j lo (len+len')) r2 (.inr ⟨B,te.size,cap,aK,e9,f,r,rr,om,g,a,b⟩)⟩
      ·rw[h0]at run;exact⟨_,_,h,_,c',.inl run,r2,r3.up (λ_ h=>h.1),bW.ext (.gJ j lo) r2 ⟨B,te.size,cap,aK,e9,f,r,rr,g,a,b⟩⟩
     unfold execOp;rw[G7]at r1;have i:len+len'<=cap:=om
     have s:=s c.w rr;rw[l]at s;simp[M,resolve,invoke,builtin,Builtin.append_,O,hv,l,Builtin.lenOf,p,i,s,r1,Addr.add_lit]
    ·exact False.elim h
   ·exact False.elim h
  ·exact False.elim h
 ·exact False.elim h
theorem Dc{α:Type}:∀(l:List α) (n:Nat),PV.sub l 0 n=l.take n
 |l,0=>by cases l<;>rfl
 | [],n+1=>rfl
 |a::l,n+1=>by rw[G8,<-Dc l n];rfl
theorem ab6(E:dV P T)(G:bU S F hp c)(hF:F nx)(x y:Operand)(t t':TypeId){j len:Nat}{kd:IntKind}{q:Int}(C:bW (.aS j 0 len) c (ρ x))(hy:ρ y=.int kd q)(ho:o.op=.call ⟨.builtin .append,#[x,y],#[t,t']⟩)(h:(GL T nx t t' j len q).wp hp K):eV P S (dz F nx) hp c ρ o K:=by
 unfold GL at h;split at h
 ·rename_i sz ag zz e eq sz2 ag2 z2 kn eq2 e2 e3;obtain⟨d,hd,_,rfl⟩:=(E t _ e2).de;obtain⟨d',H,_,rfl⟩:=(E t' _ e3).de;split at h
  ·rename_i te e4;simp only[Tr.wp]at h;split at h
   ·rename_i k rs cc e' U;split at h
    ·rename_i h5 h6 I;obtain rfl:=n9 h5;obtain rfl:=n9 h6;have I:=o9 I;obtain⟨⟨g1,g2,g3,g4⟩,h⟩:=h;obtain⟨n,rfl⟩:=E6 (Int.le_of_lt g1);have h:K (.aS nx 0 (len+n)) [(nx,some (.rows te.size (rs.take len++List.replicate n te.zero) true none _))]:=h;have J:=E _ te e4;obtain⟨i,z,q1,q2,q3,q4,Z,q6⟩:=J.ex;obtain⟨us,a,cap,hv,g6,X,k3,W,k5⟩:=KK (P:=P) G U C (n:=len) (j2 _) om;have l:cap<len+n:=by
      rcases C with⟨rfl,a',g⟩|⟨B,m,cap',aK,e9,f,hB,g,_,_,p,r⟩
      ·rw[hv]at g;cases g;omega
      ·rw[hv]at g;cases g;obtain⟨rfl,Y,vs,b3,b4,b5,b6,b9,b10⟩:=sq G U hB;have L:=p;rw[fe]at L b3;rw[b3]at L;cases L;rw[j7,b9 cc rfl]at r;have:=O0 I r;omega
     have M:(len+n)*i.bytes<=140737488355328:=r8 (L5 (show len+n<=67108864 by omega) Z) (by decide);have V:n*i.bytes<=140737488355328:=r8 (L5 (show n<=67108864 by omega) Z) (by decide);have b:=Go.Lib.run_append_grow_zeros (P:=P) (ty:=o.type) c.w t t' _ i z kd _ hd H q1 q3 a len cap (bV us) (by rw[q2,<-hv];exact k5 _ rr) n om om l om om (growslice_fits om M);have s:=grownCap_ge c.w (len+n) cap e';have u:=grownCap_le_maxLen c.w (len+n) cap e' (by simp only[maxLen];omega);generalize grownCap c.w (len+n) cap e'=D at b s u;generalize hcells:(bV us).toArray++Builtin.zeroCells z.cells n++Builtin.zeroCells z.cells (D-(len+n))=cells at b;have N:=jF W;have O:cells.size=D*te.size:=by
      rw[<-hcells];simp only[Array.size_append,A9,size_zeroCells,q4,N,k3,<-G7];congr 1;omega
     have v:∀x∈us++List.replicate n z,x.cells.size=te.size:=λx C=>by
      rcases s8.1 C with h|h
      ·exact W x h
      ·rw[D5 h];exact q4
     have Q:cells.toList.take (bV (us++List.replicate n z)).length=bV (us++List.replicate n z):=by
      rw[<-hcells,ui,<-GX];simp only[Array.toList_append];exact List.take_left
     have A:PV.sub rs 0 len=rs.take len:=Dc rs len;rw[A]at X;obtain⟨c',r1,r2,r3,r4,r5⟩:=G.DL hF (w1:=c.w.drew) ((Below.refl c.w.heap.size c.w).drew) rfl (rs:=rs.take len++List.replicate n te.zero) (vs:=us++List.replicate n z) (X.tF (zI (q6 c) n)) cells e' te.size v (λq x hq=>by
      rw[<-w8];have R:=(c9.1 hq).1;rw[<-Q,G4 R]at hq;exact hq) none (λ_ e=>by cases e)
     refine⟨_,_,h,.slice (some ⟨c.w.heap.size,0,none⟩) (len+n) D,c',.inl ?_,r4,r5,.inr ⟨c.w.heap.size,te.size,D,cells,e',(0,0),by rw[r3];exact fc _ _ _,by rw[C9],s,u,?_,by rw[O,j7]⟩⟩
     ·unfold execOp;rw[<-hv]at b;simp[ho,resolve,invoke,builtin,hy,b,r1]
     ·rw[r1];exact heap_alloc_new c.w.drew _
    ·exact False.elim h
   ·exact False.elim h
  ·exact False.elim h
 ·exact False.elim h
theorem abh(k:dV P T)(p:bU S F hp c)(r:F nx)(t:TypeId)(x y:Operand)(hv:aM vs c [ρ x,ρ y])(s:o.op=.makeSlice t x y)(h:(Io T nx t vs).wp hp K):eV P S (dz F nx) hp c ρ o K:=by
 unfold Io at h;split at h
 ·rename_i sz ag zz e eq k1 n k2 m e2;obtain⟨d,u,_,rfl⟩:=(k t _ e2).de;split at h
  ·rename_i te e4;obtain⟨⟨g1,g2,g3⟩,h⟩:=h;subst g2;obtain⟨⟨g,_⟩,v,_⟩:=gW hv;obtain⟨i,z,H,G,C,l,I,E⟩:=(k _ te e4).ex;obtain⟨n,rfl⟩:=E6 g1;have h:K (.aS nx 0 n) [(nx,some (.rows te.size (List.replicate n te.zero) true none e))]:=h;have A:i.bytes*n<=281474976710656:=by
    have:i.bytes*n<=1048576*67108864:=L5 I om;omega
   have b:=run_make (P:=P) c.w t e i z u H C k1 k2 n n om (Int.le_refl _) om om;simp only[x8]at b;have a:(madeCells z.cells (n*i.size)).toList=bV (List.replicate n z):=by
    rw[<-GX];unfold Builtin.zeroCells madeCells;rw[G,l]
   generalize madeCells z.cells (n*i.size)=cells at b a;have f:∀x∈List.replicate n z,x.cells.size=te.size:=λx g=>by rw[D5 g];exact l
   have j:cells.size=n*te.size:=by
    rw[<-p8,a,jF f,A1]
   obtain⟨c',r1,r2,r3,D,B⟩:=p.DL r (w1:=c.w) (Below.refl c.w.heap.size c.w) rfl (zI (E c) n) cells e te.size f (λq x hq=>by
    rw[<-a,w8]at hq;exact hq) none (λ_ e=>by cases e)
   refine⟨_,_,h,.slice (some ⟨c.w.heap.size,0,none⟩) n n,c',.inl ?_,D,B,.inr ⟨c.w.heap.size,te.size,n,cells,e,(0,0),by rw[r3];exact fc _ _ _,by rw[C9],j2 _,by simp only[maxLen];omega,?_,by rw[j,j7]⟩⟩
   ·unfold execOp;simp[s,g,v,b,r1]
   ·rw[r1];exact heap_alloc_new c.w _
  ·exact False.elim h
 ·exact False.elim h
end
section
variable {P:Program}{T:TT}{S:dr}{F:Nat→Prop}{nx:Nat}{hp:Nat→Option aI}{c:RC}{ρ:Operand→Value}{o:Oper}{K:PV→cU→Prop}{vs:List PV}
def FA:TypeDesc->Value->Prop
 |.int _,.int _ _=>True
 |.string,.string _=>True
 |_,_=>False
theorem aam{d:TypeDesc}{x k:Value}(f:FA d x)(h:jI x k≠none):Instr.sameNow d x k=jI x k:=by
 cases x with
 |int kx a=>
  cases d with
  |int q=>
   cases k with
   |int kk b=>
    unfold jI at h⊢;unfold Instr.sameNow;dsimp only at h⊢;by_cases e:kx=kk
    ·subst e;simp only[decide_true,if_true,Option.some.injEq];by_cases e2:a=b<;>simp[e2]
    ·simp only[e,decide_false]at h;exact absurd rr h
   |_=>exact absurd rr h
  |_=>exact f.elim
 |string s=>
  cases d with
  |string=>
   cases k with
   |string u=>
    unfold jI Instr.sameNow;dsimp only;rw[beq_toListBytes,EJ]
   |_=>exact absurd rr h
  |_=>exact f.elim
 |_=>cases d<;>exact f.elim
theorem Hu{d:TypeDesc}{x:Value}(s:FA d x):∀(es:List MapEntry) (i:Nat) {f:List PV},aM f c (es.map (·.val))->wP (es.map (·.key)) x->
 ∃r,Instr.findNow d x es i=some r/\((∃n p v,r=some (i+n,v)/\pc (es.map (·.key)) f x=some p/\bW p c v/\(∃e,es[n]? = some e/\jI x e.key=some true)/\
  (∀(a:Value) (p':PV),bW p' c a->∃es',es'=es.modify n (λe=>{e with key:=x,val:=a})/\es'.map (·.key)=oX (es.map (·.key)) x/\aM (qD (es.map (·.key)) f x p') c (es'.map (·.val))))\/
  (r=none/\pc (es.map (·.key)) f x=none/\∀(a:Value) (p':PV) (b:Nat),bW p' c a->(es++[({key:=x,val:=a,born:=b}:MapEntry)]).map (·.key)=oX (es.map (·.key)) x/\aM (qD (es.map (·.key)) f x p') c ((es++[({key:=x,val:=a,born:=b}:MapEntry)]).map (·.val))))
 | [],i,f,r,_=>by
  cases f with
  |cons p f=>obtain⟨_,_,e,_⟩:=r;cases e
  |nil=>exact⟨none,rr,.inr ⟨rr,rr,λa p' b h=>⟨rr,a,[],rr,h,rr⟩⟩⟩
 |e::es,i,f,r,t=>by
  cases f with
  |nil=>cases r
  |cons p f=>
   obtain⟨v,A,e1,r1,r2⟩:=r
   cases e1
   have g:=t e.key (j6)
   have u:=aam s g
   rw[w9]
   unfold Instr.findNow pc oX qD
   rw[u]
   cases hq:jI x e.key with
   |none=>exact absurd hq g
   |some b=>
    cases b
    case true=>
     refine⟨_,rr,.inl ⟨0,p,e.val,rr,rr,r1,⟨e,rr,hq⟩,λa p' h=>⟨_,rr,rr,a,es.map (·.val),rr,h,r2⟩⟩⟩
    obtain⟨r,h1,h2⟩:=Hu s es (i+1) r2 (λk j=>t k (j3 _ j))
    refine⟨r,h1,?_⟩
    rcases h2 with⟨n,z,v2,l,m,q,w,y⟩|⟨l,m,q⟩
    ·refine .inl ⟨n+1,z,v2,by rw[l];congr 2;omega,m,q,?_,λa p' h=>?_⟩
     ·simpa using w
     ·obtain⟨es',g1,g2,g3⟩:=y a p' h
      refine⟨e::es',by rw[g1];rfl,by rw[w9,g2],e.val,es'.map (·.val),rr,r1,g3⟩
    ·refine .inr ⟨l,m,λa p' b h=>?_⟩
     obtain⟨g1,g2⟩:=q a p' b h
     exact⟨by rw[E4,w9,g1],e.val,_,rr,r1,g2⟩
theorem Sq(r:dV P T){i:TypeId}{l:TI}(e:T i=some l){p:PV}{x:Value}(h:Ci l.kd p=some x):∃d,P.underlying i=some d/\FA d x/\p=.at x/\∀(n:Nat) (b:Bool) (w:World),(Instr.checkKey b (n+1) i x).run P w=.ok () w:=by
 obtain⟨d,j,_,g⟩:=(r i l e).de;have m:=λw=>run_underlying (P:=P) j w
 unfold Ci at h;split at h
 ·rename_i k q a f;cases h;rw[f]at g;obtain rfl:=g;exact⟨_,j,trivial,rr,λn b w=>by simp only[Instr.checkKey,Sem.run_bind,m,Result.andThen_ok];rfl⟩
 ·rename_i s f;cases h;rw[f]at g;obtain rfl:=g;exact⟨_,j,trivial,rr,λn b w=>by simp only[Instr.checkKey,Sem.run_bind,m,Result.andThen_ok];rfl⟩
 ·cases h
theorem ags(D:dV P T)(f:bU S F hp c)(t:TypeId)(x y:Operand)(ok:Bool)(hv:aM vs c [ρ x,ρ y])(O:o.op=.lookup t x y ok)(h:(EU T t ok vs).wp hp K):eV P S (dz F nx) hp c ρ o K:=by
 unfold EU at h;split at h
 ·rename_i sz ag z kt e eq m p eT;obtain⟨d,Q,_,rfl⟩:=(D t _ eT).de;split at h
  ·rename_i tk te ek ee;split at h
   ·rename_i key R;obtain⟨Y,E,G,rfl,H⟩:=Sq D ek R;obtain⟨M,U,_⟩:=gW hv;obtain⟨C,V,_,g⟩:=(D e _ ee).Ck c;have fin:∀{es:Array MapEntry} {cl r:Nat} {A:List PV},ρ x=.map (some r)->pI c.w r es cl->aM A c (es.toList.map (·.val))->(Kg te ok (es.toList.map (·.key)) A key).wp hp K->eV P S (dz F nx) hp c ρ o K:=by
     intro es cl r A i a I h;obtain⟨J,q,hq,h⟩:=h;obtain⟨r',g1,g2⟩:=Hu (c:=c) G es.toList 0 I J;have b:∀{u:Value},(match r' with|some (_,v)=>(if ok then Value.tuple #[v,.bool true]else v)|none=>(if ok then Value.tuple #[C,.bool false]else C))=u->(execOp ρ o).run P c.w=.ok (.value u) c.w:=by
      intro u j;have W:(getObj r).run P c.w=.ok (.map es cl) c.w:=by
       rw[pI]at a;simp[getObj,Sem.run,a]
      unfold execOp;simp only[O,i,U,Instr.lookup,Sem.run_bind,run_underlying Q,Result.andThen_ok,W,Sem.run_pure,H 9999,Instr.findKey,run_underlying E,g1];cases r' with
      |none=>simp only[Sem.run_bind,V,Result.andThen_ok,Sem.run_pure];rw[<-j]
      |some nv=>obtain⟨n,v⟩:=nv;rw[<-j];cases ok<;>rfl
     rcases g2 with⟨n,p,v,l,L,s,_⟩|⟨l,L,_⟩
     ·rw[L]at hq;subst hq l;cases ok
      case true=>exact dl f h ⟨[v,.bool true],rr,v,_,rr,s,_,[],rr,⟨rr,rr⟩,rr⟩ (.inl (b rr))
      exact dl f h s (.inl (b rr))
     ·rw[L]at hq;subst hq l;cases ok
      case true=>exact dl f h ⟨[C,.bool false],rr,C,_,rr,g,_,[],rr,⟨rr,rr⟩,rr⟩ (.inl (b rr))
      exact dl f h g (.inl (b rr))
    split at h
    ·obtain⟨r,es,cl,i,_,a,_,rfl,I⟩:=M;exact fin i a (aM.ext _ (cI.ng c) I) h
    ·obtain⟨B,k,N,i⟩:=M;simp only[Tr.wp]at h;split at h
     ·rename_i ks A wr X;obtain⟨B',es,cl,h1,h2,l,rfl,s,_⟩:=f.dK _ _ X;rw[h1]at N;cases N;exact fin i l s h
     ·exact False.elim h
    ·exact False.elim h
   ·exact False.elim h
  ·exact False.elim h
 ·exact False.elim h
theorem An(w:World)(B:Nat)(x:Obj)(k:Nat)(h:k≠B):({w with heap:=w.heap.setIfInBounds B x}:World).heap[k]? = w.heap[k]?:=by
 show(w.heap.setIfInBounds B x)[k]? = _
 rw[J4];split
 ·rename_i e;exact absurd e.symm h
 ·rfl
theorem ajm{es:Array MapEntry}{cl:Nat}(h:lz es cl)(n:Nat)(f:MapEntry->MapEntry)(b:∀e,(f e).born=e.born):lz (es.modify n f) cl:=by
 refine⟨by rw[Array.size_modify];exact h.1,λi e a=>?_⟩;rw[Array.getElem?_modify]at a;split at a
 ·cases e2:es[i]? with
  |none=>rw[e2]at a;cases a
  |some x=>
   rw[e2]at a;cases a;exact(b x).trans (h.2 i x e2)
 ·exact h.2 i e a
theorem ajW{es:Array MapEntry}{cl:Nat}(h:lz es cl)(k v:Value):lz (es.push {key:=k,val:=v,born:=cl}) (cl+1):=by
 refine⟨by rw[Array.size_push,h.1],λi e a=>?_⟩;rw[Array.getElem?_push]at a;split at a
 ·rename_i hi;cases a;exact h.1.trans hi.symm
 ·exact h.2 i e a
theorem Rk(k:bU S F hp c){j:Nat}{R ks':List Value}{U ps':List PV}(s:hp j=some (.map R U true)){B:Nat}{es es':Array MapEntry}{cl cl':Nat}(r:c.hb j=some (B,0))(t:pI c.w B es cl)(I:es'.toList.map (·.key)=ks')(J:aM ps' c (es'.toList.map (·.val)))(u:lz es' cl'):
 cI c ⟨{c.w with heap:=c.w.heap.setIfInBounds B (.map es' cl')},c.Z,c.hb⟩/\bU S F (da hp j (some (.map ks' ps' true))) ⟨{c.w with heap:=c.w.heap.setIfInBounds B (.map es' cl')},c.Z,c.hb⟩:=by
 have dU:=k.dK j _ s
 obtain⟨m,_⟩:=dU.at r
 have v:B<c.w.heap.size:=(u7.1 t).1
 have n:∀o,¬c.Z B o:=by
  obtain⟨B',_,_,Q,_,_,_,_,V,_⟩:=dU
  rw[Q]at r;cases r;exact V rr
 have f:cI c ⟨{c.w with heap:=c.w.heap.setIfInBounds B (.map es' cl')},c.Z,c.hb⟩:=by
  refine⟨λ_ _ h=>h,λ_ _ h=>h,λb o z=>?_,λb a2 e2 f2 l=>?_,λr2 es2 cl2 z A=>?_⟩
  ·have d:b≠B:=by rintro rfl;exact n _ z
   exact World.cell?_of_block (An _ _ _ _ d)
  ·have d:b≠B:=by
    rintro rfl
    rw[pI]at t;rw[fe]at l
    rw[t]at l;cases l
   exact⟨a2,f2,(An _ _ _ _ d).trans l,rr⟩
  ·have d:r2≠B:=by rintro rfl;exact n _ z
   exact(An _ _ _ _ d).trans A
 refine⟨f,?_⟩
 have p:ie (λi=>i=B) c.w {c.w with heap:=c.w.heap.setIfInBounds B (.map es' cl')}:=⟨rr,rr,rr,by simp,λq _ hq=>An _ _ _ _ hq⟩
 refine⟨k.fL.step p (λi hi h=>?_),k.bZ.trans f,k.jU,λb o z=>by show b<(c.w.heap.setIfInBounds B _).size;rw[Array.size_setIfInBounds];exact k.fC b o z,k.fresh,λq b hq=>?_,λa b ba bb L hb d M x y N O=>?_,k.dL,k.mY⟩
 ·subst h;rcases m with h|h
  ·omega
  ·exact h
 ·by_cases g:q=j
  ·subst g
   rw[fc]at hq;cases hq
   refine⟨B,es',cl',r,m,?_,I,aM.ext _ f J,λ_=>n,(λh=>by cases h),u⟩
   show(c.w.heap.setIfInBounds B _)[B]? = _
   rw[J4];simp[v]
  ·rw[fU _ _ g]at hq
   refine(k.dK q b hq).bx f id λW n2 h2=>⟨An _ _ _ _ ?_,λ_=>O7⟩
   exact λe=>k.eW j q _ b s hq (λe=>g e.symm) rr _ _ r h2 e.symm
 ·have old:∀{q b},da hp j (some (.map ks' ps' true)) q=some b->∃b',hp q=some b'/\b'.own=b.own:=by
   intro q b hq
   by_cases g:q=j
   ·subst g;rw[fc]at hq;cases hq;exact⟨_,s,rr⟩
   ·rw[fU _ _ g]at hq;exact⟨b,hq,rr⟩
  obtain⟨H,C,D⟩:=old L
  obtain⟨G,E,_⟩:=old hb
  exact k.eW a b H G C E d (D.trans M) x y N O
theorem AX{a b:ByteArray}(h:seq a b=true):a=b:=by
 unfold seq at h;have:=eq_of_beq h;obtain⟨⟨x⟩⟩:=a;obtain⟨⟨y⟩⟩:=b;simpa using this
theorem wG{α:Type}{l:List α}(h:l.length=2):∃x y,l=[x,y]:=by
 match l,h with
 | [x,y],_=>exact⟨x,y,rr⟩
theorem aoc{x k:Value}(h:jI x k=some true)(n:Nat):Instr.sameBits n k x=true:=by
 cases x with
 |int a b=>
  cases k with
  |int a' b'=>
   unfold jI at h;dsimp only at h;split at h
   ·rename_i e;obtain rfl:=j5 e;cases hb:decide (b=b')
    ·rw[hb]at h;cases h
    obtain rfl:=j5 hb;cases n<;>simp[Instr.sameBits]
   ·cases h
  |_=>cases h
 |string s=>
  cases k with
  |string u=>
   unfold jI at h;have:seq s u=true:=z8 h;obtain rfl:s=u:=AX this;cases n<;>simp[Instr.sameBits,beq_toListBytes]
  |_=>cases h
 |bool s=>
  cases k with
  |bool u=>
   unfold jI at h;have:(s==u)=true:=z8 h;obtain rfl:=eq_of_beq this;cases n<;>simp[Instr.sameBits]
  |_=>cases h
 |_=>cases h
theorem WK(L:dV P T)(A:bU S F hp c)(t:TypeId)(x y zz:Operand)(hv:aM vs c [ρ x,ρ y,ρ zz])(u:o.op=.insert t x y zz\/o.op=.mapUpdate t x y zz)(h:(Ju T t vs).wp hp K):eV P S (dz F nx) hp c ρ o K:=by
 unfold Ju at h;split at h
 ·rename_i sz ag z kt e eq j p v eT;obtain⟨d,M,_,rfl⟩:=(L t _ eT).de;split at h
  ·rename_i tk ek;split at h
   ·rename_i key V;obtain⟨dk,m,C,rfl,q⟩:=Sq L ek V;obtain⟨⟨B,k,W,N⟩,⟨O,_⟩,Q⟩:=zW hv;simp only[Tr.wp]at h;split at h
    ·rename_i ks ps D;obtain⟨E,h⟩:=h;obtain⟨B',es,cl,h1,h2,g,rfl,X,_,_,r⟩:=A.dK _ _ D;have s:=W;rw[h1]at s;cases s;obtain⟨r',g1,g2⟩:=Hu (c:=c) C es.toList 0 X E;have R:(getObj B).run P c.w=.ok (.map es cl) c.w:=by
      rw[pI]at g;simp[getObj,Sem.run,g]
     have i:∀ob,(setObj B ob).run P c.w=.ok () {c.w with heap:=c.w.heap.setIfInBounds B ob}:=by
      intro ob;rw[pI]at g;simp[setObj,Sem.run,g]
     have l:∀{w':World},(Instr.mapUpdate t (ρ x) (ρ y) (ρ zz)).run P c.w=.ok () w'->(execOp ρ o).run P c.w=.ok .skip w':=by
      intro w' Y;unfold execOp;rcases u with u|u<;>simp[u,Y]
     rcases g2 with⟨n,p2,v2,G,Z,U,⟨en,h9,H⟩,I⟩|⟨G,Z,U⟩
     ·subst G;obtain⟨es',e1,e2,e3⟩:=I (ρ zz) v Q;have e4:(es.modify n λe=>{e with key:=key,val:=ρ zz}).toList=es':=by rw[Array.toList_modify,e1]
      obtain⟨a,b⟩:=Rk A (ks':=oX (es.toList.map (·.key)) key) (cl':=cl) D h1 g (es':=es.modify n λe=>{e with key:=key,val:=ρ zz}) (by rw[e4];exact e2) (by rw[e4];exact e3) (ajm r n _ λ_=>rfl);have f:∀{c':RC},(Instr.mapUpdate t (ρ x) (ρ y) (ρ zz)).run P c.w=.ok () c'.w->cI c c'->bU S F (da hp j (some (.map (oX (es.toList.map (·.key)) key) (qD (es.toList.map (·.key)) ps key v) true))) c'->eV P S (dz F nx) hp c ρ o K:=λh1 h2 g=>⟨_,_,h,undef,_,.inr ⟨rr,l h1⟩,h2,g.up (λ_ h=>h.1),⟨[],rr,rr⟩⟩
      refine f ?_ a b;rw[j7]at g1;have J:es[n]? = some en:=by rw[<-w8];exact h9
      simp only[Instr.mapUpdate,Sem.run_bind,run_underlying M,Result.andThen_ok,N,R,O,q 9999,Instr.findKey,run_underlying m,g1,Sem.run_pure,J,E3,I8,Instr.keyThatStays,aoc H 10000,if_true,i]
     ·subst G;obtain⟨e1,e2⟩:=U (ρ zz) v cl Q;have e4:(es.push ({key:=key,val:=ρ zz,born:=cl}:MapEntry)).toList=es.toList++[({key:=key,val:=ρ zz,born:=cl}:MapEntry)]:=Array.toList_push;obtain⟨a,b⟩:=Rk A (ks':=oX (es.toList.map (·.key)) key) (cl':=cl+1) D h1 g (es':=es.push ({key:=key,val:=ρ zz,born:=cl}:MapEntry)) (by rw[e4];exact e1) (by rw[e4];exact e2) (ajW r _ _);have f:∀{c':RC},(Instr.mapUpdate t (ρ x) (ρ y) (ρ zz)).run P c.w=.ok () c'.w->cI c c'->bU S F (da hp j (some (.map (oX (es.toList.map (·.key)) key) (qD (es.toList.map (·.key)) ps key v) true))) c'->eV P S (dz F nx) hp c ρ o K:=λh1 h2 g=>⟨_,_,h,undef,_,.inr ⟨rr,l h1⟩,h2,g.up (λ_ h=>h.1),⟨[],rr,rr⟩⟩
      refine f ?_ a b;simp only[Instr.mapUpdate,Sem.run_bind,run_underlying M,Result.andThen_ok,N,R,O,q 9999,Instr.findKey,run_underlying m,g1,Sem.run_pure,i]
    ·exact False.elim h
   ·exact False.elim h
  ·exact False.elim h
 ·exact False.elim h
theorem ZR(b:bU S F hp c)(l:F nx)(t:TypeId)(m:o.op=.makeMap t none)(h:(tr T nx (.makeMap t none) vs).wp hp K):eV P S (dz F nx) hp c ρ o K:=by
 simp only[tr]at h;split at h
 ·have a:=GZ c.w (.map #[] 0);have f:=wM (Z':=c.Z) b.fC a (λ_ _ z=>z);have d:=xo (Z':=c.Z) b a (λ_ _ z=>z) (λ_ _ z=>.inl z);have g:=wa (c:=⟨c.w.alloc (.map #[] 0),c.Z,c.hb⟩) (x:=some (c.w.heap.size,0)) (d.fresh _ l);refine⟨_,_,h,.map (some c.w.heap.size),RC.named ⟨c.w.alloc (.map #[] 0),c.Z,c.hb⟩ nx (some (c.w.heap.size,0)),.inl ?_,f.trans g,wY d l ?_ ?_,c.w.heap.size,0,fc _ _ _,rr⟩
  ·unfold execOp;simp[m,Instr.makeMap,newObj];rfl
  ·exact⟨c.w.heap.size,#[],0,fc _ _ _,.inl b.fL.size,heap_alloc_new _ _,rr,rr,λ_ o z=>Nat.lt_irrefl _ (b.fC _ o z),(λh=>by cases h),rr,λi e p=>by simp at p⟩
  ·intro j bj y z s k q r;cases r;have:=((b.dK j bj k).at (B:=y.1) (n:=y.2) q).2.lt;show y.1≠c.w.heap.size
   omega
 ·exact False.elim h
theorem zi{t:TypeId}{x:Value}{n:Nat}{args:Array Operand}{b:Array TypeId}{a:Operand}(d:args.toList=[a])(e:b.toList=[t])(f:ρ a=x)(g:o.op=.call ⟨.builtin .len,args,b⟩)
 (h:∀ty,(Builtin.len_ #[t] ty #[x]).run P c.w=.ok (goInt n) c.w):HQ P ρ o c.w (.int .i64 n) c.w:=by
 left
 have e1:args=#[a]:=E1 d
 have e2:b=#[t]:=E1 e
 subst e1 e2
 unfold execOp
 simp[g,resolve,invoke,builtin,f,h,goInt]
theorem aiV(u:dV P T)(m:bU S F hp c)(C:F nx)(b:Builtin)(args:Array Operand)(l:Array TypeId)(hv:aM vs c (args.toList.map ρ))(r:o.op=.call ⟨.builtin b,args,l⟩)(h:(Jj T nx b l.toList vs).wp hp K):eV P S (dz F nx) hp c ρ o K:=by
 unfold Jj at h;split at h
 ·rename_i p t et;obtain⟨x,g⟩:∃x,args.toList=[x]:=by
   have:=hv.length;rw[c8]at this;exact J1.1 this
  rw[g]at hv;have A:=jj hv;unfold Lp at h;split at h
  ·rename_i e2;obtain⟨i,_⟩:=A;obtain⟨d,v,_,rfl⟩:=(u t _ e2).de;have z:=run_underlying (P:=P) v c.w;exact dl m h ⟨rr,rr⟩ (zi g et i r λty=>by simp[Builtin.len_,z])
  ·rename_i e2;obtain⟨vs,r1,a,cap,i,_⟩:=A;rw[r1.length]at i;obtain⟨d,v,_,rfl⟩:=(u t _ e2).de;have z:=run_underlying (P:=P) v c.w;exact dl m h ⟨rr,rr⟩ (zi g et i r λty=>by simp[Builtin.len_,z])
  ·rename_i e2;obtain⟨d,v,_,rfl⟩:=(u t _ e2).de;have z:=run_underlying (P:=P) v c.w;rcases A with⟨rfl,a,i⟩|⟨B,k,cap,aK,e6,f,_,i,_⟩
   ·exact dl m h ⟨rr,rr⟩ (zi g et i r λty=>by simp[Builtin.len_,z])
   ·exact dl m h ⟨rr,rr⟩ (zi g et i r λty=>by simp[Builtin.len_,z])
  ·rename_i e2;obtain⟨d,v,_,rfl⟩:=(u t _ e2).de;have z:=run_underlying (P:=P) v c.w;obtain⟨B,k,cap,aK,e6,f,_,i,_⟩:=A;exact dl m h ⟨rr,rr⟩ (zi (n:=0) g et i r λty=>by simp[Builtin.len_,z])
  ·exact False.elim h
 ·rename_i px cl ys t t' et;obtain⟨x,y,g⟩:∃x y,args.toList=[x,y]:=by
   have:=hv.length;rw[c8]at this;exact wG this
  rw[g]at hv;obtain⟨i,s⟩:=gW hv;obtain rfl:args=#[x,y]:=E1 g;obtain rfl:l=#[t,t']:=E1 et;exact anB u m C x y t t' i s r h
 ·rename_i j lo len j' lo' len' t t' et;obtain⟨x,y,g⟩:∃x y,args.toList=[x,y]:=by
   have:=hv.length;rw[c8]at this;exact wG this
  rw[g]at hv;obtain rfl:args=#[x,y]:=E1 g;obtain⟨i,s⟩:=gW hv;obtain rfl:l=#[t,t']:=E1 et;have e:t=t':=by
   unfold wZ at h;split at h
   ·rename_i e;exact n9 e
   ·exact False.elim h
  subst e;refine XI u m false x y t (λh1=>?_) s r h;rcases i with⟨rfl,_⟩|i
  ·rcases h1 with h1|h1
   ·cases h1
   ·omega
  ·exact i
 ·rename_i j lo j' lo' len' t t' et;obtain⟨x,y,g⟩:∃x y,args.toList=[x,y]:=by
   have:=hv.length;rw[c8]at this;exact wG this
  rw[g]at hv;obtain rfl:args=#[x,y]:=E1 g;obtain⟨i,s⟩:=gW hv;obtain rfl:l=#[t,t']:=E1 et;have e:t=t':=by
   unfold wZ at h;split at h
   ·rename_i e;exact n9 e
   ·exact False.elim h
  subst e;refine XI u m true x y t (λ_=>?_) s r h;obtain⟨B,k,cap,aK,e,f,h1,h2,D,E,G⟩:=i;exact⟨B,k,cap,aK,e,f,h1,h2,j9 _,D,E,G⟩
 ·rename_i j len kd q t t' et;obtain⟨x,y,g⟩:∃x y,args.toList=[x,y]:=by
   have:=hv.length;rw[c8]at this;exact wG this
  rw[g]at hv;obtain rfl:args=#[x,y]:=E1 g;obtain⟨i,s,_⟩:=gW hv;obtain rfl:l=#[t,t']:=E1 et;exact ab6 u m C x y t t' i s r h
 ·rename_i p t et;obtain⟨x,g⟩:∃x,args.toList=[x]:=by
   have:=hv.length;rw[c8]at this;exact J1.1 this
  rw[g]at hv;obtain rfl:args=#[x]:=E1 g;obtain rfl:l=#[t]:=E1 et;exact ajt u m x t (jj hv) r h
 ·rename_i p t et;obtain⟨x,g⟩:∃x,args.toList=[x]:=by
   have:=hv.length;rw[c8]at this;exact J1.1 this
  rw[g]at hv;obtain rfl:args=#[x]:=E1 g;obtain rfl:l=#[t]:=E1 et;exact aln u m x t (jj hv) r h
 ·rename_i p q t t' et;obtain⟨x,y,g⟩:∃x y,args.toList=[x,y]:=by
   have:=hv.length;rw[c8]at this;exact wG this
  rw[g]at hv;obtain rfl:args=#[x,y]:=E1 g;obtain⟨i,s⟩:=gW hv;obtain rfl:l=#[t,t']:=E1 et;split at h
  ·rename_i e;obtain rfl:=n9 e;exact alT u m x y t i s r h
  ·exact False.elim h
 ·rename_i k a k' b _;obtain⟨x,y,g⟩:∃x y,args.toList=[x,y]:=by
   have:=hv.length;rw[c8]at this;exact wG this
  rw[g]at hv;obtain⟨⟨i,_⟩,s,_⟩:=gW hv;obtain⟨d,v,h⟩:=h;refine dl m h ⟨rr,rr⟩ (.inl ?_);have e1:args=#[x,y]:=E1 g;subst e1;rw[<-v];unfold execOp;simp[r,resolve,invoke,builtin,i,s,Builtin.min_,Builtin.min2]
 ·rename_i k a k' b _;obtain⟨x,y,g⟩:∃x y,args.toList=[x,y]:=by
   have:=hv.length;rw[c8]at this;exact wG this
  rw[g]at hv;obtain⟨⟨i,_⟩,s,_⟩:=gW hv;obtain⟨d,v,h⟩:=h;refine dl m h ⟨rr,rr⟩ (.inl ?_);have e1:args=#[x,y]:=E1 g;subst e1;rw[<-v];unfold execOp;simp[r,resolve,invoke,builtin,i,s,Builtin.max_,Builtin.max2]
 ·exact False.elim h
theorem aee(d:bU S F hp c)(f:Fn)(a b:Array Operand)(hv:aM vs c ((a++b).toList.map ρ))(e:o.op=.makeFunc f a b)(h:(tr T nx (.makeFunc f a b) vs).wp hp K):eV P S (dz F nx) hp c ρ o K:=by
 cases f with
 |func f=>
  simp only[tr]at h;split at h
  ·rename_i e1;have g:a=#[]:=by cases a;simp_all
   subst g;rw[Array.empty_append]at hv;refine dl d h ⟨_,rr,hv⟩ (.inl ?_);unfold execOp;have i:Array.map ρ b=(List.map ρ b.toList).toArray:=E1 (by simp);simp only[e,Instr.makeFunc,Sem.run_bind,Sem.run_pure,Result.andThen_ok,i,Array.map_empty]
  ·rename_i y x e1 e2;obtain rfl:a=#[y]:=by cases a;simp_all
   obtain rfl:b=#[]:=by cases b;simp_all
   obtain⟨u,us,e3,r1,r2⟩:=hv;cases r2;have e3:ρ y=u:=by simpa using e3
   subst e3;refine dl d h ⟨_,rr,r1⟩ (.inl ?_);unfold execOp;simp[e,Instr.makeFunc]
  ·exact False.elim h
 |_=>exact False.elim h
theorem Qq:∀{us:List Value},(∀v∈us,v.oneCell'=true)->(∀v∈us,v.cells.size=1)/\bV us=us
 | [],_=>⟨λ_ h=>(by cases h),rr⟩
 |u::us,h=>by
  obtain⟨h1,h2⟩:=Qq λv hv=>h v (j3 _ hv)
  have a:u.cells=#[u]:=by
   have:=h u j6
   cases u<;>first|rfl|cases this
  refine⟨λv hv=>?_,?_⟩
  ·rcases p9.1 hv with rfl|hv
   ·rw[a];rfl
   ·exact h1 v hv
  ·show u.cells.toList++bV us=_
   rw[a,h2];rfl
theorem aly(i:dV P T)(j:bU S F hp c)(t:TypeId)(x:Operand)(lo hi mx:Option Operand){n:Nat}{e:TypeId}{sz:Nat}{ag eq:Bool}{z:PV}(d:T t=some ⟨sz,ag,z,.aK n e,eq⟩)(hv:aM vs c (ρ x::(lo.toList++hi.toList++mx.toList).map ρ))(k:o.op=.slice t x lo hi mx)(h:(Jt T n e lo.isSome hi.isSome mx.isSome vs).wp hp K):eV P S (dz F nx) hp c ρ o K:=by
 unfold Jt at h;split at h
 ·rename_i p z' kd' eq' h1 h2 m q;obtain rfl:lo=none:=by cases lo with|none=>rfl|some _=>cases h1
  obtain rfl:hi=none:=by cases hi with|none=>rfl|some _=>cases h2
  obtain rfl:mx=none:=by cases mx with|none=>rfl|some _=>cases m
  simp only[Tr.wp]at h;split at h
  ·rename_i rs l r;have a:=mN j l 200 r (λ_ h=>h) hv;rw[RC.xT]at a;have f:=j.fx l;split at h
   ·rename_i cs;split at h
    ·rename_i s u;simp only[Tr.wp]at h;obtain⟨v,E,e1,r1,r2⟩:=a;injection e1 with e1 _
     obtain⟨b,bZ,us,e2,r3,y⟩:=r1;have A:ρ x=.pointer (some ⟨b,bZ,none⟩):=e1.trans e2;obtain⟨d',B,_,rfl⟩:=(i t _ d).de;have C:us.length=n:=by rw[r3.length];exact n9 s
     obtain⟨o1,o2⟩:=Qq (aM.DS r3 u);refine⟨_,_,h,.slice (some ⟨b,bZ,none⟩) n n,jc hp c l,.inl ?_,qV hp c l,?_,?_⟩
     ·have D:=run_underlying (P:=P) B c.w;have g:=(i e _ q).size c.w;have hb:(Instr.sliceBounds false n n none none none).run P c.w=.ok (0,n,n) c.w:=by
       simp[Instr.sliceBounds]
      unfold execOp;simp[k,A,Instr.sliceAt,Instr.sureAddr,D,hb,g,Addr.add_lit];rfl
     ·rw[wH];exact f.up λ_ h=>h.1
     ·exact⟨us,r3,some ⟨b,bZ,none⟩,n,by rw[C],om,(λe=>by cases e),.inr ⟨b,bZ,1,rr,o1,by rw[o2];exact y⟩⟩
    ·exact False.elim h
   ·exact False.elim h
  ·exact False.elim h
 ·exact False.elim h
theorem Xq{c:RC}:∀{b:List PV} {vs:List Value} {l:List Int},Dz b=some l->aM b c vs->vs=l.map (Value.int .u8)
 | [],vs,l,h,r=>by cases h;exact r
 |p::b,vs,l,h,r=>by
  unfold Dz at h
  split at h
  ·rename_i hp;cases hp
  ·rename_i n l' hp
   injection hp with h1 h2
   subst h1 h2
   split at h
   ·rename_i r' a
    cases h
    obtain⟨v,d,rfl,⟨rfl,_⟩,r2⟩:=r
    rw[Xq a r2];rfl
   ·cases h
  ·cases h
theorem Qi:∀l:List Int,bV (l.map (Value.int .u8))=l.map (Value.int .u8)
 | []=>rfl
 |x::l=>by show[Value.int .u8 x]++bV (l.map (Value.int .u8))=_;rw[Qi l];rfl
theorem amL(q:dV P T)(I:bU S F hp c)(t u:TypeId)(x:Operand){e:TypeId}{sz E:Nat}{ag H eq G:Bool}{z z2:PV}{p:PV}(e1:T t=some ⟨sz,ag,z,.sl e,eq⟩)(e2:T u=some ⟨E,H,z2,.qe,G⟩)(hv:aM [p] c [ρ x])(J:o.op=.convert t u x)(h:(FI T e p).wp hp K):eV P S (dz F nx) hp c ρ o K:=by
 unfold FI at h;split at h
 ·rename_i L;simp only[Tr.wp]at h;split at h
  ·rename_i rs l M;have g:=mN I l 200 M (λ_ h=>h) hv;rw[RC.xT]at g;have s:=I.fx l;split at h
   ·rename_i cl r rows;split at h
    ·rename_i ns N;simp only[Tr.wp]at h;obtain⟨v,V,e3,r1,r2⟩:=g;injection e3 with e3 _
     obtain⟨us,d,a,cap,y,O,_,A⟩:=r1;have j:=Xq N d;have Q:us.length=ns.length:=by rw[j,c8]
     rcases A with m|⟨b,off,k,rfl,W,R⟩
     ·rw[m]at d;obtain⟨_,_,e4,_⟩:=d;cases e4
     obtain⟨d1,B,_,rfl⟩:=(q t _ e1).de;obtain⟨d2,C,_,rfl⟩:=(q u _ e2).de;obtain⟨d3,D,_,rfl⟩:=(q e _ L).de;have U:ρ x=.slice (some ⟨b,off,none⟩) us.length cap:=e3.trans y;refine⟨_,_,h,.string (xM ns),jc hp c l,.inl ?_,qV hp c l,?_,⟨rr,rr⟩⟩
     ·have f:∀i,i<ns.length->c.w.cell? ⟨b,off+i,none⟩=some (.int .u8 (ns.getD i 0)):=λi hi=>by
       have:=(R i (.int .u8 (ns.getD i 0)) (by
        rw[j,Qi,A6,j8 hi,y5,j8 hi];rfl)).2
       exact this
      have n:=Go.run_convert_bytes_arg (P:=P) c.w t e B D b off us.length cap ns Q.symm (λi hi=>f i om) u C;unfold execOp;simp[J,U,n];exact⟨rr,rr⟩
     ·rw[wH];exact s.up λ_ h=>h.1
    ·exact False.elim h
   ·exact False.elim h
  ·exact False.elim h
 ·exact False.elim h
theorem Zo(e:dV P T)(g:bU S F hp c)(t u:TypeId)(x:Operand)(hv:aM vs c [ρ x])(i:o.op=.convert t u x)(h:(tr T nx (.convert t u x) vs).wp hp K):eV P S (dz F nx) hp c ρ o K:=by
 simp only[tr]at h;split at h
 ·rename_i k1 _ _ _ _ k2 _ k3 a e1 e2;obtain⟨b,hb,h⟩:=h;obtain⟨d,j,_,rfl⟩:=(e t _ e1).de;obtain⟨d2,f,_,rfl⟩:=(e u _ e2).de;obtain⟨k,_⟩:=jj hv;refine dl g h ⟨rr,rr⟩ (.inl ?_);rw[<-hb];unfold execOp;have l:(convert t u (.int k3 a)).run P c.w=.ok (.int k2 (k2.wrap a)) c.w:=by simp[convert,run_underlying j,run_underlying f,Conv.intToInt]
  simp[i,k,l]
 ·rename_i e1 e2;exact amL e g t u x e1 e2 hv i h
 ·exact False.elim h
theorem aeI(j:dV P T)(d:bU S F hp c)(k:F nx){ev:Operand->Option PV}(m:∀x p,ev x=some p->bW p c (ρ x))(n:∀v,ρ (.const v)=v){op:Op}(g:o.op=op)(h:act T nx op ev hp K):eV P S (dz F nx) hp c ρ o K:=by
 unfold act at h;split at h
 ·rename_i vs e;have hv:=xV m e;cases op with
  |move x=>exact Lu d x hv (.inl g) h
  |assign x=>exact Lu d x hv (.inr g) h
  |pick x a b=>exact abf d x a b hv g h
  |alloc t=>exact akK j d k t g h
  |box t x=>exact adA d k t x hv g h
  |load t x=>exact ais j d t x hv g h
  |store t x y=>exact afy j d t x y hv g h
  |fieldAddr t x f=>exact ady j d t x f hv g h
  |indexAddr t x y=>exact akX j d t x y hv g h
  |extract x i=>exact ajv d x i hv g h
  |unOp u t x=>exact aaH d u t x hv g h
  |binOp b t x y t2=>exact adU j d b t t2 x y (λv A=>by rw[A];exact n v) hv g h
  |index t x y=>exact ZI j d t x y hv g h
  |field t x f=>exact aok j d t x f hv g h
  |slice t x lo hi mx=>
   have:(Op.slice t x lo hi mx).operands.toList=x::(lo.toList++hi.toList++mx.toList):=by
    simp[Op.operands]
   rw[this]at hv;simp only[tr]at h;split at h
   ·rename_i s;exact aly j d t x lo hi mx s hv g h
   ·exact abY j d t x lo hi mx hv g h
  |makeInterface t x=>exact abX j d t x hv g h
  |nilCheck x=>exact ZJ d x hv g h
  |typeAssert x xt t ok=>exact adX j d x xt t ok hv g h
  |convert t u x=>exact Zo j d t u x hv g h
  |lookup t x y ok=>exact ags j d t x y ok hv g h
  |insert t x y z=>exact WK j d t x y z hv (.inl g) h
  |mapUpdate t x y z=>exact WK j d t x y z hv (.inr g) h
  |makeSlice t x y=>exact abh j d k t x y hv g h
  |makeMap t r=>
   cases r with
   |none=>exact ZR d k t g h
   |some r=>exact False.elim h
  |call q=>
   obtain⟨w,args,l⟩:=q;cases w with
   |builtin b=>
    refine aiV j d k b args l ?_ g h;have:(Op.call ⟨.builtin b,args,l⟩).operands.toList=args.toList:=by simp[Op.operands,Call.operands]
    rw[this]at hv;exact hv
   |_=>exact False.elim h
  |build t parts=>exact ak9 j d t parts (by have:=hv;simp only[Op.operands]at this;exact this) g h
  |buildSlice t len parts=>exact ad8 j d t len parts (by have:=hv;simp only[Op.operands]at this;exact this) g h
  |makeFunc f a b=>exact aee d f a b hv g h
  |_=>exact False.elim h
 ·exact h.elim
end
def dJ{α:Type}(q:α->Prop):List α->Prop
 | []=>True
 |x::l=>q x/\dJ q l
theorem dJ.mem{α:Type}{q:α->Prop}:∀{l:List α},dJ q l->∀x∈l,q x
 |y::l,h,x,a=>by
  rcases p9.1 a with rfl|a
  ·exact h.1
  ·exact dJ.mem h.2 x a
def od(w w':World)(Z:Nat->Nat->Prop)(b o:Nat):Prop:=Z b o\/(w.heap.size<=b/\b<w'.heap.size)
def kS(P:Program)(G:World->Prop)(f:FuncId)(args:List PV)(post:PV->Prop):Prop:=
 (∀args w,(callFunc f args).run P w=.ok (.enter f args) w)/\
 ∀(w:World) (Z:Nat->Nat->Prop) (vs:List Value),G w->(∀b o,Z b o->b<w.heap.size)->aM args ⟨w,Z,λ_=>none⟩ vs->
  Calls P f vs.toArray w λe w'=>∃r v,e=.returned v/\post r/\bW r ⟨w',od w w' Z,λ_=>none⟩ v/\Below w.heap.size w w'
structure HC(P:Program)(G:World->Prop)(f:FuncId)(args:List PV)(bs:List (Nat×aI))(nx:Nat)(post:PV->cU->Prop):Prop where
 enter:∀args w,(callFunc f args).run P w=.ok (.enter f args) w
 run:∀{S:dr} {F:Nat->Prop} {hp:Nat->Option aI} {c:RC} {vs:List Value},S.G=G->F nx->bU S F hp c->dJ (λx:Nat×aI=>hp x.1=some x.2) bs->aM args c vs->
  Calls P f vs.toArray c.w λe w'=>∃r d v c',e=.returned v/\c'.w=w'/\post r d/\tw S (dz F nx) (eY hp d) c c' r v
def qS(hp:Nat->Option aI)(l:List Nat)(r:PV):cU:=match r.bare with|true=>[]|false=>nk hp l
structure XC(P:Program)(f:FuncId)(args:List PV)(bs:List (Nat×aI))(r:PV):Prop where
 run:∀{S:dr} {F:Nat->Prop} {hp:Nat->Option aI} {c:RC} {vs:List Value},bU S F hp c->dJ (λx:Nat×aI=>hp x.1=some x.2) bs->aM args c vs->∃v,(callFunc f vs.toArray).run P c.w=.ok (.value v) c.w/\bW r c v
structure bu(P:Program)(G:World->Prop)(hp:Nat->Option aI)(nx:Nat)(f:FuncId)(args:List PV)(k:PV->cU->Prop):Prop where
 h:(∃n rs l post,eH [] n hp args=some (rs,l)/\kS P G f rs post/\∀r,post r->k r (qS hp l r))\/
  (∃X n rs l bs post,eH X n hp args=some (rs,l)/\dJ (λx:Nat×aI=>fx hp l x.1=some x.2) bs/\HC P G f rs bs nx post/\∀r d,post r d->k r (d++nk hp l))\/
  ∃X n rs l bs r,eH X n hp args=some (rs,l)/\dJ (λx:Nat×aI=>fx hp l x.1=some x.2) bs/\XC P f rs bs r/\k r (nk hp l)
section
variable {P:Program}{G:World→Prop}{hp:Nat→Option aI}{nx:Nat}
theorem bu.is{f:FuncId}{args rs:List PV}{l:List Nat}{k:PV->cU->Prop}{r:PV}(h:kS P G f rs (·=r))(a:k r (qS hp l r))(b:eH [] 200 hp args=some (rs,l):=by exact rr):bu P G hp nx f args k:=⟨.inl ⟨200,rs,l,_,b,h,λ_ e=>e▸a⟩⟩
theorem bu.by{n:Nat}{f:FuncId}{args rs:List PV}{l:List Nat}{k:PV->cU->Prop}{r:PV}(h:kS P G f rs (·=r))(a:eH [] n hp args=some (rs,l))(b:k r (qS hp l r)):bu P G hp nx f args k:=⟨.inl ⟨n,rs,l,_,a,h,λ_ e=>e▸b⟩⟩
theorem bu.some{f:FuncId}{args rs:List PV}{l:List Nat}{k:PV->cU->Prop}{post:PV->Prop}(h:kS P G f rs post)(a:∀r,post r->k r (qS hp l r))(b:eH [] 200 hp args=some (rs,l):=by exact rr):bu P G hp nx f args k:=⟨.inl ⟨200,rs,l,_,b,h,a⟩⟩
theorem bu.bH(X:List Nat){n:Nat}{f:FuncId}{args a:List PV}{l':List Nat}{k:PV->cU->Prop}{bs:List (Nat×aI)}{r:PV}{d:cU}(h:HC P G f a bs nx λr' d'=>r'=r/\d'=d)(b:eH X n hp args=.some (a,l'))(hb:dJ (λx:Nat×aI=>fx hp l' x.1=.some x.2) bs)(c:k r (d++nk hp l')):bu P G hp nx f args k:=
 ⟨.inr (.inl ⟨X,n,a,l',bs,_,b,hb,h,λ_ _ e=>by rw[e.1,e.2];exact c⟩)⟩
theorem bu.ext(X:List Nat){n:Nat}{f:FuncId}{args a:List PV}{l':List Nat}{k:PV->cU->Prop}{bs:List (Nat×aI)}{r:PV}(h:XC P f a bs r)(b:eH X n hp args=.some (a,l'))(hb:dJ (λx:Nat×aI=>fx hp l' x.1=.some x.2) bs)(c:k r (nk hp l')):bu P G hp nx f args k:=
 ⟨.inr (.inr ⟨X,n,a,l',bs,r,b,hb,h,c⟩)⟩
end
structure tE(P:Program)(t:TypeId)(name:String)(k:FuncId->Prop):Prop where
 h:∃g,(∀x w,(Go.method (P.types.size+Made.depth) t x name).run P w=.ok (g,x) w)/\k g
theorem tE.is{P:Program}{t:TypeId}{name:String}{k:FuncId->Prop}(g:FuncId)(h:∀x w,(Go.method (P.types.size+Made.depth) t x name).run P w=.ok (g,x) w)(a:k g):tE P t name k:=⟨g,h,a⟩
structure gQ(t:Bool)(A B:Prop):Prop where
 h1:t=true->A
 h2:t=false->B
theorem gQ.t{t:Bool}{A B:Prop}(h:t=true)(a:A):gQ t A B:=⟨λ_=>a,λe=>(by rw[h]at e;cases e)⟩
theorem gQ.f{t:Bool}{A B:Prop}(h:t=false)(b:B):gQ t A B:=⟨λe=>(by rw[h]at e;cases e),λ_=>b⟩
inductive Ex where
 |normal|ret|exit (i:Nat)
def Ex.to:Ex->Exit
 |.normal=>.normal
 |.ret=>.ret
 |.exit i=>.exit i
def qN(n:Nat)(bD:Nat->Option PV)(hp:Nat->Option aI)(d:Option Nat)(v:PV)(k:AS->Prop):Prop:=
 match d with
 |none=>k ⟨bD,hp⟩
 |some d=>match Nat.ble (d+1) n with|true=>k ⟨da bD d (some v),hp⟩|false=>False
def nz(n:Nat)(s:AS)(d:Option Nat)(v:PV)(k:AS->Prop):Prop:=match s with|⟨bD,hp⟩=>qN n bD hp d v k
theorem BU(n:Nat)(s:AS)(d:Option Nat)(v:PV)(k:AS->Prop):nz n s d v k=match d with
 |none=>k s
 |some d=>match Nat.ble (d+1) n with|true=>k ⟨da s.bD d (some v),s.hp⟩|false=>False:=by cases s;rfl
def tL(all:List Oper)(s:AS)(j:Nat)(want:Bool):Option Bool:=
 match PV.cR all j with
 |some o=>match o.dst with
  |some d=>match s.bD d with
   |some (.at (.bool b))=>match b,want with
    |true,true|false,false=>some true
    |_,_=>some false
   |some (.aU [])=>some false
   |_=>none
  |none=>none
 |none=>none
section
variable (P:Program)(G:World→Prop)(T:TT)
def ZY(n nx:Nat)(o:Oper)(bD:Nat->Option PV)(hp:Nat->Option aI)(k:AS->Prop):Prop:=
 match o.op with
 |.call ⟨.value f,args,_⟩=>match kJ bD f,gj (kJ bD) args.toList with
  |some (.fn g ir),some ps=>bu P G hp nx g (ps++ir) λr d=>qN n bD (eY hp d) o.dst r k
  |some (.mv g v),some ps=>bu P G hp nx g (v::ps) λr d=>qN n bD (eY hp d) o.dst r k
  |_,_=>False
 |.call ⟨.invoke x name,args,_⟩=>match kJ bD x,gj (kJ bD) args.toList with
  |some (.fm t v),some ps=>tE P t name λg=>bu P G hp nx g (v::ps) λr d=>qN n bD (eY hp d) o.dst r k
  |_,_=>False
 |op=>act T nx op (kJ bD) hp λv d=>qN n bD (eY hp d) o.dst v k
def tZ(n nx:Nat)(o:Oper)(s:AS)(k:AS->Prop):Prop:=match s with|⟨bD,hp⟩=>ZY P G T n nx o bD hp k
theorem Kk(n nx:Nat)(o:Oper)(s:AS)(k:AS->Prop):tZ P G T n nx o s k=match o.op with
 |.call ⟨.value f,args,_⟩=>match s.ev f,gj s.ev args.toList with
  |some (.fn g ir),some ps=>bu P G s.hp nx g (ps++ir) λr d=>nz n ⟨s.bD,eY s.hp d⟩ o.dst r k
  |some (.mv g v),some ps=>bu P G s.hp nx g (v::ps) λr d=>nz n ⟨s.bD,eY s.hp d⟩ o.dst r k
  |_,_=>False
 |.call ⟨.invoke x name,args,_⟩=>match s.ev x,gj s.ev args.toList with
  |some (.fm t v),some ps=>tE P t name λg=>bu P G s.hp nx g (v::ps) λr d=>nz n ⟨s.bD,eY s.hp d⟩ o.dst r k
  |_,_=>False
 |op=>act T nx op s.ev s.hp λv d=>nz n ⟨s.bD,eY s.hp d⟩ o.dst v k:=by cases s;rfl
def oW(n:Nat)(all:List Oper):List Oper->Nat->AS->(Nat->AS->Prop)->Prop
 | [],nx,s,k=>k nx s
 |o::os,nx,s,k=>
  match o.guard with
  |none=>tZ P G T n nx o s λs=>oW n all os (nx+1) s k
  |some (j,want)=>match tL all s j want with
   |some true=>tZ P G T n nx o s λs=>oW n all os (nx+1) s k
   |some false=>nz n s o.dst (.aU []) λs=>oW n all os (nx+1) s k
   |none=>False
end
theorem FL{bD:Nat->Option PV}{c:RC}{a:Act}(b:∀t p,bD t=some p->∃v,a.tmps[t]? = some v/\bW p c v)(x:Operand)(p:PV)(h:kJ bD x=some p):bW p c (a.eval x):=by
 cases x with
 |tmp t=>
  obtain⟨v,hv,d⟩:=b t p h;have:a.eval (.tmp t)=v:=by simp[Act.eval,B6,hv]
  rw[this];exact d
 |const v=>
  unfold kJ at h;split at h
  ·rename_i e;cases e
  ·rename_i e;cases e;cases h;exact⟨[],rr,none,0,rr,j2 _,λ_=>rfl,.inl rr⟩
  ·rename_i e;cases e;split at h
   ·cases h;exact⟨rr,by assumption⟩
   ·cases h
  ·rename_i e;cases e
  ·rename_i e;cases e
 |func f=>cases h;exact⟨[],rr,rr⟩
 |global g=>cases h
structure eM(S:dr)(n:Nat)(F:Nat->Prop)(s:AS)(a:Act)(c:RC):Prop where
 dT:bU S F s.hp c
 size:a.tmps.size=n
 bD:∀t p,s.bD t=some p->∃v,a.tmps[t]? = some v/\bW p c v
 defers:a.defers=S.D
theorem eM.up{S:dr}{n:Nat}{F F':Nat->Prop}{s:AS}{a:Act}{c:RC}(h:eM S n F s a c)(b:∀j,F' j->F j):eM S n F' s a c:=⟨h.dT.up b,h.size,h.bD,h.defers⟩
theorem tz{S:dr}{n:Nat}{F F':Nat->Prop}{s:AS}{a:Act}{c c':RC}{k:AS->Prop}(f:eM S n F s a c)(l:cI c c'){g:Nat->Option aI}(j:bU S F' g c'){p:PV}{v:Value}(m:bW p c' v)(d:Option Nat)
 (h:nz n ⟨s.bD,g⟩ d p k):∃s',k s'/\eM S n F' s' (a.put d v) c':=by
 have b:∀t p,s.bD t=some p->∃v,a.tmps[t]? = some v/\bW p c' v:=λt p e=>by
  obtain⟨v,h1,h2⟩:=f.bD t p e
  exact⟨v,h1,bW.ext p l h2⟩
 cases d with
 |none=>exact⟨_,h,j,f.size,b,f.defers⟩
 |some d=>
  rw[BU]at h
  dsimp only at h
  split at h
  ·rename_i o
   have r:=o9 o
   refine⟨_,h,j,by simp[Act.put,f.size],λt q e=>?_,f.defers⟩
   replace e:da s.bD d (some p) t=some q:=e
   by_cases i:t=d
   ·subst i
    rw[fc]at e;cases e
    have w:t<a.tmps.size:=by have:=f.size;omega
    exact⟨v,by simp[Act.put,w],m⟩
   ·rw[fU _ _ i]at e
    obtain⟨u,h1,h2⟩:=b t q e
    exact⟨u,by simp[Act.put,Ne.symm i,h1],h2⟩
  ·exact h.elim
theorem wq{α:Type}:∀{l:List α} {j:Nat} {x:α},PV.cR l j=some x->l[j]? = some x
 | [],j,_,h=>by cases j<;>cases h
 |_::_,0,_,h=>by cases h;rfl
 |_::l,j+1,_,h=>by have:=wq (l:=l) h;simpa using this
theorem GH{c:RC}{w':World}(a:∀b o,c.Z b o->b<c.w.heap.size)(hb:Below c.w.heap.size c.w w'):cI c ⟨w',od c.w w' c.Z,c.hb⟩:=wM a hb λ_ _ z=>.inl z
theorem II{S:dr}{F:Nat->Prop}{hp:Nat->Option aI}{c:RC}{w':World}(h:bU S F hp c)(hb:Below c.w.heap.size c.w w'):bU S F hp ⟨w',od c.w w' c.Z,c.hb⟩:=xo h hb (λ_ _ z=>.inl z) λ_ _ z=>z
theorem Ky(hp:Nat->Option aI):∀d e:cU,eY hp (d++e)=eY (eY hp e) d
 | [],_=>rfl
 |(j,b)::d,e=>by show da (eY hp (d++e)) j b=da (eY (eY hp e) d) j b;rw[Ky hp d e]
theorem GR{P:Program}{G:World->Prop}{S:dr}{F:Nat->Prop}{hp:Nat->Option aI}{nx:Nat}{c:RC}{g:FuncId}{args:List PV}{k:PV->cU->Prop}{vs:List Value}(hG:S.G=G)(E:F nx)(i:bU S F hp c)(hv:aM args c vs)
 (h:bu P G hp nx g args k):((∀args w,(callFunc g args).run P w=.ok (.enter g args) w)/\Calls P g vs.toArray c.w λe w'=>∃r d v c',e=.returned v/\c'.w=w'/\k r d/\tw S (dz F nx) (eY hp d) c c' r v)\/∃r d v c',(callFunc g vs.toArray).run P c.w=.ok (.value v) c'.w/\k r d/\tw S (dz F nx) (eY hp d) c c' r v:=by
 rcases h.h with⟨n,rs,l,post,H,⟨z,q⟩,f⟩|⟨X,n,D,l',bs,post,t,hb,y,f⟩|⟨X,n,D,l',bs,r,t,hb,y,m⟩
 ·have b:=mN i l n H (λ_ h=>h) hv
  rw[RC.xT]at b
  have a:=i.fx l
  refine .inl ⟨z,(q c.w (jc hp c l).Z _ (hG▸S.hG i.fL) a.fC b).mono ?_⟩
  rintro e w' ⟨r,v,rfl,o,t,j⟩
  have m:=f r o
  unfold qS at m
  cases p:r.bare
  case true=>
   rw[p]at m
   exact⟨r,[],v,⟨w',od c.w w' c.Z,c.hb⟩,rr,rr,m,GH i.fC j,(II i j).up λ_ h=>h.1,anV r p t⟩
  rw[p]at m
  have A:cI c (jc hp c l):=qV _ _ _
  have B:=GH (c:=jc hp c l) a.fC j
  refine⟨r,_,v,_,rr,rr,m,A.trans B,?_,bW.ext r (cI.ng _) t⟩
  rw[wH]
  exact(II a j).up λ_ h=>h.1
 ·have b:=aM.ext _ (KF _ X) (mN i l' n t (λ_ h=>h) hv)
  have a:=i.fx l'
  refine .inl ⟨y.enter,(y.run hG E a hb b).mono ?_⟩
  rintro e w' ⟨r,d,v,c',rfl,I,o,C⟩
  refine⟨r,_,v,c',rr,I,f r d o,(qV hp c l').trans C.x,?_,C.r⟩
  rw[Ky,wH]
  exact C.s
 ·have b:=aM.ext _ (KF _ X) (mN i l' n t (λ_ h=>h) hv)
  have a:=i.fx l'
  obtain⟨v,u,hv⟩:=y.run a hb b
  refine .inr ⟨r,_,v,_,u,m,qV hp c l',?_,hv⟩
  rw[wH]
  exact a.up λ_ h=>h.1
theorem EC{S:dr}{n:Nat}{F:Nat->Prop}{s:AS}{a:Act}{c:RC}(i:eM S n F s a c){ops:Array Oper}{o:Oper}{j:Nat}{want b:Bool}(l:o.guard=some (j,want))(hb:tL ops.toList s j want=some b):Region.wanted o (yielded ops a.tmps)=b:=by
 unfold tL at hb;unfold Region.wanted;rw[l];split at hb
 ·rename_i o' f;have g:=wq f;rw[w8]at g;split at hb
  ·rename_i d k;split at hb
   ·rename_i b' e;obtain⟨v,hv,rfl,_⟩:=i.bD d _ e;have h:yielded ops a.tmps j=some b':=by unfold yielded;simp[g,k,hv]
    dsimp only;rw[h];cases b'<;>cases want<;>cases hb<;>rfl
   ·rename_i e;obtain⟨v,hv,us,rfl,_⟩:=i.bD d _ e;have h:yielded ops a.tmps j=none:=by unfold yielded;simp[g,k,hv]
    dsimp only;rw[h];cases hb;rfl
   ·cases hb
  ·cases hb
 ·cases hb
section
variable {P:Program}{G:World→Prop}{T:TT}{S:dr}
theorem Um(L:dV P T)(hG:S.G=G){n nx:Nat}{F:Nat->Prop}(J:F nx){o:Oper}{s:AS}{a:Act}{c:RC}{k:AS->Prop}(z:eM S n F s a c)(h:tZ P G T n nx o s k){next:Act->World->Prop}{Q:Exit->Act->World->Prop}
 (D:∀s' a' c',k s'->eM S n (dz F nx) s' a' c'->next a' c'.w):o.wp P a c.w next Q:=by
 have u:=FL z.bD
 have plain:∀{op:Op},o.op=op->act T nx op s.ev s.hp (λv d=>nz n ⟨s.bD,eY s.hp d⟩ o.dst v k)->o.wp P a c.w next Q:=by
  intro op C h
  obtain⟨p,d,i,v,c',b,M,N,O⟩:=aeI L z.dT J u (λ_=>rfl) C h
  obtain⟨s',j,l⟩:=tz z M N O o.dst i
  unfold Oper.wp
  rcases b with b|⟨rfl,b⟩
  ·rw[b];exact D s' _ c' j l
  ·rw[b];exact D s' _ c' j l
 rw[Kk]at h
 split at h
 ·rename_i f args ty C
  split at h
  ·rename_i g ir ps e1 e2
   obtain⟨cs,E,K⟩:=u f _ e1
   have dE:=xV u e2
   have H:(args.map a.eval++cs.toArray)=(args.toList.map a.eval++cs).toArray:=E1 (by simp)
   rcases GR hG J z.dT (aM.tF dE K) h with⟨A,key⟩|⟨r,d,v,c',q,i,m⟩
   ·unfold Oper.wp
    have b:(execOp a.eval o).run P c.w=.ok (.enter g (args.toList.map a.eval++cs).toArray) c.w:=by
     unfold execOp
     simp[C,resolve,E,Deferred.ofValue,invoke,A,H]
    rw[b]
    refine key.mono ?_
    rintro e w' ⟨r,d,v,c',rfl,rfl,i,m⟩
    obtain⟨s',j,l⟩:=tz z m.x m.s m.r o.dst i
    exact D s' _ _ j l
   ·unfold Oper.wp
    have b:(execOp a.eval o).run P c.w=.ok (.value v) c'.w:=by
     unfold execOp
     simp[C,resolve,E,Deferred.ofValue,invoke,q,H]
    rw[b]
    obtain⟨s',j,l⟩:=tz z m.x m.s m.r o.dst i
    exact D s' _ _ j l
  ·rename_i g v0 ps e1 e2
   obtain⟨y,E,I⟩:=u f _ e1
   have dE:=xV u e2
   have H:(#[y]++args.map a.eval)=(y::args.toList.map a.eval).toArray:=E1 (by simp)
   rcases GR hG J z.dT (show aM (v0::ps) c (y::args.toList.map a.eval)from⟨y,_,rfl,I,dE⟩) h with⟨A,key⟩|⟨r,d,v,c',q,i,m⟩
   ·unfold Oper.wp
    have b:(execOp a.eval o).run P c.w=.ok (.enter g (y::args.toList.map a.eval).toArray) c.w:=by
     unfold execOp
     simp[C,resolve,E,Deferred.ofValue,invoke,A,H]
    rw[b]
    refine key.mono ?_
    rintro e w' ⟨r,d,v,c',rfl,rfl,i,m⟩
    obtain⟨s',j,l⟩:=tz z m.x m.s m.r o.dst i
    exact D s' _ _ j l
   ·unfold Oper.wp
    have b:(execOp a.eval o).run P c.w=.ok (.value v) c'.w:=by
     unfold execOp
     simp[C,resolve,E,Deferred.ofValue,invoke,q,H]
    rw[b]
    obtain⟨s',j,l⟩:=tz z m.x m.s m.r o.dst i
    exact D s' _ _ j l
  ·exact h.elim
 ·rename_i x name args ty C
  split at h
  ·rename_i t v0 ps e1 e2
   obtain⟨g,B,h⟩:=h.h
   obtain⟨y,E,I⟩:=u x _ e1
   have dE:=xV u e2
   have H:(#[y]++args.map a.eval)=(y::args.toList.map a.eval).toArray:=E1 (by simp)
   have h0:(#[Value.iface t y]++args.map a.eval)[0]? = some (.iface t y):=by simp[Array.getElem?_append]
   have h1:(args.map a.eval).extract 0 args.size=args.map a.eval:=by
    have:=Array.extract_size (xs:=args.map a.eval)
    rwa [Array.size_map]at this
   rcases GR hG J z.dT (show aM (v0::ps) c (y::args.toList.map a.eval)from⟨y,_,rfl,I,dE⟩) h with⟨A,key⟩|⟨r,d,v,c',q,i,m⟩
   ·unfold Oper.wp
    have b:(execOp a.eval o).run P c.w=.ok (.enter g (y::args.toList.map a.eval).toArray) c.w:=by
     unfold execOp
     simp[C,resolve,E,invoke,callMethod,h0,h1,B,A,H]
    rw[b]
    refine key.mono ?_
    rintro e w' ⟨r,d,v,c',rfl,rfl,i,m⟩
    obtain⟨s',j,l⟩:=tz z m.x m.s m.r o.dst i
    exact D s' _ _ j l
   ·unfold Oper.wp
    have b:(execOp a.eval o).run P c.w=.ok (.value v) c'.w:=by
     unfold execOp
     simp[C,resolve,E,invoke,callMethod,h0,h1,B,q,H]
    rw[b]
    obtain⟨s',j,l⟩:=tz z m.x m.s m.r o.dst i
    exact D s' _ _ j l
  ·exact h.elim
 ·exact plain rr h
theorem Cl(g:dV P T)(hG:S.G=G){n:Nat}{all:List Oper}{Q:Exit->Act->World->Prop}:∀{os:List Oper} {nx:Nat} {s:AS} {a:Act} {c:RC} {k:Nat->AS->Prop},eM S n (ge nx) s a c->oW P G T n all os nx s k->
 (∀m s' a' c',k m s'->eM S n (ge m) s' a' c'->Q .normal a' c'.w)->wpList P all.toArray Q os a c.w
 | [],nx,s,a,c,k,b,h,e=>e nx s a c h b
 |o::os,nx,s,a,c,k,b,h,e=>by
  have go:tZ P G T n nx o s (λs=>oW P G T n all os (nx+1) s k)->Region.wanted o (yielded all.toArray a.tmps)=true->wpList P all.toArray Q (o::os) a c.w:=by
   intro h p
   unfold wpList
   rw[z7 p]
   exact .inl (Um g hG (j2 nx) b h λs' a' c' h' d=>Cl g hG (d.up λj (l:nx+1<=j)=>⟨show nx<=j by omega,om⟩) h' e)
  unfold oW at h
  split at h
  ·rename_i f
   exact go h (by unfold Region.wanted;rw[f])
  ·rename_i j want f
   split at h
   ·rename_i hb
    exact go h (EC b f (by simpa using hb))
   ·rename_i hb
    unfold wpList
    rw[y8 (by rw[EC b f (by simpa using hb)];exact I1)]
    obtain⟨s',i,d⟩:=tz (v:=undef) b (cI.refl c) (b.dT.up (F':=ge (nx+1)) λj l=>Nat.le_of_succ_le l) (show bW (.aU []) c undef from⟨[],rfl,rfl⟩) o.dst h
    exact Cl g hG d i e
   ·exact h.elim
end
end
end Go.Proofs.YtbnonpbnhenkfaaGreatDoor
