/- Part 9 -/
import Derived.Test.YtbnonpbnhenkfaaGreatDoorQ08
import Derived.LoopN
set_option linter.all false
set_option maxRecDepth 1000000
set_option maxHeartbeats 8000000
namespace Go.Proofs.YtbnonpbnhenkfaaGreatDoor
section
open Go.RowKit Go.Proofs.Tryz
abbrev sO(h s:BA):PV:=.agg [st h,st s]
structure aQ.Sz(d:aQ):Prop where
 h0:d.h0.size<=1000000000000
 s0:d.s0.size<=1000000000000
 h1:d.h1.size<=1000000000000
 s1:d.s1.size<=1000000000000
 size:0<=d.size/\d.size<=1000000000
 cy:-1<=d.cy/\d.cy<=1000000000
def afl(n:Int):PC 218 [i64 n] (·=(aQ.new n).pv):=aw func218<|ah
def yQ(h s:BA)(a:h.size<=1000000000000)(b:s.size<=1000000000000):PC 288 [sO h s] (·=st (h++s)):=aw func288<|aq.mk (cX om om)<|ah
def xF(f:Int):PC 287 [i64 f] (·=bo (iU f)):=by
 refine aw func287 ?_;unfold iU;refine aj.aN (λh1=>?_) (λh1=>?_)
 ·rw[show decide (f=0)=true from h1];exact ah
 ·rw[show decide (f=0)=false from h1];exact aj.is (decide (f=1)) rfl<|ah
def abC(d:aQ)(h:d.Sz):PC 319 [d.pv] (·=i64 (d.b_:Nat)):=by
 have g1:=h.h0;have g2:=h.s0;have g3:=h.h1;have g4:=h.s1;refine aw func319<|cV.nI 3<|dQ<|an<|c_<|ak (yQ d.h0 d.s0 h.h0 h.s0) rfl<|cj.intro ((d.h0.size+d.s0.size:Nat):Int) (by rw[cD];exact wrap_i64 om om)<|eL 1<|dQ<|an<|c_<|ak (yQ d.h1 d.s1 h.h1 h.s1) rfl<|cj.intro (d.b_:Int) (by rw[cD];unfold aQ.b_;exact wrap_i64 om om)<|eL 2 ?_;exact aE<|ab<|ah
def zD(d:aQ)(h:d.Sz)(f:Int):PC 229 [d.pv,i64 f] (·=st (d.read f)):=by
 refine aw func229<|ak (xF f) rr ?_;by_cases h0:f=0
 ·subst h0;exact ab<|c_<|ak (yQ d.h0 d.s0 h.h0 h.s0) rfl<|ah
 by_cases h1:f=1
 ·subst h1;exact ab<|c_<|ak (yQ d.h1 d.s1 h.h1 h.s1) rfl<|ah
 have a:iU f=false:=by grind [iU]
 have b:d.read f=aA:=by grind [aQ.read]
 rw[a,b];exact an<|ah
def Kj(k:Int):(if k<0 then(0:Int)else k)=(k.toNat:Int):=om
def JD(k:Int)(s:BA):(if(s.size:Int)<(k.toNat:Int)then(s.size:Int)else(k.toNat:Int))=((nj k s:Nat):Int):=by grind [nj]
def Bf(k:Int)(s:BA):nj k s<=s.size:=F1 _ _
theorem Ew(s:BA)(n:Nat)(h:n<=s.size):(s.extract 0 n).size=n:=by simp_all
def AZ(d:aQ)(h:d.Sz)(k:Int):PC 161 [d.pv,i64 k] (·=(d.fR k).pv):=by
 have c:=Bf k d.s0;have e:=Bf k d.s1;have g1:=h.h0;have g2:=h.s0;have g3:=h.h1;have g4:=h.s1;refine aw func161<|cV.nI 3<|dQ<|an<|c_<|cj.intro (k.toNat:Int) (Kj k)<|cj.intro ((nj k d.s0:Nat):Int) (JD k d.s0)<|aq.mk (show(0:Int)<=((nj k d.s0:Nat):Int)/\((nj k d.s0:Nat):Int)<=(d.s0.size:Int)by omega)<|aq.mk (cX (a:=d.h0) (b:=d.s0.extract 0 (nj k d.s0)) om (by grind [Ew]))<|c_<|az<|eL 1<|dQ<|an ?_;exact c_<|cj.intro (k.toNat:Int) (Kj k)<|cj.intro ((nj k d.s1:Nat):Int) (JD k d.s1)<|aq.mk (show(0:Int)<=((nj k d.s1:Nat):Int)/\((nj k d.s1:Nat):Int)<=(d.s1.size:Int)by omega)<|aq.mk (cX (a:=d.h1) (b:=d.s1.extract 0 (nj k d.s1)) om (by grind [Ew]))<|c_<|az<|eL 2<|aE<|ab<|ah
def ahj(d:aQ)(cy bx:Int):PC 84 [d.pv,i64 cy,i64 bx] (·=(d.mZ cy bx).pv):=aw func84<|cj.intro (max cy (-1)) om<|ah
def aiE(d:aQ):PC 232 [d.pv] (·=({d with down:=false}:aQ).pv):=aw func232<|ah
abbrev f2(p:BA×BA):PV:=sO p.1 p.2
def ab3(d:aQ)(f:Int)(eS:Bool){g:Nat}{cs:List PV}(h:dx cs)(G:BA×BA->BA×BA)(i:iU f=false):PC 291 [d.pv,i64 f,bo eS,.fn g cs] (·=.aU [(d.ed f eS G).1.pv,i64 (d.ed f eS G).2]):=by
 have e:d.ed f eS G=(d,1):=by simp_all [aQ.ed]
 have c:=xF f;rw[i]at c;rw[e];rcases h with rfl|⟨a,rfl⟩|⟨a,b,rfl⟩<;>
 ·exact aw func291<|ak c rfl<|an<|ah
def ajy(size:Int)(h0 s0 h1 s1:BA)(cy bx:Int)(eS:Bool){g:Nat}{cs:List PV}(e:dx cs)(G:BA×BA->BA×BA)(i:PC g (sO h0 s0::cs) (·=f2 (G (h0,s0))))(h:aQ.Sz ⟨size,h0,s0,h1,s1,false,cy,bx⟩)(n:aQ.Sz ⟨size,(G (h0,s0)).1,(G (h0,s0)).2,h1,s1,false,cy,bx⟩):PC 291 [aQ.pv ⟨size,h0,s0,h1,s1,false,cy,bx⟩,i64 0,bo eS,.fn g cs] (·=.aU [(aQ.ed ⟨size,h0,s0,h1,s1,false,cy,bx⟩ 0 eS G).1.pv,i64 (aQ.ed ⟨size,h0,s0,h1,s1,false,cy,bx⟩ 0 eS G).2]):=by
 have j:=AZ ⟨size,(G (h0,s0)).1,(G (h0,s0)).2,h1,s1,false,cy,bx⟩ n bx;have k:=AZ ⟨size,h0,s0,h1,s1,false,cy,bx⟩ h bx;have l:aQ.gU ⟨size,h0,s0,h1,s1,false,cy,bx⟩ 0 G=⟨size,(G (h0,s0)).1,(G (h0,s0)).2,h1,s1,false,cy,bx⟩:=rfl;have c:=xF 0;have m:=h.cy;dsimp only at m;unfold aQ.ed;rw[show iU 0=true from rr,l];dsimp only;by_cases d:cy=0
 ·subst d;cases eS
  case true=>
   rcases e with rfl|⟨a,rfl⟩|⟨a,b,rfl⟩<;>
   ·exact aw func291<|ak c rfl<|ab<|ab<|c_<|ak i rfl<|c_<|aj.t (show(0:Int)=0 by rfl)<|ab<|aj.t (show(0:Int)=0 by rfl)<|an<|ak j rfl<|ah
  rcases e with rfl|⟨a,rfl⟩|⟨a,b,rfl⟩<;>
  ·exact aw func291<|ak c rfl<|ab<|ab<|c_<|ak i rfl<|c_<|aj.t (show(0:Int)=0 by rfl)<|an<|aj.t (show(0:Int)=0 by rfl)<|an<|ak k rfl<|ah
 ·rw[j1 d];dsimp only;by_cases hp:0<cy
  ·rw[l9 hp];rcases e with rfl|⟨a,rfl⟩|⟨a,b,rfl⟩<;>
   ·refine aw func291<|ak c rfl<|ab<|ab<|c_<|ak i rfl<|c_<|aj.f d<|ab<|aj.f d<|ab<|aj.t hp<|an<|cj.intro (cy-1) (wrap_i64 rr om) ?_;exact ah
  ·rw[j1 hp];rcases e with rfl|⟨a,rfl⟩|⟨a,b,rfl⟩<;>
   ·exact aw func291<|ak c rfl<|ab<|ab<|c_<|ak i rfl<|c_<|aj.f d<|ab<|aj.f d<|ab<|aj.f hp<|ab<|ah
def anl(size:Int)(h0 s0 h1 s1:BA)(cy bx:Int)(eS:Bool){g:Nat}{cs:List PV}(e:dx cs)(G:BA×BA->BA×BA)(i:PC g (sO h1 s1::cs) (·=f2 (G (h1,s1))))(h:aQ.Sz ⟨size,h0,s0,h1,s1,false,cy,bx⟩)(n:aQ.Sz ⟨size,h0,s0,(G (h1,s1)).1,(G (h1,s1)).2,false,cy,bx⟩):PC 291 [aQ.pv ⟨size,h0,s0,h1,s1,false,cy,bx⟩,i64 1,bo eS,.fn g cs] (·=.aU [(aQ.ed ⟨size,h0,s0,h1,s1,false,cy,bx⟩ 1 eS G).1.pv,i64 (aQ.ed ⟨size,h0,s0,h1,s1,false,cy,bx⟩ 1 eS G).2]):=by
 have j:=AZ ⟨size,h0,s0,(G (h1,s1)).1,(G (h1,s1)).2,false,cy,bx⟩ n bx;have k:=AZ ⟨size,h0,s0,h1,s1,false,cy,bx⟩ h bx;have l:aQ.gU ⟨size,h0,s0,h1,s1,false,cy,bx⟩ 1 G=⟨size,h0,s0,(G (h1,s1)).1,(G (h1,s1)).2,false,cy,bx⟩:=rfl;have c:=xF 1;have m:=h.cy;dsimp only at m;unfold aQ.ed;rw[show iU 1=true from rr,l];dsimp only;by_cases d:cy=0
 ·subst d;cases eS
  case true=>
   rcases e with rfl|⟨a,rfl⟩|⟨a,b,rfl⟩<;>
   ·exact aw func291<|ak c rfl<|ab<|ab<|c_<|ak i rfl<|c_<|aj.t (show(0:Int)=0 by rfl)<|ab<|aj.t (show(0:Int)=0 by rfl)<|an<|ak j rfl<|ah
  rcases e with rfl|⟨a,rfl⟩|⟨a,b,rfl⟩<;>
  ·exact aw func291<|ak c rfl<|ab<|ab<|c_<|ak i rfl<|c_<|aj.t (show(0:Int)=0 by rfl)<|an<|aj.t (show(0:Int)=0 by rfl)<|an<|ak k rfl<|ah
 ·rw[j1 d];dsimp only;by_cases hp:0<cy
  ·rw[l9 hp];rcases e with rfl|⟨a,rfl⟩|⟨a,b,rfl⟩<;>
   ·refine aw func291<|ak c rfl<|ab<|ab<|c_<|ak i rfl<|c_<|aj.f d<|ab<|aj.f d<|ab<|aj.t hp<|an<|cj.intro (cy-1) (wrap_i64 rr om) ?_;exact ah
  ·rw[j1 hp];rcases e with rfl|⟨a,rfl⟩|⟨a,b,rfl⟩<;>
   ·exact aw func291<|ak c rfl<|ab<|ab<|c_<|ak i rfl<|c_<|aj.f d<|ab<|aj.f d<|ab<|aj.f hp<|ab<|ah
def JS(d:aQ)(f:Int)(eS:Bool){g:Nat}{cs:List PV}(l:dx cs)(G:BA×BA->BA×BA)(h:d.Sz)(h0:PC g (sO d.h0 d.s0::cs) (·=f2 (G (d.h0,d.s0))))(h1:PC g (sO d.h1 d.s1::cs) (·=f2 (G (d.h1,d.s1))))(m:iU f=true->d.down=false->(d.gU f G).Sz):PC 291 [d.pv,i64 f,bo eS,.fn g cs] (·=.aU [(d.ed f eS G).1.pv,i64 (d.ed f eS G).2]):=by
 cases n:iU f
 ·exact ab3 d f eS l G n
 have j:=xF f;rw[n]at j;cases k:d.down
 case true=>
  have e:d.ed f eS G=(d,12):=by simp_all [aQ.ed]
  rw[e];obtain⟨size,c,s0,i,s1,down,cy,bx⟩:=d;dsimp only at k;subst k;rcases l with rfl|⟨a,rfl⟩|⟨a,b,rfl⟩<;>
  ·exact aw func291<|ak j rfl<|ab<|an<|ah
 have m:=m n k;obtain⟨size,c,s0,i,s1,down,cy,bx⟩:=d;dsimp only at k;subst k;have o:f=0\/f=1:=by
  grind [iU]
 rcases o with rfl|rfl
 ·exact ajy size c s0 i s1 cy bx eS l G h0 h m
 ·exact anl size c s0 i s1 cy bx eS l G h1 h m
structure aQ.Us(d:aQ):Prop where
 b_:d.b_<=1000000000
 size:0<=d.size/\d.size<=1000000000
 cy:-1<=d.cy/\d.cy<=1000000000
def aQ.Us.sz{d:aQ}(h:d.Us):d.Sz:=by
 have:=h.b_;unfold aQ.b_ at this;exact⟨om,om,om,om,h.size,h.cy⟩
theorem aQ.Us.fR{d:aQ}(h:d.Us)(k:Int):(d.fR k).Us:=by
 have h1:=h.b_;refine⟨?_,h.size,⟨Int.le_refl _,by show(-1:Int)<=1000000000;decide⟩⟩;have a:=Bf k d.s0;have b:=Bf k d.s1;unfold aQ.b_ at h1⊢;show(d.h0++d.s0.extract 0 (nj k d.s0)).size+aA.size+((d.h1++d.s1.extract 0 (nj k d.s1)).size+aA.size)<=_
 grind [Ew,tU]
def aQ.Us.ed{d:aQ}(h:d.Us)(f:Int)(eS:Bool)(G:BA×BA->BA×BA)(b:iU f=true->d.down=false->(d.gU f G).b_<=1000000000):(d.ed f eS G).1.Us:=by
 unfold aQ.ed;cases e:iU f
 ·exact h
 dsimp only;cases g:d.down
 case true=>exact h
 have b:=b e g;have a:(d.gU f G).size=d.size/\(d.gU f G).cy=d.cy:=by
  grind [aQ.gU]
 have c:(d.gU f G).Us:=⟨b,by rw[a.1];exact h.size,by rw[a.2];exact h.cy⟩;dsimp only;cases decide (d.cy=0)
 case true=>
  cases eS
  case true=>exact c.fR _
  exact h.fR _
 dsimp only;cases hp:decide (0<d.cy)
 case true=>
  have:=j5 hp;have:=h.cy;exact⟨b,c.size,by grind⟩
 exact c
def yw{d:aQ}{f:Int}{G:BA×BA->BA×BA}{n:Nat}(h:∀x:BA×BA,(G x).1.size+(G x).2.size<=x.1.size+x.2.size+n):(d.gU f G).b_<=d.b_+n:=by grind [aQ.gU,aQ.b_]
def Ua(s:BA)(x:BA×BA):(pM s x).1.size+(pM s x).2.size<=x.1.size+x.2.size+s.size:=by
 show x.1.size+(x.2++s).size<=_
 grind
def XK(x:BA×BA):(gw x).1.size+(gw x).2.size<=x.1.size+x.2.size+0:=by grind [gw,tU]
def P_(n:Int)(x:BA×BA):(lZ n x).1.size+(lZ n x).2.size<=x.1.size+x.2.size+0:=by
 show(x.1.extract 0 (lE n x)).size+(x.2.extract 0 (min (n.toNat-lE n x) x.2.size)).size<=_
 grind [ByteArray.size_extract]
def UQ{d:aQ}{s:BA}(h:d.full s=false):(d.b_:Int)+(s.size:Int)<=d.size:=by grind [aQ.full]
theorem aQ.Us.dh{d:aQ}(h:d.Us)(f:Int)(s:BA):(d.dh f s).1.Us:=by
 unfold aQ.dh;cases a:iU f&&!d.down&&d.full s
 case true=>exact h
 refine h.ed f true _ λh1 h2=>?_
 rw[h1,h2]at a;have a:d.full s=false:=a;have:=UQ a;have:=yw (d:=d) (f:=f) (Ua s);have:=h.size;omega
def aQ.Us.dO{d:aQ}(h:d.Us)(f:Int):(d.dO f).1.Us:=h.ed f false _ λ_ _=>r8 (yw XK) h.b_
def aQ.Us.cut{d:aQ}(h:d.Us)(f n:Int):(d.cut f n).1.Us:=h.ed f false _ λ_ _=>r8 (yw (P_ n)) h.b_
def Jo{d:aQ}(h:d.Us){f:Int}{G:BA×BA->BA×BA}(b:(d.gU f G).b_<=1000000000):(d.gU f G).Sz:=by
 have a:(d.gU f G).size=d.size/\(d.gU f G).cy=d.cy:=by
  grind [aQ.gU]
 exact aQ.Us.sz ⟨b,by rw[a.1];exact h.size,by rw[a.2];exact h.cy⟩
def Ms(h s t:BA)(a:s.size<=1000000000000)(b:t.size<=1000000000000):PC 320 [sO h s,.ip [st t] 0] (·=f2 (pM t (h,s))):=aw func320<|aq.mk (cX om om)<|ah
def ahS(d:aQ)(h:d.Us)(f:Int)(s:BA)(t:s.size<=1000000000):PC 277 [d.pv,i64 f,st s] (·=.aU [(d.dh f s).1.pv,i64 (d.dh f s).2]):=by
 have l:=h.sz;have n:=h.size;have r:=h.b_;have a:(iU f&&!d.down&&d.full s)=false->PC 291 [d.pv,i64 f,bo true,.fn 320 [.ip [st s] 0]] (·=.aU [(d.dh f s).1.pv,i64 (d.dh f s).2]):=λk=>by
  have e:d.dh f s=d.ed f true (pM s):=by grind [aQ.dh]
  rw[e];refine JS d f true dx.one (pM s) l (Ms d.h0 d.s0 s l.s0 om) (Ms d.h1 d.s1 s l.s1 om) λh1 h2=>?_
  rw[h1,h2]at k;have k:d.full s=false:=k;have:=UQ k;exact Jo h (r8 (yw (Ua s)) om)
 have c:(iU f&&!d.down&&d.full s)=true->d.dh f s=(d,9):=λk=>by grind [aQ.dh]
 have m:=abC d l;have i:=xF f;have g:d.full s=(decide (d.size<(s.size:Int))||decide (d.size-(s.size:Int)<(d.b_:Int))):=rfl;have p:(d.b_:Int)<=1000000000:=om
 generalize d.full s=b at a c g;generalize d.dh f s=W at a c⊢;generalize d.b_=U at m g;obtain⟨size,h0,s0,h1,s1,down,cy,bx⟩:=d;dsimp only at g n;cases q:iU f
 ·rw[q]at i a;have j:=a rr;refine aw func277<|aj.aN (λe1=>?_) (λe1=>?_)
  ·exact az<|ak i rfl<|ab<|ak j rfl<|ah
  ·exact aJ m rfl<|cj.intro (size-(s.size:Int)) (wrap_i64 rr om)<|aj.is (decide (size-(s.size:Int)<(U:Int))) rfl<|az<|ak i rfl<|ab<|ak j rfl<|ah
 rw[q]at i a c;cases down
 case true=>
  have j:=a rr;refine aw func277<|aj.aN (λe1=>?_) (λe1=>?_)
  ·exact az<|ak i rfl<|ab<|ak j rfl<|ah
  ·exact aJ m rfl<|cj.intro (size-(s.size:Int)) (wrap_i64 rr om)<|aj.is (decide (size-(s.size:Int)<(U:Int))) rfl<|az<|ak i rfl<|ab<|ak j rfl<|ah
 refine aw func277<|aj.aN (λe1=>?_) (λe1=>?_)
 ·rw[show decide (size<(s.size:Int))=true from e1]at g;have o:=c (by simp_all);rw[o];exact az<|ak i rfl<|an<|ah
 ·rw[show decide (size<(s.size:Int))=false from e1]at g;refine aJ m rfl<|cj.intro (size-(s.size:Int)) (wrap_i64 rr om) ?_;cases h2:decide (size-(s.size:Int)<(U:Int))
  case true=>
   rw[h2]at g;have o:=c (by simp_all);rw[o];exact aj.is true h2<|az<|ak i rfl<|an<|ah
  rw[h2]at g;have j:=a (by simp_all);exact aj.is false h2<|az<|ak i rfl<|ab<|ak j rfl<|ah
def OU(h s:BA)(a:h.size<=1000000000000)(b:s.size<=1000000000000):PC 326 [sO h s] (·=f2 (gw (h,s))):=by
 refine aw func326 ?_;unfold gw;refine aj.is (seq h aA&&seq s aA) (by simp_all) ?_;cases seq h aA&&seq s aA
 case true=>
  exact an<|ah
 exact ab<|ak (yQ h s a b) rfl<|ah
def aia(d:aQ)(h:d.Us)(f:Int):PC 281 [d.pv,i64 f] (·=.aU [(d.dO f).1.pv,i64 (d.dO f).2]):=by
 have a:=h.sz;have b:=JS d f false dx.no gw a (OU d.h0 d.s0 a.h0 a.s0) (OU d.h1 d.s1 a.h1 a.s1) λ_ _=>Jo h (r8 (yw XK) h.b_)
 exact aw func281<|ak b rfl<|ah
def Yf(h s:BA)(n:Int)(b:n<=1000000000000):PC 292 [sO h s,.ip [i64 n] 0] (·=f2 (lZ n (h,s))):=by
 refine aw func292 ?_;have c:lE n (h,s)<=h.size:=F1 _ _;have a:lE n (h,s)<=n.toNat:=N3 _ _;refine cj.intro (n.toNat:Int) (Kj n)<|cj.intro ((lE n (h,s):Nat):Int) (JD n h)<|aq.mk (show(0:Int)<=((lE n (h,s):Nat):Int)/\((lE n (h,s):Nat):Int)<=(h.size:Int)by omega) ?_;refine jg (n.toNat-lE n (h,s))<|cj.intro ((min (n.toNat-lE n (h,s)) s.size:Nat):Int) om<|aq.mk (show(0:Int)<=((min (n.toNat-lE n (h,s)) s.size:Nat):Int)/\((min (n.toNat-lE n (h,s)) s.size:Nat):Int)<=(s.size:Int)by omega) ?_;exact az<|ah
def Tb(d:aQ)(h:d.Us)(f n:Int)(a:n<=1000000000000):PC 234 [d.pv,i64 f,i64 n] (·=.aU [(d.cut f n).1.pv,i64 (d.cut f n).2]):=by
 have b:=h.sz;have c:=JS d f false dx.one (lZ n) b (Yf d.h0 d.s0 n a) (Yf d.h1 d.s1 n a) λ_ _=>Jo h (r8 (yw (P_ n)) h.b_)
 exact aw func234<|ak c rfl<|ah
def ai5(x:Nat)(h:x<4294967296):bits .xor .u32 ((x:Int) / 2) (3988292384*bits .and .u32 (x:Int) 1%4294967296)=((Fr.za x:Nat):Int):=by
 have h1:bits .and .u32 (x:Int) 1=((x%2:Nat):Int):=by
  grind [u32_and_nat,nat_mask1]
 rw[h1];have h2:((x:Int) / 2)=((x / 2:Nat):Int):=om
 have a:(3988292384*((x%2:Nat):Int)%4294967296)=((3988292384*(x%2):Nat):Int):=om
 rw[h2,a,u32_xor_nat _ _ om om];rfl
theorem ae4(r b:Nat)(w:World)(hr:r<4294967296)(hb:b<256):
 Calls prog 366 #[.int .u32 (r:Int),.int .u8 (b:Int)] w λe w'=>e=.returned (.int .u32 (Fr.step r b:Nat))/\w=w':=by
 have hx:=u32_xor_nat r b hr om
 go_enter func366,ntmps366
 go_wp2
 go_loop [0,9] (λs i=>∃k:Nat,k<=8/\i=.int .i64 k/\s=.int .u32 (Fr.bits (r ^^^ b) k:Nat)) (λ_ i=>8-(intOf i).toNat)
 case atStart=>exact⟨0,om,rr,rr⟩
 case round=>
  obtain⟨k,hk,rfl,rfl⟩:=hrel
  clear hx
  have hlt:=Fr.LO (r ^^^ b) (J2 (n:=32) hr om) k
  have hs:Fr.bits (r ^^^ b) (k+1)=Fr.za (Fr.bits (r ^^^ b) k):=rfl
  have he:k=8->Fr.bits (r ^^^ b) k=Fr.step r b:=by rintro rfl;rfl
  generalize Fr.bits (r ^^^ b) k=x at hlt hs he
  have hb:=Lib.hid (ai5 x hlt)
  have HS:=Lib.hid hs;clear hs
  have HE:=Lib.hid he;clear he
  go_wp2
  ·go_round
   case rel=>exact⟨k+1,om,by go_num,by rw[HS.out,hb.out]⟩
   grind [intOf]
  ·go_ret
   exact⟨CO (by rw[HE.out om]),rr⟩
theorem aa9(s:ByteArray)(w:World)(hs:s.size<=maxLen):
 Calls prog 322 #[.string s] w λe w'=>e=.returned (.int .u32 (Fr.sum s.data.toList:Nat))/\w=w':=by
 unfold maxLen at hs
 go_enter func322,ntmps322
 go_wp2
 go_loop [3,4,7] (λr _ i=>∃k:Nat,k<=s.size/\i=.int .i64 k/\r=.int .u32 (Fr.run 4294967295 (s.data.toList.take k):Nat)) (λ_ _ i=>s.size-(intOf i).toNat)
 case atStart=>exact⟨0,om,rr,rr⟩
 case round=>
  obtain⟨k,hk,rfl,rfl⟩:=hrel
  have hlt:=Fr.Vo (s.data.toList.take k) 4294967295 om
  by_cases hk':k<s.size
  ·have hs:Fr.run 4294967295 (s.data.toList.take (k+1))=Fr.step (Fr.run 4294967295 (s.data.toList.take k)) s[k].toNat:=by
    rw[afW s k hk',Fr.acd]
   have hu:s[k].toNat<256:=s[k].toNat_lt
   generalize Fr.run 4294967295 (s.data.toList.take k)=x at hlt hs
   have HS:=Lib.hid hs;clear hs
   go_wp2_with (go_at_call 366;refine(ae4 _ _ _ hlt hu).mono ?_;rintro e w' ⟨rfl,rfl⟩)
   go_round
   case rel=>exact⟨k+1,om,by go_num,by rw[HS.out]⟩
   case measure=>simp[intOf];omega
  ·have he:Fr.sum s.data.toList=4294967295 ^^^ Fr.run 4294967295 (s.data.toList.take k):=by
    rw[u5 (by simp;omega)];rfl
   generalize Fr.run 4294967295 (s.data.toList.take k)=x at hlt he
   have HN:=Lib.hid (Om x hlt)
   have HE:=Lib.hid he;clear he
   go_wp2
   go_ret
   exact⟨CO (by rw[HE.out,<-HN.out]),rr⟩
def aos(x k:Nat)(a:x<4294967296):bits .or .u32 ((x:Int)*2^(k%32)%4294967296) ((x:Int) / 2^(32-k%32))=((Fr.lU x k:Nat):Int):=by
 have h1:((x:Int)*2^(k%32)%4294967296)=((x*2^(k%32)%4294967296:Nat):Int):=by
  simp_all
 have h2:((x:Int) / 2^(32-k%32))=((x / 2^(32-k%32):Nat):Int):=by
  simp_all
 have b:x / 2^(32-k%32)<=x:=N4 _ _;rw[h1,h2,u32_or_nat _ _ (G3 _ om) om];rfl
theorem an3(x:Nat)(k:Nat)(w:World)(a:x<4294967296)(hk:k<=32):
 Calls prog 318 #[.int .u32 (x:Int),.int .i64 (k:Int)] w λe w'=>e=.returned (.int .u32 (Fr.lU x k:Nat))/\w=w':=by
 have h1:bits .and .u64 (k:Int) 31=((k%32:Nat):Int):=by
  grind [u64_and_nat,nat_mask5]
 have H:=Lib.hid (aos x k a)
 go_enter func318,ntmps318
 go_wp2
 go_ret
 exact⟨CO H.out,rr⟩
def aeq(x:Nat)(k:Int)(w:World)(a:x<4294967296)(h0:0<=k)(hk:k<=32):
 Calls prog 318 #[.int .u32 (x:Int),.int .i64 k] w λe w'=>e=.returned (.int .u32 (Fr.lU x k.toNat:Nat))/\w=w':=by
 grind [Int.eq_ofNat_of_zero_le,an3]
def aeV(w:World)(t:TypeId)(a b c d:Int):
 (convert 116 9 (.slice (some ⟨w.heap.size,0,none⟩) 4 4)).run prog (w.alloc (.cells #[.int .u8 a,.int .u8 b,.int .u8 c,.int .u8 d] t))=.ok (.string ⟨#[UInt8.ofNat a.toNat,UInt8.ofNat b.toNat,UInt8.ofNat c.toNat,UInt8.ofNat d.toNat]⟩) (w.alloc (.cells #[.int .u8 a,.int .u8 b,.int .u8 c,.int .u8 d] t)):=by
 have h:=run_convert_bytes_arg (P:=prog) (w.alloc (.cells #[.int .u8 a,.int .u8 b,.int .u8 c,.int .u8 d] t)) 116 5 underlying116 underlying5 w.heap.size 0 4 4 [a,b,c,d] rr (λi hi=>by
  grind [World.cell?_alloc_mark]) 9 underlying9
 exact h
def Zw(n:Nat)(c:n<4294967296):Fr.lU n 8%256=n / 16777216%256/\Fr.lU n 16%256=n / 65536%256/\Fr.lU n 24%256=n / 256%256/\Fr.lU n 32%256=n%256:=by
 have h:∀a b:Nat,(a ||| b)%256=(a%256) ||| (b%256):=λa b=>Nat.or_mod_two_pow (n:=8)
 have z:∀b:Nat,0 ||| b=b:=Nat.zero_or
 refine⟨?_,?_,?_,?_⟩
 ·show((n*256%4294967296) ||| (n / 16777216))%256=_
  simp_all
 ·show((n*65536%4294967296) ||| (n / 65536))%256=_
  rw[h,show n*65536%4294967296%256=0 from by omega,z]
 ·show((n*16777216%4294967296) ||| (n / 256))%256=_
  rw[h,show n*16777216%4294967296%256=0 from by omega,z]
 ·show((n*1%4294967296) ||| (n / 4294967296))%256=_
  rw[h,show n / 4294967296%256=0 from by omega,Nat.or_zero];omega
def DJ(a b:Nat)(h:a%256=b%256):UInt8.ofNat (a%256)=UInt8.ofNat b:=by
 rw[h];apply UInt8.toNat_inj.1;simp
def MZ(n:Nat)(w:World)(a:n<4294967296):
 Calls prog 321 #[.int .u32 (n:Int)] w λe w'=>e=.returned (.string ⟨(Fr.iA n).toArray⟩)/\Below w.heap.size w w':=by
 have c:=aeV
 go_enter func321,ntmps321
 go_wp2
 refine wp_loop_rounds 5 ?_
 iterate 5
  rw[rounds_succ]
  go_wp2_with (go_at_call 318;refine(aeq _ _ _ a om om).mono ?_;rintro e w' ⟨rfl,rfl⟩)
 go_ret
 obtain⟨r1,r2,r3,b⟩:=Zw n a
 exact⟨vV (by rw[DJ _ _ r1,DJ _ _ r2,DJ _ _ r3,DJ _ _ b];rfl),(Below.refl _ _).alloc (j2 _) _⟩
theorem ad5(s:ByteArray)(w:World)(b:65536<s.size):
 Calls prog 278 #[.string s] w λe w'=>e=.returned (.string ⟨(Fr.put s.data.toList).toArray⟩)/\Below w.heap.size w w':=by
 have a:Hid (Fr.put s.data.toList=[]):=by
  show _=_
  simp_all [Fr.put]
 go_enter func278,ntmps278
 go_wp2
 go_ret
 exact⟨vV (by rw[a.out]),Below.refl _ _⟩
theorem ajN(a b c:List UInt8)(s:ByteArray)(h:s.data.toList=c):(⟨a.toArray⟩++⟨b.toArray⟩++s:ByteArray)=⟨(a++b++c).toArray⟩:=by
 apply K9;simp_all
theorem aoB(s:ByteArray)(w:World)(d:s.size<=65536):
 Calls prog 278 #[.string s] w λe w'=>e=.returned (.string ⟨(Fr.put s.data.toList).toArray⟩)/\Below w.heap.size w w':=by
 have c:Hid (Fr.put s.data.toList=Fr.iA s.size++Fr.iA (Fr.sum s.data.toList)++s.data.toList):=by
  show _=_
  unfold Fr.put;rw[y8 (by simp;omega)]
  simp
 have f:=Fr.ah2 s.data.toList
 have g:=Fr.uB
 go_enter func278,ntmps278
 go_wp2_with fail
 refine(MZ _ _ om).mono ?_
 rintro e w1 ⟨rfl,a⟩
 go_wp2_with fail
 refine(aa9 _ _ (by grind [maxLen])).mono ?_
 rintro e w1 ⟨rfl,rfl⟩
 go_wp2_with fail
 refine(MZ _ _ om).mono ?_
 rintro e w2 ⟨rfl,b⟩
 go_wp2_with fail
 go_ret
 exact⟨vV (by rw[c.out];grind [ajN]),a.trans (b.mono a.size)⟩
def Pq(s:ByteArray)(w:World):
 Calls prog 278 #[.string s] w λe w'=>e=.returned (.string ⟨(Fr.put s.data.toList).toArray⟩)/\Below w.heap.size w w':=by
 grind [aoB,ad5]
def Qr(s t:ByteArray)(w:World)(_hs:s.size<=maxLen)(_ht:t.size<=maxLen):
 Calls prog 316 #[.string s,.string t] w λe w'=>e=.returned (.bool (Lib.hasPrefix s.data.toList t.data.toList))/\w=w':=by
 unfold maxLen at _hs _ht
 have hp:=Lib.hid (Lib.hasPrefix_raw s t)
 by_cases h:t.size<=s.size
 ·go_enter func316,ntmps316
  go_wp2
  go_ret
  exact⟨lK (by rw[<-hp.out,l9 h];rfl),rr⟩
 ·go_enter func316,ntmps316
  go_wp2
  go_ret
  exact⟨lK (by rw[<-hp.out,j1 h];rfl),rr⟩
def OG(b:BA):PC 278 [st b] (·=st (eN b)):=
 qx func278 rr rr rr rr λw=>Pq b w
def Rl(b:BA):(eN b).size<=65544:=by
 have h:(eN b).size=(Fr.put b.data.toList).length:=by rw[<-qK];rfl
 rw[h];exact Fr.TF _
def ajS{s:af}(h:s.mI):s.put.size<=200000000000000:=by
 unfold af.put;have b:=cv s.round;have c:=cv s.next;have d:=QF h.ar;have e:=XH h.aH h.iv;have g:=cv (aG (s.ae.length:Nat));have i:=Eo s.dX h.ev;have k:=Eo s.dy h.au;have m:=h.ae;have h1:=jV (f:=iz) (l:=s.ae) (s:=av s.round++av s.next++s.ar.put++lv s.aH++av (aG (s.ae.length:Nat))) λs j a=>Ff (h.aZ j a) s
 rw[cD,cD,cD,cD]at h1;rw[cD,cD];omega
def Uj(dR:UInt64)(s:af)(h:s.mI):PC 220 [pu dR,s.pv] (·=st (gn dR s)):=by
 have d:=cv dR;have e:=ajS h;have c:jG.size=1:=rfl;exact aw func220<|aJ (fg dR) rfl<|aq.mk (cX (a:=jG) (b:=av dR) om om)<|aJ (aaD s h) rfl<|aq.mk (cX (a:=jG++av dR) (b:=s.put) (by rw[cD];omega) om)<|aJ (OG (jG++av dR++s.put)) rfl<|az<|ah
def aaf{o:aC}(h:gF o):o.put.size<=100000000:=by
 unfold aC.put;cases o.right
 ·dsimp only;rw[tU];omega
 dsimp only;unfold aC.bytes;generalize(gD o.kind).getD iJ.z=f;have a:∀(b:Bool) (s t:BA),(h_ b s t).size<=s.size+t.size:=λb s t=>by
  cases b
  case true=>show(s++t).size<=_;rw[cD];exact j2 _
  show s.size<=_;omega
 have c:=a f.id (av (aG o.kind)) (av o.id);generalize h_ f.id (av (aG o.kind)) (av o.id)=b1 at c⊢;have a2:=a f.n b1 (av o.n);generalize h_ f.n b1 (av o.n)=b2 at a2⊢;have a3:=a f.aa b2 (bQ o.aa);generalize h_ f.aa b2 (bQ o.aa)=b3 at a3⊢;have a4:=a f.v b3 (cH o.v);generalize h_ f.v b3 (cH o.v)=b4 at a4⊢;have a5:=a f.x b4 o.x.put;generalize h_ f.x b4 o.x.put=b5 at a5⊢;have d:=a f.ao b5 (gq o.ao);have:=cv (aG o.kind);have:=cv o.id;have:=cv o.n;have:=gh o.aa;have:=h.aa;have:=jW o.v;have:=CD h.x;have:=Ed h.gS;omega
def aae(o:aC)(h:gF o):PC 228 [o.pv] (·=st (gH o)):=by
 have d:=aaf h;have c:jO.size=1:=rfl;refine aw func228<|ak (QX o h) rr ?_;unfold gH;refine aj.aN (λh1=>?_) (λh1=>?_)
 ·rw[show seq o.put aA=true from h1];exact an<|ah
 ·rw[show seq o.put aA=false from h1];exact ab<|aq.mk (cX (a:=jO) (b:=o.put) om om)<|ak (OG (jO++o.put)) rfl<|ah
def acn(o:aC):(gH o).size<=65544:=by
 unfold gH;cases seq o.put aA
 case true=>exact j9 _
 exact Rl _
def Hc(t:ay):PC 230 [t.pv] (·=i64 t.f):=by
 refine aw func230 ?_;unfold ay.f;refine aj.aN (λh1=>?_) (λh1=>?_)
 ·rw[show decide (t.file=1)=true from h1];exact an<|ah
 ·rw[show decide (t.file=1)=false from h1];exact ab<|ah
structure jB where
 g:Nat
 cs:List PV
 f:aQ->aQ×Int
def jB.pv(x:jB):PV:=.fn x.g x.cs
abbrev d2(r:aQ×Int):PV:=.aU [r.1.pv,i64 r.2]
def ux(f:Int)(s:BA):jB:=⟨276,[.ip [i64 f] 0,.ip [st s] 0],λd=>d.dh f s⟩
def vr(f:Int):jB:=⟨280,[.ip [i64 f] 0],λd=>d.dO f⟩
def yb(f n:Int):jB:=⟨342,[.ip [i64 f] 0,.ip [i64 n] 0],λd=>d.cut f n⟩
structure jB.Ok(x:jB):Prop where
 ir:dx x.cs
 run:∀d:aQ,d.Us->PC x.g (d.pv::x.cs) (·=d2 (x.f d))
 us:∀d:aQ,d.Us->(x.f d).1.Us
def Gw(f:Int)(s:BA)(b:s.size<=1000000000):(ux f s).Ok:=by
 refine⟨dx.aN,λd a=>?_,λd a=>a.dh f s⟩;show PC 276 [d.pv,.ip [i64 f] 0,.ip [st s] 0] (·=d2 (d.dh f s))
 exact aw func276<|ak (ahS d a f s b) rfl<|ah
def EY(f:Int):(vr f).Ok:=by
 refine⟨dx.one,λd a=>?_,λd a=>a.dO f⟩;show PC 280 [d.pv,.ip [i64 f] 0] (·=d2 (d.dO f))
 exact aw func280<|ak (aia d a f) rfl<|ah
def Tg(f n:Int)(b:n<=1000000000000):(yb f n).Ok:=by
 refine⟨dx.aN,λd a=>?_,λd a=>a.cut f n⟩;show PC 342 [d.pv,.ip [i64 f] 0,.ip [i64 n] 0] (·=d2 (d.cut f n))
 exact aw func342<|ak (Tb d a f n b) rfl<|ah
def Cq(f:Int)(s:BA):PC 219 [i64 f,st s] (·=(ux f s).pv):=aw func219<|ah
def BQ(f:Int):PC 221 [i64 f] (·=(vr f).pv):=aw func221<|ah
def OY(f n:Int):PC 289 [i64 f,i64 n] (·=(yb f n).pv):=aw func289<|ah
def sE(d:aQ)(l:List jB)(q:Nat):aQ:=(l.take q).foldl (λd x=>(x.f d).1) d
def ad9{d:aQ}{l:List jB}{q:Nat}{x:jB}(h:l[q]? = some x):sE d l (q+1)=(x.f (sE d l q)).1:=by
 unfold sE;rw[fW h,G6];rfl
def ab8{d:aQ}(a:d.Us):∀(l:List jB) (q:Nat),(∀x∈l,x.Ok)->(sE d l q).Us:=by
 intro l q h;have key:∀(l:List jB) (d:aQ),d.Us->(∀x∈l,x.Ok)->(l.foldl (λd x=>(x.f d).1) d).Us:=by
  intro l;induction l with
  |nil=>intro d a _;exact a
  |cons x l ih=>intro d a h;exact ih _ ((h x j6).us d a) λy b=>h y (j3 _ b)
 exact key _ d a λx c=>h x (u6 c)
abbrev amf(d:aQ):aI:=.rows 8 [d.pv] true none 62
def LR(d:aQ):dP [d.pv]:=λr a=>by rw[o6.1 a];rfl
def Hg(l:List jB)(w:l.length<=1000)(d:aQ)(v:d.Us)(h:∀x∈l,x.Ok):PC 217 [d.pv,.sl false (l.map jB.pv)] (·=d2 (eQ d (l.map jB.f))):=by
 refine aw func217<|iV l.length (.of (sE d l) (λ_=>[]) [2,4,10,11] (λe=>[(0,amf e)]) [1]) (λq=>eQ d (l.map jB.f)=eQ (sE d l q) ((l.drop q).map jB.f)) rr ?_ (λk hk c=>?_) (λc=>?_)
 ·exact cS rr (LR _)
 ·obtain⟨x,o⟩:=cw hk;have m:=h x (i7 o);have p:=ad9 (d:=d) o;have n:=ab8 v l k h;have r:l.drop k=x::l.drop (k+1):=by
   obtain⟨s,rfl⟩:=c9.1 o;exact o8 s
  rw[r,w9]at c;generalize t:sE d l k=e at p n c;rw[cE t];have j:=m.run e n;have i:=m.ir;clear m;obtain⟨g,cs,f⟩:=x;dsimp only at p j i c;have u:eQ e (f::(l.drop (k+1)).map jB.f)=match decide ((f e).2=0)with|true=>eQ (f e).1 ((l.drop (k+1)).map jB.f)|false=>f e:=by
   show(match f e with|(a,b)=>match decide (b=0)with|true=>eQ a _|false=>(a,b))=_
   rfl
  rw[u]at c;refine bG o ?_;rcases i with rfl|⟨a,rfl⟩|⟨a,b,rfl⟩<;>
  ·refine ak j rfl<|aj.aN (λh0=>?_) (λh0=>?_)
   ·rw[show decide ((f e).2=0)=true from h0]at c;exact ab<|ck.of id p (by rw[c,p]) rfl<|cS rr (LR _)
   ·rw[show decide ((f e).2=0)=false from h0]at c;refine an ?_;rw[c];exact ah
 ·rw[r9 (j2 _)]at c;have c:eQ d (l.map jB.f)=(sE d l l.length,0):=c;rw[c];generalize t:sE d l l.length=e;rw[cE t];exact ah
def afj:af.new.mI:=⟨⟨j9 _,j9 _,λ_ h=>(o7 h).elim,λ_ h=>(o7 h).elim⟩,by show 1<=16;omega,λe a=>by rw[o6.1 a];exact j9 _,j9 _,λ_ h=>(o7 h).elim,j9 _,j9 _⟩
def SS(dR:UInt64)(s:af):(gn dR s).size<=65544:=Rl _
def YN{n:Int}(h:1<=n/\n<=1048576):(aQ.new n).Us:=⟨by show 0+0+(0+0)<=_;omega,by show 0<=n/\n<=1000000000;omega,by show -1<=(-1:Int)/\(-1:Int)<=1000000000;decide⟩
def afO(key:BA)(n:Int):PC 152 [st key,i64 n] (·=.aU [(ay.new key n).1.pv,i64 (ay.new key n).2]):=by
 unfold ay.new;cases e1:decide ((key.size:Int)<1)
 case true=>
  exact aw func152<|aj.is true e1<|an<|ah
 cases e2:decide ((64:Int)<key.size)
 case true=>
  exact aw func152<|aj.is false e1<|aj.is true e2<|an<|ah
 cases e3:decide (n<1)
 case true=>
  exact aw func152<|aj.is false e1<|aj.is false e2<|aj.is true e3<|an<|ah
 cases e4:decide (1048576<n)
 case true=>
  exact aw func152<|aj.is false e1<|aj.is false e2<|aj.is false e3<|aj.is true e4<|an<|ah
 have h:1<=n/\n<=1048576:=by
  have:=j4 e3;have:=j4 e4;omega
 dsimp only[Bool.or_false];have a:=Hg [ux 0 (gn 1 af.new),vr 0] (by show 2<=1000;omega) (aQ.new n) (YN h) λx b=>by
  rcases p9.1 b with rfl|b
  ·exact Gw _ _ (r8 (SS _ _) (by decide))
  ·rw[o6.1 b];exact EY _
 have g:eQ (aQ.new n) ([ux 0 (gn 1 af.new),vr 0].map jB.f)=eQ (aQ.new n) [λd=>d.dh 0 (gn 1 af.new),λd=>d.dO 0]:=rfl;rw[g]at a;have c:=Uj 1 af.new afj;generalize gn 1 af.new=sn at a c⊢;rcases b:eQ (aQ.new n) [λd=>d.dh 0 sn,λd=>d.dO 0]with⟨d,e⟩
 rw[b]at a;dsimp only;refine aw func152<|aj.is false e1<|aj.is false e2<|aj.is false e3<|aj.is false e4<|ab<|ak am2 rfl<|aJ (afl n) rfl<|aJ c rfl<|aJ (Cq 0 sn) rfl<|aJ (BQ 0) rfl<|aJ a rfl<|az<|aj.aN (λh0=>?_) (λh0=>?_)
 ·rw[show decide (e=0)=true from h0];exact ab<|ah
 ·rw[show decide (e=0)=false from h0];exact an<|ah
def ZW(t:ay)(i:t.d.Us)(j:t.s.mI):PC 231 [t.pv] (·=.aU [t.lg.1.pv,i64 t.lg.2]):=by
 have k:0<=t.f/\t.f<=1:=by unfold ay.f;cases decide (t.file=1)<;>decide
 have a:=Hg [yb (1-t.f) 0,ux (1-t.f) (gn (t.dR+1) t.s),vr (1-t.f),yb t.f 0] (by show 4<=1000;omega) t.d i λx g=>by
  simp only[p9,o7,H3]at g;rcases g with rfl|rfl|rfl|rfl
  ·exact Tg _ _ (by decide)
  ·exact Gw _ _ (r8 (SS _ _) (by decide))
  ·exact EY _
  ·exact Tg _ _ (by decide)
 have h:eQ t.d ([yb (1-t.f) 0,ux (1-t.f) (gn (t.dR+1) t.s),vr (1-t.f),yb t.f 0].map jB.f)=eQ t.d [λd=>d.cut (1-t.f) 0,λd=>d.dh (1-t.f) (gn (t.dR+1) t.s),λd=>d.dO (1-t.f),λd=>d.cut t.f 0]:=rfl;rw[h]at a;have b:=Uj (t.dR+1) t.s j;have c:=Hc t;unfold ay.lg;generalize gn (t.dR+1) t.s=sn at a b⊢;generalize t.f=f at k a c⊢;rcases g:eQ t.d [λd=>d.cut (1-f) 0,λd=>d.dh (1-f) sn,λd=>d.dO (1-f),λd=>d.cut f 0]with⟨d,e⟩
 rw[g]at a;dsimp only;refine aw func231<|ak c rfl<|cj.intro (1-f) (wrap_i64 rr om)<|aJ (OY (1-f) 0) rfl<|cj.intro (1-f) (wrap_i64 rr om)<|aF (Iw t.dR)<|aJ b rfl<|aJ (Cq (1-f) sn) rfl<|cj.intro (1-f) (wrap_i64 rr om)<|aJ (BQ (1-f)) rfl<|aJ (OY f 0) rfl<|aJ a rfl<|az<|aj.aN (λh0=>?_) (λh0=>?_)
 ·rw[show decide (e=0)=true from h0];exact ab<|cj.intro (1-f) (wrap_i64 rr om)<|aF (Iw t.dR)<|ah
 ·rw[show decide (e=0)=false from h0];exact an<|ah
abbrev uj(e:Int):aI:=.rows 1 [i64 e] true none 93
abbrev vF(a:bn):aI:=.rows 14 [a.pv] true none 95
def Jc(e:Int):dP [i64 e]:=λr a=>by rw[o6.1 a];rfl
def aeN(a:bn):dP [a.pv]:=λr b=>by rw[o6.1 b];rfl
def VD(e:Int):PV:=.agg [i64 e,pu 0,pu 0,i64 0,pu 0,pu 0,pu 0,pu 0,pu 0,pu 0,pu 0,pu 0,.sl true [],.sl true []]
def Ei(e:Int)(a:bn):PV:=match decide (e=0)with
 |true=>a.pv
 |false=>VD e
abbrev ad1(p:PV):aI:=.rows 14 [p] true none 95
def zZ(e:Int)(a:bn)(j k nx:Nat)(b:Nat.beq j k=false)(h1:Nat.beq nx j=false)(h2:Nat.beq nx k=false):py prog GT 227 [.lp j 0 0,.lp k 0 0] [(j,uj e),(k,vF a)] nx λr d=>r=.aU []/\d=[(j,some (uj e)),(k,some (ad1 (Ei e a))),(j,none),(k,none)]:=by
 refine ak4 (js:=[j,k]) (bs:=[uj e,vF a]) (args:=[.lp 0 0 0,.lp 1 0 0]) func227 rr ?_ ?_ rr ⟨⟨rr,Jc e⟩,⟨rr,aeN a⟩,trivial⟩ rr ?_
 ·unfold gr cW;rw[b];rfl
 ·unfold cW;rw[h1];unfold cW;rw[h2];rfl
 have c:gr [j,k]=true:=by unfold gr cW;rw[b];rfl
 unfold Ei;refine aj.aN (λh0=>?_) (λh0=>?_)
 ·rw[show decide (e=0)=true from h0];refine ab<|ey<|fw.mk ⟨[(0,j),(1,k)],200,_,_,rr,rr,c,⟨fk.mk ⟨_,rr,Jc e,.inr rr⟩,fk.mk ⟨_,rr,λr f=>(by rw[o6.1 f];rfl),.inr rr⟩,trivial⟩,rr,rr⟩
 ·rw[show decide (e=0)=false from h0];refine an<|ey<|fw.mk ⟨[(0,j),(1,k)],200,_,_,rr,rr,c,⟨fk.mk ⟨_,rr,Jc e,.inr rr⟩,fk.mk ⟨_,rr,λr f=>(by rw[o6.1 f];rfl),.inr rr⟩,trivial⟩,rr,rr⟩
def EH:∀(l:List (aQ->aQ×Int)) {d:aQ},d.Us->(∀g∈l,∀d:aQ,d.Us->(g d).1.Us)->(eQ d l).1.Us
 | [],_,h,_=>h
 |g::l,d,h,c=>by
  have h1:=c g j6 d h
  have h2:=EH l (d:=(g d).1) h1 λx f=>c x (j3 _ f)
  have e:eQ d (g::l)=match decide ((g d).2=0)with|true=>eQ (g d).1 l|false=>g d:=by
   show(match g d with|(a,b)=>match decide (b=0)with|true=>eQ a l|false=>(a,b))=_
   rfl
  rw[e]
  cases decide ((g d).2=0)
  case true=>exact h2
  exact h1
def KE{t:ay}(h:t.d.Us):t.lg.1.d.Us:=by
 unfold ay.lg;have b:=EH [λd=>d.cut (1-t.f) 0,λd=>d.dh (1-t.f) (gn (t.dR+1) t.s),λd=>d.dO (1-t.f),λd=>d.cut t.f 0] h λg c d a=>by
  simp only[p9,o7,H3]at c;rcases c with rfl|rfl|rfl|rfl
  ·exact a.cut _ _
  ·exact a.dh _ _
  ·exact a.dO _
  ·exact a.cut _ _
 rcases i:eQ t.d [λd=>d.cut (1-t.f) 0,λd=>d.dh (1-t.f) (gn (t.dR+1) t.s),λd=>d.dO (1-t.f),λd=>d.cut t.f 0]with⟨d,e⟩
 rw[i]at b;dsimp only;cases decide (e=0)<;>exact b
def SC{t:ay}(h:t.d.Us)(s:af)(a:bn)(r:BA):(t.mg s a r).1.d.Us:=by
 unfold ay.mg;have b:=EH [λd=>d.dh t.f r,λd=>d.dO t.f] h λg c d i=>by
  simp only[p9,o7,H3]at c;rcases c with rfl|rfl
  ·exact i.dh _ _
  ·exact i.dO _
 rcases j:eQ t.d [λd=>d.dh t.f r,λd=>d.dO t.f]with⟨d,e⟩
 rw[j]at b;dsimp only;cases decide (e=0)<;>exact b
def alh{t:ay}(h:t.d.Us)(o:aC):(t.do o).1.d.Us:=by
 unfold ay.do;cases t.d.down
 case true=>exact h
 dsimp only;cases decide ((apply t.s o).2.e=0)&&o.oM
 ·exact h
 dsimp only;cases t.full (gH o)
 ·exact SC h _ _ _
 dsimp only;cases decide (t.lg.2=12)
 case true=>exact KE h
 exact SC (KE h) _ _ _
def Fo{e:Int}(a:bn)(h:decide (e=0)=false):Ei e a=VD e:=by unfold Ei;rw[h]
def Ml(t:ay)(o:aC){m:Nat}(B:t.d.Us)(h:dw m t.s)(K:m<=20000000)(I:gF o)(L:o.kind=11->vH t.s.ar o.aa)(M:t.full (gH o)=true->t.s.mI):PC 159 [t.pv,o.pv] (·=.aU [(t.do o).1.pv,(t.do o).2.pv]):=by
 have g:=Ly t.s o h K I L;have j:=XJ o;have C:=aae o I;have N:=acn o;have k:=Hc t;have i:=zD t.d B.sz t.f;have l:t.full (gH o)=true->_:=λv=>ZW t B (M v)
 have u:∀(f:Int) (d:aQ),d.Us->PC 217 [d.pv,.sl false [(ux f (gH o)).pv,(vr f).pv]] (·=d2 (eQ d [λd=>d.dh f (gH o),λd=>d.dO f])):=λf d E=>Hg [ux f (gH o),vr f] (by show 2<=1000;omega) d E λx v=>by
  rcases p9.1 v with rfl|v
  ·exact Gw _ _ om
  ·rw[o6.1 v];exact EY _
 have b:t.full (gH o)=decide (t.d.size.tdiv 2<((t.d.read t.f).size:Int)+((gH o).size:Int)):=rfl;have p:(t.d.read t.f).size<=1000000000:=by
  have E:=B.b_;unfold aQ.b_ at E;unfold aQ.read;cases decide (t.f=0)
  case true=>dsimp only;rw[cD];omega
  dsimp only;cases decide (t.f=1)
  case true=>dsimp only;rw[cD];omega
  exact j9 _
 have F:=B.size;unfold ay.do;generalize P:gH o=r at*
 cases q:t.d.down
 case true=>
  dsimp only;obtain⟨key,⟨size,h0,s0,h1,s1,down,cy,bx⟩,s,file,dR⟩:=t;dsimp only at q;subst q;exact vG func159 rfl<|an<|ah
 dsimp only;rcases v:apply t.s o with⟨s',a⟩
 rw[v]at g;dsimp only;obtain⟨key,⟨size,h0,s0,h1,s1,down,cy,bx⟩,s,file,dR⟩:=t;dsimp only at q F;subst q;have g:PC 225 [s.pv,o.pv] (·=.aU [s'.pv,a.pv]):=g;cases D:decide (a.e=0)
 ·exact vG func159 rfl<|ab<|ak g rfl<|aj.is false D<|an<|az<|ah
 cases J:o.oM
 ·rw[J]at j;exact vG func159 rfl<|ab<|ak g rfl<|aj.is true D<|ak j rfl<|an<|az<|ah
 rw[J]at j;have O:a.e=0:=j5 D;cases w:ay.full ⟨key,⟨size,h0,s0,h1,s1,false,cy,bx⟩,s,file,dR⟩ r
 ·have y:=u (ay.f ⟨key,⟨size,h0,s0,h1,s1,false,cy,bx⟩,s,file,dR⟩) ⟨size,h0,s0,h1,s1,false,cy,bx⟩ B;rw[w]at b;have c:=k;dsimp only;unfold ay.mg;generalize ay.f ⟨key,⟨size,h0,s0,h1,s1,false,cy,bx⟩,s,file,dR⟩=f at k c i y b p⊢;generalize aQ.read ⟨size,h0,s0,h1,s1,false,cy,bx⟩ f=rd at i b p;dsimp only at y b⊢;rcases z:eQ ⟨size,h0,s0,h1,s1,false,cy,bx⟩ [λd=>d.dh f r,λd=>d.dO f]with⟨d',e⟩
  rw[z]at y;dsimp only;refine vG func159 rfl<|ab<|ak g rfl<|aj.is true D<|ak j rfl<|ab<|ak C rfl<|aJ k rfl<|aJ i rfl<|cj.intro ((rd.size:Int)+(r.size:Int)) (wrap_i64 rr om)<|c_<|cj.intro (size.tdiv 2) (wrap_i64 rr (by rw[O1 om];omega))<|aj.is false b.symm<|az ?_;refine ab<|aJ c rfl<|aJ (Cq f r) rfl<|aJ c rfl<|aJ (BQ f) rfl<|aJ y rfl<|az<|aj.aN (λh0=>?_) (λh0=>?_)
  ·have hq:=zZ e a 25 3;obtain rfl:e=0:=j5 h0;refine an<|az<|pJ.mk ⟨[(25,uj 0),(3,vF a)],_,⟨rr,rr,trivial⟩,hq _ rr rr rr,?_⟩;rintro _ _ ⟨rfl,rfl⟩;exact ah
  ·have hq:=zZ e a 25 3;have h0:decide (e=0)=false:=h0;rw[Fo a h0]at hq;rw[h0];refine ab<|az<|pJ.mk ⟨[(25,uj e),(3,vF a)],_,⟨rr,rr,trivial⟩,hq _ rr rr rr,?_⟩;rintro _ _ ⟨rfl,rfl⟩;exact ah
 have l:=l w;have n:=KE (t:=⟨key,⟨size,h0,s0,h1,s1,false,cy,bx⟩,s,file,dR⟩) B;rw[w]at b;dsimp only;rcases G:ay.lg ⟨key,⟨size,h0,s0,h1,s1,false,cy,bx⟩,s,file,dR⟩with⟨t2,H⟩
 rw[G]at l n;dsimp only at l n⊢;have c:=Hc t2;have y:=u t2.f t2.d n;generalize ay.f ⟨key,⟨size,h0,s0,h1,s1,false,cy,bx⟩,s,file,dR⟩=f at k i b p;generalize aQ.read ⟨size,h0,s0,h1,s1,false,cy,bx⟩ f=rd at i b p;dsimp only at b;unfold ay.mg;rcases z:eQ t2.d [λd=>d.dh t2.f r,λd=>d.dO t2.f]with⟨d',e⟩
 rw[z]at y;dsimp only;refine vG func159 rfl<|ab<|ak g rfl<|aj.is true D<|ak j rfl<|ab<|ak C rfl<|aJ k rfl<|aJ i rfl<|cj.intro ((rd.size:Int)+(r.size:Int)) (wrap_i64 rr om)<|c_<|cj.intro (size.tdiv 2) (wrap_i64 rr (by rw[O1 om];omega))<|aj.is true b.symm<|az ?_;refine an<|ak l rfl<|aj.aN (λA=>?_) (λA=>?_)
 ·have hq:=zZ H a 25 3;obtain rfl:H=12:=j5 A;rw[Fo a rfl]at hq;refine an<|az<|pJ.mk ⟨[(25,uj 12),(3,vF a)],_,⟨rr,rr,trivial⟩,hq _ rr rr rr,?_⟩;rintro _ _ ⟨rfl,rfl⟩;exact ah
 ·rw[show decide (H=12)=false from A];refine ab<|aJ c rfl<|aJ (Cq t2.f r) rfl<|aJ c rfl<|aJ (BQ t2.f) rfl<|aJ y rfl<|az<|aj.aN (λh0=>?_) (λh0=>?_)
  ·have hq:=zZ e a 25 3;obtain rfl:e=0:=j5 h0;refine an<|az<|pJ.mk ⟨[(25,uj 0),(3,vF a)],_,⟨rr,rr,trivial⟩,hq _ rr rr rr,?_⟩;rintro _ _ ⟨rfl,rfl⟩;exact ah
  ·have hq:=zZ e a 25 3;have h0:decide (e=0)=false:=h0;rw[Fo a h0]at hq;rw[h0];refine ab<|az<|pJ.mk ⟨[(25,uj e),(3,vF a)],_,⟨rr,rr,trivial⟩,hq _ rr rr rr,?_⟩;rintro _ _ ⟨rfl,rfl⟩;exact ah
end
section
open Go.RowKit
def dj(R:ay->ay×bn)(c:List aO)(e:cK)(q:Option (cr×aC)):qv:=match decide (e.kind=1)with
 |true=>j_ c e
 |false=>match decide (e.kind=2)with
  |true=>rN c e
  |false=>match decide (e.kind=3)with
   |true=>ky c λt=>t.do nK
   |false=>match decide (e.kind=4)with
    |true=>mO c q
    |false=>match decide (e.kind=5)with
     |true=>((ky c λt=>({t with d:=t.d.fR e.bx},bn.z)).1,[])
     |false=>match decide (e.kind=6)with
      |true=>ij c e.aD λt=>({t with d:=t.d.fR e.bx},bn.z)
      |false=>match decide (e.kind=7)with
       |true=>ij c e.aD λt=>({t with d:=t.d.mZ e.n e.bx},bn.z)
       |false=>match decide (e.kind=8)with
        |true=>ky c R
        |false=>match decide (e.kind=9)with
         |true=>ij c e.aD R
         |false=>(c,say aA 1)
structure dB where
 name:BA
 key:BA
 s:af
abbrev rL:=List dB×List dg
def xg(i:List dB)(name:BA):Int:=cJ (λx:dB=>seq x.name name) i 0
def nW(i:List dB)(name:BA)(f:af->af×bn):rL:=match i.find? (λx=>seq x.name name)with
 |none=>(i,say aA 16)
 |some x=>(i.set (xg i name).toNat ⟨x.name,x.key,(f x.s).1⟩,[⟨x.name,(f x.s).2⟩])
def wg(i:List dB)(f:af->af×bn):rL:=(i.map λx=>⟨x.name,x.key,(f x.s).1⟩,i.map λx=>⟨x.name,(f x.s).2⟩)
def DO(i:List dB)(name:BA):Nat:=i.findIdx λx=>!dG x.name name
def rS(key:BA)(size:Int):Bool:=decide ((key.size:Int)<1)||decide ((64:Int)<key.size)||decide (size<1)||decide (1048576<size)
def wK(i:List dB)(e:cK):rL:=match d_ e.aD with
 |false=>(i,say e.aD 6)
 |true=>match decide (0<=xg i e.aD)with
  |true=>(i,say e.aD 8)
  |false=>match decide (8<=(i.length:Int))with
   |true=>(i,say e.aD 9)
   |false=>match rS e.key e.n with
    |true=>(i,say e.aD 1)
    |false=>(i.take (DO i e.aD)++⟨e.aD,e.key,af.new⟩::i.drop (DO i e.aD),say e.aD 0)
def DC(i:List dB)(e:cK):rL:=match decide (0<=xg i e.aD)&&!fJ e.o.kind 9 12 with
 |true=>(i,say e.aD 14)
 |false=>nW i e.aD λs=>apply s e.o
def pf(i:List dB):Option (cr×aC)->rL
 |none=>(i,say aA 2)
 |some (k,o)=>match i.find? (λx=>seq x.name k.aD)with
  |none=>(i,say aA 16)
  |some x=>match k.check x.key with
   |false=>(i,say aA 13)
   |true=>match pN x.key k o x.s.round with
     |no=>match decide (no=0)with
      |false=>(i,say k.aD no)
      |true=>nW i k.aD λs=>apply s o
def kQ(i:List dB)(e:cK)(q:Option (cr×aC)):rL:=match decide (e.kind=1)with
 |true=>wK i e
 |false=>match decide (e.kind=2)with
  |true=>DC i e
  |false=>match decide (e.kind=3)with
   |true=>wg i λs=>apply s nK
   |false=>match decide (e.kind=4)with
    |true=>pf i q
    |false=>match decide (e.kind=8)with
     |true=>wg i λs=>(s,.ef 15)
     |false=>match decide (e.kind=9)with
      |true=>nW i e.aD λs=>(s,.ef 15)
      |false=>(i,say aA 1)
structure nH(M B:Nat)(t:ay):Prop where
 down:t.d.down=false
 cy:t.d.cy=-1
 file:t.file=0
 h0:t.d.h0.size<=B
 s0:t.d.s0=aA
 h1:t.d.h1=aA
 s1:t.d.s1=aA
 room:2*(M:Int)<=t.d.size
def nH.le{M B C:Nat}{t:ay}(h:nH M B t)(a:B<=C):nH M C t:=⟨h.down,h.cy,h.file,r8 h.h0 a,h.s0,h.h1,h.s1,h.room⟩
def aeD(h0 r:BA):(gw (h0,aA++r)).2=aA/\(gw (h0,aA++r)).1.size<=h0.size+r.size:=by
 unfold gw;cases a:seq h0 aA&&seq (aA++r) aA
 case true=>
  grind [eI]
 refine az ?_;show(h0++(aA++r)).size<=_
 rw[cD,cD];show h0.size+(0+r.size)<=_
 omega
def LD{d e:aQ}{g:aQ->aQ×Int}{l:List (aQ->aQ×Int)}(h:g d=(e,0)):eQ d (g::l)=eQ e l:=by grind [eQ]
def TW{M B:Nat}{t:ay}(h:nH M B t){r:BA}(j:B+r.size<=2*M)(s:af)(a:bn):∃d,t.mg s a r=({t with d:=d,s:=s},a)/\nH M (B+r.size) {t with d:=d,s:=s}:=by
 obtain⟨e1,e2,e3,e4,e5,e6,e7,e8⟩:=h;rcases t with⟨key,⟨size,h0,s0,h1,s1,down,cy,bx⟩,s',file,dR⟩
 dsimp only at e1 e2 e3 e4 e5 e6 e7 e8;subst e1 e2 e3 e5 e6 e7;obtain⟨i,k⟩:=aeD h0 r;have c:aQ.dh ⟨size,h0,aA,aA,aA,false,-1,bx⟩ 0 r=(⟨size,h0,aA++r,aA,aA,false,-1,bx⟩,0):=by
  have f:aQ.full ⟨size,h0,aA,aA,aA,false,-1,bx⟩ r=false:=by
   unfold aQ.full aQ.b_;show(decide (size<(r.size:Int))||decide (size-(r.size:Int)<((h0.size+0+(0+0):Nat):Int)))=false
   grind
  unfold aQ.dh;rw[f];rfl
 have g:aQ.dO ⟨size,h0,aA++r,aA,aA,false,-1,bx⟩ 0=(⟨size,(gw (h0,aA++r)).1,(gw (h0,aA++r)).2,aA,aA,false,-1,bx⟩,0):=rfl;refine⟨⟨size,(gw (h0,aA++r)).1,(gw (h0,aA++r)).2,aA,aA,false,-1,bx⟩,?_,⟨rr,rr,rr,?_,i,rr,rr,e8⟩⟩
 ·have b:eQ ⟨size,h0,aA,aA,aA,false,-1,bx⟩ [λd=>d.dh 0 r,λd=>d.dO 0]=(⟨size,(gw (h0,aA++r)).1,(gw (h0,aA++r)).2,aA,aA,false,-1,bx⟩,0):=
   (LD c).trans ((LD g).trans rr)
  show(match eQ ⟨size,h0,aA,aA,aA,false,-1,bx⟩ [λd=>d.dh 0 r,λd=>d.dO 0]with
   |(d,e)=>match decide (e=0)with
    |false=>((⟨key,d,s',0,dR⟩:ay),bn.ef e)
    |true=>(⟨key,d,s,0,dR⟩,a))=_
  rw[b];rfl
 grind
def FK(b:BA):(eN b).size<=b.size+8:=by
 have h:(eN b).size=(Fr.put b.data.toList).length:=by rw[<-qK];rfl
 rw[h];by_cases a:b.data.toList.length<=65536
 ·grind [Fr.yj,qK]
 grind [Fr.put]
def Tw{o:aC}{K:Nat}(h:o.put.size<=K):(gH o).size<=K+9:=by
 unfold gH;cases seq o.put aA
 case true=>exact j9 _
 refine r8 (FK _) ?_;rw[cD];show 1+o.put.size+8<=K+9
 omega
theorem afY(s:af)(o:aC):(apply s o).1=s\/((apply s o).2.e=0/\o.oM=true):=by
 unfold apply;cases c:o.right
 ·simp_all
 dsimp only;cases d:fJ o.kind 4 8
 case true=>simp_all
 dsimp only;have hk:(gD o.kind).isSome=true:=by
  grind [aC.right]
 have b:o.oM=true:=by
  have a:1<=o.kind/\o.kind<=13:=by
   unfold gD at hk;rw[Option.isSome_map,List.find?_isSome]at hk;obtain⟨x,f,e⟩:=hk;have e:=j5 e;have:∀x∈uT,1<=x.1/\x.1<=13:=by decide
   grind
  grind [vn,aC.oM]
 cases decide (o.kind=13)
 case true=>exact .inr ⟨rr,b⟩
 dsimp only;rcases kj s o with⟨t,id,e⟩
 dsimp only;cases decide (e=0)
 ·simp_all
 exact .inr ⟨rr,b⟩
def aei{s:af}{o:aC}(h:(decide ((apply s o).2.e=0)&&o.oM)=false):(apply s o).1=s:=by grind [afY]
def alp{M B K:Nat}{t:ay}(h:nH M B t){o:aC}(b:o.put.size<=K)(i:B+(K+9)<=M):(t.do o).1.key=t.key/\(t.do o).1.s=(apply t.s o).1/\(t.do o).2=(apply t.s o).2/\nH M (B+(K+9)) (t.do o).1:=by
 have j:=Tw b;unfold ay.do;rw[h.down];dsimp only;cases c:decide ((apply t.s o).2.e=0)&&o.oM
 ·exact⟨rr,(aei c).symm,rr,h.le om⟩
 have g:t.f=0:=by unfold ay.f;rw[h.file];rfl
 have a:t.full (gH o)=false:=by
  unfold ay.full;rw[g];refine j1 ?_;have e:(t.d.read 0).size<=B:=by
   show(t.d.h0++t.d.s0).size<=B
   rw[h.s0,cD];exact h.h0
  have e2:(M:Int)<=t.d.size.tdiv 2:=by
   have:=h.room;grind
  omega
 dsimp only;rw[a];dsimp only;obtain⟨d,e1,e2⟩:=TW h (r:=gH o) om (apply t.s o).1 (apply t.s o).2;rw[e1];exact⟨rr,rr,rr,e2.le om⟩
def kZ(n:aO):dB:=⟨n.name,n.t.key,n.t.s⟩
structure iI(M B:Nat)(c:List aO)(i:List dB):Prop where
 eq:c.map kZ=i
 ok:∀n∈c,nH M B n.t
def BF{α β:Type}(f:α->β)(p:β->Bool):∀(l:List α) (k:Int),cJ p (l.map f) k=cJ (λx=>p (f x)) l k
 | [],_=>rfl
 |x::l,k=>by
  show cJ p (f x::l.map f) k=cJ (λx=>p (f x)) (x::l) k
  unfold cJ
  rw[BF f p l (k+1)]
theorem IY(c:List aO)(name:BA):xg (c.map kZ) name=jm c name:=BF kZ (λx:dB=>seq x.name name) c 0
def KH(c:List aO)(name:BA):(c.map kZ).find? (λx=>seq x.name name)=(c.find? λn=>seq n.name name).map kZ:=by rw[O6];rfl
def iI.le{M B C:Nat}{c:List aO}{i:List dB}(h:iI M B c i)(a:B<=C):iI M C c i:=⟨h.eq,λn b=>(h.ok n b).le a⟩
def Dw(M B C:Nat)(f:ay->ay×bn)(g:af->af×bn):Prop:=∀t,nH M B t->(f t).1.key=t.key/\(f t).1.s=(g t.s).1/\(f t).2=(g t.s).2/\nH M C (f t).1
theorem Ge{M B C:Nat}{c:List aO}{i:List dB}(h:iI M B c i)(b:B<=C)(name:BA){f:ay->ay×bn}{g:af->af×bn}(d:Dw M B C f g):iI M C (ij c name f).1 (nW i name g).1/\(ij c name f).2=(nW i name g).2:=by
 obtain⟨rfl,a⟩:=h;unfold ij nW;rw[KH,IY];cases j:c.find? (λn=>seq n.name name)with
 |none=>exact⟨⟨rr,λn k=>(a n k).le b⟩,rr⟩
 |some n=>
  obtain⟨h1,h2,l,m⟩:=d n.t (a n (x7 j));refine⟨⟨?_,λx e=>?_⟩,?_⟩
  ·grind [kZ,List.map_set]
  ·rcases x6 e with e|rfl
   ·exact(a x e).le b
   ·exact m
  ·show[(⟨n.name,(f n.t).2⟩:dg)]=[⟨n.name,(g n.t.s).2⟩]
   rw[l]
theorem Mj{M B C:Nat}{c:List aO}{i:List dB}(h:iI M B c i){f:ay->ay×bn}{g:af->af×bn}(a:Dw M B C f g):iI M C (ky c f).1 (wg i g).1/\(ky c f).2=(wg i g).2:=by
 obtain⟨rfl,b⟩:=h;unfold ky wg;refine⟨⟨?_,λx e=>?_⟩,?_⟩
 ·dsimp only;rw[F3,F3];refine C4 λn d=>?_
  obtain⟨h1,h2,j,k⟩:=a n.t (b n d);show(⟨n.name,(f n.t).1.key,(f n.t).1.s⟩:dB)=⟨n.name,n.t.key,(g n.t.s).1⟩
  rw[h1,h2]
 ·obtain⟨n,d,rfl⟩:=y9.1 e;exact(a n.t (b n d)).2.2.2
 ·dsimp only;rw[F3];refine C4 λn d=>?_
  show(⟨n.name,(f n.t).2⟩:dg)=⟨n.name,(g n.t.s).2⟩
  rw[(a n.t (b n d)).2.2.1]
def ahz:(gn 1 af.new).size<=220:=by
 unfold gn;refine r8 (FK _) ?_;rw[cD,cD];have h1:=cv 1;have h0:=cv 0;have a:=cv (aG ((0:Nat):Int));have b:=cv (aG ((1:Nat):Int));have c:=gh aA;have d:aA.size=0:=rfl;have hv:=jW V4.z;have h2:af.new.put.size<=190:=by
  unfold af.put;rw[cD,cD];have e1:af.new.dX.put.size<=20:=by
   show(av 0++av (aG ((0:Nat):Int))).size<=20
   grind
  have e2:af.new.dy.put.size<=20:=e1;have e3:(af.new.ae.foldl iz (av af.new.round++av af.new.next++af.new.ar.put++lv af.new.aH++av (aG (af.new.ae.length:Nat)))).size<=150:=by
   show(av 0++av 1++(av (aG ((0:Nat):Int))++av (aG ((0:Nat):Int)))++(av (aG ((1:Nat):Int))++(bQ aA++cH V4.z++cH V4.z))++av (aG ((0:Nat):Int))).size<=150
   grind
  omega
 show 1+(av 1).size+af.new.put.size+8<=220
 omega
def ajE{M:Nat}{key:BA}{n:Int}(i:220<=2*M)(h:rS key n=false)(c:2*(M:Int)<=n):∃d,ay.new key n=(⟨key,d,af.new,0,1⟩,0)/\nH M 220 ⟨key,d,af.new,0,1⟩:=by
 have j:=ahz;obtain⟨d,e1,e2⟩:=TW (M:=M) (B:=0) (t:=⟨key,aQ.new n,af.new,0,1⟩) ⟨rfl,rfl,rfl,j2 _,rfl,rfl,rfl,c⟩ (r:=gn 1 af.new) om af.new bn.z;refine⟨d,?_,e2.le om⟩;unfold ay.new;unfold rS at h;rw[h];dsimp only;unfold ay.mg at e1;have b:(eQ (aQ.new n) [λd=>d.dh 0 (gn 1 af.new),λd=>d.dO 0])=(d,0):=by
  have a:(match eQ (aQ.new n) [λd=>d.dh 0 (gn 1 af.new),λd=>d.dO 0]with
   |(d,e)=>match decide (e=0)with
    |false=>((⟨key,d,af.new,0,1⟩:ay),bn.ef e)
    |true=>(⟨key,d,af.new,0,1⟩,bn.z))=(⟨key,d,af.new,0,1⟩,bn.z):=e1
  rcases f:eQ (aQ.new n) [λd=>d.dh 0 (gn 1 af.new),λd=>d.dO 0]with⟨d',e'⟩
  rw[f]at a;dsimp only at a;cases g:decide (e'=0)
  case true=>
   simp_all
  rw[g]at a;have:e'=0:=congrArg (λx:ay×bn=>x.2.e) a;simp_all
 rw[b];rfl
def adj{key:BA}{n:Int}(h:rS key n=true):ay.new key n=(ay.z,1):=by grind [ay.new,rS]
def agC(c:List aO)(name:BA):DO (c.map kZ) name=my c name:=by
 unfold DO my;rw[List.findIdx_map];rfl
structure zP(M K:Nat)(e:cK)(q:Option (cr×aC)):Prop where
 vz:e.kind≠5/\e.kind≠6/\e.kind≠7
 room:e.kind=1->2*(M:Int)<=e.n\/rS e.key e.n=true
 op:e.o.put.size<=K
 ud:∀k o,q=some (k,o)->o.put.size<=K
def aaB:nK.put.size<=1:=by decide
def ai2{M B K:Nat}{c:List aO}{i:List dB}{e:cK}{q:Option (cr×aC)}(h:iI M B c i)(f:zP M K e q)(hk:e.kind=1)(g:220<=B)(k:B<=M):iI M B (j_ c e).1 (wK i e).1/\(j_ c e).2=(wK i e).2:=by
 obtain⟨rfl,a⟩:=h;unfold j_ wK;rw[IY,c8,agC];cases d_ e.aD
 ·exact⟨⟨rr,a⟩,rr⟩
 dsimp only;cases decide (0<=jm c e.aD)
 case true=>exact⟨⟨rr,a⟩,rr⟩
 dsimp only;cases decide (8<=(c.length:Int))
 case true=>exact⟨⟨rr,a⟩,rr⟩
 dsimp only;cases hb:rS e.key e.n
 case true=>rw[adj hb];exact⟨⟨rr,a⟩,rr⟩
 have j:2*(M:Int)<=e.n:=by
  rcases f.room hk with h|h
  ·exact h
  simp_all
 obtain⟨d,e1,e2⟩:=ajE om hb j;rw[e1];refine⟨⟨?_,λx b=>?_⟩,rr⟩
 ·grind [kZ,List.map_take,List.map_drop]
 ·have b:x∈c.take (my c e.aD)++(⟨e.aD,⟨e.key,d,af.new,0,1⟩⟩:aO)::c.drop (my c e.aD):=b;rcases s8.1 b with b|b
  ·grind
  ·rcases p9.1 b with rfl|b
   ·exact e2.le g
   grind
def KR{M B K:Nat}{o:aC}(a:o.put.size<=K)(b:B+(K+9)<=M):Dw M B (B+(K+9)) (λt=>t.do o) λs=>apply s o:=λ_ c=>alp c a b
theorem aen{M B K:Nat}{c:List aO}{i:List dB}{e:cK}{q:Option (cr×aC)}(h:iI M B c i)(b:zP M K e q)(d:B+(K+9)<=M):iI M (B+(K+9)) (mO c q).1 (pf i q).1/\(mO c q).2=(pf i q).2:=by
 have h':=h.le (D3 B (K+9));rcases q with _|⟨k,o⟩
 ·exact⟨h',rr⟩
 have j:=Ge h (D3 B (K+9)) k.aD (KR (b.ud k o rr) d);obtain⟨rfl,a⟩:=h;unfold mO pf f_;dsimp only;rw[KH];cases f:c.find? (λn=>seq n.name k.aD)with
 |none=>simp_all
 |some n=>
  dsimp only[Option.map];have g:=a n (x7 f);show iI M (B+(K+9)) (match k.check n.t.key with|false=>((c,say aA 13):qv)|true=>_).1 (match k.check n.t.key with|false=>((c.map kZ,say aA 13):rL)|true=>_).1/\(match k.check n.t.key with|false=>((c,say aA 13):qv)|true=>_).2=(match k.check n.t.key with|false=>((c.map kZ,say aA 13):rL)|true=>_).2
  cases k.check n.t.key
  ·simp_all
  rw[g.down];grind [kZ]
def ajw{M B K:Nat}{R:ay->ay×bn}(k:∀t,t.d.down=false->R t=(t,.ef 15)){c:List aO}{i:List dB}{e:cK}{q:Option (cr×aC)}(h:iI M B c i)(a:zP M K e q)(l:1<=K)(m:220<=B)(g:B+(K+9)<=M):iI M (B+(K+9)) (dj R c e q).1 (kQ i e q).1/\(dj R c e q).2=(kQ i e q).2:=by
 have h':=h.le (D3 B (K+9));have f:Dw M B (B+(K+9)) R λs=>(s,.ef 15):=λt j=>by
  rw[k t j.down];exact⟨rr,rr,rr,j.le (D3 _ _)⟩
 obtain⟨r,u,v⟩:=a.vz;unfold dj kQ;cases h1:decide (e.kind=1)
 case true=>
  have:=ai2 h a (j5 h1) m om;exact⟨this.1.le (D3 _ _),this.2⟩
 dsimp only;cases h2:decide (e.kind=2)
 case true=>
  dsimp only;unfold rN DC;have b:xg i e.aD=jm c e.aD:=by rw[<-h.eq];grind [IY]
  rw[b];cases decide (0<=jm c e.aD)&&!fJ e.o.kind 9 12
  case true=>simp_all
  exact Ge h (D3 _ _) _ (KR a.op g)
 dsimp only;cases n:decide (e.kind=3)
 case true=>exact Mj h (KR (r8 aaB l) g)
 dsimp only;cases p:decide (e.kind=4)
 case true=>grind [aen]
 grind [Mj,Ge]
abbrev sS:=Option (cr×aC)
abbrev aW:=cK×sS
structure bN where
 k:UInt8
 a:UInt8
 b:UInt8
 c:UInt8
 d:UInt8
 kind:UInt8
 t:UInt8
 n:UInt8
abbrev sA:BA:=⟨#[97]⟩
abbrev qg:BA:=⟨#[97,47,98]⟩
abbrev sB:BA:=⟨#[98]⟩
abbrev vE:BA:=⟨#[206,179]⟩
abbrev yZ:BA:=⟨#[206,177,206,178]⟩
abbrev sX:BA:=⟨#[120]⟩
abbrev yt:BA:=⟨#[110,49]⟩
abbrev zU:BA:=⟨#[110,50]⟩
abbrev Mo:BA:=⟨#[110,51]⟩
abbrev PS:BA:=⟨#[208,180,208,190,208,188]⟩
abbrev vD:BA:=⟨#[122,111,110,101]⟩
abbrev ew:BA:=⟨#[107,101,121]⟩
abbrev sK:BA:=⟨#[107]⟩
abbrev sD:BA:=⟨#[100]⟩
abbrev Hy:BA:=⟨#[120,32,121]⟩
def pick(l:List BA)(i:Nat):BA:=(l[i]?).getD aA
abbrev di:List BA:=[sA,sB,vE]
def bN.name(x:bN):BA:=pick di (x.t.toNat%3)
def bN.dv(x:bN):List bX:=match decide (200<x.d.toNat)with
 |true=>[⟨vD,decide (x.d.toNat%2=1),[sA]⟩]
 |false=>[]
def bN.aZ(x:bN):bM:=⟨pick [sA,qg,sB,yZ] (x.a.toNat%4),⟨UInt64.ofNat (x.b.toNat%5),UInt64.ofNat (x.b.toNat / 5%5),0,UInt64.ofNat (x.b.toNat / 25%3)⟩,((1+x.c.toNat%3:Nat):Int),((x.c.toNat / 3%4:Nat):Int),((1+x.d.toNat%5:Nat):Int),x.dv⟩
def bN.node(x:bN):BA:=pick [yt,zU,Mo,PS] (x.b.toNat%4)
def bN.aa(x:bN):BA:=pick [sA,qg,sB,yZ,sX] (x.a.toNat%5)
def bN.ao(x:bN):List cC:=match decide (0<x.c.toNat%3)with
 |true=>[⟨vD,pick [sA,sB] (x.c.toNat%2)⟩]
 |false=>[]
def bN.iO(x:bN)(k:Nat):aC:=
 match decide (k<=4)with
 |true=>{aC.z with kind:=1,x:=x.aZ}
 |false=>match decide (k=5)with
  |true=>{aC.z with kind:=2,id:=UInt64.ofNat (x.a.toNat%12)}
  |false=>match decide (k=6)with
   |true=>{aC.z with kind:=3,aa:=x.aa,v:=⟨UInt64.ofNat (x.c.toNat%24),20,20,20⟩}
   |false=>match decide (k=7)with
    |true=>{aC.z with kind:=4,id:=UInt64.ofNat (x.a.toNat%14)}
    |false=>match decide (k=8)with
     |true=>{aC.z with kind:=5,n:=UInt64.ofNat x.a.toNat}
     |false=>match decide (k=9)with
      |true=>{aC.z with kind:=6,n:=UInt64.ofNat (x.a.toNat%40)}
      |false=>match decide (k=10)with
       |true=>{aC.z with kind:=7,aa:=pick [aA,x.aa] (x.b.toNat%2)}
       |false=>match decide (k=11)with
        |true=>{aC.z with kind:=8,aa:=x.node}
        |false=>match decide (k=12)with
         |true=>{aC.z with kind:=9,v:=⟨UInt64.ofNat (20+x.c.toNat%20),30,30,30⟩}
         |false=>match decide (k<=14)with
          |true=>{aC.z with kind:=10,aa:=x.node,v:=⟨UInt64.ofNat (2+x.c.toNat%6),9,9,9⟩,ao:=x.ao}
          |false=>match decide (k=15)with
           |true=>{aC.z with kind:=11,aa:=x.node}
           |false=>match decide (k=16)with
            |true=>{aC.z with kind:=12,aa:=x.node}
            |false=>nK
def bN.op(x:bN):aC:=x.iO (x.k.toNat%20)
def cK.z:cK:=⟨0,aA,aA,0,0,aC.z,aA⟩
def zl(t:cr)(o:aC):sS:=match t.nO&&o.right with
 |true=>some (t,o)
 |false=>none
def fr(t:cr)(o:aC):aW:=({cK.z with kind:=4,bytes:=ov t o},zl t o)
def fQ(name:BA):cr:=cr.new (ew++name) name
def uK(loss:Bool)(k:Nat):Int:=match !loss&&(decide (5<=k)&&decide (k<=7))with
 |true=>0
 |false=>(k:Int)
def bN.eX(x:bN)(loss:Bool)(k:Nat):aW:=match decide (k<4)with
 |true=>({cK.z with kind:=3},none)
 |false=>match decide (k=4)&&loss with
  |true=>({cK.z with kind:=7,aD:=x.name,n:=((x.n.toNat%9:Nat):Int),bx:=(x.c.toNat:Int)},none)
  |false=>match decide (k=5)&&loss with
   |true=>({cK.z with kind:=6,aD:=x.name,bx:=(x.c.toNat:Int)},none)
   |false=>match decide (k=6)&&loss with
    |true=>({cK.z with kind:=5,bx:=(x.c.toNat:Int)},none)
    |false=>match decide (k<10)&&loss with
     |true=>({cK.z with kind:=((8+x.n.toNat%2:Nat):Int),aD:=x.name},none)
     |false=>match decide (k=10)with
      |true=>({cK.z with kind:=1,aD:=pick [sA,sD,Hy,vE] (x.n.toNat%4),key:=sK,n:=50000},none)
      |false=>match decide (k=11)with
       |true=>fr (cr.new (ew++x.name) (pick di (x.n.toNat%3))) x.op
       |false=>match decide (k=12)with
        |true=>fr ((fQ x.name).zg ⟨((1+x.n.toNat%2:Nat):Int),UInt64.ofNat (x.n.toNat / 2%9)⟩) x.op
        |false=>match decide (k=13)with
         |true=>({cK.z with kind:=uK loss (x.n.toNat%12),aD:=x.name,o:=x.op,bytes:=⟨#[x.n,x.t]⟩},none)
         |false=>match(fA x.op).2 with
          |false=>({cK.z with kind:=2,aD:=x.name,o:=x.op},none)
          |true=>fr (fQ x.name) x.op
def bN.fK(loss:Bool)(x:bN):aW:=x.eX loss (x.kind.toNat%24)
def ni(p:BA):aC:={aC.z with kind:=3,aa:=p,v:=⟨12,20,20,20⟩}
def zN(p:BA)(n:UInt64):aC:={aC.z with kind:=10,aa:=p,v:=⟨n,9,9,9⟩}
def mH:List aC:=[{aC.z with kind:=9,v:=⟨30,30,30,30⟩},ni sA,ni qg,ni sB,zN yt 4,zN zU 6]
def mJ(name:BA)(o:aC):aW:=match decide (o.kind=3)with
 |true=>fr (fQ name) o
 |false=>({cK.z with kind:=2,aD:=name,o:=o},none)
def rY(size:Int)(name:BA):List aW:=({cK.z with kind:=1,aD:=name,key:=ew++name,n:=size},none)::mH.map (mJ name)
def lr(size:Int):List aW:=rY size sA++(rY size sB++rY size vE)
def we(l:List bN)(loss:Bool)(size:Int):List aW:=lr size++(l.take 40).map (bN.fK loss)
def rq:aW:=({cK.z with kind:=3},none)
def mK{α:Type}(a:α->aW->α×List dg):α->List aW->α×List (List dg)
 |c,[]=>(c,[])
 |c,x::l=>match a c x with
  |(d,r)=>match mK a d l with
   |(e,rs)=>(e,r::rs)
abbrev ls(i:List dB)(l:List aW):List dB×List (List dg):=mK (λi x=>kQ i x.1 x.2) i l
abbrev cY(R:ay->ay×bn)(c:List aO)(l:List aW):List aO×List (List dg):=mK (λc x=>dj R c x.1 x.2) c l
theorem Rw{α:Type}(a:α->aW->α×List dg):∀(l m:List aW) (c:α),mK a c (l++m)=((mK a (mK a c l).1 m).1,(mK a c l).2++(mK a (mK a c l).1 m).2)
 | [],m,c=>rfl
 |x::l,m,c=>by
  have b:=Rw a l m (a c x).1
  grind [mK]
def xc{M K:Nat}{R:ay->ay×bn}(a:∀t,t.d.down=false->R t=(t,.ef 15))(b:1<=K):∀(l:List aW) {B:Nat} {c:List aO} {i:List dB},iI M B c i->(∀x∈l,zP M K x.1 x.2)->220<=B->B+l.length*(K+9)<=M->
 iI M (B+l.length*(K+9)) (cY R c l).1 (ls i l).1/\(cY R c l).2=(ls i l).2
 | [],B,c,i,h,_,_,_=>⟨h.le (D3 _ _),rr⟩
 |x::l,B,c,i,h,e,f,g=>by
  rw[w6,D7]at g⊢
  have h1:=ajw a h (e x j6) b f om
  have h2:=xc a b l h1.1 (λy j=>e y (j3 _ j)) om om
  have e1:(cY R c (x::l))=((cY R (dj R c x.1 x.2).1 l).1,(dj R c x.1 x.2).2::(cY R (dj R c x.1 x.2).1 l).2):=rfl
  have e2:(ls i (x::l))=((ls (kQ i x.1 x.2).1 l).1,(kQ i x.1 x.2).2::(ls (kQ i x.1 x.2).1 l).2):=rfl
  grind
structure cN(o:aC):Prop where
 aa:o.aa.size<=6
 xp:o.x.aa.size<=6
 sl:o.x.dv.length<=1
 dv:∀t∈o.x.dv,t.key.size<=4/\t.bJ.length<=1/\∀v∈t.bJ,v.size<=4
 ll:o.ao.length<=1
 gS:∀p∈o.ao,p.k.size<=4/\p.v.size<=4
theorem vy:aA.size=0:=rfl
def PD{l:List cC}(a:l.length<=1)(h:∀p∈l,p.k.size<=4/\p.v.size<=4):(gq l).size<=38:=by
 unfold gq;cases iy l
 ·grind [vy]
 have h1:=cv (aG (l.length:Nat));have:=jV (f:=nr) (B:=28) (l:=l) (s:=av (aG (l.length:Nat))) λs p hp=>by
  grind [gh,nr]
 grind
theorem am4{t:bX}(h:t.key.size<=4/\t.bJ.length<=1/\∀v∈t.bJ,v.size<=4):t.put.size<=38:=by
 obtain⟨h1,h2,a⟩:=h;unfold bX.put;have b:=gh t.key;have c:=cv (aG t.n);have d:=jV (f:=jf) (B:=14) (l:=t.bJ) (s:=bQ t.key++av (aG t.n)) λs v hv=>by
  grind [gh,jf]
 grind
theorem RJ{l:List bX}(a:l.length<=1)(h:∀t∈l,t.key.size<=4/\t.bJ.length<=1/\∀v∈t.bJ,v.size<=4):(oQ l).size<=48:=by
 unfold oQ;cases mD l
 ·grind [vy]
 have h1:=cv (aG (l.length:Nat));have:=jV (f:=n_) (B:=38) (l:=l) (s:=av (aG (l.length:Nat))) λs t b=>by
  grind [am4,n_]
 grind
def agj{x:bM}(h1:x.aa.size<=6)(h2:x.dv.length<=1)(a:∀t∈x.dv,t.key.size<=4/\t.bJ.length<=1/\∀v∈t.bJ,v.size<=4):x.put.size<=134:=by
 unfold bM.put;grind [vy,gh,jW,cv,aG,RJ]
theorem yn{o:aC}(h:cN o):o.put.size<=320:=by
 unfold aC.put;cases o.right
 ·grind [vy]
 dsimp only;unfold aC.bytes;generalize(gD o.kind).getD iJ.z=f;have a:=oP f.id (av (aG o.kind)) (av o.id);generalize h_ f.id (av (aG o.kind)) (av o.id)=b1 at a⊢;have a2:=oP f.n b1 (av o.n);generalize h_ f.n b1 (av o.n)=b2 at a2⊢;have a3:=oP f.aa b2 (bQ o.aa);generalize h_ f.aa b2 (bQ o.aa)=b3 at a3⊢;have a4:=oP f.v b3 (cH o.v);generalize h_ f.v b3 (cH o.v)=b4 at a4⊢;have a5:=oP f.x b4 o.x.put;generalize h_ f.x b4 o.x.put=b5 at a5⊢;have b:=oP f.ao b5 (gq o.ao);have:=cv (aG o.kind);have:=cv o.id;have:=cv o.n;have:=gh o.aa;have:=h.aa;have:=jW o.v;have:=agj h.xp h.sl h.dv;have:=PD h.ll h.gS;omega
def cN.Ag{o:aC}(h:cN o):o.x.Sz:=⟨by have:=h.xp;omega,by have:=h.sl;omega,λt a=>by
 have:=h.dv t a
 have b:=this.2.2
 exact⟨om,om,λv hv=>by grind⟩⟩
def cN.sz{o:aC}(h:cN o):gF o:=⟨by have:=h.aa;omega,h.Ag,by have:=h.ll;omega,λp hp=>by have:=h.gS p hp;omega⟩
def wB{l:List BA}{n:Nat}(h:∀s∈l,s.size<=n)(i:Nat):(pick l i).size<=n:=by
 unfold pick;cases hi:l[i]? with
 |none=>exact j9 _
 |some s=>grind
def cN.z:cN aC.z:=⟨j9 _,j9 _,j9 _,λ_ h=>(o7 h).elim,j9 _,λ_ h=>(o7 h).elim⟩
def cN.with{o:aC}(h:cN o)(k:Int)(id n:UInt64)(v:V4):cN {o with kind:=k,id:=id,n:=n,v:=v}:=⟨h.aa,h.xp,h.sl,h.dv,h.ll,h.gS⟩
def CK(x:bN):x.node.size<=6:=wB (by decide) _
theorem XF(x:bN):x.aa.size<=6:=wB (by decide) _
def NN(x:bN):x.dv.length<=1/\∀t∈x.dv,t.key.size<=4/\t.bJ.length<=1/\∀v∈t.bJ,v.size<=4:=by
 unfold bN.dv;cases decide (200<x.d.toNat)
 ·simp_all
 refine⟨j2 _,λt a=>?_⟩;obtain rfl:=o6.1 a;refine⟨(by decide:vD.size<=4),j2 _,λv hv=>?_⟩;obtain rfl:=o6.1 hv;exact(by decide:sA.size<=4)
def QP(x:bN):x.ao.length<=1/\∀p∈x.ao,p.k.size<=4/\p.v.size<=4:=by
 unfold bN.ao;cases decide (0<x.c.toNat%3)
 ·simp_all
 refine⟨j2 _,λt a=>?_⟩;obtain rfl:=o6.1 a;exact⟨(by decide:vD.size<=4),wB (by decide) _⟩
def cN.p{p:BA}(h:p.size<=6)(k:Int)(v:V4):cN {aC.z with kind:=k,aa:=p,v:=v}:=⟨h,cN.z.xp,cN.z.sl,cN.z.dv,cN.z.ll,cN.z.gS⟩
def an6(x:bN)(k:Nat):cN (x.iO k):=by
 unfold bN.iO;cases decide (k<=4)
 case true=>exact⟨cN.z.aa,wB (by decide) _,(NN x).1,(NN x).2,cN.z.ll,cN.z.gS⟩
 dsimp only;cases decide (k=5)
 case true=>exact cN.z.with _ _ _ _
 dsimp only;cases decide (k=6)
 case true=>exact .p (XF x) _ _
 dsimp only;cases decide (k=7)
 case true=>exact cN.z.with _ _ _ _
 dsimp only;cases decide (k=8)
 case true=>exact cN.z.with _ _ _ _
 dsimp only;cases decide (k=9)
 case true=>exact cN.z.with _ _ _ _
 dsimp only;cases decide (k=10)
 case true=>exact .p (wB (λs a=>by
   rcases p9.1 a with rfl|a
   ·exact j9 _
   grind [XF]) _) _ _
 dsimp only;cases decide (k=11)
 case true=>exact .p (CK x) _ _
 dsimp only;cases decide (k=12)
 case true=>exact cN.z.with _ _ _ _
 dsimp only;cases decide (k<=14)
 case true=>exact⟨CK x,cN.z.xp,cN.z.sl,cN.z.dv,(QP x).1,(QP x).2⟩
 dsimp only;cases decide (k=15)
 case true=>exact .p (CK x) _ _
 dsimp only;cases decide (k=16)
 case true=>exact .p (CK x) _ _
 exact cN.z.with _ _ _ _
theorem qY(x:bN):cN x.op:=an6 x _
structure ic(M:Nat)(x:aW):Prop where
 vz:x.1.kind≠5/\x.1.kind≠6/\x.1.kind≠7
 room:x.1.kind=1->2*(M:Int)<=x.1.n\/rS x.1.key x.1.n=true
 op:cN x.1.o
 ud:∀k o,x.2=some (k,o)->cN o
def ic.yL{M:Nat}{x:aW}(h:ic M x):zP M 320 x.1 x.2:=⟨h.vz,h.room,yn h.op,λk o e=>yn (h.ud k o e)⟩
def Lj{t:cr}{o:aC}{k:cr}{o':aC}(h:zl t o=some (k,o')):k=t/\o'=o:=by grind [zl]
theorem Pu(M:Nat)(t:cr){o:aC}(h:cN o):ic M (fr t o):=by
 refine⟨⟨by show(4:Int)≠5;decide,by show(4:Int)≠6;decide,by show(4:Int)≠7;decide⟩,λe=>?_,cN.z,λk o' e=>?_⟩
 ·exact absurd (show(4:Int)=1 from e) (by decide)
 ·obtain⟨_,rfl⟩:=Lj e;exact h
theorem Gh(M:Nat)(e:cK)(a:e.kind≠5/\e.kind≠6/\e.kind≠7)(h1:e.kind=1->2*(M:Int)<=e.n\/rS e.key e.n=true)(b:cN e.o):ic M (e,none):=⟨a,h1,b,λ_ _ h=>by cases h⟩
theorem Ce{o:aC}(h:o∈mH):cN o:=by
 unfold mH at h;simp only[p9,o7,H3]at h;rcases h with rfl|rfl|rfl|rfl|rfl|rfl
 ·exact cN.z.with _ _ _ _
 ·exact .p (by decide) _ _
 ·exact .p (by decide) _ _
 ·exact .p (by decide) _ _
 ·exact .p (by decide) _ _
 ·exact .p (by decide) _ _
theorem aeg(M:Nat)(name:BA){o:aC}(h:cN o):ic M (mJ name o):=by grind [mJ,Pu,Gh]
theorem PG{M:Nat}{size:Int}(b:2*(M:Int)<=size)(name:BA):∀x∈rY size name,ic M x:=λx a=>by
 rcases p9.1 a with rfl|a
 ·exact Gh _ _ ⟨by simp_all,by simp_all,by simp_all⟩ (λ_=>.inl b) cN.z
 grind [aeg,Ce]
def adP{M:Nat}{size:Int}(b:2*(M:Int)<=size):∀x∈lr size,ic M x:=λx a=>by
 rcases s8.1 a with a|a
 ·grind [PG]
 grind [PG]
theorem adI(M:Nat):ic M rq:=Gh _ _ ⟨by simp_all,by simp_all,by simp_all⟩ (λe=>absurd (show(3:Int)=1 from e) (by decide)) cN.z
theorem EO(size:Int):(lr size).length=21:=rfl
def mV(m:Nat)(i:List dB):Prop:=∀x∈i,dw m x.s
def mV.le{m n:Nat}{i:List dB}(h:mV m i)(a:m<=n):mV n i:=λx b=>(h x b).le a
theorem anQ(m:Nat):dw m af.new:=by
 refine⟨⟨?_,λj a=>(o7 a).elim,λj a=>(o7 a).elim,j9 _,?_,λe b=>(o7 b).elim,F9⟩,⟨j9 _,j9 _,by show 1<=16;omega,j9 _,j9 _,j9 _,j9 _,λj a=>(o7 a).elim,λj a=>(o7 a).elim⟩,λj a=>(o7 a).elim⟩
 ·first|trivial|exact List.Pairwise.nil|(constructor)|decide
 ·first|trivial|exact List.Pairwise.nil|(constructor)|decide
theorem Hj{m:Nat}{i:List dB}(h:mV m i)(name:BA){f:af->af×bn}{n:Nat}(a:m<=n)(c:∀s,dw m s->dw n (f s).1):mV n (nW i name f).1:=by
 unfold nW;cases d:i.find? (λx=>seq x.name name)with
 |none=>exact h.le a
 |some x=>
  intro y b;rcases x6 b with b|rfl
  ·exact(h y b).le a
  ·exact c _ (h x (x7 d))
theorem Sb{m:Nat}{i:List dB}(h:mV m i){f:af->af×bn}{n:Nat}(a:∀s,dw m s->dw n (f s).1):mV n (wg i f).1:=λy b=>by
 obtain⟨x,c,rfl⟩:=y9.1 (show y∈i.map λx=>(⟨x.name,x.key,(f x.s).1⟩:dB)from b)
 exact a _ (h x c)
def ae9{m:Nat}{i:List dB}(h:mV m i){x:aW}(c:x.1.o.x.Sz)(hq:∀k o,x.2=some (k,o)->o.x.Sz):mV (m+1024) (kQ i x.1 x.2).1:=by
 have a:=h.le (D3 m 1024);obtain⟨e,q⟩:=x;dsimp only at c hq⊢;unfold kQ;cases decide (e.kind=1)
 case true=>
  show mV _ (wK i e).1
  unfold wK;cases d_ e.aD
  ·exact a
  dsimp only;cases decide (0<=xg i e.aD)
  case true=>exact a
  dsimp only;cases decide (8<=(i.length:Int))
  case true=>exact a
  dsimp only;cases rS e.key e.n
  case true=>exact a
  intro y b;rcases s8.1 (show y∈i.take _++_::i.drop _ from b)with b|b
  ·exact a y (u6 b)
  ·rcases p9.1 b with rfl|b
   ·grind [anQ]
   ·exact a y (B3 b)
 dsimp only;cases decide (e.kind=2)
 case true=>
  grind [DC,Hj,CC]
 dsimp only;cases decide (e.kind=3)
 case true=>exact Sb h λs d=>CC d cN.z.Ag
 dsimp only;cases decide (e.kind=4)
 case true=>
  show mV _ (pf i q).1
  rcases q with _|⟨k,o⟩
  ·exact a
  grind [pf,Hj,CC]
 grind [Sb,Hj]
def Cf{M:Nat}:∀(l:List aW) {m:Nat} {i:List dB},mV m i->(∀x∈l,ic M x)->mV (m+1024*l.length) (ls i l).1
 | [],m,i,h,_=>h
 |x::l,m,i,h,a=>by
  have b:=a x j6
  have h1:=ae9 h (x:=x) b.op.Ag λk o e=>(b.ud k o e).Ag
  have h2:=Cf l h1 λy c=>a y (j3 _ c)
  rw[w6,show m+1024*(l.length+1)=m+1024+1024*l.length by omega]
  exact h2
def wN:d_ sA=true:=by kernel_rfl
def E':d_ sB=true:=by kernel_rfl
def agS:d_ vE=true:=by kernel_rfl
def TJ(name:BA):(fQ name).db=true:=rfl
theorem CL(name:BA):(fQ name).aD=name:=rfl
theorem Ub(name:BA):(fQ name).check (ew++name)=true:=by
 unfold cr.check;rw[TJ];exact eI.2 rr
def adg{name:BA}(h:d_ name=true):(fQ name).nO=true:=by
 unfold cr.nO;rw[CL,h,TJ];exact l9 (by rw[show(fQ name).gY=Mc.nA (ew++name) name from rr,Mc.wQ];rfl)
def nN(i:List dB):Prop:=∀x∈i,x.key=ew++x.name
inductive JE where
 |fK (e:cK)
 |fG (name:BA) (o:aC)
def JE.cL:JE->aW
 |.fK e=>(e,none)
 |.fG name o=>({cK.z with kind:=4,bytes:=ov (fQ name) o},some (fQ name,o))
def vI(i:List dB):JE->rL
 |.fK e=>kQ i e none
 |.fG name o=>match i.find? (λx=>seq x.name name)with
  |none=>(i,say aA 16)
  |some _=>match(fA o).2 with
   |false=>(i,say name 14)
   |true=>nW i name λs=>apply s o
theorem amH{i:List dB}{e:cK}{q:sS}(h:e.kind=4):kQ i e q=pf i q:=by grind [kQ]
def amr(name:BA)(a b:UInt64):(fQ name).uz a b=true:=by
 unfold cr.uz;rw[show(fQ name).bY=[]from rfl];rfl
theorem amm{key:BA}{t:cr}{o:aC}{r:UInt64}(h1:t.check key=true)(h2:∀a b,t.uz a b=true):pN key t o r=match(fA o).2 with|false=>14|true=>0:=by grind [pN]
def adf{i:List dB}{k:cr}{name:BA}{o:aC}{x:dB}(c:k.aD=name)(d:i.find? (λx:dB=>seq x.name name)=some x)(e:k.check x.key=true)(h2:∀a b,k.uz a b=true):pf i (some (k,o))=match(fA o).2 with|false=>(i,say name 14)|true=>nW i name λs=>apply s o:=by grind [pf,amm]
def ad6{i:List dB}{k:cr}{name:BA}{o:aC}(a:k.aD=name)(b:i.find? (λx:dB=>seq x.name name)=none):pf i (some (k,o))=(i,say aA 16):=by grind [pf]
def acx{i:List dB}{name:BA}{o:aC}(a:i.find? (λx:dB=>seq x.name name)=none):vI i (.fG name o)=(i,say aA 16):=by grind [vI]
def anb{i:List dB}{name:BA}{o:aC}{x:dB}(a:i.find? (λx:dB=>seq x.name name)=some x):vI i (.fG name o)=match(fA o).2 with|false=>(i,say name 14)|true=>nW i name λs=>apply s o:=by grind [vI]
def adu(i:List dB)(name:BA)(o:aC):kQ i (JE.fG name o).cL.1 (JE.fG name o).cL.2=pf i (some (fQ name,o)):=by grind [JE.cL,amH]
def ain{i:List dB}(hi:nN i)(j:JE):kQ i j.cL.1 j.cL.2=vI i j:=by
 cases j with
 |fK e=>rfl
 |fG name o=>
  rw[adu];cases a:i.find? (λx:dB=>seq x.name name)with
  |none=>rw[ad6 (CL name) a,acx a]
  |some x=>
   have hq:=G9 a;have hk:x.key=ew++name:=by rw[hi x (x7 a),eI.1 hq]
   rw[adf (CL name) a (by grind [Ub]) (amr name),anb a]
theorem GF{i:List dB}(h:nN i)(name:BA)(f:af->af×bn):nN (nW i name f).1:=by
 unfold nW;cases b:i.find? (λx=>seq x.name name)with
 |none=>exact h
 |some x=>
  intro y a;rcases x6 a with a|rfl
  ·exact h y a
  ·exact h x (x7 b)
theorem Po{i:List dB}(h:nN i)(f:af->af×bn):nN (wg i f).1:=λy a=>by
 obtain⟨x,b,rfl⟩:=y9.1 (show y∈i.map λx=>(⟨x.name,x.key,(f x.s).1⟩:dB)from a)
 exact h x b
def QR{i:List dB}(h:nN i){j:JE}(a:∀e,j=.fK e->e.kind=1->e.key=ew++e.aD):nN (vI i j).1:=by
 cases j with
 |fG name o=>
  show nN (match i.find? (λx:dB=>seq x.name name)with
   |none=>((i,say aA 16):rL)
   |some _=>match(fA o).2 with
    |false=>(i,say name 14)
    |true=>nW i name λs=>apply s o).1
  grind [GF]
 |fK e=>
  have a:=a e rr;show nN (kQ i e none).1
  unfold kQ;cases hk:decide (e.kind=1)
  case true=>
   grind [nN,wK]
  dsimp only;cases decide (e.kind=2)
  case true=>
   grind [DC,GF]
  dsimp only;cases decide (e.kind=3)
  case true=>grind [Po]
  dsimp only;cases decide (e.kind=4)
  case true=>exact h
  grind [Po,GF]
def lI:List dB->List JE->List dB×List (List dg)
 |i,[]=>(i,[])
 |i,j::l=>match vI i j with
  |(d,r)=>match lI d l with
   |(e,rs)=>(e,r::rs)
def zu:∀(l:List JE) {i:List dB},nN i->(∀j∈l,∀e,j=.fK e->e.kind=1->e.key=ew++e.aD)->ls i (l.map JE.cL)=lI i l
 | [],i,_,_=>rfl
 |j::l,i,h,a=>by
  have h1:=zu l (QR h (a j j6)) λy b=>a y (j3 _ b)
  have e:ls i ((j::l).map JE.cL)=((ls (kQ i j.cL.1 j.cL.2).1 (l.map JE.cL)).1,(kQ i j.cL.1 j.cL.2).2::(ls (kQ i j.cL.1 j.cL.2).1 (l.map JE.cL)).2):=rfl
  rw[e,ain h j,h1]
  rfl
end
section
open Go.RowKit Go.Proofs.Tryz
def BO:iE dg.pv 15:=⟨λ_=>⟨rr,rr⟩,λ_=>rfl,λ_ _ _=>rfl⟩
abbrev iX(r:qv):PV:=.aU [sl aO.pv r.1,sl dg.pv r.2]
def aah(n:aO)(name:BA):PC 113 [n.pv,.ip [st name] 0] (·=bo (seq n.name name)):=aw func113<|aj.is _ rfl<|ah
def AJ(c:List aO)(name:BA)(a:c.length<=67108864):PC 49 [sl aO.pv c,st name] (·=i64 (jm c name)):=aw func49<|ak (WX dx.one c (λn=>seq n.name name) a λn _=>aah n name) rfl<|ah
def Wf(c:List aO)(name:BA):(jm c name=-1/\c.find? (λn=>seq n.name name)=none)\/∃(k:Nat) (n:aO),jm c name=(k:Int)/\c[k]? = some n/\c.find? (λn=>seq n.name name)=some n:=by
 unfold jm;rcases kV (λn:aO=>seq n.name name) c 0 with⟨h1,h2⟩|⟨m,x,h1,h2,a⟩
 ·simp_all
 grind
def Bw(c:List aO)(name:BA)(a:c.length<=67108864):PC 20 [sl aO.pv c,st name] (·=.aU [(f_ c name).1.pv,bo (f_ c name).2]):=by
 refine aw func20<|ak (AJ c name a) rr ?_;unfold f_;rcases Wf c name with⟨h1,h2⟩|⟨m,n,h1,h2,b⟩
 ·rw[h1,h2];exact aj.t (by decide)<|an<|ah
 ·rw[h1,b];exact aj.f om<|ab<|bG h2<|ah
def mU(name:BA)(e:Int):PC 35 [st name,i64 e] (·=sl dg.pv (say name e)):=aw func35<|ah
theorem VO(c:List aO)(k:Nat)(n:aO)(hk:c[k]? = some n)(hl:c.length≤67108864){g:Nat}{cs:List PV}(hc:dx cs)(f:ay→ay×bn)(hf:PC g (n.t.pv::cs) (·=.aU [(f n.t).1.pv,(f n.t).2.pv])):PC 157 [sl aO.pv c,i64 k,.fn g cs] (·=.aU [sl aO.pv (c.set k ⟨n.name,(f n.t).1⟩),dg.pv ⟨n.name,(f n.t).2⟩]):=by
 have hm:k<c.length:=(c9.1 hk).1
 have hr:PV.eO (c.map aO.pv) (0+k) (aO.pv ⟨n.name,(f n.t).1⟩)=(c.set k ⟨n.name,(f n.t).1⟩).map aO.pv:=by grind [qA]
 rcases hc with rfl|⟨a,rfl⟩|⟨a,b,rfl⟩<;>
 ·refine aw Tryz.func157 ?_
  refine bG hk ?_
  refine ak hf rfl ?_
  refine bu.bH [] (n:=200) (FT c hl _) rfl trivial ?_
  refine aq.mk ⟨by omega,by omega⟩ ?_
  refine bG (i:=0+k) (by rw[j7];exact hk) ?_
  refine bG hk ?_
  refine az ?_
  exact⟨(c.set k ⟨n.name,(f n.t).1⟩).length+100,_,_,.inl (a_ (dC (l:=c.set k ⟨n.name,(f n.t).1⟩) rfl hr nS.bL (x9 ..).symm rfl) (a_ rfl rfl)),rfl⟩
def CA(c:List aO)(name:BA)(e:c.length<=67108864){g:Nat}{cs:List PV}(h:dx cs)(f:ay->ay×bn)(j:∀n∈c,PC g (n.t.pv::cs) (·=.aU [(f n.t).1.pv,(f n.t).2.pv])):PC 79 [sl aO.pv c,st name,.fn g cs] (·=iX (ij c name f)):=by
 unfold ij;rcases Wf c name with⟨h1,h2⟩|⟨m,n,h1,h2,k⟩
 ·rw[h2];have d:=AJ c name e;rw[h1]at d;rcases h with rfl|⟨a,rfl⟩|⟨a,b,rfl⟩<;>
  ·exact aw func79<|ak d rfl<|aj.t (by decide)<|an<|ak (mU aA 16) rfl<|ah
 ·rw[k];have d:=AJ c name e;rw[h1]at d;have i:=VO c m n h2 e h f (j n (i7 h2));rw[h1];rcases h with rfl|⟨a,rfl⟩|⟨a,b,rfl⟩<;>
  ·exact aw func79<|ak d rfl<|aj.f om<|ab<|ak i rfl<|az<|ah
def lV(c:List aO)(f:ay->ay×bn)(q:Nat):List aO:=(c.take q).map (λn=>⟨n.name,(f n.t).1⟩)++c.drop q
def oH(c:List aO)(f:ay->ay×bn)(q:Nat):List dg:=(c.take q).map λn=>⟨n.name,(f n.t).2⟩
def abm{c:List aO}{f:ay->ay×bn}{q:Nat}{n:aO}(h:c[q]? = some n):lV c f (q+1)=(lV c f q).set q ⟨n.name,(f n.t).1⟩/\(lV c f q)[q]? = some n/\(lV c f q).length=c.length:=by grind [List.length_map,lV,List.drop_eq_getElem_cons]
def Hp(c:List aO)(B:c.length<=60000000){g:Nat}{cs:List PV}(w:dx cs)(f:ay->ay×bn)(y:∀n∈c,PC g (n.t.pv::cs) (·=.aU [(f n.t).1.pv,(f n.t).2.pv])):PC 76 [sl aO.pv c,.fn g cs] (·=iX (ky c f)):=by
 have d:ky c f=(lV c f c.length,oH c f c.length):=by
  grind [ky,lV,oH]
 have i:∀k n,c[k]? = some n->PC 157 [sl aO.pv (lV c f k),i64 k,.fn g cs] (·=.aU [sl aO.pv (lV c f (k+1)),dg.pv ⟨n.name,(f n.t).2⟩]):=λk n h=>by
  have x:=abm (f:=f) h;rw[x.1];exact VO (lV c f k) k n x.2.1 om w f (y n (i7 h))
 rw[d];rcases w with rfl|⟨a,rfl⟩|⟨a,b,rfl⟩<;>
 ·refine aw func76<|lY.k_ [(6,15,97)] ⟨rr,trivial⟩<|Af ⟨⟨rr,rr,rr⟩,⟨rr,rr,rr⟩,rr,rr,rr⟩ c.length om (.of (λq=>(lV c f q,oH c f q)) (λp=>[(0,sl aO.pv p.1),(6,.aS 6 0 p.2.length)]) [1,10,11] (λp=>[(6,.rows 15 (p.2.map dg.pv) true none 97)]) []) (λ_=>True) rr (by show some _=_;simp_all) (λ_=>rfl) ⟨rr,rr,rr,rr,rr⟩ rr trivial ?_ (λk hk z=>?_) (λz=>?_)
  ·exact cS rr (BO.cf _)
  ·obtain⟨n,h⟩:=cw hk;have e:=i k n h;have j:oH c f (k+1)=oH c f k++[⟨n.name,(f n.t).2⟩]:=by simp_all [oH,fW]
   have m:(oH c f k).length<=k:=by grind [oH]
   obtain⟨D,o⟩:∃D,lV c f k=D:=⟨_,rfl⟩;obtain⟨A,r⟩:∃D,lV c f (k+1)=D:=⟨_,rfl⟩;obtain⟨R,s⟩:∃R,oH c f k=R:=⟨_,rfl⟩;rw[s]at j m;rw[o,r]at e;have u:(λq=>(lV c f q,oH c f q)) k=(D,R):=by simp_all
   have v:(λq=>(lV c f q,oH c f q)) (k+1)=(A,R++[⟨n.name,(f n.t).2⟩]):=by simp_all
   rw[cE u];refine ak e rfl<|dS.l (aq.mk (eE BO R ⟨n.name,(f n.t).2⟩ om) ?_);exact ck.of (sw 6 24) v trivial rfl<|jn ⟨⟨rr,rr⟩,⟨by show _=some (PV.aS _ 0 (R++[_]).length);rw[i6];rfl,rr⟩,trivial⟩ ⟨⟨BB.br (by show _=some (aI.rows 15 ((R++[_]).map dg.pv) true none _);rw[l6];rfl) (BO.cf _),rr⟩,trivial⟩
  ·obtain⟨D,o⟩:∃D,lV c f c.length=D:=⟨_,rfl⟩;obtain⟨R,s⟩:∃R,oH c f c.length=R:=⟨_,rfl⟩;have u:(λq=>(lV c f q,oH c f q)) c.length=(D,R):=by simp_all
   rw[cE u,o,s];exact⟨R.length+100,_,_,.inl (a_ rr (a_ (dC (l:=R) rr rr BO.bL rr rr) rr)),rr⟩
abbrev qu(t:ay)(o:aC):Prop:=PC 159 [t.pv,o.pv] (·=.aU [(t.do o).1.pv,(t.do o).2.pv])
def PL{t:ay}{o:aC}(h:qu t o):PC 158 [t.pv,.ip o.pv.cells 0] (·=.aU [(t.do o).1.pv,(t.do o).2.pv]):=aw func158<|ak h rfl<|ah
def Cv(o:aC):PC 77 [o.pv] (·=.fn 158 [.ip o.pv.cells 0]):=aw func77<|ah
def Ma(c:List aO)(name:BA)(a:c.length<=67108864)(o:aC)(h:∀n∈c,qu n.t o):PC 79 [sl aO.pv c,st name,.fn 158 [.ip o.pv.cells 0]] (·=iX (ij c name λt=>t.do o)):=
 CA c name a dx.one (λt=>t.do o) λn b=>PL (h n b)
def afo(n:aO)(e:cK):PC 153 [n.pv,.ip e.pv.cells 0] (·=bo (!dG n.name e.aD)):=aw func153<|aj.is (dG n.name e.aD) rfl<|ah
def adR(c:List aO)(e:cK)(s:c.length<=60000000)(u:e.aD.size<=1000000):PC 71 [sl aO.pv c,e.pv] (·=iX (j_ c e)):=by
 refine aw func71<|ak (qO e.aD om) rr ?_;unfold j_;cases d_ e.aD
 ·exact an<|ak (mU e.aD 6) rfl<|ah
 refine ab<|ak (AJ c e.aD om) rr ?_;dsimp only;refine aj.aN (λh1=>?_) (λh1=>?_)
 ·rw[show decide (0<=jm c e.aD)=true from h1];exact an<|ak (mU e.aD 8) rfl<|ah
 rw[show decide (0<=jm c e.aD)=false from h1];refine ab ?_;dsimp only;have g:((c.map aO.pv).length:Int)=(c.length:Int):=by rw[c8]
 refine aj.aN (λh2=>?_) (λh2=>?_)
 ·rw[g]at h2;rw[h2];exact an<|ak (mU e.aD 9) rfl<|ah
 rw[g]at h2;rw[h2];refine ab ?_;dsimp only;have p:=afO e.key e.n;rcases q:ay.new e.key e.n with⟨t,no⟩
 rw[q]at p;dsimp only;refine ak p rfl<|aj.aN (λk=>?_) (λk=>?_);case refine_2=>
  rw[show decide (no=0)=false from k];exact an<|ak (mU e.aD no) rfl<|ah
 rw[show decide (no=0)=true from k];refine ab<|ak (WX dx.one c (λn=>!dG n.name e.aD) om λn _=>afo n e) rr ?_;have a:∀i,i<=c.length->c.length+1=(c.take i++(⟨e.aD,t⟩:aO)::c.drop i).length:=λi hi=>by rw[i6,w6,l8,w7];omega
 rcases zA (λn:aO=>!dG n.name e.aD) c 0 with⟨b,o⟩|⟨m,b,o,v⟩
 ·have b:cJ (λn:aO=>!dG n.name e.aD) c 0=-1:=b;rw[b,show my c e.aD=c.length from o];refine aj.t (by decide)<|an<|fi.bH [] (n:=200) (FT c om _) rr trivial ?_;have h:(c.map aO.pv).length=c.length:=c8 ..;have j:∀nx,Nat.beq nx 41=false->LC 154 [.aS 41 0 c.length,i64 ((c.map aO.pv).length:Nat),.sl false [aO.pv ⟨e.aD,t⟩]] [(41,.rows 23 (c.map aO.pv) true none 78)] nx λr d=>r=.aS nx 0 (c.length+1)/\d=[(nx,some (.rows 23 ((c.take c.length++⟨e.aD,t⟩::c.drop c.length).map aO.pv) true none 78)),(41,none)]:=by
   rw[h];exact NS c c.length ⟨e.aD,t⟩ (j2 _) om 41
  exact fi.bH [41] (n:=200) (j _ rr) rr ⟨rr,trivial⟩<|aJ (mU e.aD 0) rfl<|az<|⟨(c.take c.length++(⟨e.aD,t⟩:aO)::c.drop c.length).length+100,_,_,.inl (a_ (dC (l:=c.take c.length++⟨e.aD,t⟩::c.drop c.length) rr rr nS.bL (a c.length (j2 _)) rr) (a_ rr rr)),rr⟩
 ·have b:cJ (λn:aO=>!dG n.name e.aD) c 0=(m:Int):=b.trans (by rw[j7]);rw[b,show my c e.aD=m from o];exact aj.f om<|ab<|fi.bH [] (n:=200) (FT c om _) rr trivial<|fi.bH [38] (n:=200) (NS c m ⟨e.aD,t⟩ om om 38 _ rr) rr ⟨rr,trivial⟩<|aJ (mU e.aD 0) rfl<|az<|⟨(c.take m++(⟨e.aD,t⟩:aO)::c.drop m).length+100,_,_,.inl (a_ (dC (l:=c.take m++⟨e.aD,t⟩::c.drop m) rr rr nS.bL (a m om) rr) (a_ rr rr)),rr⟩
def ahY(c:List aO)(e:cK)(f:c.length<=60000000)(h:∀n∈c,qu n.t e.o):PC 72 [sl aO.pv c,e.pv] (·=iX (rN c e)):=by
 have h1:=Ma c e.aD om e.o h;have a:=AJ c e.aD om;unfold rN;cases b:decide (0<=jm c e.aD)
 ·exact aw func72<|ak a rfl<|aj.is false b<|ab<|aJ (Cv e.o) rfl<|aJ h1 rfl<|az<|ah
 cases hb:decide (e.o.kind<9)
 case true=>
  have d:fJ e.o.kind 9 12=false:=by
   unfold fJ;have:=j5 hb;rw[j1 om]
  rw[d];exact aw func72<|ak a rfl<|aj.is true b<|aj.is true hb<|an<|ak (mU e.aD 14) rfl<|ah
 have d:fJ e.o.kind 9 12=!decide (12<e.o.kind):=by
  unfold fJ;have:=j4 hb;rw[l9 om];cases hk:decide (12<e.o.kind)
  case true=>have:=j5 hk;exact j1 om
  have:=j4 hk;exact l9 om
 rw[d];cases hk:decide (12<e.o.kind)
 case true=>
  exact aw func72<|ak a rfl<|aj.is true b<|aj.is false hb<|aj.is true hk<|an<|ak (mU e.aD 14) rfl<|ah
 exact aw func72<|ak a rfl<|aj.is true b<|aj.is false hb<|aj.is false hk<|ab<|aJ (Cv e.o) rfl<|aJ h1 rfl<|az<|ah
def ae0(c:List aO)(e:cK)(q:sS)(w:c.length<=60000000)(hq:PC 133 [st e.bytes] (·=tQ q))(hk:∀n∈c,n.t.key.size<=1000000)(v:∀k o,q=some (k,o)->k.aD.size<=1000000/\k.bY.length<=1000)(h:∀k o,q=some (k,o)->∀n∈c,qu n.t o):PC 73 [sl aO.pv c,e.pv] (·=iX (mO c q)):=by
 rcases q with _|⟨k,o⟩
 ·exact aw func73<|ak hq rfl<|an<|ak (mU aA 2) rfl<|ah
 have⟨f,g⟩:=v k o rr;have i:=Bw c k.aD om;have m:=Ma c k.aD om o (h k o rr);unfold mO;dsimp only;rcases a:f_ c k.aD with⟨t,b⟩
 rw[a]at i;have j:t.key.size<=1000000:=by
  unfold f_ at a;cases p:c.find? (λn=>seq n.name k.aD)with
  |none=>rw[p]at a;cases a;exact j9 _
  |some n=>rw[p]at a;cases a;exact hk n (x7 p)
 cases b
 ·exact aw func73<|ak hq rfl<|ab<|ak i rfl<|an<|ak (mU aA 16) rfl<|ah
 dsimp only;have d:=JJ t.key k j f g;have u:=aoo t.key k o t.s.round j f g;cases l:k.check t.key
 ·rw[l]at d;exact aw func73<|ak hq rfl<|ab<|ak i rfl<|ab<|ak d rfl<|an<|ak (mU aA 13) rfl<|ah
 rw[l]at d;obtain⟨key,⟨size,h0,s0,h1,s1,down,cy,bx⟩,s,file,dR⟩:=t;dsimp only at d u⊢;cases down
 case true=>
  exact aw func73<|ak hq rfl<|ab<|ak i rfl<|ab<|ak d rfl<|ab<|an<|ak (mU k.aD 12) rfl<|ah
 refine aw func73<|ak hq rfl<|ab<|ak i rfl<|ab<|ak d rfl<|ab<|ab<|ak u rfl<|aj.aN (λr=>?_) (λr=>?_)
 ·rw[show decide (pN key k o s.round=0)=true from r];exact ab<|aJ (Cv o) rfl<|aJ m rfl<|az<|ah
 ·rw[show decide (pN key k o s.round=0)=false from r];exact an<|ak (mU k.aD (pN key k o s.round)) rfl<|ah
abbrev Xm(g:Nat)(cs:List PV):PV:=.fn 162 [.ip [.fn g cs] 0]
def Mt{g:Nat}{cs:List PV}(c:dx cs):PC 82 [.fn g cs] (·=Xm g cs):=by
 rcases c with rfl|⟨a,rfl⟩|⟨a,b,rfl⟩<;>
 ·exact aw func82<|ah
def UA(t:ay){g:Nat}{cs:List PV}(c:dx cs){d:aQ}(h:PC g (t.d.pv::cs) (·=d.pv)):PC 162 [t.pv,.ip [.fn g cs] 0] (·=.aU [({t with d:=d}:ay).pv,bn.z.pv]):=by
 rcases c with rfl|⟨a,rfl⟩|⟨a,b,rfl⟩<;>
 ·exact aw func162<|ak h rfl<|ah
abbrev agM(k:Int):PV:=Xm 160 [.ip [i64 k] 0]
def QW(k:Int):PC 80 [i64 k] (·=agM k):=aw func80<|ak (Mt (g:=160) (cs:=[.ip [i64 k] 0]) dx.one) rfl<|ah
def YW(d:aQ)(h:d.Us)(k:Int):PC 160 [d.pv,.ip [i64 k] 0] (·=(d.fR k).pv):=aw func160<|ak (AZ d h.sz k) rfl<|ah
def abO(d:aQ)(e:cK):PC 83 [d.pv,.ip e.pv.cells 0] (·=(d.mZ e.n e.bx).pv):=aw func83<|ak (ahj d e.n e.bx) rfl<|ah
abbrev so(R:ay->ay×bn)(t:ay):Prop:=PC 86 [t.pv] (·=.aU [(R t).1.pv,(R t).2.pv])
structure me(R:ay->ay×bn)(c:List aO)(x:aW):Prop where
 len:c.length<=60000000
 iw:x.1.aD.size<=1000000
 ul:x.1.kind=4->PC 133 [st x.1.bytes] (·=tQ x.2)
 aov:∀n∈c,n.t.key.size<=1000000
 tX:∀k o,x.2=some (k,o)->k.aD.size<=1000000/\k.bY.length<=1000
 doA:x.1.kind=4->∀k o,x.2=some (k,o)->∀n∈c,qu n.t o
 doO:x.1.kind=2->∀n∈c,qu n.t x.1.o
 doT:x.1.kind=3->∀n∈c,qu n.t nK
 Lz:∀n∈c,n.t.d.Us
 p3:x.1.kind=7->PC 81 [sl aO.pv c,x.1.pv] (·=iX (ij c x.1.aD λt=>({t with d:=t.d.mZ x.1.n x.1.bx},bn.z)))
 OO:x.1.kind=8\/x.1.kind=9->∀n∈c,so R n.t
abbrev ac4:PV:=.mp [.int .i64 1,.int .i64 2,.int .i64 4,.int .i64 5,.int .i64 3,.int .i64 6,.int .i64 7,.int .i64 8,.int .i64 9] [.fn 71 [],.fn 72 [],.fn 73 [],.fn 74 [],.fn 75 [],.fn 78 [],.fn 81 [],.fn 85 [],.fn 87 []]
def sk:PC 34 [] (·=ac4):=aw func34<|aP<|aP<|aP<|aP<|aP<|aP<|aP<|aP<|aP<|ah
def afi(c:List aO)(e:cK)(a:c.length<=60000000)(h:∀n∈c,qu n.t nK):PC 75 [sl aO.pv c,e.pv] (·=iX (ky c λt=>t.do nK)):=aw func75<|ak (Cv nK) rfl<|ak (Hp c a dx.one (λt=>t.do nK) λn b=>PL (h n b)) rfl<|ah
def VI(c:List aO)(k:Int)(h:∀n∈c,n.t.d.Us):∀n∈c,PC 162 (n.t.pv::[.ip [.fn 160 [.ip [i64 k] 0]] 0]) (·=.aU [({n.t with d:=n.t.d.fR k}:ay).pv,bn.z.pv]):=λn a=>UA n.t dx.one (YW n.t.d (h n a) k)
def Zg(c:List aO)(e:cK)(a:c.length<=60000000)(h:∀n∈c,n.t.d.Us):PC 78 [sl aO.pv c,e.pv] (·=iX (ij c e.aD λt=>({t with d:=t.d.fR e.bx},bn.z))):=aw func78<|aJ (QW e.bx) rfl<|aJ (CA c e.aD om dx.one (λt=>({t with d:=t.d.fR e.bx},bn.z)) (VI c e.bx h)) rfl<|az<|ah
def ajU(c:List aO)(e:cK)(a:c.length<=60000000)(h:∀n∈c,n.t.d.Us):PC 74 [sl aO.pv c,e.pv] (·=iX ((ky c λt=>({t with d:=t.d.fR e.bx},bn.z)).1,[])):=aw func74<|ak (QW e.bx) rfl<|ak (Hp c a dx.one (λt=>({t with d:=t.d.fR e.bx},bn.z)) (VI c e.bx h)) rfl<|ah
def anh{R:ay->ay×bn}(c:List aO)(e:cK)(a:c.length<=60000000)(h:∀n∈c,so R n.t):PC 85 [sl aO.pv c,e.pv] (·=iX (ky c R)):=aw func85<|ak (Hp c a dx.no R h) rfl<|ah
def alI{R:ay->ay×bn}(c:List aO)(e:cK)(a:c.length<=60000000)(h:∀n∈c,so R n.t):PC 87 [sl aO.pv c,e.pv] (·=iX (ij c e.aD R)):=aw func87<|ak (CA c e.aD om dx.no R h) rfl<|ah
theorem aeY{R:ay->ay×bn}{c:List aO}{x:aW}(h:me R c x)(hk:x.1.kind=1):PC 15 [sl aO.pv c,x.1.pv] (·=iX (dj R c x.1 x.2)):=by
 have a:=adR c x.1 h.len h.iw;obtain⟨⟨kind,aD,key,n,bx,o,bytes⟩,q⟩:=x;dsimp only at hk a⊢;subst hk;exact aw func15<|aJ sk rfl<|aP<|el.is (some (.fn 71 [])) rfl<|az<|aj.is false rfl<|ab<|ak a rfl<|ah
theorem ahx{R:ay->ay×bn}{c:List aO}{x:aW}(h:me R c x)(hk:x.1.kind=2):PC 15 [sl aO.pv c,x.1.pv] (·=iX (dj R c x.1 x.2)):=by
 have a:=ahY c x.1 h.len (h.doO hk);obtain⟨⟨kind,aD,key,n,bx,o,bytes⟩,q⟩:=x;dsimp only at hk a⊢;subst hk;exact aw func15<|aJ sk rfl<|aP<|el.is (some (.fn 72 [])) rfl<|az<|aj.is false rfl<|ab<|ak a rfl<|ah
theorem agB{R:ay->ay×bn}{c:List aO}{x:aW}(h:me R c x)(hk:x.1.kind=3):PC 15 [sl aO.pv c,x.1.pv] (·=iX (dj R c x.1 x.2)):=by
 have a:=afi c x.1 h.len (h.doT hk);obtain⟨⟨kind,aD,key,n,bx,o,bytes⟩,q⟩:=x;dsimp only at hk a⊢;subst hk;exact aw func15<|aJ sk rfl<|aP<|el.is (some (.fn 75 [])) rfl<|az<|aj.is false rfl<|ab<|ak a rfl<|ah
theorem adZ{R:ay->ay×bn}{c:List aO}{x:aW}(h:me R c x)(hk:x.1.kind=4):PC 15 [sl aO.pv c,x.1.pv] (·=iX (dj R c x.1 x.2)):=by
 have a:=ae0 c x.1 x.2 h.len (h.ul hk) h.aov h.tX (h.doA hk);obtain⟨⟨kind,aD,key,n,bx,o,bytes⟩,q⟩:=x;dsimp only at hk a⊢;subst hk;exact aw func15<|aJ sk rfl<|aP<|el.is (some (.fn 73 [])) rfl<|az<|aj.is false rfl<|ab<|ak a rfl<|ah
theorem akz{R:ay->ay×bn}{c:List aO}{x:aW}(h:me R c x)(hk:x.1.kind=5):PC 15 [sl aO.pv c,x.1.pv] (·=iX (dj R c x.1 x.2)):=by
 have a:=ajU c x.1 h.len h.Lz;obtain⟨⟨kind,aD,key,n,bx,o,bytes⟩,q⟩:=x;dsimp only at hk a⊢;subst hk;exact aw func15<|aJ sk rfl<|aP<|el.is (some (.fn 74 [])) rfl<|az<|aj.is false rfl<|ab<|ak a rfl<|ah
theorem ajV{R:ay->ay×bn}{c:List aO}{x:aW}(h:me R c x)(hk:x.1.kind=6):PC 15 [sl aO.pv c,x.1.pv] (·=iX (dj R c x.1 x.2)):=by
 have a:=Zg c x.1 h.len h.Lz;obtain⟨⟨kind,aD,key,n,bx,o,bytes⟩,q⟩:=x;dsimp only at hk a⊢;subst hk;exact aw func15<|aJ sk rfl<|aP<|el.is (some (.fn 78 [])) rfl<|az<|aj.is false rfl<|ab<|ak a rfl<|ah
theorem anu{R:ay->ay×bn}{c:List aO}{x:aW}(h:me R c x)(hk:x.1.kind=7):PC 15 [sl aO.pv c,x.1.pv] (·=iX (dj R c x.1 x.2)):=by
 have a:=h.p3 hk;obtain⟨⟨kind,aD,key,n,bx,o,bytes⟩,q⟩:=x;dsimp only at hk a⊢;subst hk;exact aw func15<|aJ sk rfl<|aP<|el.is (some (.fn 81 [])) rfl<|az<|aj.is false rfl<|ab<|ak a rfl<|ah
theorem alK{R:ay->ay×bn}{c:List aO}{x:aW}(h:me R c x)(hk:x.1.kind=8):PC 15 [sl aO.pv c,x.1.pv] (·=iX (dj R c x.1 x.2)):=by
 have a:=anh (R:=R) c x.1 h.len (h.OO (.inl hk));obtain⟨⟨kind,aD,key,n,bx,o,bytes⟩,q⟩:=x;dsimp only at hk a⊢;subst hk;exact aw func15<|aJ sk rfl<|aP<|el.is (some (.fn 85 [])) rfl<|az<|aj.is false rfl<|ab<|ak a rfl<|ah
theorem ahc{R:ay->ay×bn}{c:List aO}{x:aW}(h:me R c x)(hk:x.1.kind=9):PC 15 [sl aO.pv c,x.1.pv] (·=iX (dj R c x.1 x.2)):=by
 have a:=alI (R:=R) c x.1 h.len (h.OO (.inr hk));obtain⟨⟨kind,aD,key,n,bx,o,bytes⟩,q⟩:=x;dsimp only at hk a⊢;subst hk;exact aw func15<|aJ sk rfl<|aP<|el.is (some (.fn 87 [])) rfl<|az<|aj.is false rfl<|ab<|ak a rfl<|ah
def aoz{R:ay->ay×bn}{c:List aO}{x:aW}(hk:x.1.kind≠1/\x.1.kind≠2/\x.1.kind≠3/\x.1.kind≠4/\x.1.kind≠5/\x.1.kind≠6/\x.1.kind≠7/\x.1.kind≠8/\x.1.kind≠9):PC 15 [sl aO.pv c,x.1.pv] (·=iX (dj R c x.1 x.2)):=by
 obtain⟨⟨kind,aD,key,n,bx,o,bytes⟩,q⟩:=x;dsimp only at hk⊢;obtain⟨d,g,h,i,j,k,l,m,p⟩:=hk;have e:dj R c ⟨kind,aD,key,n,bx,o,bytes⟩ q=(c,say aA 1):=by
  simp_all [dj]
 have b:=Kz (λf:Nat=>PV.fn f []) kind [((1:Int),(71:Nat)),(2,72),(4,73),(5,74),(3,75),(6,78),(7,81),(8,85),(9,87)];have a:pc [.int .i64 1,.int .i64 2,.int .i64 4,.int .i64 5,.int .i64 3,.int .i64 6,.int .i64 7,.int .i64 8,.int .i64 9] [.fn 71 [],.fn 72 [],.fn 73 [],.fn 74 [],.fn 75 [],.fn 78 [],.fn 81 [],.fn 85 [],.fn 87 []] (.int .i64 kind)=none:=by
  simp_all
 rw[e];exact aw func15<|aJ sk rfl<|aP<|el.is none a<|az<|aj.is true rfl<|an<|ak (mU aA 1) rfl<|ah
def Vc{R:ay->ay×bn}{c:List aO}{x:aW}(h:me R c x):PC 15 [sl aO.pv c,x.1.pv] (·=iX (dj R c x.1 x.2)):=by
 by_cases a:x.1.kind=1
 ·grind [aeY]
 by_cases b:x.1.kind=2
 ·grind [ahx]
 by_cases d:x.1.kind=3
 ·grind [agB]
 by_cases e:x.1.kind=4
 ·grind [adZ]
 by_cases f:x.1.kind=5
 ·grind [akz]
 by_cases g:x.1.kind=6
 ·grind [ajV]
 by_cases i:x.1.kind=7
 ·grind [anu]
 by_cases j:x.1.kind=8
 ·grind [alK]
 by_cases k:x.1.kind=9
 ·grind [ahc]
 exact aoz ⟨a,b,d,e,f,g,i,j,k⟩
def ym:iE (λr:List dg=>sl dg.pv r) 1:=⟨λ_=>⟨rr,rr⟩,λ_=>rfl,λ_ _ _=>rfl⟩
def afb{α:Type}(a:α->aW->α×List dg)(c:α)(l:List aW)(x:aW):mK a c (l++[x])=((a (mK a c l).1 x).1,(mK a c l).2++[(a (mK a c l).1 x).2]):=by rw[Rw];rfl
def aab:Nat->List aO->PV
 |0,_=>.sl true []
 |_+1,c=>sl aO.pv c
def vM(R:ay->ay×bn)(l:List aW)(q:Nat):Nat×List aO×List (List dg):=(q,cY R [] (l.take q))
def EF{R:ay->ay×bn}(l:List aW)(t:l.length<=60000000)(h:∀(q:Nat) (x:aW),l[q]? = some x->me R (cY R [] (l.take q)).1 x):PC 13 [.sl false (l.map λx=>x.1.pv)] (·=.aU [sl aO.pv (cY R [] l).1,.sl false ((cY R [] l).2.map λr=>sl dg.pv r)]):=by
 refine aw func13<|lY.k_ [(5,1,54)] ⟨rr,trivial⟩<|vu l.length (.of (vM R l) (λp=>[(4,aab p.1 p.2.1),(5,.aS 7 0 p.2.2.length)]) [10,11] (λp=>[(7,.rows 1 (p.2.2.map λr=>sl dg.pv r) true none 54)]) []) (λ_=>True) trivial ?_ (λk hk j=>?_) (λj=>?_)
 ·exact cS rr (ym.cf _)
 ·obtain⟨x,g⟩:=cw hk;have hp:=Vc (h k x g);have e:vM R l (k+1)=(k+1,(dj R (cY R [] (l.take k)).1 x.1 x.2).1,(cY R [] (l.take k)).2++[(dj R (cY R [] (l.take k)).1 x.1 x.2).2]):=by
   unfold vM;rw[fW g];show(k+1,mK _ [] (l.take k++[x]))=_
   rw[afb]
  have a:(cY R [] (l.take k)).2.length=k:=by
   have key:∀(l:List aW) (c:List aO),(cY R c l).2.length=l.length:=by
    intro l;induction l with
    |nil=>intro c;rfl
    |cons y l s=>intro c;exact congrArg Nat.succ (s _)
   rw[key,l8];omega
  rcases f:cY R [] (l.take k)with⟨c,r⟩
  rw[f]at hp e a;dsimp only at hp e a;have b:vM R l k=(k,c,r):=by unfold vM;rw[f]
  rw[cE b];rcases n:dj R c x.1 x.2 with⟨d,rs⟩
  rw[n]at hp e;dsimp only at hp e;cases k with
  |zero=>
   obtain rfl:c=[]:=congrArg Prod.fst f.symm;refine bG g<|ak hp rfl<|dS.l (aq.mk (eE ym r rs om) ?_);exact ck.of (sw 7 25) e trivial rfl<|jn ⟨⟨rr,rr⟩,⟨by show _=some (PV.aS _ 0 (r++[_]).length);rw[i6];rfl,rr⟩,trivial⟩ ⟨⟨BB.br (by show _=some (aI.rows 1 ((r++[_]).map _) true none _);rw[l6];rfl) (ym.cf _),rr⟩,trivial⟩
  |succ k=>
   refine bG g<|ak hp rfl<|dS.l (aq.mk (eE ym r rs om) ?_);exact ck.of (sw 7 25) e trivial rfl<|jn ⟨⟨rr,rr⟩,⟨by show _=some (PV.aS _ 0 (r++[_]).length);rw[i6];rfl,rr⟩,trivial⟩ ⟨⟨BB.br (by show _=some (aI.rows 1 ((r++[_]).map _) true none _);rw[l6];rfl) (ym.cf _),rr⟩,trivial⟩
 ·have o:l.take l.length=l:=s9;rcases f:cY R [] l with⟨c,r⟩
  have b:vM R l l.length=(l.length,c,r):=by unfold vM;rw[o,f]
  rw[cE b];cases i:l.length with
  |zero=>
   obtain rfl:l=[]:=B0 i;cases f;exact ah
  |succ m=>
   exact⟨r.length+100,_,_,.inl (a_ rr (a_ (dC (l:=r) rr rr ym.bL rr rr) rr)),rr⟩
end
section
open Go.RowKit
def gu(name:BA)(l:List (List dg)):List bn:=l.flatMap λrs=>(rs.filter λr=>seq r.aD name).map dg.a
def lW(name:BA)(l:List (List dg)):List BA:=match d_ name with
 |false=>[]
 |true=>(gu name l).map bn.put
def qf(R:ay->ay×bn)(l:List aW)(name:BA):List BA:=lW name (cY R [] l).2
def il(x:aW):Bool:=decide (x.1.kind=1)
def jR(R:ay->ay×bn)(l:List aW)(name:BA):BA×Bool:=match f_ (cY R [] (l.filter il)).1 name with
 |(t,ok)=>(t.key,ok)
def tf(R:ay->ay×bn)(dm:List aW)(x:aW)(name:BA):Bool:=match x.2 with
 |none=>false
 |some (k,_)=>match seq k.aD name with
  |false=>false
  |true=>match jR R dm name with
   |(_,false)=>false
   |(key,true)=>k.check key
def mM(R:ay->ay×bn)(name:BA)(dm:List aW)(x:aW):Bool:=match decide (x.1.kind=4)with
 |false=>true
 |true=>tf R dm x name
def gv(p:List aW->aW->Bool)(dm:List aW):List aW->List aW
 | []=>[]
 |x::l=>match p dm x with
  |true=>x::gv p (dm++[x]) l
  |false=>gv p (dm++[x]) l
def vv(R:ay->ay×bn)(l:List aW)(name:BA):List aW:=gv (mM R name) [] l
def qz(k:Int):Bool:=decide (k=2)||(decide (k=6)||(decide (k=7)||decide (k=9)))
def xY(name:BA)(x:aW):Bool:=match seq x.1.aD name with
 |true=>true
 |false=>!qz x.1.kind
def kI(R:ay->ay×bn)(l:List aW)(name:BA):List aW:=(vv R l name).filter (xY name)
end
section
open Go.RowKit Go.Proofs.Tryz
abbrev oB(n:UInt8):PV:=.at (.int .u8 (n.toNat:Int))
abbrev bN.jL(x:bN):PV:=.agg [oB x.k,oB x.a,oB x.b,oB x.c,oB x.d]
abbrev bN.pv(x:bN):PV:=.agg [oB x.k,oB x.a,oB x.b,oB x.c,oB x.d,oB x.kind,oB x.t,oB x.n]
def IA(a b:Nat):(a:Int).tmod (b:Int)=((a%b:Nat):Int):=by rw[H7 om];omega
def acB(a b:Nat):(a:Int).tdiv (b:Int)=((a / b:Nat):Int):=by rw[O1 om];omega
def ct(n:UInt8):n.toNat<256:=n.toNat_lt
theorem nB(n:Nat)(h:n<18446744073709551616:=by omega):IntKind.u64.wrap (n:Int)=(((UInt64.ofNat n).toNat:Nat):Int):=by
 rw[qC h];exact GV h
theorem oR(n:Nat)(h:n≤4611686018427387904:=by omega):IntKind.i64.wrap (n:Int)=(n:Int):=wrap_i64 rfl (by omega)
def sv{l:List BA}{i:Nat}(h:i<l.length){k:PV->Prop}(hk:k (st (pick l i))):fF (l.map st) (i:Int) k:=by
 obtain⟨s,a⟩:=cw h;have e:pick l i=s:=by unfold pick;rw[a];rfl
 rw[e]at hk;exact bG a hk
def Ec:PC 7 [] (·=sl st di):=aw func7<|ah
def fP{a b:Nat}(hb:b≠0){k:Int->Prop}(hk:k ((a%b:Nat):Int)):aq ((b:Int)≠0) (cj ((a:Int).tmod (b:Int)) k):=⟨om,.intro _ (IA a b) hk⟩
def DK{a b:Nat}(d:a<256)(hb:b≠0){k:Int->Prop}(hk:k ((a / b:Nat):Int)):aq ((b:Int)≠0) (cj (IntKind.u8.wrap ((a:Int).tdiv (b:Int))) k):=⟨om,.intro _ (by
 rw[acB]
 have:a / b<=a:=N4 a b
 show((a / b:Nat):Int)%256=_
 generalize a / b=c at this⊢
 omega) hk⟩
def Ad(x:bN):PC 63 [x.jL] (·=x.aZ.pv):=by
 have j:=ct x.a;have hb:=ct x.b;have g:=ct x.c;have k:=ct x.d;refine aw func63<|fP (a:=x.a.toNat) (b:=4) (by decide)<|sv (l:=[sA,qg,sB,yZ]) (i:=x.a.toNat%4) (by show _<4;omega)<|fP (a:=x.b.toNat) (b:=5) (by decide)<|aF (nB (x.b.toNat%5))<|DK (a:=x.b.toNat) (b:=5) hb (by decide)<|fP (a:=x.b.toNat / 5) (b:=5) (by decide)<|aF (nB (x.b.toNat / 5%5))<|DK (a:=x.b.toNat) (b:=25) hb (by decide)<|fP (a:=x.b.toNat / 25) (b:=3) (by decide)<|aF (nB (x.b.toNat / 25%3))<|fP (a:=x.c.toNat) (b:=3) (by decide)<|aF (oR (x.c.toNat%3))<|jg (1+x.c.toNat%3) ?_;refine DK (a:=x.c.toNat) (b:=3) g (by decide)<|fP (a:=x.c.toNat / 3) (b:=4) (by decide)<|aF (oR (x.c.toNat / 3%4))<|fP (a:=x.d.toNat) (b:=5) (by decide)<|aF (oR (x.d.toNat%5))<|jg (1+x.d.toNat%5)<|az ?_;have e:x.dv=match decide (200<x.d.toNat)with|true=>[⟨vD,decide (x.d.toNat%2=1),[sA]⟩]|false=>[]:=rfl
 have h:x.aZ=⟨pick [sA,qg,sB,yZ] (x.a.toNat%4),⟨UInt64.ofNat (x.b.toNat%5),UInt64.ofNat (x.b.toNat / 5%5),0,UInt64.ofNat (x.b.toNat / 25%3)⟩,((1+x.c.toNat%3:Nat):Int),((x.c.toNat / 3%4:Nat):Int),((1+x.d.toNat%5:Nat):Int),x.dv⟩:=rfl;rw[h];by_cases h2:200<x.d.toNat
 ·rw[e,l9 h2];exact aj.t (show(200:Int)<(x.d.toNat:Int)by omega)<|an<|fP (a:=x.d.toNat) (b:=2) (by decide)<|aj.is (decide (x.d.toNat%2=1)) (C3.2 om)<|ah
 ·rw[e,j1 h2];exact aj.f (show¬(200:Int)<(x.d.toNat:Int)by omega)<|ab<|ah
theorem wrap_u8{x:Int}{y:Nat}(h:x=(y:Int))(hb:y<256):IntKind.u8.wrap x=(y:Int):=by
 subst h;show(y:Int)%256=_
 omega
def lC(x:bN)(k:Nat)(hk:x.k.toNat%20=k)(post:PV->Prop):{Q:Prop//Q->PC 27 [x.jL] post}:=⟨_,λq=>by
 have hb:=ct x.b
 have d:=ct x.c
 exact aw func27<|fP (a:=x.b.toNat) (b:=4) (by decide)<|sv (l:=[yt,zU,Mo,PS]) (i:=x.b.toNat%4) (G3 _ (by decide))<|fP (a:=x.a.toNat) (b:=5) (by decide)<|sv (l:=[sA,qg,sB,yZ,sX]) (i:=x.a.toNat%5) (G3 _ (by decide))<|fP (a:=x.c.toNat) (b:=24) (by decide)<|aF (nB (x.c.toNat%24) (Nat.lt_trans (G3 _ (by decide)) (by decide)))<|c_<|cj.intro (k:Int) ((IA x.k.toNat 20).trans (by rw[hk])) q⟩
def amc(x:bN)(hk:x.k.toNat%20=0):PC 27 [x.jL] (·=(x.iO 0).pv):=by
 have d:=ct x.a;have hb:=ct x.b;have e:=ct x.c;exact(lC x 0 hk _).2<|aj.t (show(0:Int)=0 by rfl)<|an<|an<|ak (Ad x) rfl<|ah
def Zq(x:bN)(hk:x.k.toNat%20=1):PC 27 [x.jL] (·=(x.iO 1).pv):=by
 have d:=ct x.a;have hb:=ct x.b;have e:=ct x.c;exact(lC x 1 hk _).2<|aE<|ab<|aj.t (show(1:Int)=1 by rfl)<|an<|an<|ak (Ad x) rfl<|ah
def alb(x:bN)(hk:x.k.toNat%20=2):PC 27 [x.jL] (·=(x.iO 2).pv):=by
 have d:=ct x.a;have hb:=ct x.b;have e:=ct x.c;exact(lC x 2 hk _).2<|aE<|ab<|aE<|ab<|aj.t (show(2:Int)=2 by rfl)<|an<|an<|ak (Ad x) rfl<|ah
def aj7(x:bN)(hk:x.k.toNat%20=3):PC 27 [x.jL] (·=(x.iO 3).pv):=by
 have d:=ct x.a;have hb:=ct x.b;have e:=ct x.c;exact(lC x 3 hk _).2<|aE<|ab<|aE<|ab<|aE<|ab<|aj.t (show(3:Int)=3 by rfl)<|an<|an<|ak (Ad x) rfl<|ah
def agk(x:bN)(hk:x.k.toNat%20=4):PC 27 [x.jL] (·=(x.iO 4).pv):=by
 have d:=ct x.a;have hb:=ct x.b;have e:=ct x.c;exact(lC x 4 hk _).2<|aE<|ab<|aE<|ab<|aE<|ab<|aE<|ab<|aj.t (show(4:Int)=4 by rfl)<|an<|ak (Ad x) rfl<|ah
def aiZ(x:bN)(hk:x.k.toNat%20=5):PC 27 [x.jL] (·=(x.iO 5).pv):=by
 have d:=ct x.a;have hb:=ct x.b;have e:=ct x.c;refine(lC x 5 hk _).2<|aE<|ab<|aE<|ab<|aE<|ab<|aE<|ab<|aE<|ab<|aj.t (show(5:Int)=5 by rfl)<|an<|fP (a:=x.a.toNat) (b:=12) (by decide) ?_;exact aF (nB (x.a.toNat%12))<|ah
def anf(x:bN)(hk:x.k.toNat%20=6):PC 27 [x.jL] (·=(x.iO 6).pv):=by
 have d:=ct x.a;have hb:=ct x.b;have e:=ct x.c;refine(lC x 6 hk _).2<|aE<|ab<|aE<|ab<|aE<|ab<|aE<|ab<|aE<|ab<|aE<|ab<|aj.t (show(6:Int)=6 by rfl) ?_;exact an<|ah
def aeO(x:bN)(hk:x.k.toNat%20=7):PC 27 [x.jL] (·=(x.iO 7).pv):=by
 have d:=ct x.a;have hb:=ct x.b;have e:=ct x.c;refine(lC x 7 hk _).2<|aE<|ab<|aE<|ab<|aE<|ab<|aE<|ab<|aE<|ab<|aE<|ab<|aE ?_;exact ab<|aj.t (show(7:Int)=7 by rfl)<|an<|fP (a:=x.a.toNat) (b:=14) (by decide)<|aF (nB (x.a.toNat%14))<|ah
def alW(x:bN)(hk:x.k.toNat%20=8):PC 27 [x.jL] (·=(x.iO 8).pv):=by
 have d:=ct x.a;have hb:=ct x.b;have e:=ct x.c;refine(lC x 8 hk _).2<|aE<|ab<|aE<|ab<|aE<|ab<|aE<|ab<|aE<|ab<|aE<|ab<|aE ?_;exact ab<|aE<|ab<|aj.t (show(8:Int)=8 by rfl)<|an<|aF (nB x.a.toNat)<|ah
def akC(x:bN)(hk:x.k.toNat%20=9):PC 27 [x.jL] (·=(x.iO 9).pv):=by
 have d:=ct x.a;have hb:=ct x.b;have e:=ct x.c;refine(lC x 9 hk _).2<|aE<|ab<|aE<|ab<|aE<|ab<|aE<|ab<|aE<|ab<|aE<|ab<|aE ?_;exact ab<|aE<|ab<|aE<|ab<|aj.t (show(9:Int)=9 by rfl)<|an<|fP (a:=x.a.toNat) (b:=40) (by decide)<|aF (nB (x.a.toNat%40))<|ah
def amE(x:bN)(hk:x.k.toNat%20=10):PC 27 [x.jL] (·=(x.iO 10).pv):=by
 have d:=ct x.a;have hb:=ct x.b;have e:=ct x.c;refine(lC x 10 hk _).2<|aE<|ab<|aE<|ab<|aE<|ab<|aE<|ab<|aE<|ab<|aE<|ab<|aE ?_;exact ab<|aE<|ab<|aE<|ab<|aE<|ab<|aj.t (show(10:Int)=10 by rfl)<|an<|fP (a:=x.b.toNat) (b:=2) (by decide)<|sv (l:=[aA,x.aa]) (i:=x.b.toNat%2) (by show _<2;omega)<|ah
def ahe(x:bN)(hk:x.k.toNat%20=11):PC 27 [x.jL] (·=(x.iO 11).pv):=by
 have d:=ct x.a;have hb:=ct x.b;have e:=ct x.c;refine(lC x 11 hk _).2<|aE<|ab<|aE<|ab<|aE<|ab<|aE<|ab<|aE<|ab<|aE<|ab<|aE ?_;exact ab<|aE<|ab<|aE<|ab<|aE<|ab<|aE<|ab<|aj.t (show(11:Int)=11 by rfl)<|an<|ah
def aoh(x:bN)(hk:x.k.toNat%20=12):PC 27 [x.jL] (·=(x.iO 12).pv):=by
 have d:=ct x.a;have hb:=ct x.b;have e:=ct x.c;refine(lC x 12 hk _).2<|aE<|ab<|aE<|ab<|aE<|ab<|aE<|ab<|aE<|ab<|aE<|ab<|aE ?_;refine ab<|aE<|ab<|aE<|ab<|aE<|ab<|aE<|ab<|aE<|ab<|aj.t (show(12:Int)=12 by rfl)<|an<|fP (a:=x.c.toNat) (b:=20) (by decide) ?_;exact cj.intro ((20+x.c.toNat%20:Nat):Int) (wrap_u8 om om)<|aF (nB (20+x.c.toNat%20))<|ah
def ai7(x:bN)(hk:x.k.toNat%20=13):PC 27 [x.jL] (·=(x.iO 13).pv):=by
 have h:=ct x.a;have hb:=ct x.b;have j:=ct x.c;refine(lC x 13 hk _).2<|aE<|ab<|aE<|ab<|aE<|ab<|aE<|ab<|aE<|ab<|aE<|ab<|aE ?_;refine ab<|aE<|ab<|aE<|ab<|aE<|ab<|aE<|ab<|aE<|ab<|aE<|ab<|aj.t (show(13:Int)=13 by rfl) ?_;refine an<|an ?_;have d:x.ao=match decide (0<x.c.toNat%3)with|true=>[⟨vD,pick [sA,sB] (x.c.toNat%2)⟩]|false=>[]:=rfl
 have g:x.iO 13={aC.z with kind:=10,aa:=x.node,v:=⟨UInt64.ofNat (2+x.c.toNat%6),9,9,9⟩,ao:=x.ao}:=rfl;rw[g];refine fP (a:=x.c.toNat) (b:=3) (by decide) ?_;by_cases e:0<x.c.toNat%3
 ·rw[d,l9 e];exact aj.t (show(0:Int)<((x.c.toNat%3:Nat):Int)by omega)<|an<|fP (a:=x.c.toNat) (b:=2) (by decide)<|sv (l:=[sA,sB]) (i:=x.c.toNat%2) (by show _<2;omega)<|fP (a:=x.c.toNat) (b:=6) (by decide)<|cj.intro ((2+x.c.toNat%6:Nat):Int) (wrap_u8 om om)<|aF (nB (2+x.c.toNat%6))<|ah
 ·rw[d,j1 e];exact aj.f (show¬(0:Int)<((x.c.toNat%3:Nat):Int)by omega)<|ab<|fP (a:=x.c.toNat) (b:=6) (by decide)<|cj.intro ((2+x.c.toNat%6:Nat):Int) (wrap_u8 om om)<|aF (nB (2+x.c.toNat%6))<|ah
def agY(x:bN)(hk:x.k.toNat%20=14):PC 27 [x.jL] (·=(x.iO 14).pv):=by
 have h:=ct x.a;have hb:=ct x.b;have j:=ct x.c;refine(lC x 14 hk _).2<|aE<|ab<|aE<|ab<|aE<|ab<|aE<|ab<|aE<|ab<|aE<|ab<|aE ?_;refine ab<|aE<|ab<|aE<|ab<|aE<|ab<|aE<|ab<|aE<|ab<|aE<|ab<|aE ?_;refine ab<|aj.t (show(14:Int)=14 by rfl)<|an ?_;have d:x.ao=match decide (0<x.c.toNat%3)with|true=>[⟨vD,pick [sA,sB] (x.c.toNat%2)⟩]|false=>[]:=rfl
 have g:x.iO 14={aC.z with kind:=10,aa:=x.node,v:=⟨UInt64.ofNat (2+x.c.toNat%6),9,9,9⟩,ao:=x.ao}:=rfl;rw[g];refine fP (a:=x.c.toNat) (b:=3) (by decide) ?_;by_cases e:0<x.c.toNat%3
 ·rw[d,l9 e];exact aj.t (show(0:Int)<((x.c.toNat%3:Nat):Int)by omega)<|an<|fP (a:=x.c.toNat) (b:=2) (by decide)<|sv (l:=[sA,sB]) (i:=x.c.toNat%2) (by show _<2;omega)<|fP (a:=x.c.toNat) (b:=6) (by decide)<|cj.intro ((2+x.c.toNat%6:Nat):Int) (wrap_u8 om om)<|aF (nB (2+x.c.toNat%6))<|ah
 ·rw[d,j1 e];exact aj.f (show¬(0:Int)<((x.c.toNat%3:Nat):Int)by omega)<|ab<|fP (a:=x.c.toNat) (b:=6) (by decide)<|cj.intro ((2+x.c.toNat%6:Nat):Int) (wrap_u8 om om)<|aF (nB (2+x.c.toNat%6))<|ah
def ane(x:bN)(hk:x.k.toNat%20=15):PC 27 [x.jL] (·=(x.iO 15).pv):=by
 have d:=ct x.a;have hb:=ct x.b;have e:=ct x.c;refine(lC x 15 hk _).2<|aE<|ab<|aE<|ab<|aE<|ab<|aE<|ab<|aE<|ab<|aE<|ab<|aE ?_;refine ab<|aE<|ab<|aE<|ab<|aE<|ab<|aE<|ab<|aE<|ab<|aE<|ab<|aE ?_;exact ab<|aE<|ab<|aj.t (show(15:Int)=15 by rfl)<|an<|ah
def aoK(x:bN)(hk:x.k.toNat%20=16):PC 27 [x.jL] (·=(x.iO 16).pv):=by
 have d:=ct x.a;have hb:=ct x.b;have e:=ct x.c;refine(lC x 16 hk _).2<|aE<|ab<|aE<|ab<|aE<|ab<|aE<|ab<|aE<|ab<|aE<|ab<|aE ?_;refine ab<|aE<|ab<|aE<|ab<|aE<|ab<|aE<|ab<|aE<|ab<|aE<|ab<|aE ?_;exact ab<|aE<|ab<|aE<|ab<|aj.t (show(16:Int)=16 by rfl)<|an<|ah
def adl(x:bN)(k:Nat)(hk:x.k.toNat%20=k)(d:17<=k):PC 27 [x.jL] (·=nK.pv):=by
 have e:=ct x.a;have hb:=ct x.b;have g:=ct x.c;refine(lC x k hk _).2<|aj.f (show¬(k:Int)=0 by omega)<|ab<|aj.f (show¬(k:Int)=1 by omega)<|ab<|aj.f (show¬(k:Int)=2 by omega)<|ab<|aj.f (show¬(k:Int)=3 by omega)<|ab<|aj.f (show¬(k:Int)=4 by omega)<|ab<|aj.f (show¬(k:Int)=5 by omega)<|ab<|aj.f (show¬(k:Int)=6 by omega) ?_;refine ab<|aj.f (show¬(k:Int)=7 by omega)<|ab<|aj.f (show¬(k:Int)=8 by omega)<|ab<|aj.f (show¬(k:Int)=9 by omega)<|ab<|aj.f (show¬(k:Int)=10 by omega)<|ab<|aj.f (show¬(k:Int)=11 by omega)<|ab<|aj.f (show¬(k:Int)=12 by omega)<|ab<|aj.f (show¬(k:Int)=13 by omega) ?_;exact ab<|aj.f (show¬(k:Int)=14 by omega)<|ab<|aj.f (show¬(k:Int)=15 by omega)<|ab<|aj.f (show¬(k:Int)=16 by omega)<|ab<|ah
def afg(x:bN):PC 27 [x.jL] (·=x.op.pv):=by
 unfold bN.op;obtain⟨k,hk⟩:∃k,x.k.toNat%20=k:=⟨_,rfl⟩;rw[hk];by_cases a:17<=k
 ·have e:x.iO k=nK:=by
   unfold bN.iO;rw[j1 om,j1 om,j1 om,j1 om,j1 om,j1 om,j1 om,j1 om,j1 om,j1 om,j1 om,j1 om]
  rw[e];exact adl x k hk a
 ·have b:k=0\/k=1\/k=2\/k=3\/k=4\/k=5\/k=6\/k=7\/k=8\/k=9\/k=10\/k=11\/k=12\/k=13\/k=14\/k=15\/k=16:=om
  rcases b with rfl|rfl|rfl|rfl|rfl|rfl|rfl|rfl|rfl|rfl|rfl|rfl|rfl|rfl|rfl|rfl|rfl
  ·exact amc x hk
  ·exact Zq x hk
  ·exact alb x hk
  ·exact aj7 x hk
  ·exact agk x hk
  ·exact aiZ x hk
  ·exact anf x hk
  ·exact aeO x hk
  ·exact alW x hk
  ·exact akC x hk
  ·exact amE x hk
  ·exact ahe x hk
  ·exact aoh x hk
  ·exact ai7 x hk
  ·exact agY x hk
  ·exact ane x hk
  ·exact aoK x hk
abbrev cq(x:aW):PV:=x.1.pv
def e_:iE cq 24:=⟨λ_=>⟨rr,rr⟩,λ_=>rfl,λ_ _ _=>rfl⟩
def ik(p:Nat->aW->Bool):Nat->List aW->List aW
 |_,[]=>[]
 |k,x::l=>match p k x with
  |true=>x::ik p (k+1) l
  |false=>ik p (k+1) l
def NY(p:Nat->aW->Bool)(k:Nat)(x:aW)(l:List aW):ik p k (x::l)=match p k x with|true=>x::ik p (k+1) l|false=>ik p (k+1) l:=rfl
def WM(p:Nat->aW->Bool):∀(l m:List aW) (k:Nat),ik p k (l++m)=ik p k l++ik p (k+l.length) m
 | [],m,k=>rfl
 |x::l,m,k=>by
  have a:=WM p l m (k+1)
  rw[E4,NY,NY,a,w6,show k+1+l.length=k+(l.length+1)by omega]
  cases p k x<;>rfl
def GO(q:aW->Bool):∀(l:List aW) (k:Nat),ik (λ_ x=>q x) k l=l.filter q
 | [],_=>rfl
 |x::l,k=>by
  unfold ik
  rw[GO q l (k+1),I9]
  grind
theorem Fe(p:Nat->aW->Bool):∀(l:List aW) (k:Nat),(ik p k l).length<=l.length
 | [],_=>j2 _
 |x::l,k=>by
  have a:=Fe p l (k+1)
  grind [ik]
theorem Kw(q:List aW->aW->Bool):∀(l dm:List aW),gv q dm l=ik (λk x=>q ((dm++l).take k) x) dm.length l
 | [],_=>rfl
 |x::l,dm=>by
  have a:=Kw q l (dm++[x])
  grind [gv,ik]
def KL(l:List aW)(p:Nat->aW->Bool)(t:l.length<=60000000){g:Nat}{cs:List PV}(m:dx cs)(hp:∀k x,l[k]? = some x->PC g (i64 (k:Nat)::cq x::cs) (·=bo (p k x))):PC 23 [.sl false (l.map cq),.fn g cs] (·=.sl false ((ik p 0 l).map cq)):=by
 have e:∀k x,l[k]? = some x->ik p 0 (l.take (k+1))=match p k x with|true=>ik p 0 (l.take k)++[x]|false=>ik p 0 (l.take k):=λk x c=>by
  obtain⟨n,_⟩:=c9.1 c;rw[fW c,WM,l8,E9 om,j7];grind [ik]
 have f:∀k,(ik p 0 (l.take k)).length<=l.length:=λk=>r8 (Fe p _ 0) (by grind)
 rcases m with rfl|⟨a,rfl⟩|⟨a,b,rfl⟩<;>
 ·refine aw func23<|lY.k_ [(5,24,40)] ⟨rr,trivial⟩<|Af ⟨⟨rr,rr,rr⟩,⟨rr,rr,rr⟩,rr,rr,rr⟩ l.length om (.of (λq=>ik p 0 (l.take q)) (λr=>[(5,.aS 5 0 r.length)]) [1,8,9] (λr=>[(5,.rows 24 (r.map cq) true none 40)]) []) (λ_=>True) rr (by show some _=_;simp_all) (λ_=>rfl) ⟨rr,rr,rr,rr,rr⟩ rr trivial ?_ (λk hk o=>?_) (λo=>?_)
  ·exact cS rr (e_.cf _)
  ·obtain⟨x,c⟩:=cw hk;have d:=e k x c;have h:=f k;have i:=hp k x c;generalize j:ik p 0 (l.take k)=r at d h;rw[cE j];refine bG c<|ak i rr ?_;cases hb:p k x
   case true=>
    rw[hb]at d;refine an<|dS.l (aq.mk (eE e_ r x om) ?_);exact ck.of (sw 5 20) d trivial rfl<|jn ⟨⟨by rw[i6];rfl,rr⟩,trivial⟩ ⟨⟨BB.br (by rw[l6];rfl) (e_.cf _),rr⟩,trivial⟩
   rw[hb]at d;exact ab<|ck.of id d trivial rfl<|cS rr (e_.cf _)
  ·have s:ik p 0 l=ik p 0 (l.take l.length):=by simp_all
   rw[s];generalize j:ik p 0 (l.take l.length)=r;rw[cE j];exact⟨r.length+100,_,_,.inl (a_ (dC (l:=r) rr rr e_.bL rr rr) rr),rr⟩
def agw(k:Nat)(x:aW):PC 203 [i64 (k:Nat),cq x] (·=bo (il x)):=aw func203<|aj.is (il x) rfl<|ah
def Dx(R:ay->ay×bn)(l:List aW):Prop:=∀(q:Nat) (x:aW),(l.filter il)[q]? = some x->me R (cY R [] ((l.filter il).take q)).1 x
theorem Hr(c:List aO)(name:BA)(f:ay->ay×bn):(ij c name f).1.length=c.length:=by grind [ij]
def amv(R:ay->ay×bn)(c:List aO)(x:aW):(dj R c x.1 x.2).1.length<=c.length+1:=by
 obtain⟨e,q⟩:=x;dsimp only;unfold dj;cases decide (e.kind=1)
 case true=>
  grind [j_]
 dsimp only;cases decide (e.kind=2)
 case true=>
  grind [rN,Hr]
 dsimp only;have each:∀f:ay->ay×bn,(ky c f).1.length<=c.length+1:=λf=>Nat.le_succ_of_le (F2 (c8 ..))
 have one:∀(name:BA) (f:ay->ay×bn),(ij c name f).1.length<=c.length+1:=λname f=>Nat.le_succ_of_le (F2 (Hr _ _ _))
 cases decide (e.kind=3)
 case true=>exact each _
 dsimp only;cases decide (e.kind=4)
 case true=>
  show(mO c q).1.length<=_
  rcases q with _|⟨k,o⟩
  ·exact Nat.le_succ _
  grind [mO]
 grind
def MW(R:ay->ay×bn):∀(l:List aW) (c:List aO),(cY R c l).1.length<=c.length+l.length
 | [],c=>j2 _
 |x::l,c=>by
  have h1:=MW R l (dj R c x.1 x.2).1
  have h2:(dj R c x.1 x.2).1.length<=c.length+1:=amv R c x
  show(cY R (dj R c x.1 x.2).1 l).1.length<=_
  grind
def ak5{R:ay->ay×bn}(l:List aW)(name:BA)(f:l.length<=1000000)(h:Dx R l):PC 134 [.sl false (l.map cq),st name] (·=.aU [st (jR R l name).1,bo (jR R l name).2]):=by
 have b:(l.filter il).length<=l.length:=C6 _ _;have hk:=KL l (λ_ x=>il x) om dx.no λk x _=>agw k x
 rw[GO]at hk;have c:=EF (R:=R) (l.filter il) om h;have d:=MW R (l.filter il) [];have a:=Bw (cY R [] (l.filter il)).1 name (by grind);unfold jR;rcases e:f_ (cY R [] (l.filter il)).1 name with⟨t,ok⟩
 rw[e]at a;exact aw func134<|ak hk rfl<|bu.by (n:=200) c rfl<|ak a rfl<|ah
def ahC{R:ay->ay×bn}(l:List aW)(x:aW)(name:BA)(i:l.length<=1000000)(h:Dx R l)(hq:PC 133 [st x.1.bytes] (·=tQ x.2))(g:∀k o,x.2=some (k,o)->k.aD.size<=1000000/\k.bY.length<=1000)(b:(jR R l name).1.size<=1000000):PC 61 [.sl false (l.map cq),cq x,st name] (·=bo (tf R l x name)):=by
 have a:=ak5 l name i h;obtain⟨e,q⟩:=x;dsimp only at hq g;unfold tf;rcases q with _|⟨k,o⟩
 ·exact aw func61<|ak hq rfl<|an<|ah
 have⟨c,d⟩:=g k o rr;dsimp only;cases f:seq k.aD name
 ·exact aw func61<|ak hq rfl<|aj.is false f<|an<|ah
 dsimp only;rcases j:jR R l name with⟨key,ok⟩
 rw[j]at a b;cases ok
 ·exact aw func61<|ak hq rfl<|aj.is true f<|ab<|ak a rfl<|ah
 exact aw func61<|ak hq rfl<|aj.is true f<|ab<|ak a rfl<|ak (JJ key k b c d) rfl<|ah
def Zd(l:List Int)(x:Int)(e:l.length<=67108864):PC 62 [sl (λn:Int=>i64 n) l,i64 x] (·=i64 (cJ (λy=>decide (x=y)) l 0)):=by
 refine aw func62<|iC ⟨⟨rr,rr,rr⟩,⟨rr,rr,rr⟩,rr,rr,rr⟩ l.length om ⟨λ_=>[],[0,1,7],λ_=>[],[]⟩ (λq=>cJ (λy=>decide (x=y)) l 0=cJ (λy=>decide (x=y)) (l.drop q) q) rr (by show some _=_;simp_all) (λ_=>rfl) ⟨rr,rr,rr,rr,rr⟩ rr rr ?_ (λq hq b=>?_) (λb=>?_)
 ·exact bP
 ·obtain⟨y,d⟩:∃y,l[q]? = some y:=⟨_,j8 hq⟩;have c:=vP (λy=>decide (x=y)) d;refine bG d<|aj.is (decide (x=y)) ?_ ?_
  ·rfl
  cases a:decide (x=y)
  case true=>
   rw[a]at c;refine an ?_;rw[b,c];exact ah
  rw[a]at c;exact ab<|ck.is id (b.trans c) rfl<|bP
 ·rw[b,r9 (j2 _)];exact ah
def aex(l:List Int)(x:Int)(a:l.length<=67108864):PC 26 [sl (λn:Int=>i64 n) l,i64 x] (·=bo (l.any λy=>decide (x=y))):=aw func26<|ak (Zd l x a) rfl<|aj.is (l.any λy=>decide (x=y)) (vp (λy=>decide (x=y)) l 0)<|ah
structure Bk(R:ay->ay×bn)(l:List aW)(name:BA):Prop where
 ul:∀x∈l,x.1.kind=4->PC 133 [st x.1.bytes] (·=tQ x.2)
 tX:∀x∈l,∀k o,x.2=some (k,o)->k.aD.size<=1000000/\k.bY.length<=1000
 fK:∀q,Dx R (l.take q)
 key:∀q,(jR R (l.take q) name).1.size<=1000000
def acH{R:ay->ay×bn}(l:List aW)(name:BA)(f:l.length<=1000000)(h:Bk R l name)(k:Nat)(x:aW)(c:l[k]? = some x):PC 60 [i64 (k:Nat),cq x,.ip [.sl false (l.map cq)] 0,.ip [st name] 0] (·=bo (mM R name (l.take k) x)):=by
 obtain⟨e,_⟩:=c9.1 c;have a:=i7 c;unfold mM;cases b:decide (x.1.kind=4)
 ·exact aw func60<|aj.is false b<|az<|ah
 have d:=ahC (l.take k) x name (by grind) (h.fK k) (h.ul x a (j5 b)) (h.tX x a) (h.key k);rw[K6]at d;refine aw func60<|aj.is true b<|aq.mk (e_.rows l).k<|aq.mk (show(0:Int)<=(k:Int)/\(k:Int)<=(((l.map cq).length:Nat):Int)by grind) ?_;exact aJ d rfl<|az<|ah
def aeZ{R:ay->ay×bn}(l:List aW)(name:BA)(a:l.length<=1000000)(h:Bk R l name):PC 24 [.sl false (l.map cq),st name] (·=.sl false ((vv R l name).map cq)):=by
 have hk:=KL l (λk x=>mM R name (l.take k) x) om dx.aN λk x b=>acH l name a h k x b
 have e:vv R l name=ik (λk x=>mM R name (l.take k) x) 0 l:=Kw (mM R name) l [];rw[e];exact aw func24<|ak hk rfl<|ah
theorem ZP(R:ay->ay×bn)(l:List aW)(name:BA):(vv R l name).length<=l.length:=by grind [vv,Kw,Fe]
theorem afC(k:Int):([2,6,7,9]:List Int).any (λy=>decide (k=y))=qz k:=by grind [qz]
structure Ca(w y:World)(kd:Int)(iw name:ByteArray)(b o:Nat):Prop where
 c0:y.cell? ⟨w.heap.size,0,none⟩=some (.int .i64 kd)
 c1:y.cell? ⟨w.heap.size,1,none⟩=some (.string iw)
 cc:y.cell? ⟨b,o,none⟩=some (.string name)
 l:jz y
 bl:Below w.heap.size w y
 lt:w.heap.size<y.heap.size
 lb:b<y.heap.size
theorem Ca.below{w y z:World}{kd:Int}{iw name:ByteArray}{b o:Nat}(h:Ca w y kd iw name b o)(hb:Below y.heap.size y z):Ca w z kd iw name b o:=
 ⟨(hb.cell (p:=⟨w.heap.size,0,none⟩) h.lt).trans h.c0,(hb.cell (p:=⟨w.heap.size,1,none⟩) h.lt).trans h.c1,(hb.cell (p:=⟨b,o,none⟩) h.lb).trans h.cc,h.l.below hb,h.bl.trans (hb.mono h.bl.size),u9 h.lt hb.size,u9 h.lb hb.size⟩
def agZ(i kd:Int)(iw name:ByteArray)(b o:Nat)(t a2 a3 a4 a5 z A B a9 c d a12 f g j k a17 m n a20 a21 a22:Value)(w:World)(E:jz w)(L:w.cell? ⟨b,o,none⟩=some (.string name))(hb:b<w.heap.size)(r:Bool)(F:Hid (r=match seq iw name with|true=>true|false=>!qz kd)):
 Calls prog 25 #[.int .i64 i,.agg #[.int .i64 kd,.string iw,t,a2,a3,a4,a5,z,A,B,a9,c,d,a12,f,g,j,k,a17,m,n,a20,a21,a22],.pointer (some ⟨b,o,none⟩)] w λe w'=>e=.returned (.bool r)/\Below w.heap.size w w':=by
 have G:(0,([2,6,7,9]:List Int).map (Value.int .i64))∈jY:=by grind [jY]
 have M:=E.qh _ G
 have H:=E.lt _ G
 have HC:∀u,jz u->Calls prog 26 #[.slice (some ⟨0,0,none⟩) 4 4,.int .i64 kd] u λe w'=>e=.returned (.bool (qz kd))/\Below u.heap.size u w':=λu I=>by
  have hp:=(aex [2,6,7,9] kd (by decide)).2 u (λb _=>b=0) [.slice (some ⟨0,0,none⟩) 4 4,.int .i64 kd] I (λb _ h=>by rw[h];exact I.lt _ G) ⟨_,_,rfl,⟨([2,6,7,9]:List Int).map (Value.int .i64),⟨_,_,rfl,⟨rfl,rfl⟩,_,_,rfl,⟨rfl,rfl⟩,_,_,rfl,⟨rfl,rfl⟩,_,_,rfl,⟨rfl,rfl⟩,rfl⟩,some ⟨0,0,none⟩,4,rfl,j2 _,λh=>(by cases h),.inr ⟨0,0,1,rfl,λx N=>by obtain⟨y,_,rfl⟩:=y9.1 N;rfl,λi x hi=>⟨rr,by rw[j7];exact I.qh _ G i x hi⟩⟩⟩,_,_,rr,⟨rr,rr⟩,rr⟩
  refine hp.mono ?_
  rintro e w' ⟨r,v,rfl,rfl,⟨rfl,_⟩,O⟩
  grind [afC]
 have HC:=Lib.hid HC
 go_enter func25,ntmps25
 go_upto_region 1 with fail
 have dU:Below w.heap.size w (w.alloc (.cells #[.int .i64 kd,.string iw,t,a2,a3,a4,a5,z,A,B,a9,c,d,a12,f,g,j,k,a17,m,n,a20,a21,a22] 40)).drew:=((Below.refl _ _).alloc (j2 _) _).drew
 have c0:(w.alloc (.cells #[.int .i64 kd,.string iw,t,a2,a3,a4,a5,z,A,B,a9,c,d,a12,f,g,j,k,a17,m,n,a20,a21,a22] 40)).drew.cell? ⟨w.heap.size,0,none⟩=some (.int .i64 kd):=by simp_all
 have c1:(w.alloc (.cells #[.int .i64 kd,.string iw,t,a2,a3,a4,a5,z,A,B,a9,c,d,a12,f,g,j,k,a17,m,n,a20,a21,a22] 40)).drew.cell? ⟨w.heap.size,1,none⟩=some (.string iw):=by simp_all
 have cc:(w.alloc (.cells #[.int .i64 kd,.string iw,t,a2,a3,a4,a5,z,A,B,a9,c,d,a12,f,g,j,k,a17,m,n,a20,a21,a22] 40)).drew.cell? ⟨b,o,none⟩=some (.string name):=(dU.cell (p:=⟨b,o,none⟩) hb).trans L
 have s:w.heap.size<(w.alloc (.cells #[.int .i64 kd,.string iw,t,a2,a3,a4,a5,z,A,B,a9,c,d,a12,f,g,j,k,a17,m,n,a20,a21,a22] 40)).drew.heap.size:=by simp
 have q:Hid (Ca w (w.alloc (.cells #[.int .i64 kd,.string iw,t,a2,a3,a4,a5,z,A,B,a9,c,d,a12,f,g,j,k,a17,m,n,a20,a21,a22] 40)).drew kd iw name b o):=Lib.hid ⟨c0,c1,cc,E.below dU,dU,s,u9 hb dU.size⟩
 clear c0 c1 cc dU s L E M H
 generalize w.alloc (.cells #[.int .i64 kd,.string iw,t,a2,a3,a4,a5,z,A,B,a9,c,d,a12,f,g,j,k,a17,m,n,a20,a21,a22] 40)=x at q⊢
 by_cases P:iw=name
 ·subst P
  have a:r=true:=by rw[F.out,eI.2 rfl]
  have a:=Lib.hid a
  clear F
  have c0:=q.out.c0
  have c1:=q.out.c1
  have cc:=q.out.cc
  go_region
  all_goals (go_wp2_with fail;go_ret;exact⟨lK a.out.symm,q.out.bl⟩)
 ·have J:seq iw name=false:=by
   grind [eI]
  have Q:(iw.toList==name.toList)=false:=by rw[Lib.toList_data,Lib.toList_data];exact J
  have a:r=!qz kd:=by rw[F.out,J]
  generalize K:qz kd=b9 at HC a
  have a:=Lib.hid a
  clear F K J
  go_region_held3 (λy=>y.cell? ⟨w.heap.size,0,none⟩=some (.int .i64 kd)/\y.cell? ⟨w.heap.size,1,none⟩=some (.string iw)/\y.cell? ⟨b,o,none⟩=some (.string name)) (exact⟨q.out.c0,q.out.c1,q.out.cc⟩)
   ((first
     |(go_at_call 26;((with_reducible refine(HC.out _ q.out.l).mono ?_);rintro e u ⟨rfl,C⟩;have D:=Lib.hid (q.out.below C);clear q C;have q:=D;clear D))))
  all_goals (go_wp2_with fail;go_ret;exact⟨lK a.out.symm,q.out.bl⟩)
def ahF(k:Nat)(x:aW)(name:BA):PC 25 [i64 (k:Nat),cq x,.ip [st name] 0] (·=bo (xY name x)):=by
 refine⟨enters_of func25 rr rr,λw Z vs q r hv=>?_⟩;obtain⟨v0,_,rfl,⟨rfl,_⟩,v,_,rfl,⟨us,rfl,a⟩,p,_,rfl,⟨b,o,ws,rfl,⟨B,_,rfl,⟨rfl,_⟩,c⟩,d⟩,h1⟩:=hv;cases h1;cases c;obtain⟨z,_,rfl,⟨rfl,_⟩,A,_,rfl,⟨rfl,_⟩,a⟩:=a;obtain⟨s,_,rfl,_,a⟩:=a;obtain⟨a2,_,rfl,_,a⟩:=a;obtain⟨a3,_,rfl,_,a⟩:=a;obtain⟨a4,_,rfl,_,a⟩:=a;obtain⟨a5,_,rfl,_,a⟩:=a;obtain⟨t,_,rfl,_,a⟩:=a;obtain⟨u,_,rfl,_,a⟩:=a;obtain⟨y,_,rfl,_,a⟩:=a;obtain⟨a9,_,rfl,_,a⟩:=a;obtain⟨f,_,rfl,_,a⟩:=a;obtain⟨g,_,rfl,_,a⟩:=a;obtain⟨a12,_,rfl,_,a⟩:=a;obtain⟨h,_,rfl,_,a⟩:=a;obtain⟨i,_,rfl,_,a⟩:=a;obtain⟨j,_,rfl,_,a⟩:=a;obtain⟨l,_,rfl,_,a⟩:=a;obtain⟨a17,_,rfl,_,a⟩:=a;obtain⟨m,_,rfl,_,a⟩:=a;obtain⟨n,_,rfl,_,a⟩:=a;obtain⟨a20,_,rfl,_,a⟩:=a;obtain⟨a21,_,rfl,_,a⟩:=a;obtain⟨a22,_,rfl,_,a⟩:=a;cases a;have c4:=d 0 _ rr;refine(agZ _ x.1.kind x.1.aD name b (o+0) s a2 a3 a4 a5 t u y a9 f g a12 h i j l a17 m n a20 a21 a22 w q c4.2 (r _ _ c4.1) _ (Lib.hid rr)).mono ?_;rintro e w' ⟨rfl,hb⟩;exact⟨_,_,rr,rr,⟨rr,rr⟩,hb⟩
def SF{R:ay->ay×bn}(l:List aW)(name:BA)(b:l.length<=1000000)(h:Bk R l name):PC 9 [.sl false (l.map cq),st name] (·=.sl false ((kI R l name).map cq)):=by
 have c:=aeZ l name b h;have hk:=KL (vv R l name) (λ_ x=>xY name x) (by grind [ZP]) (dx.one (a:=[st name])) λk x _=>ahF k x name
 rw[GO]at hk;exact aw func9<|ak c rfl<|ak hk rfl<|ah
def W_(a b:List BA)(k:a.length<=1000000):PC 11 [sl st a,sl st b] (·=bo (ia seq a b)):=by
 refine aw func11<|aj.aN (λd=>?_) (λd=>?_);rotate_left
 ·have d:a.length≠b.length:=λe=>by
   simp_all
  refine an ?_;rw[Au d];exact ah
 have d:a.length=b.length:=by
  grind
 refine ab<|cV.bA (ι:={q:Nat//q<=a.length/\ia seq a b=ia seq (a.drop q) (b.drop q)}) ⟨λp=>[(5,i64 p.1)],[0,1],λ_=>[],[]⟩ (λp=>a.length-p.1) ⟨0,j9 _,rr⟩ ?_ ?_
 ·exact bP
 rintro⟨q,hq,g⟩;refine aj.aN (λh1=>?_) (λh1=>?_)
 ·have h1:q<a.length:=by
   simp_all
  refine an ?_;obtain⟨x,i⟩:∃x,a[q]? = some x:=cw h1;obtain⟨y,j⟩:∃y,b[q]? = some y:=cw om;have f:=EE seq i j;refine bG i<|bG j<|aj.is (seq x y) rfl<|az ?_;cases c:seq x y
  ·rw[c]at f;exact an<|⟨200,_,_,.inl rr,(show bo false=bo (ia seq a b)by rw[g,f])⟩
  rw[c]at f;refine ab<|aF (dq q)<|⟨⟨q+1,h1,g.trans f⟩,id,?_,?_⟩
  ·grind
  exact bP
 ·have h1:¬q<a.length:=λh=>by
   grind
  exact ab<|⟨200,_,_,.inl rr,(show bo true=bo (ia seq a b)by rw[g,r9 om,r9 om];rfl)⟩
end
end Go.Proofs.YtbnonpbnhenkfaaGreatDoor
