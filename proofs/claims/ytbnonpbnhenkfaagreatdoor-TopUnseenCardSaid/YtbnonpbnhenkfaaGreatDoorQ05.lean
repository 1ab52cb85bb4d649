/- Part 5 of the proof; the last part says what is proved. -/
import Derived.Test.YtbnonpbnhenkfaaGreatDoorQ04
import Derived.Deep.RegionHeld3
import Derived.Deep.DeepCutAuto
import Derived.Deep.MidRow
import Derived.Shelf.Strings.Builder1
import Derived.Shelf.Strings.Builder2
import Derived.Shelf.Strings.BuilderF
import Derived.Shelf.Strings.BuilderK
import Derived.Shelf.Strings.Builder2Cap
import Derived.Shelf.Strings.Prefix
import Derived.Shelf.Strings.Repeat
import Derived.Shelf.Strings.BuilderCap
import Derived.Test.YtbnonpbnhenkfaaGreatDoorProg
import Derived.Lib.BufferWrite
import Derived.Lib.Strings
import Derived.Lib.MinMax
import Derived.Shelf.SlicesQ.IndexFunc
set_option linter.all false
set_option maxRecDepth 1000000
set_option maxHeartbeats 8000000
section
namespace Go.Proofs.YtbnonpbnhenkfaaGreatDoor
open Go.RowKit Go.Proofs.Tryz
def eD(b:List UInt8):List Value:=b.map λx=>.int .u8 (x.toNat:Int)
def gE(l:List Nat):List Value:=l.map λx:Nat=>.int .u32 (x:Int)
namespace Sh
def uS(b:List UInt8):∀k,(pR b k).length=k
 |0=>rfl
 |k+1=>by rw[pR,Dj,i6,uS b k];rfl
def iN(b:List UInt8)(i:Nat):List Nat:=pR b i++List.replicate (64-i) 0
def ake(b:List UInt8){i:Nat}(h:i<=64):(iN b i).length=64:=by unfold iN;rw[i6,uS,A1];omega
def Wp(b:List UInt8){i:Nat}(h:i<64)(x:Nat)(a:x=if i<16 then CF b i else Cd (pR b i) i):(iN b i).set i x=iN b (i+1):=by
 unfold iN;rw[List.set_append_right _ _ (by rw[uS];omega),uS,G0,pR,Dj,uS,<-a];obtain⟨m,c⟩:∃m,64-i=m+1:=⟨63-i,om⟩;rw[c,show 64-(i+1)=m by omega,List.replicate_succ,List.set_cons_zero,A7];rfl
def Eh(b:List UInt8){i j:Nat}(h:j<i):(iN b i).getD j 0=(pR b i).getD j 0:=by
 unfold iN;rw[y5,y5,A8 (by rw[uS];exact h)]
def qw(a b:Nat):add a b<4294967296:=G3 _ (by decide)
def anL{a b c d:Nat}(e:a<256)(hb:b<256)(f:c<256)(g:d<256):iA a b c d<4294967296:=by
 unfold iA;exact I4 (n:=32) (I4 (n:=32) (I4 (n:=32) om om) om) om
def Vb(b:List UInt8):∀k,∀x∈pR b k,x<4294967296
 |0=>by simp[pR]
 |k+1=>by
  intro x a
  rw[pR,Dj]at a
  rcases s8.1 a with h|h
  ·exact Vb b k x h
  ·simp only[o6]at h
   subst h
   split
   ·exact anL (F4 _) (F4 _) (F4 _) (F4 _)
   ·exact qw _ _
def As(b:List UInt8)(i j:Nat):(iN b i).getD j 0<4294967296:=by
 rw[y5];cases h:(iN b i)[j]? with
 |none=>simp
 |some x=>
  have a:x∈iN b i:=i7 h;unfold iN at a;rcases s8.1 a with h1|h1
  ·exact Vb b i x h1
  ·have:=D5 h1;subst this;simp
end Sh
def vx{b:List UInt8}{j:Nat}(h:j<b.length):(eD b)[j]? = some (.int .u8 ((b.getD j 0).toNat:Int)):=by
 unfold eD;rw[A6,j8 h,y5,j8 h];rfl
def rH{l:List Nat}{j:Nat}(h:j<l.length):(gE l)[j]? = some (.int .u32 ((l.getD j 0:Nat):Int)):=by
 unfold gE;rw[A6,j8 h,y5,j8 h];rfl
def Ug(l:List Nat)(j x:Nat):(gE l).set j (.int .u32 (x:Int))=gE (l.set j x):=by unfold gE;rw[O3]
def Ek(l:List Nat):(gE l).length=l.length:=by simp[gE]
def Row.range{w:World}{b:Nat}{l:List Value}(h:Row w b l):w.rangeAt b 0 l:=λj v e=>by rw[j7];exact(h j v e).1
def Row.there{w:World}{b:Nat}{l:List Value}(h:Row w b l):w.there b 0 l.length:=λj a=>by
 rw[j7]
 have:=h j _ (j8 a)
 exact⟨by rw[this.1];rfl,this.2⟩
def xG{B b:Nat}{w:World}:∀{x:World} (l:List Value) (o:Nat),B<=b->Below B w x->Below B w (x.setCells b o l)
 |_,[],_,_,h=>h
 |_,v::l,o,hb,h=>xG l (o+1) hb (h.setCell (p:=⟨b,o,none⟩) hb v)
def Ui{fn:Func}{p:Tmp}{ty:TypeId}(h:fn.results=#[.cell p ty])(tmps:Array Value)(P:Program)(w:World)(a:Addr)(v:Value)(c:tmps.getD p undef=.pointer (some a))(d:(loadVar ty a).run P w=.ok v w):
 (results fn tmps).run P w=.ok v w:=by
 simp only[results,h]
 have b:tmps[p]?.getD undef=.pointer (some a):=by simpa using c
 simp[b,asAddr,d]
structure Ws(w x:World)(b:List UInt8)(l:List Nat):Prop where
 r0:Row x w.heap.size (eD b)
 r1:Row x (w.heap.size+1) (List.replicate 64 (.int .u32 0))
 r2:Row x (w.heap.size+1+1) (gE l)
 b:Below w.heap.size w x
 lt:w.heap.size+1+1<x.heap.size
def Ws.drew{w x:World}{b:List UInt8}{l:List Nat}(h:Ws w x b l):Ws w x.drew b l:=⟨h.r0,h.r1,h.r2,h.b.drew,h.lt⟩
def Ws.set{w x:World}{b:List UInt8}{l:List Nat}(h:Ws w x b l)(i v:Nat)(hi:i<l.length):Ws w (x.setCell ⟨w.heap.size+1+1,i,none⟩ (.int .u32 (v:Int))) b (l.set i v):=
 ⟨h.r0.fj _ om,h.r1.fj _ om,by rw[<-Ug];exact h.r2.set i _ (by rw[Ek];exact hi),h.b.setCell (p:=⟨w.heap.size+1+1,i,none⟩) (by show w.heap.size<=w.heap.size+1+1;omega) _,by simpa using h.lt⟩
def afq{w:World}{a c f d b g o1 o2 o3 o:Nat}{a0 a1 a2 a3 v:Value}(h0:b≠a)(h1:b≠c)(h2:b≠f)(i:b≠d)(h:w.cell? ⟨a,g,none⟩=some a0/\w.cell? ⟨c,o1,none⟩=some a1/\w.cell? ⟨f,o2,none⟩=some a2/\w.cell? ⟨d,o3,none⟩=some a3):
 (w.setCell ⟨b,o,none⟩ v).cell? ⟨a,g,none⟩=some a0/\(w.setCell ⟨b,o,none⟩ v).cell? ⟨c,o1,none⟩=some a1/\(w.setCell ⟨b,o,none⟩ v).cell? ⟨f,o2,none⟩=some a2/\(w.setCell ⟨b,o,none⟩ v).cell? ⟨d,o3,none⟩=some a3:=
 ⟨(World.cell?_setCell_other _ _ _ _ (by intro e;cases e;exact h0 rr)).trans h.1,(World.cell?_setCell_other _ _ _ _ (by intro e;cases e;exact h1 rr)).trans h.2.1,(World.cell?_setCell_other _ _ _ _ (by intro e;cases e;exact h2 rr)).trans h.2.2.1,(World.cell?_setCell_other _ _ _ _ (by intro e;cases e;exact i rr)).trans h.2.2.2⟩
def aiy{w:World}{a c e d b f o1 o2 o3 o:Nat}{a0 a1 a2 a3 v:Value}(h0:b≠a)(h1:b≠c)(h2:b≠e)(g:b≠d)(h:w.cell? ⟨a,f,none⟩=some a0/\w.cell? ⟨c,o1,none⟩=some a1/\w.cell? ⟨e,o2,none⟩=some a2/\w.cell? ⟨d,o3,none⟩=some a3):
 (w.setCell ⟨b,o,none⟩ v).drew.cell? ⟨a,f,none⟩=some a0/\(w.setCell ⟨b,o,none⟩ v).drew.cell? ⟨c,o1,none⟩=some a1/\(w.setCell ⟨b,o,none⟩ v).drew.cell? ⟨e,o2,none⟩=some a2/\(w.setCell ⟨b,o,none⟩ v).drew.cell? ⟨d,o3,none⟩=some a3:=afq h0 h1 h2 g h
def alu{a b c d:Nat}(e:a<256)(hb:b<256)(f:c<256)(g:d<256):
 bits .or .u32 (bits .or .u32 (bits .or .u32 ((a:Int)*16777216) ((b:Int)*65536)) ((c:Int)*256)) (d:Int)=((Sh.iA a b c d:Nat):Int):=by
 have h1:a*16777216 ||| b*65536<2^32:=I4 om om
 have h2:a*16777216 ||| b*65536 ||| c*256<2^32:=I4 h1 om
 rw[show(a:Int)*16777216=((a*16777216:Nat):Int)by omega,show(b:Int)*65536=((b*65536:Nat):Int)by omega,show(c:Int)*256=((c*256:Nat):Int)by omega,
  u32_or_nat _ _ om om,u32_or_nat _ _ om om,u32_or_nat _ _ om om]
 rfl
def aiS{w:World}{b a o1 o:Nat}{a0 a1 v:Value}(h0:a≠o)(h1:o1≠o)(h:w.cell? ⟨b,a,none⟩=some a0/\w.cell? ⟨b,o1,none⟩=some a1):
 (w.setCell ⟨b,o,none⟩ v).drew.drew.cell? ⟨b,a,none⟩=some a0/\(w.setCell ⟨b,o,none⟩ v).drew.drew.cell? ⟨b,o1,none⟩=some a1:=
 ⟨(World.cell?_setCell_other _ _ _ _ (by intro e;cases e;exact h0 rr)).trans h.1,(World.cell?_setCell_other _ _ _ _ (by intro e;cases e;exact h1 rr)).trans h.2⟩
def u_(a b:Nat):IntKind.u32.wrap ((a:Int)+(b:Int))=((Sh.add a b:Nat):Int):=by unfold Sh.add;rw[IntKind.wrap_u32];omega
def Sh.yX(x n:Nat)(a:x<4294967296):Sh.fN x n<4294967296:=by
 unfold Sh.fN;have b:x / 2^n<=x:=N4 _ _;exact I4 (n:=32) (G3 _ (by decide)) om
def zh{a b c:Nat}(d:a<4294967296)(hb:b<4294967296)(e:c<4294967296):bits .xor .u32 (bits .xor .u32 (a:Int) (b:Int)) (c:Int)=((a ^^^ b ^^^ c:Nat):Int):=by rw[u32_xor_nat _ _ d hb,u32_xor_nat _ _ (J2 (n:=32) d hb) e]
def aa7(p q x y j e f d:Nat)(i:x<4294967296)(h:y<4294967296)(g:Sh.fN x 7=j)(a:Sh.fN x 18=e)(b:Sh.fN y 17=f)(c:Sh.fN y 19=d):
 IntKind.u32.wrap (IntKind.u32.wrap (IntKind.u32.wrap ((p:Int)+bits .xor .u32 (bits .xor .u32 (j:Int) (e:Int)) ((x:Int) / 8))+(q:Int))+bits .xor .u32 (bits .xor .u32 (f:Int) (d:Int)) ((y:Int) / 1024))=
  ((Sh.add (Sh.add (Sh.add p (Sh.Ai x)) q) (Sh.yM y):Nat):Int):=by
 rw[show(x:Int) / 8=((x / 8:Nat):Int)by omega,show(y:Int) / 1024=((y / 1024:Nat):Int)by omega,
  zh (by rw[<-g];exact Sh.yX _ _ i) (by rw[<-a];exact Sh.yX _ _ i) om,
  zh (by rw[<-b];exact Sh.yX _ _ h) (by rw[<-c];exact Sh.yX _ _ h) om,u_,u_,u_]
 unfold Sh.Ai Sh.yM
 rw[g,a,b,c]
def abw(b:List UInt8)(w:World)(hb:b.length=64):
 Calls prog 272 #[.agg (eD b).toArray] w λe w'=>e=.returned (.agg (gE (Sh.lj b)).toArray)/\Below w.heap.size w w':=by
 have B:=Lib.hid hb;clear hb
 go_enter func272,ntmps272
 go_wp2_with fail
 go_loopw [7] (λv wr=>∃i:Nat,i<=64/\v=.int .i64 (i:Int)/\Ws w wr b (Sh.iN b i)) (λv _=>64-(intOf v).toNat)
 case atStart=>
  refine⟨0,om,rr,?_,?_,?_,?_,?_⟩
  ·exact Row.alloc (Row.alloc (Row.at rr (by simp)) (by simp) _) (by simp<;>omega) _
  ·exact Row.alloc (Row.at (by simp) rr) (by simp) _
  ·exact Row.at (by simp) rr
  ·go_grown
  ·simp
 case round=>
  obtain⟨i,hi,rfl,A⟩:=hrel
  have g:=Lib.hid A;clear A
  by_cases j:i<64
  ·have h64':(i:Int)<64:=om
   have hi0:(0:Int)<=(i:Int):=om
   have D:=Sh.ake b hi
   by_cases I:i<16
   ·have h16':(i:Int)<16:=om
    obtain⟨c0,_⟩:=g.out.r0 (4*i) _ (vx (by rw[B.out];omega))
    obtain⟨c1,_⟩:=g.out.r0 (4*i+1) _ (vx (by rw[B.out];omega))
    obtain⟨c2,_⟩:=g.out.r0 (4*i+2) _ (vx (by rw[B.out];omega))
    obtain⟨c3,_⟩:=g.out.r0 (4*i+3) _ (vx (by rw[B.out];omega))
    obtain⟨d0,f0⟩:=g.out.r2 i _ (rH (by rw[D];exact j))
    obtain⟨z,J⟩:∃p,4*i=p:=⟨_,rfl⟩
    obtain⟨T,K⟩:∃p,4*i+1=p:=⟨_,rfl⟩
    obtain⟨W,M⟩:∃p,4*i+2=p:=⟨_,rfl⟩
    obtain⟨p3,tm⟩:∃p,4*i+3=p:=⟨_,rfl⟩
    rw[J]at c0
    rw[K]at c1
    rw[M]at c2
    rw[tm]at c3
    have q0:IntKind.i64.wrap (4*(i:Int))=(z:Int):=by rw[IntKind.wrap_i64];omega
    have q1:IntKind.i64.wrap ((z:Int)+1)=(T:Int):=by rw[IntKind.wrap_i64];omega
    have q2:IntKind.i64.wrap ((z:Int)+2)=(W:Int):=by rw[IntKind.wrap_i64];omega
    have q3:IntKind.i64.wrap ((z:Int)+3)=(p3:Int):=by rw[IntKind.wrap_i64];omega
    have b0:(0:Int)<=(z:Int)/\(z:Int)<64:=om
    have b1:(0:Int)<=(T:Int)/\(T:Int)<64:=om
    have b2:(0:Int)<=(W:Int)/\(W:Int)<64:=om
    have b3:(0:Int)<=(p3:Int)/\(p3:Int)<64:=om
    obtain⟨b0,b0'⟩:=b0
    obtain⟨b1,b1'⟩:=b1
    obtain⟨b2,S⟩:=b2
    obtain⟨b3,b3'⟩:=b3
    have HP:=Lib.hid (⟨J,K,M,tm⟩:_/\_/\_/\_)
    clear J K M tm
    have a:Sh.CF b i=Sh.iA (b.getD z 0).toNat (b.getD T 0).toNat (b.getD W 0).toNat (b.getD p3 0).toNat:=by
     unfold Sh.CF;rw[HP.out.2.1,HP.out.2.2.1,HP.out.2.2.2,HP.out.1]
    have y0:=F4 (b.getD z 0)
    have y1:=F4 (b.getD T 0)
    have y2:=F4 (b.getD W 0)
    have y3:=F4 (b.getD p3 0)
    generalize(b.getD z 0).toNat=Z at c0 a y0
    generalize(b.getD T 0).toNat=x1 at c1 a y1
    generalize(b.getD W 0).toNat=Y at c2 a y2
    generalize(b.getD p3 0).toNat=x3 at c3 a y3
    have e0:IntKind.u32.wrap (Z:Int)=(Z:Int):=by rw[IntKind.wrap_u32];omega
    have e1:IntKind.u32.wrap (x1:Int)=(x1:Int):=by rw[IntKind.wrap_u32];omega
    have e2:IntKind.u32.wrap (Y:Int)=(Y:Int):=by rw[IntKind.wrap_u32];omega
    have e3:IntKind.u32.wrap (x3:Int)=(x3:Int):=by rw[IntKind.wrap_u32];omega
    have k0:IntKind.u32.wrap ((Z:Int)*16777216)=(Z:Int)*16777216:=by rw[IntKind.wrap_u32];omega
    have k1:IntKind.u32.wrap ((x1:Int)*65536)=(x1:Int)*65536:=by rw[IntKind.wrap_u32];omega
    have k2:IntKind.u32.wrap ((Y:Int)*256)=(Y:Int)*256:=by rw[IntKind.wrap_u32];omega
    have HV:=Lib.hid (alu y0 y1 y2 y3)
    have HN:=Lib.hid (Sh.Wp b j (Sh.iA Z x1 Y x3) (by rw[z7 I,a]))
    clear y0 y1 y2 y3 a
    go_upto_region 6 with fail
    go_cut [41] (λ_ wx=>Ws w wx b (Sh.iN b (i+1)))
    case first=>
     go_region_held3 (λw'=>w'.cell? ⟨w.heap.size,z,none⟩=some (.int .u8 (Z:Int))/\w'.cell? ⟨w.heap.size,T,none⟩=some (.int .u8 (x1:Int))/\w'.cell? ⟨w.heap.size,W,none⟩=some (.int .u8 (Y:Int))/\w'.cell? ⟨w.heap.size,p3,none⟩=some (.int .u8 (x3:Int)))
      (first|(exact⟨c0,c1,c2,c3⟩)|(exact aiy (show w.heap.size+1+1≠w.heap.size by omega) (show w.heap.size+1+1≠w.heap.size by omega) (show w.heap.size+1+1≠w.heap.size by omega) (show w.heap.size+1+1≠w.heap.size by omega) ⟨c0,c1,c2,c3⟩)) (fail)
     all_goals (go_wp2_with fail;go_meet;rw[HV.out,<-HN.out];exact(g.out.set i _ (by rw[D];exact j)).drew)
    case rest=>
     have U:=Lib.hid hcut;clear hcut
     clear g HP HV HN c0 c1 c2 c3 d0 f0 q0 q1 q2 q3 b0 b0' b1 b1' b2 S b3 b3' e0 e1 e2 e3 k0 k1 k2
     go_wp2_with fail
     go_roundw
     case rel=>exact⟨i+1,om,by go_num,U.out⟩
     case measure=>simp[intOf];omega
   ·have h16':¬(i:Int)<16:=om
    obtain⟨d0,f0⟩:=g.out.r2 i _ (rH (by rw[D];exact j))
    obtain⟨n15,m15⟩:∃n,i-15=n:=⟨_,rfl⟩
    obtain⟨H,m2⟩:∃n,i-2=n:=⟨_,rfl⟩
    obtain⟨n16,m16⟩:∃n,i-16=n:=⟨_,rfl⟩
    obtain⟨n7,m7⟩:∃n,i-7=n:=⟨_,rfl⟩
    obtain⟨V,_⟩:=g.out.r2 n15 _ (rH (by rw[D];omega))
    obtain⟨c2,_⟩:=g.out.r2 H _ (rH (by rw[D];omega))
    obtain⟨C,_⟩:=g.out.r2 n16 _ (rH (by rw[D];omega))
    obtain⟨c7,_⟩:=g.out.r2 n7 _ (rH (by rw[D];omega))
    have c:Sh.Cd (Sh.pR b i) i=Sh.add (Sh.add (Sh.add ((Sh.iN b i).getD n16 0) (Sh.Ai ((Sh.iN b i).getD n15 0))) ((Sh.iN b i).getD n7 0)) (Sh.yM ((Sh.iN b i).getD H 0)):=by
     unfold Sh.Cd
     rw[m15,m2,m16,m7,Sh.Eh b om,Sh.Eh b om,Sh.Eh b om,Sh.Eh b om]
    have t:=Sh.As b i n15
    have l2:=Sh.As b i H
    have l16:=Sh.As b i n16
    have l7:=Sh.As b i n7
    generalize(Sh.iN b i).getD n15 0=x at V c t
    generalize(Sh.iN b i).getD H 0=y at c2 c l2
    generalize(Sh.iN b i).getD n16 0=p at C c l16
    generalize(Sh.iN b i).getD n7 0=q at c7 c l7
    have q15:IntKind.i64.wrap ((i:Int)-15)=(n15:Int):=by rw[IntKind.wrap_i64];omega
    have q2:IntKind.i64.wrap ((i:Int)-2)=(H:Int):=by rw[IntKind.wrap_i64];omega
    have q16:IntKind.i64.wrap ((i:Int)-16)=(n16:Int):=by rw[IntKind.wrap_i64];omega
    have q7:IntKind.i64.wrap ((i:Int)-7)=(n7:Int):=by rw[IntKind.wrap_i64];omega
    have b15:(0:Int)<=(n15:Int):=om
    have b15':(n15:Int)<64:=om
    have b2:(0:Int)<=(H:Int):=om
    have S:(H:Int)<64:=om
    have b16:(0:Int)<=(n16:Int):=om
    have b16':(n16:Int)<64:=om
    have b7:(0:Int)<=(n7:Int):=om
    have b7':(n7:Int)<64:=om
    have X:n16≠i:=om
    have hne7:n7≠i:=om
    obtain⟨r7,N⟩:∃r,Sh.fN x 7=r:=⟨_,rfl⟩
    have T7:=Lib.hid (λw=>show Calls prog 273 #[.int .u32 (x:Int),.int .i64 7] w λe w'=>e=.returned (.int .u32 (r7:Int))/\w=w' from by have:=rD x 7 w t om om;rw[N]at this;exact this)
    obtain⟨r18,k⟩:∃r,Sh.fN x 18=r:=⟨_,rfl⟩
    have T18:=Lib.hid (λw=>show Calls prog 273 #[.int .u32 (x:Int),.int .i64 18] w λe w'=>e=.returned (.int .u32 (r18:Int))/\w=w' from by have:=rD x 18 w t om om;rw[k]at this;exact this)
    obtain⟨r17,l⟩:∃r,Sh.fN y 17=r:=⟨_,rfl⟩
    have T17:=Lib.hid (λw=>show Calls prog 273 #[.int .u32 (y:Int),.int .i64 17] w λe w'=>e=.returned (.int .u32 (r17:Int))/\w=w' from by have:=rD y 17 w l2 om om;rw[l]at this;exact this)
    obtain⟨r19,m⟩:∃r,Sh.fN y 19=r:=⟨_,rfl⟩
    have T19:=Lib.hid (λw=>show Calls prog 273 #[.int .u32 (y:Int),.int .i64 19] w λe w'=>e=.returned (.int .u32 (r19:Int))/\w=w' from by have:=rD y 19 w l2 om om;rw[m]at this;exact this)
    have HV:=Lib.hid (aa7 p q x y r7 r18 r17 r19 t l2 N k l m)
    have HN:=Lib.hid (Sh.Wp b j _ (by rw[y8 I,c]))
    clear c t l2 l16 l7
    clear m15 m2 m16 m7 I N k l m
    go_upto_region 7 with fail
    go_region_held3 (λw'=>w'.cell? ⟨w.heap.size+1+1,n15,none⟩=some (.int .u32 (x:Int))/\w'.cell? ⟨w.heap.size+1+1,H,none⟩=some (.int .u32 (y:Int))) (exact⟨V,c2⟩) (fail)
    go_upto_region 8 with fail
    go_region_held3 (λw'=>w'.cell? ⟨w.heap.size+1+1,n16,none⟩=some (.int .u32 (p:Int))/\w'.cell? ⟨w.heap.size+1+1,n7,none⟩=some (.int .u32 (q:Int)))
     (first|(exact⟨C,c7⟩)|(exact aiS X hne7 ⟨C,c7⟩))
     ((first|(go_at_call 273;((with_reducible refine(T7.out _).mono ?_);rintro e u ⟨rfl,rfl⟩))|(go_at_call 273;((with_reducible refine(T18.out _).mono ?_);rintro e u ⟨rfl,rfl⟩))|(go_at_call 273;((with_reducible refine(T17.out _).mono ?_);rintro e u ⟨rfl,rfl⟩))|(go_at_call 273;((with_reducible refine(T19.out _).mono ?_);rintro e u ⟨rfl,rfl⟩))))
    clear V c2 C c7 q15 q2 q16 q7 b15 b15' b2 S b16 b16' b7 b7' d0 f0
    rw[HV.out]
    have O:=((g.out.set i (Sh.add (Sh.add (Sh.add p (Sh.Ai x)) q) (Sh.yM y)) (by rw[D];exact j)).drew).drew
    rw[HN.out]at O
    have U:=Lib.hid O;clear O
    go_wp2_with fail
    go_roundw
    case rel=>exact⟨i+1,om,by go_num,U.out⟩
    case measure=>simp[intOf];omega
  ·obtain rfl:i=64:=om
   have h64':¬((64:Nat):Int)<64:=om
   have hp:Sh.iN b 64=Sh.lj b:=by unfold Sh.iN Sh.lj;simp
   have A:=g.out
   rw[hp]at A
   have o:(gE (Sh.lj b)).length=64:=by rw[Ek];exact Sh.uS b 64
   have h:∀v∈gE (Sh.lj b),v.oneCell'=true:=by
    intro v hv
    obtain⟨x,_,rfl⟩:=y9.1 hv
    rfl
   have d:wr.rangeAt (w.heap.size+1+1) 0 (gE (Sh.lj b)):=A.r2.range
   have f:wr.there (w.heap.size+1) 0 (gE (Sh.lj b)).toArray.size:=by
    have hs64:(gE (Sh.lj b)).toArray.size=64:=by simp[o]
    rw[hs64];simpa using A.r1.there
   have hB:=A.b
   have hlt:=A.lt
   clear g hp
   obtain⟨L,Q⟩:∃L,gE (Sh.lj b)=L:=⟨_,rfl⟩
   rw[Q]at o h d f
   have HLE:=Lib.hid Q;clear Q
   have E:=all_oneCell_toArray h
   have R:(prog.info? 380).map (·.size)=some L.length:=by rw[o];kernel_rfl
   have F:(prog.info? 380).map (·.size)=some L.toArray.size:=by rw[A9];exact R
   have HX:=Lib.hid (⟨o,h,d,f⟩:_/\_/\_/\_)
   have HB:=Lib.hid hB
   have HSZ:=Lib.hid R
   have HSZ2:=Lib.hid F
   have HALL:=Lib.hid E
   clear o h d f hB R F E A
   go_upto_region 10 with fail
   go_wp2_with (first
    |(refine wpList_load_mid rr 380 _ rr (w.heap.size+1+1) 0 rr L _ HX.out.2.2.1 underlying380 rr HSZ.out ?_)
    |(refine wpList_store_mid rr 380 _ _ rr (w.heap.size+1) 0 L.toArray rr rr HX.out.2.2.2 HSZ2.out HALL.out ?_))
   have hth:wr.there (w.heap.size+1) 0 L.length:=by have:=HX.out.2.2.2;rwa [A9]at this
   have s:=run_loadVar_mid (P:=prog) (wr.setCells (w.heap.size+1) 0 L) (w.heap.size+1) 0 380 L _ (World.rangeAt_setCells_same wr (w.heap.size+1) 0 L hth) underlying380 rr HSZ.out
   have G:=xG L 0 (show w.heap.size<=w.heap.size+1 by omega) HB.out
   generalize wr.setCells (w.heap.size+1) 0 L=wz at s G⊢
   exact bodyPost_ret (Ui results272 _ _ _ _ _ rr s) rfl<|⟨by rw[HLE.out],G⟩
end Go.Proofs.YtbnonpbnhenkfaaGreatDoor
end
namespace Go.Proofs.YtbnonpbnhenkfaaGreatDoor
section
open Go.RowKit Go.Proofs.Tryz
def iK(v:Sh.V):List Value:=gE [v.a,v.b,v.c,v.d,v.e,v.f,v.g,v.h]
def y_(v:Sh.V):Value:=.agg #[.int .u32 (v.a:Int),.int .u32 (v.b:Int),.int .u32 (v.c:Int),.int .u32 (v.d:Int),.int .u32 (v.e:Int),.int .u32 (v.f:Int),.int .u32 (v.g:Int),.int .u32 (v.h:Int)]
structure Sh.V.ok(v:Sh.V):Prop where
 a:v.a<4294967296
 b:v.b<4294967296
 c:v.c<4294967296
 d:v.d<4294967296
 e:v.e<4294967296
 f:v.f<4294967296
 g:v.g<4294967296
 h:v.h<4294967296
def Sh.al9{v:Sh.V}(k w:Nat)(h:v.ok):(Sh.yK k w v).ok:=⟨Sh.qw _ _,h.a,h.b,h.c,Sh.qw _ _,h.e,h.f,h.g⟩
def Sh.Va{v:Sh.V}(w:List Nat)(h:v.ok):∀k,(Sh.rounds w v k).ok
 |0=>h
 |k+1=>Sh.al9 _ _ (Sh.Va w h k)
def Sh.aan(v h:Sh.V):(Sh.plus v h).ok:=⟨Sh.qw _ _,Sh.qw _ _,Sh.qw _ _,Sh.qw _ _,Sh.qw _ _,Sh.qw _ _,Sh.qw _ _,Sh.qw _ _⟩
def Sh.ahy(h:Sh.V)(b:List UInt8):(Sh.block h b).ok:=Sh.aan _ _
def akD(L:List Nat)(a:L.length=64)(i:Nat)(hi:i<64)(w:World):(Instr.index 380 (.agg (gE L).toArray) (.int .i64 (i:Int))).run prog w=.ok (.int .u32 ((L.getD i 0:Nat):Int)) w:=by
 have h:=rH (l:=L) (j:=i) om;unfold Instr.index;simp only[y5]at h;simp[go_sem,hi,h]
def zR(w:World):Prop:=∀i,i<64->w.cell? ⟨5,i,none⟩=some (.int .u32 ((Sh.K.getD i 0:Nat):Int))
theorem zR.below{w x:World}{B:Nat}(h:zR w)(hb:Below B w x)(a:5<B):zR x:=λi hi=>(hb.cell (p:=⟨5,i,none⟩) a).trans (h i hi)
structure Bs(w x:World)(h v:Sh.V):Prop where
 r0:Row x w.heap.size (iK h)
 r2:Row x (w.heap.size+1+1) [.int .u32 0,.int .u32 0,.int .u32 0,.int .u32 0,.int .u32 0,.int .u32 0,.int .u32 0,.int .u32 0]
 r3:Row x (w.heap.size+1+1+1) (iK v)
 b:Below w.heap.size w x
 lt:w.heap.size+1+1+1<x.heap.size
def Bs.drew{w x:World}{h v:Sh.V}(t:Bs w x h v):Bs w x.drew h v:=⟨t.r0,t.r2,t.r3,t.b.drew,t.lt⟩
theorem Bs.below{w x y:World}{h v:Sh.V}(t:Bs w x h v)(hb:Below x.heap.size x y):Bs w y h v:=
 have:=t.lt
 ⟨t.r0.below hb om,t.r2.below hb om,t.r3.below hb t.lt,t.b.trans (hb.mono t.b.size),u9 t.lt hb.size⟩
theorem Bs.gB{w x:World}{h v:Sh.V}(t:Bs w x h v)(u:Sh.V):Bs w (oD x (w.heap.size+1+1+1) (.int .u32 (u.a:Int)) (.int .u32 (u.b:Int)) (.int .u32 (u.c:Int)) (.int .u32 (u.d:Int)) (.int .u32 (u.e:Int)) (.int .u32 (u.f:Int)) (.int .u32 (u.g:Int)) (.int .u32 (u.h:Int))) h u:=
 ⟨t.r0.PE _ _ _ _ _ _ _ _ om,t.r2.PE _ _ _ _ _ _ _ _ om,Row.oD t.r3 _ _ _ _ _ _ _ _,Below.oD t.b om _ _ _ _ _ _ _ _,by simpa[oD]using t.lt⟩
def Sh.xE{x n r:Nat}(h:Sh.fN x n=r)(a:x<4294967296):r<4294967296:=by rw[<-h];exact Sh.yX _ _ a
def acm{k w:Nat}{v:Sh.V}(a:v.ok){l d sQ:Nat}(i:Sh.fN v.e 6=l)(b:Sh.fN v.e 11=d)(c:Sh.fN v.e 25=sQ):
 IntKind.u32.wrap (IntKind.u32.wrap (IntKind.u32.wrap (IntKind.u32.wrap ((v.h:Int)+bits .xor .u32 (bits .xor .u32 (l:Int) (d:Int)) (sQ:Int))+bits .xor .u32 (bits .and .u32 (v.e:Int) (v.f:Int)) (bits .and .u32 (bits .xor .u32 IntKind.u32.max (v.e:Int)) (v.g:Int)))+(k:Int))+(w:Int))=((Sh.one k w v:Nat):Int):=by
 have j:4294967295 ^^^ v.e<2^32:=J2 om a.e
 rw[zh (Sh.xE i a.e) (Sh.xE b a.e) (Sh.xE c a.e),Om _ a.e,u32_and_nat _ _ a.e a.f,u32_and_nat _ _ j a.g,
  u32_xor_nat _ _ (K4 N5 a.e) (K4 N5 j),u_,u_,u_,u_]
 unfold Sh.one
 rw[i,b,c]
def ah1{v:Sh.V}(d:v.ok){r2 g h:Nat}(h2:Sh.fN v.a 2=r2)(e:Sh.fN v.a 13=g)(f:Sh.fN v.a 22=h):
 IntKind.u32.wrap (bits .xor .u32 (bits .xor .u32 (r2:Int) (g:Int)) (h:Int)+bits .xor .u32 (bits .xor .u32 (bits .and .u32 (v.a:Int) (v.b:Int)) (bits .and .u32 (v.a:Int) (v.c:Int))) (bits .and .u32 (v.b:Int) (v.c:Int)))=((Sh.aN v:Nat):Int):=by
 rw[zh (Sh.xE h2 d.a) (Sh.xE e d.a) (Sh.xE f d.a),u32_and_nat _ _ d.a d.b,u32_and_nat _ _ d.a d.c,u32_and_nat _ _ d.b d.c,
  zh (K4 N5 d.a) (K4 N5 d.a) (K4 N5 d.b),u_]
 unfold Sh.aN
 rw[h2,e,f]
def Sh.L8(v:Sh.V):List Nat:=[v.a,v.b,v.c,v.d,v.e,v.f,v.g,v.h]
def Sh.nY(v h:List Nat):Nat->List Nat
 |0=>v
 |j+1=>(Sh.nY v h j).set j (Sh.add ((Sh.nY v h j).getD j 0) (h.getD j 0))
def Sh.Mz(v h:List Nat):∀j,(Sh.nY v h j).length=v.length
 |0=>rfl
 |j+1=>by simp[Sh.nY,Sh.Mz v h j]
def Sh.ali(v h:Sh.V):Sh.nY (Sh.L8 v) (Sh.L8 h) 8=Sh.L8 (Sh.plus v h):=rfl
structure Cs(w x:World)(h l:List Nat):Prop where
 r0:Row x w.heap.size (gE h)
 r2:Row x (w.heap.size+1+1) [.int .u32 0,.int .u32 0,.int .u32 0,.int .u32 0,.int .u32 0,.int .u32 0,.int .u32 0,.int .u32 0]
 r3:Row x (w.heap.size+1+1+1) (gE l)
 b:Below w.heap.size w x
 lt:w.heap.size+1+1+1<x.heap.size
def Bs.cs{w x:World}{h v:Sh.V}(t:Bs w x h v):Cs w x (Sh.L8 h) (Sh.L8 v):=⟨t.r0,t.r2,t.r3,t.b,t.lt⟩
def Cs.drew{w x:World}{h l:List Nat}(t:Cs w x h l):Cs w x.drew h l:=⟨t.r0,t.r2,t.r3,t.b.drew,t.lt⟩
def Cs.set{w x:World}{h l:List Nat}(t:Cs w x h l)(i v:Nat)(hi:i<l.length):Cs w (x.setCell ⟨w.heap.size+1+1+1,i,none⟩ (.int .u32 (v:Int))) h (l.set i v):=
 ⟨t.r0.fj _ om,t.r2.fj _ om,by rw[<-Ug];exact t.r3.set i _ (by rw[Ek];exact hi),t.b.setCell (p:=⟨w.heap.size+1+1+1,i,none⟩) (by show w.heap.size<=w.heap.size+1+1+1;omega) _,by simpa using t.lt⟩
def Sh.rounds_succ(w:List Nat)(v:Sh.V)(k:Nat):Sh.rounds w v (k+1)=Sh.yK (Sh.K.getD k 0) (w.getD k 0) (Sh.rounds w v k):=rfl
def Sh.anx(h:Sh.V)(b:List UInt8):Sh.block h b=Sh.plus (Sh.rounds (Sh.lj b) h 64) h:=rfl
def Sh.acD(b:List UInt8):(Sh.lj b).length=64:=by unfold Sh.lj;exact Sh.uS b 64
def Sh.aeL(v h:List Nat)(j:Nat):(Sh.nY v h j).set j (Sh.add ((Sh.nY v h j).getD j 0) (h.getD j 0))=Sh.nY v h (j+1):=rfl
def aj9(a0 a1 a2 a3 a4 a5 a6 a7:Int):(#[Value.int .u32 a0,.int .u32 a1,.int .u32 a2,.int .u32 a3,.int .u32 a4,.int .u32 a5,.int .u32 a6,.int .u32 a7]:Array Value).all (·.oneCell')=true:=by simp[Value.oneCell']
def anH(st:Sh.V)(b:List UInt8)(w:World)(hb:b.length=64)(hh:st.ok)(hK:zR w)(hw:5<w.heap.size):
 Calls prog 211 #[y_ st,.agg (eD b).toArray] w λe w'=>e=.returned (y_ (Sh.block st b))/\Below w.heap.size w w':=by
 have hbl:(eD b).length=64:=by unfold eD;simpa using hb
 have m:=Lib.hid (show(prog.info? 310).map (·.size)=some (eD b).length from by rw[hbl];kernel_rfl)
 have HW:=Lib.hid (λw=>abw b w hb)
 have hwl:(Sh.lj b).length=64:=Sh.acD b
 have HI:=Lib.hid (λi (hi:i<64) w=>akD (Sh.lj b) hwl i hi w)
 have T:∀i,(Sh.lj b).getD i 0<4294967296:=λi=>by have:=Sh.As b 64 i;unfold Sh.iN at this;simpa[Sh.lj]using this
 have J:=Lib.hid T;clear T
 have R:=Lib.hid (Sh.anx st b)
 have HK:=Lib.hid hK;clear hK hbl hwl hb
 generalize Sh.block st b=z at R⊢
 generalize Sh.lj b=WL at HW HI J R
 generalize eD b=BV at HW m⊢
 unfold y_
 go_enter func211,ntmps211
 go_upto_region 2 with fail
 have n:Bs w ((((w.alloc (.cells (iK st).toArray 309)).alloc (.cells (BV).toArray 310)).alloc (.cells #[.int .u32 0,.int .u32 0,.int .u32 0,.int .u32 0,.int .u32 0,.int .u32 0,.int .u32 0,.int .u32 0] 309)).alloc (.cells (iK st).toArray 309)) st st:=
  ⟨Row.alloc (Row.alloc (Row.alloc (Row.at rr (by simp)) (by simp) _) (by simp<;>omega) _) (by simp<;>omega) _,Row.alloc (Row.at (by simp) rr) (by simp) _,Row.at (by simp) (by simp),
   by go_grown,by simp⟩
 have A:Row ((((w.alloc (.cells (iK st).toArray 309)).alloc (.cells (BV).toArray 310)).alloc (.cells #[.int .u32 0,.int .u32 0,.int .u32 0,.int .u32 0,.int .u32 0,.int .u32 0,.int .u32 0,.int .u32 0] 309)).alloc (.cells (iK st).toArray 309)) (w.heap.size+1) (BV):=
  Row.alloc (Row.alloc (Row.at (by simp) (by simp)) (by simp) _) (by simp<;>omega) _
 unfold iK gE at n A
 simp only[w9,List.map_nil]at n A
 generalize World.alloc _ (Obj.cells _ _)=x0 at n A⊢
 have Y:=Lib.hid n;clear n
 have HRB:=Lib.hid A;clear A
 go_wp2_with (refine wpList_load_mid rr 310 _ rr (w.heap.size+1) 0 rr (BV) _ HRB.out.range underlying310 rr m.out ?_)
 refine(HW.out _).mono ?_
 rintro e x1 ⟨rfl,hb1⟩
 have HT1:=Lib.hid (Y.out.below hb1);clear Y HRB hb1 HW m
 have Y:=HT1;clear HT1
 go_wp2_with fail
 go_loopw [16] (λs16 wr=>∃i:Nat,i<=64/\s16=.int .i64 (i:Int)/\Bs w wr st (Sh.rounds (WL) st i)) (λs16 _=>64-(intOf s16).toNat)
 case atStart=>exact⟨0,om,rr,Y.out⟩
 case round=>
  clear Y
  obtain⟨i,hi,rfl,n⟩:=hrel
  by_cases h64:i<64
  ·have h64':(i:Int)<64:=om
   have hi0:(0:Int)<=(i:Int):=om
   have hidx:=λw=>HI.out i h64 w
   have Z:=J.out i
   have hki:=(HK.out.below n.b hw) i h64
   have N:=Sh.Va (WL) hh i
   have c:Sh.rounds (WL) st (i+1)=Sh.yK (Sh.K.getD i 0) ((WL).getD i 0) (Sh.rounds (WL) st i):=Sh.rounds_succ _ _ _
   generalize(WL).getD i 0=wi at hidx Z c
   generalize Sh.K.getD i 0=ki at hki c
   have Y:=Lib.hid n
   obtain⟨c0,c1,c2,c3,c4,c5,c6,c7,f0,f1,f2,f3,f4,f5,f6,f7⟩:=Row.adM n.r3
   clear n
   generalize Sh.rounds (WL) st i=v at*
   obtain⟨y,vb,vc,vd,s,vf,vg,vh⟩:=v
   simp only at c0 c1 c2 c3 c4 c5 c6 c7
   have B:=N.a
   have C:=N.e
   simp only at B C
   generalize O:w.heap.size+1+1+1=g3 at c0 c1 c2 c3 c4 c5 c6 c7 f0 f1 f2 f3 f4 f5 f6 f7⊢
   have HG3:=Lib.hid O;clear O
   obtain⟨r2,hr2⟩:∃r,Sh.fN y 2=r:=⟨_,rfl⟩
   have T2:=Lib.hid (λw=>show Calls prog 273 #[.int .u32 (y:Int),.int .i64 2] w λe w'=>e=.returned (.int .u32 (r2:Int))/\w=w' from by have:=rD (y) 2 w B om om;rw[hr2]at this;exact this)
   obtain⟨r13,D⟩:∃r,Sh.fN y 13=r:=⟨_,rfl⟩
   have T13:=Lib.hid (λw=>show Calls prog 273 #[.int .u32 (y:Int),.int .i64 13] w λe w'=>e=.returned (.int .u32 (r13:Int))/\w=w' from by have:=rD (y) 13 w B om om;rw[D]at this;exact this)
   obtain⟨r22,E⟩:∃r,Sh.fN y 22=r:=⟨_,rfl⟩
   have T22:=Lib.hid (λw=>show Calls prog 273 #[.int .u32 (y:Int),.int .i64 22] w λe w'=>e=.returned (.int .u32 (r22:Int))/\w=w' from by have:=rD (y) 22 w B om om;rw[E]at this;exact this)
   obtain⟨r6,hr6⟩:∃r,Sh.fN s 6=r:=⟨_,rfl⟩
   have T6:=Lib.hid (λw=>show Calls prog 273 #[.int .u32 (s:Int),.int .i64 6] w λe w'=>e=.returned (.int .u32 (r6:Int))/\w=w' from by have:=rD (s) 6 w C om om;rw[hr6]at this;exact this)
   obtain⟨r11,F⟩:∃r,Sh.fN s 11=r:=⟨_,rfl⟩
   have T11:=Lib.hid (λw=>show Calls prog 273 #[.int .u32 (s:Int),.int .i64 11] w λe w'=>e=.returned (.int .u32 (r11:Int))/\w=w' from by have:=rD (s) 11 w C om om;rw[F]at this;exact this)
   obtain⟨sQ,G⟩:∃r,Sh.fN s 25=r:=⟨_,rfl⟩
   have T25:=Lib.hid (λw=>show Calls prog 273 #[.int .u32 (s:Int),.int .i64 25] w λe w'=>e=.returned (.int .u32 (sQ:Int))/\w=w' from by have:=rD (s) 25 w C om om;rw[G]at this;exact this)
   have g:=Lib.hid (⟨hr2,D,E,hr6,F,G⟩:_/\_/\_/\_/\_/\_)
   have HOK:=Lib.hid N
   have HN:=Lib.hid c
   have HWI:=Lib.hid Z
   clear hr2 D E hr6 F G N c Z B C
   go_upto_region 5 with fail
   go_region_held3 (λw'=>w'.cell? ⟨g3,0,none⟩=some (.int .u32 (y:Int))/\w'.cell? ⟨g3,4,none⟩=some (.int .u32 (s:Int))) (exact⟨c0,c4⟩) (fail)
   go_upto_region 6 with fail
   go_region_held3 (λw'=>w'.cell? ⟨g3,5,none⟩=some (.int .u32 (vf:Int))/\w'.cell? ⟨g3,6,none⟩=some (.int .u32 (vg:Int))/\w'.cell? ⟨g3,7,none⟩=some (.int .u32 (vh:Int))/\w'.cell? ⟨5,i,none⟩=some (.int .u32 (ki:Int))) (exact⟨c5,c6,c7,hki⟩) ((first|(go_at_call 273;((with_reducible refine(T6.out _).mono ?_);rintro e u ⟨rfl,rfl⟩))|(go_at_call 273;((with_reducible refine(T11.out _).mono ?_);rintro e u ⟨rfl,rfl⟩))|(go_at_call 273;((with_reducible refine(T25.out _).mono ?_);rintro e u ⟨rfl,rfl⟩))))
   go_upto_region 7 with fail
   have H1:=acm (k:=ki) (w:=wi) HOK.out g.out.2.2.2.1 g.out.2.2.2.2.1 g.out.2.2.2.2.2
   simp only at H1
   simp only[H1]
   clear H1
   generalize ho:Sh.one ki wi _=o
   generalize bits .xor .u32 (r6:Int) (r11:Int)=q1
   generalize bits .xor .u32 q1 (sQ:Int)=q2
   generalize IntKind.u32.wrap ((vh:Int)+q2)=q3
   generalize bits .and .u32 (s:Int) (vf:Int)=q4
   generalize bits .xor .u32 IntKind.u32.max (s:Int)=q5
   generalize bits .and .u32 q5 (vg:Int)=q6
   generalize bits .xor .u32 q4 q6=q7
   generalize IntKind.u32.wrap (q3+q7)=q8
   generalize IntKind.u32.wrap (q8+(ki:Int))=q9
   go_region_held3 (λw'=>w'.cell? ⟨g3,1,none⟩=some (.int .u32 (vb:Int))/\w'.cell? ⟨g3,2,none⟩=some (.int .u32 (vc:Int))) (exact⟨c1,c2⟩) ((first|(go_at_call 273;((with_reducible refine(T2.out _).mono ?_);rintro e u ⟨rfl,rfl⟩))|(go_at_call 273;((with_reducible refine(T13.out _).mono ?_);rintro e u ⟨rfl,rfl⟩))|(go_at_call 273;((with_reducible refine(T22.out _).mono ?_);rintro e u ⟨rfl,rfl⟩))))
   go_upto_region 8 with fail
   have H2:=ah1 HOK.out g.out.1 g.out.2.1 g.out.2.2.1
   simp only at H2
   simp only[H2]
   clear H2 g
   generalize ht:Sh.aN _=t
   generalize bits .xor .u32 (r2:Int) (r13:Int)=p1
   generalize bits .xor .u32 p1 (r22:Int)=p2
   generalize bits .and .u32 (y:Int) (vb:Int)=p3
   generalize bits .and .u32 (y:Int) (vc:Int)=p4
   generalize bits .xor .u32 p3 p4=p5
   generalize bits .and .u32 (vb:Int) (vc:Int)=p6
   generalize bits .xor .u32 p5 p6=p7
   have S:=HN.out
   unfold Sh.yK at S
   rw[ho,ht]at S
   have HN3:=Lib.hid S
   clear ho ht HN S
   have HTH:=Lib.hid (show wr.drew.drew.drew.there g3 0 8 from by have h:=Y.out.r3.there;rw[HG3.out]at h;exact h)
   have HS8:=Lib.hid (show(prog.info? 309).map (·.size)=some 8 from by kernel_rfl)
   go_wp2_with (refine wpList_store_mid rr 309 (Operand.tmp 5) (Operand.tmp 93) rr g3 0 _ rr rr ?ht ?hi ?ha ?_;(case ht=>exact HTH.out);(case hi=>exact HS8.out);(case ha=>exact aj9 _ _ _ _ _ _ _ _))
   refine⟨⟨i+1,om,rr,?_⟩,by simp only[intOf];omega⟩
   have O:=HG3.out
   subst O
   have HF:=Y.out.drew.drew.drew.gB (Sh.rounds WL st (i+1))
   rw[HN3.out]at HF
   rw[HN3.out]
   have e1:((Sh.add o t:Nat):Int)=((o:Int)+(t:Int))%4294967296:=by unfold Sh.add;omega
   have e2:((Sh.add vd o:Nat):Int)=((vd:Int)+(o:Int))%4294967296:=by unfold Sh.add;omega
   simp only[e1,e2]at HF
   exact HF
  ·obtain rfl:i=64:=om
   have HTE:=Lib.hid n.cs
   clear n HI J
   have hB0:=R.out
   clear R
   generalize Sh.rounds (WL) st 64=v at HTE hB0
   have HB0:=Lib.hid hB0;clear hB0
   go_wp2_with fail
   go_loopw [95,12] (λs95 s12 wy=>∃j:Nat,j<=8/\s95=.int .i64 (j:Int)/\Cs w wy (Sh.L8 st) (Sh.nY (Sh.L8 v) (Sh.L8 st) j)) (λs95 _ _=>8-(intOf s95).toNat)
   case atStart=>exact⟨0,om,rr,HTE.out⟩
   case round=>
    clear HTE
    obtain⟨j,hj,rfl,Q⟩:=hrel
    have hl:=Sh.Mz (Sh.L8 v) (Sh.L8 st) j
    have hl8:(Sh.L8 v).length=8:=rfl
    by_cases h8:j<8
    ·have h8':(j:Int)<8:=om
     have hj0:(0:Int)<=(j:Int):=om
     obtain⟨c0,f0⟩:=Q.r3 j _ (rH om)
     obtain⟨c1,f1⟩:=Q.r0 j _ (rH (show j<(Sh.L8 st).length from h8))
     have c:=(Q.set j (Sh.add ((Sh.nY (Sh.L8 v) (Sh.L8 st) j).getD j 0) ((Sh.L8 st).getD j 0)) om).drew
     have hm:(Sh.nY (Sh.L8 v) (Sh.L8 st) j).set j (Sh.add ((Sh.nY (Sh.L8 v) (Sh.L8 st) j).getD j 0) ((Sh.L8 st).getD j 0))=Sh.nY (Sh.L8 v) (Sh.L8 st) (j+1):=Sh.aeL _ _ _
     rw[hm]at c
     have HNX:=Lib.hid c
     clear c Q hm hl hl8
     generalize(Sh.nY (Sh.L8 v) (Sh.L8 st) j).getD j 0=p at c0 f0 HNX
     generalize(Sh.L8 st).getD j 0=q at c1 f1 HNX
     go_upto_region 13 with fail
     go_region
     go_wp2_with fail
     have e1:((Sh.add p q:Nat):Int)=((p:Int)+(q:Int))%4294967296:=by unfold Sh.add;omega
     have HN4:=HNX.out
     rw[e1]at HN4
     refine⟨⟨j+1,om,by go_num,HN4⟩,by simp only[intOf];omega⟩
    ·obtain rfl:j=8:=om
     have h8':¬((8:Nat):Int)<8:=om
     rw[Sh.ali,<-HB0.out]at Q
     have H:(gE (Sh.L8 z)).length=8:=by rw[Ek];rfl
     have l:∀v∈gE (Sh.L8 z),v.oneCell'=true:=by
      intro v hv
      obtain⟨x,_,rfl⟩:=y9.1 hv
      rfl
     have d:wr.rangeAt (w.heap.size+1+1+1) 0 (gE (Sh.L8 z)):=Q.r3.range
     have f:wr.there (w.heap.size+1+1) 0 (gE (Sh.L8 z)).toArray.size:=by
      have hs8:(gE (Sh.L8 z)).toArray.size=8:=by rw[A9];exact H
      rw[hs8];simpa using Q.r2.there
     have hB:=Q.b
     have I:y_ z=.agg (gE (Sh.L8 z)).toArray:=rfl
     clear HB0 hl hl8
     obtain⟨L,hLe⟩:∃L,gE (Sh.L8 z)=L:=⟨_,rfl⟩
     rw[hLe]at H l d f I
     have HVAL:=Lib.hid I;clear hLe I
     have U:=all_oneCell_toArray l
     have hsz:(prog.info? 309).map (·.size)=some L.length:=by rw[H];kernel_rfl
     have W:(prog.info? 309).map (·.size)=some L.toArray.size:=by rw[A9];exact hsz
     have HX:=Lib.hid (⟨H,l,d,f⟩:_/\_/\_/\_)
     have HB:=Lib.hid hB
     have m:=Lib.hid hsz
     have HSZ2:=Lib.hid W
     have HALL:=Lib.hid U
     clear H l d f hB hsz W U Q
     go_upto_region 15 with fail
     go_wp2_with (first
      |(refine wpList_load_mid rr 309 _ rr (w.heap.size+1+1+1) 0 rr L _ HX.out.2.2.1 underlying309 rr m.out ?_)
      |(refine wpList_store_mid rr 309 _ _ rr (w.heap.size+1+1) 0 L.toArray rr rr HX.out.2.2.2 HSZ2.out HALL.out ?_))
     have hth:wr.there (w.heap.size+1+1) 0 L.length:=by have:=HX.out.2.2.2;rwa [A9]at this
     have M:=run_loadVar_mid (P:=prog) (wr.setCells (w.heap.size+1+1) 0 L) (w.heap.size+1+1) 0 309 L _ (World.rangeAt_setCells_same wr (w.heap.size+1+1) 0 L hth) underlying309 rr m.out
     have X:=xG L 0 (show w.heap.size<=w.heap.size+1+1 by omega) HB.out
     generalize wr.setCells (w.heap.size+1+1) 0 L=wz at M X⊢
     exact bodyPost_ret (Ui results211 _ _ _ _ _ rr M) rfl<|⟨by rw[<-HVAL.out];rfl,X⟩
end
end Go.Proofs.YtbnonpbnhenkfaaGreatDoor
section
namespace Go.Proofs
open Go.Shelf
def Tryz.Uk:Go.Shelf.Ren:=⟨fun|105=>271|212=>315|99=>316|165=>240|166=>241|170=>317|169=>242|263=>364|264=>309|206=>365|240=>294|241=>295|276=>349|277=>350|n=>n,fun|9=>9|3=>3|4=>4|20=>20|0=>0|46=>304|109=>424|5=>5|72=>341|76=>345|51=>308|146=>455|53=>30|148=>260|70=>339|37=>116|75=>344|127=>407|164=>441|80=>228|n=>n,fun|n=>n⟩
def Tryz.aho:Go.Proofs.Lays.n105 Tryz.prog Tryz.Uk:={
 mixed:=by kernel_rfl
 f99:=Tryz.func316.trans (congrArg some (by kernel_rfl))
 f105:=Tryz.func271.trans (congrArg some (by kernel_rfl))
 f165:=Tryz.func240.trans (congrArg some (by kernel_rfl))
 f166:=Tryz.func241.trans (congrArg some (by kernel_rfl))
 f169:=Tryz.func242.trans (congrArg some (by kernel_rfl))
 f170:=Tryz.func317.trans (congrArg some (by kernel_rfl))
 f206:=Tryz.func365.trans (congrArg some (by kernel_rfl))
 f212:=Tryz.func315.trans (congrArg some (by kernel_rfl))
 f240:=Tryz.func294.trans (congrArg some (by kernel_rfl))
 f241:=Tryz.func295.trans (congrArg some (by kernel_rfl))
 f263:=Tryz.func364.trans (congrArg some (by kernel_rfl))
 f264:=Tryz.func309.trans (congrArg some (by kernel_rfl))
 f276:=Tryz.func349.trans (congrArg some (by kernel_rfl))
 f277:=Tryz.func350.trans (congrArg some (by kernel_rfl))
 t0:=Tryz.underlying0
 a0:=Tryz.isAgg0
 z0:=Tryz.sizeOf0
 v0:=Tryz.zeroValue0
 t3:=Tryz.underlying3
 a3:=Tryz.isAgg3
 z3:=Tryz.sizeOf3
 v3:=Tryz.zeroValue3
 t4:=Tryz.underlying4
 a4:=Tryz.isAgg4
 z4:=Tryz.sizeOf4
 v4:=Tryz.zeroValue4
 t5:=Tryz.underlying5
 a5:=Tryz.isAgg5
 z5:=Tryz.sizeOf5
 v5:=Tryz.zeroValue5
 t9:=Tryz.underlying9
 a9:=Tryz.isAgg9
 z9:=Tryz.sizeOf9
 v9:=Tryz.zeroValue9
 t20:=Tryz.underlying20
 a20:=Tryz.isAgg20
 z20:=Tryz.sizeOf20
 v20:=Tryz.zeroValue20
 t37:=Tryz.underlying116
 a37:=Tryz.isAgg116
 z37:=Tryz.sizeOf116
 v37:=Tryz.zeroValue116
 t46:=Tryz.underlying304
 a46:=Tryz.isAgg304
 z46:=Tryz.sizeOf304
 v46:=Tryz.zeroValue304
 t51:=Tryz.underlying308
 a51:=Tryz.isAgg308
 z51:=Tryz.sizeOf308
 v51:=Tryz.zeroValue308
 t53:=Tryz.underlying30
 a53:=Tryz.isAgg30
 z53:=Tryz.sizeOf30
 v53:=Tryz.zeroValue30
 t70:=Tryz.underlying339
 a70:=Tryz.isAgg339
 z70:=Tryz.sizeOf339
 v70:=Tryz.zeroValue339
 t72:=Tryz.underlying341
 a72:=Tryz.isAgg341
 z72:=Tryz.sizeOf341
 v72:=Tryz.zeroValue341
 t75:=Tryz.underlying344
 a75:=Tryz.isAgg344
 z75:=Tryz.sizeOf344
 v75:=Tryz.zeroValue344
 t76:=Tryz.underlying345
 a76:=Tryz.isAgg345
 z76:=Tryz.sizeOf345
 v76:=Tryz.zeroValue345
 t109:=Tryz.underlying424
 a109:=Tryz.isAgg424
 z109:=Tryz.sizeOf424
 v109:=Tryz.zeroValue424
 t127:=Tryz.underlying407
 a127:=Tryz.isAgg407
 z127:=Tryz.sizeOf407
 v127:=Tryz.zeroValue407
 t146:=Tryz.underlying455
 a146:=Tryz.isAgg455
 z146:=Tryz.sizeOf455
 v146:=Tryz.zeroValue455
 t148:=Tryz.underlying260
 a148:=Tryz.isAgg260
 z148:=Tryz.sizeOf260
 v148:=Tryz.zeroValue260
 t164:=Tryz.underlying441
 a164:=Tryz.isAgg441
 z164:=Tryz.sizeOf441
 v164:=Tryz.zeroValue441}
def Tryz.ajs:Builder.Extra Tryz.prog Tryz.Uk:={
 sizeBuilder:=by kernel_rfl
 liesBuilder:=by kernel_rfl
 t5:=Tryz.underlying5
 a5:=Tryz.isAgg5
 z5:=Tryz.sizeOf5
 v5:=Tryz.zeroValue5
 infoByte:=by kernel_rfl
 cellsByte:=by kernel_rfl
 sizeByte:=by kernel_rfl
 neB5:=by decide}
open Go.RowKit Go.Lib in
def Tryz.strings_Repeat(s:ByteArray)(c:Nat)(w:World)(b:c<=9223372036854775807)(a:s.size*c<=140737488355328):
 Calls Tryz.prog 271 #[.string s,.int .i64 c] w λe w'=>e=.returned (.string ⟨(Lib.repeatL s.data.toList c).toArray⟩)/\Below w.heap.size w w':=Any.strings_Repeat Tryz.aho Tryz.ajs s c w b a
end Go.Proofs
end
namespace Go.Proofs.YtbnonpbnhenkfaaGreatDoor
section
open Go.RowKit Go.Proofs.Tryz
def zH{y:World}{g n cap:Nat}{l:List UInt8}(h:Row y g (lh l))(a:l.length=n):
 (convert 116 9 (.slice (some ⟨g,0,none⟩) n cap)).run prog y=.ok (.string ⟨l.toArray⟩) y:=by
 subst a
 have key:=run_convert_bytes_arg (P:=prog) y 116 5 underlying116 underlying5 g 0 l.length cap (l.map λb=>(b.toNat:Int)) (by simp) (λi hi=>by
  have e:(⟨g,0+i,none⟩:Addr)=⟨g,i,none⟩:=by rw[j7]
  rw[e,(h i (.int .u8 ((l[i]'hi).toNat:Int)) (by simp[lh,hi])).1]
  simp[hi]) 9 underlying9
 rw[key]
 have e2:strOfNums (l.map λb=>(b.toNat:Int))=⟨l.toArray⟩:=by
  apply K9
  apply M7.1
  rw[strOfNums_data,F3]
  simp[Function.comp_def]
 rw[e2]
structure jo(w y:World)(g n cap:Nat)(l:List UInt8):Prop where
 r:Row y g (lh l)
 lt:g<y.heap.size
 b:Below w.heap.size w y
def jo.alloc{w y:World}{g n cap:Nat}{l:List UInt8}(h:jo w y g n cap l)(o:Obj):jo w (y.alloc o) g n cap l:=⟨h.r.alloc h.lt o,by have:=h.lt;simp;omega,h.b.alloc h.b.size o⟩
def jo.drew{w y:World}{g n cap:Nat}{l:List UInt8}(h:jo w y g n cap l):jo w y.drew g n cap l:=⟨h.r.drew,h.lt,h.b.drew⟩
theorem jo.below{w y z:World}{g n cap:Nat}{l:List UInt8}(h:jo w y g n cap l)(hb:Below y.heap.size y z):jo w z g n cap l:=⟨h.r.below hb h.lt,u9 h.lt hb.size,h.b.trans (hb.mono h.b.size)⟩
def jo.out{w y:World}{g n cap:Nat}{l:List UInt8}(h:jo w y g n cap l)(a:l.length=n):
 (convert 116 9 (.slice (some ⟨g,0,none⟩) n cap)).run prog y=.ok (.string ⟨l.toArray⟩) y/\jo w y g n cap l:=⟨zH h.r a,h⟩
def Kh(y:World)(c:Nat)(a:c<256):Row (y.alloc (.cells #[.int .u8 (c:Int)] 5)) y.heap.size (lh [UInt8.ofNat c]):=Row.at rr (by simp[lh];omega)
def abG(y:World):(convert 116 9 (.slice (some ⟨y.heap.size,0,none⟩) 1 1)).run prog (y.alloc (.cells #[.int .u8 128] 5)).drew=.ok (.string ⟨#[128]⟩) (y.alloc (.cells #[.int .u8 128] 5)).drew:=
 zH (l:=[128]) (Kh y 128 om).drew rr
def ak8(y:World):(convert 116 9 (.slice (some ⟨y.heap.size,0,none⟩) 1 1)).run prog (y.alloc (.cells #[.int .u8 128] 5))=.ok (.string ⟨#[128]⟩) (y.alloc (.cells #[.int .u8 128] 5)):=
 zH (l:=[128]) (Kh y 128 om) rr
def af6{y u:World}{B:Nat}(hb:Below B (y.alloc (.cells #[.int .u8 128] 5)).drew u)(a:y.heap.size<B):(convert 116 9 (.slice (some ⟨y.heap.size,0,none⟩) 1 1)).run prog u=.ok (.string ⟨#[128]⟩) u:=
 zH (l:=[128]) ((Kh y 128 om).drew.below hb a) rr
def akA(w:World)(n:Nat)(h:n<562949953421313):
 Row (w.alloc (.cells #[Value.int IntKind.u8 ((n:Int)*8 / 72057594037927936),Value.int IntKind.u8 ((n:Int)*8 / 281474976710656),
  Value.int IntKind.u8 ((n:Int)*8 / 1099511627776%256),
  Value.int IntKind.u8 ((n:Int)*8 / 4294967296%256),Value.int IntKind.u8 ((n:Int)*8 / 16777216%256),
  Value.int IntKind.u8 ((n:Int)*8 / 65536%256),Value.int IntKind.u8 ((n:Int)*8 / 256%256),
  Value.int IntKind.u8 ((n:Int)*8%256)] 378)) w.heap.size (lh (Sh.ub (n*8))):=by
 refine Row.at rr ?_
 unfold lh Sh.ub
 simp[List.range,List.range.loop]
 omega
def La:∀z,Lib.repeatL [(0:UInt8)] z=List.replicate z 0
 |0=>rfl
 |z+1=>by rw[List.replicate_succ,<-La z];rfl
def aba(s:ByteArray)(w:World)(Y:s.size<=281474976710656):
 Calls prog 210 #[.string s] w λe w'=>e=.returned (.string ⟨(Sh.qo s.data.toList).toArray⟩)/\Below w.heap.size w w':=by
 obtain⟨z,D⟩:∃z,Sh.xD s.size=z:=⟨_,rfl⟩
 have j:((119-(s.size:Int)%64)%64)=(z:Int):=by subst D;unfold Sh.xD;omega
 have r:((119-(s.size:Int))%64)=(z:Int):=by rw[<-j];omega
 have M:z<64:=by subst D;unfold Sh.xD;omega
 have i:=Lib.hid (λw=>strings_Repeat ⟨#[0]⟩ z w om (by show 1*z<=_;omega))
 have I:=Lib.hid (akA w s.size om)
 have t:(Sh.ub (s.size*8)).length=8:=rfl
 have J:=Lib.hid (show Sh.qo s.data.toList=s.data.toList++[128]++List.replicate z 0++Sh.ub (s.size*8)from by
  unfold Sh.qo;rw[show s.data.toList.length=s.size from rr,D,D1 om])
 generalize Sh.ub (s.size*8)=L at I t J
 clear D
 obtain⟨o1,a⟩:∃o:ByteArray,⟨#[128]⟩=o:=⟨_,rfl⟩
 obtain⟨B,c⟩:∃o:ByteArray,⟨(Lib.repeatL [(0:UInt8)] z).toArray⟩=o:=⟨_,rfl⟩
 obtain⟨lb,d⟩:∃o:ByteArray,⟨L.toArray⟩=o:=⟨_,rfl⟩
 have W:o1.size<=1:=by rw[<-a];decide
 have X:B.size<=64:=by rw[<-c,La];show(List.replicate z (0:UInt8)).toArray.size<=64;simp;omega
 have V:lb.size<=8:=by rw[<-d];show L.toArray.size<=8;simp;omega
 have E:=abG
 rw[a]at E
 have F:=ak8
 rw[a]at F
 have C:=Lib.hid (fun(y u:World) (hb:Below (y.alloc (.cells #[.int .u8 128] 5)).drew.heap.size (y.alloc (.cells #[.int .u8 128] 5)).drew u)=>af6 hb (by simp))
 rw[a]at C
 have q:=Lib.hid (λw=>show Calls prog 271 #[.string ⟨#[0]⟩,.int .i64 (z:Int)] w λe w'=>e=.returned (.string B)/\Below w.heap.size w w' from c▸i.out w)
 have A:=Lib.hid (λy (h:jo w y w.heap.size 8 8 L)=>d▸h.out t)
 have H:=Lib.hid (show(⟨(Sh.qo s.data.toList).toArray⟩:ByteArray)=s++o1++B++lb from by
  rw[J.out,<-c,<-d,<-a,La]
  apply K9
  simp)
 clear i J c d a
 go_enter func210,ntmps210
 go_wp2_with fail
 refine wp_loop_rounds 9 ?_
 repeat (rw[rounds_succ];go_wp2_with fail)
 have K:=Lib.hid (show jo w _ w.heap.size 8 8 L from⟨I.out,by simp,(Below.refl _ _).alloc (j2 _) _⟩)
 generalize w.alloc _=x0 at K⊢
 clear I
 try rw[r]
 try rw[j]
 clear j r
 have P:¬(9223372036854775807<s.size+o1.size):=om
 have Q:¬(9223372036854775807<s.size+o1.size+B.size):=om
 have R:¬(9223372036854775807<s.size+o1.size+B.size+lb.size):=om
 have k:jo w x0 w.heap.size 8 8 L:=K.out
 have f:∀y,jo w y w.heap.size 8 8 L->(convert 116 9 (.slice (some ⟨w.heap.size,0,none⟩) 8 8)).run prog y=.ok (.string lb) y:=λy h=>(A.out y h).1
 have m:∀y o,jo w y w.heap.size 8 8 L->jo w (y.alloc o) w.heap.size 8 8 L:=λy o h=>h.alloc o
 have p:∀y,jo w y w.heap.size 8 8 L->jo w y.drew w.heap.size 8 8 L:=λy h=>h.drew
 have S:(convert 116 9 (.slice (some ⟨w.heap.size,0,none⟩) 8 8)).run prog x0.drew=.ok (.string lb) x0.drew:=f _ (p _ k)
 have N:∀o,(convert 116 9 (.slice (some ⟨w.heap.size,0,none⟩) 8 8)).run prog (x0.alloc o).drew=.ok (.string lb) (x0.alloc o).drew:=λo=>f _ (p _ (m _ _ k))
 have G:=Lib.hid (fun(y u:World) (hb:Below y.heap.size y u) (h:jo w y w.heap.size 8 8 L)=>h.below hb)
 clear A K
 go_region_with ((first|(go_at_call 271;((with_reducible refine(q.out _).mono ?_);rintro e u ⟨rfl,v⟩;(try (have T:=C.out _ _ v));have x:=G.out _ _ v (by simp[k,m,p]);have U:=f _ x;have O:=λo=>f _ (m _ o x)))))
 all_goals (go_wp2_with fail)
 all_goals (go_ret;exact⟨vV (by rw[H.out]),jo.b (g:=w.heap.size) (n:=8) (cap:=8) (l:=L) (by simp[*])⟩)
end
end Go.Proofs.YtbnonpbnhenkfaaGreatDoor
section
namespace Go.Proofs.YtbnonpbnhenkfaaGreatDoor
open Go.RowKit Go.Proofs.Tryz
structure Laid(w:World):Prop where
 MR:zR w
 s0:w.cell? ⟨4,0,none⟩=some (.int .u32 (Sh.H0.a:Int))
 s1:w.cell? ⟨4,1,none⟩=some (.int .u32 (Sh.H0.b:Int))
 s2:w.cell? ⟨4,2,none⟩=some (.int .u32 (Sh.H0.c:Int))
 s3:w.cell? ⟨4,3,none⟩=some (.int .u32 (Sh.H0.d:Int))
 s4:w.cell? ⟨4,4,none⟩=some (.int .u32 (Sh.H0.e:Int))
 s5:w.cell? ⟨4,5,none⟩=some (.int .u32 (Sh.H0.f:Int))
 s6:w.cell? ⟨4,6,none⟩=some (.int .u32 (Sh.H0.g:Int))
 s7:w.cell? ⟨4,7,none⟩=some (.int .u32 (Sh.H0.h:Int))
 lt:5<w.heap.size
 Mx:4<w.heap.size
theorem Laid.below{w x:World}{B:Nat}(h:Laid w)(hb:Below B w x)(a:w.heap.size<=B):Laid x:=
 have h1:5<B:=u9 h.lt a
 have h2:4<B:=u9 h.Mx a
 have b:=hb.size
 ⟨h.MR.below hb h1,(hb.cell (p:=⟨_,0,none⟩) h2).trans h.s0,(hb.cell (p:=⟨_,1,none⟩) h2).trans h.s1,(hb.cell (p:=⟨_,2,none⟩) h2).trans h.s2,
  (hb.cell (p:=⟨_,3,none⟩) h2).trans h.s3,(hb.cell (p:=⟨_,4,none⟩) h2).trans h.s4,(hb.cell (p:=⟨_,5,none⟩) h2).trans h.s5,
  (hb.cell (p:=⟨_,6,none⟩) h2).trans h.s6,(hb.cell (p:=⟨_,7,none⟩) h2).trans h.s7,u9 h.lt b,u9 h.Mx b⟩
def Jq(l:List UInt8):∀v∈eD l,v.oneCell'=true:=by
 intro v hv;simp only[eD,y9]at hv;obtain⟨b,_,rfl⟩:=hv;rfl
theorem anI(w:World)(ty:TypeId)(g:Nat)(s:ByteArray)(hs:64≤s.size)(ht:w.there g 0 64):
 (Builtin.copy_ #[116,9] ty #[.slice (some ⟨g,0,none⟩) 64 64,.string s]).run Tryz.prog w=.ok (goInt 64) (w.setCells g 0 (eD (s.data.toList.take 64))):=by
 have hu:=Tryz.underlying116
 obtain⟨i,hi,hz0,hz1,hz2⟩:=info_parts Tryz.BZ
 have hlen:(eD (s.data.toList.take 64)).length=64:=by
  unfold eD;rw[c8,l8,show s.data.toList.length=s.size from rfl];omega
 have hst:=run_storeCells_cells (P:=Tryz.prog) g 0 (eD (s.data.toList.take 64)) 0 w (fun j hj=>by simpa using(ht j (by omega)).1) (fun j hj=>by simpa using(ht j (by omega)).2) (Jq _)
 have hmin:Nat.min s.size 64=64:=Nat.min_eq_right hs
 have htk:List.take 64 (List.map (fun b:UInt8=>Value.int IntKind.u8 (b.toNat:Int)) s.data.toList)=eD (s.data.toList.take 64):=by
  unfold eD;rw[K6]
 simp[Builtin.copy_,run_underlying hu,Builtin.lenOf,Builtin.firstCells,sizeOf,typeInfo,hi,hmin]
 rw[htk,hst]
 simp[Result.andThen]
def abn{w:World}{ops:Array Oper}{rest:List Oper}{o:Oper}{a:Act}{Q:Exit->Act->World->Prop}(c:o.guard=none)(d x:Operand)
 (e:o.op=.call {callee:=.builtin .copy,args:=#[d,x],argTypes:=#[116,9]}) (g:Nat) (s:ByteArray)
 (f:a.eval d=.slice (some ⟨g,0,none⟩) 64 64) (i:a.eval x=.string s) (j:64<=s.size) (k:w.there g 0 64)
 (h:wpList prog ops Q rest (a.put o.dst (goInt 64)) (w.setCells g 0 (eD (s.data.toList.take 64)))):wpList prog ops Q (o::rest) a w:=by
 refine wpList_plain c λK l=>?_
 have b:=anI w o.type g s j k
 unfold Oper.wp
 simp[execOp,e,resolve,invoke,builtin,f,i,b,Result.andThen]
 exact l _ _ h
def agx(q:ByteArray)(h:0<q.size):q.toList.isEmpty=false:=by
 rw[Lib.toList_data];have:0<q.data.toList.length:=h;cases hq:q.data.toList with
 |nil=>rw[hq]at this;simp at this
 |cons a l=>rfl
def We:Value->Nat
 |.string q=>q.size
 |_=>0
def Row.cells{x:World}{g b:Nat}{l:List Value}(h:Row x g l)(a:b≠g)(o:Nat)(cs:List Value):Row (x.setCells b o cs) g l:=λj v e=>
 ⟨by rw[World.cell?_setCells_out b cs o x _ (λe'=>absurd e' (by simpa using Ne.symm a))];exact(h j v e).1,by rw[World.frozen?_setCells];exact(h j v e).2⟩
def Yg(v:Sh.V):(iK v).length=8:=rfl
def OI(v:Sh.V):(iK v).toArray.size=8:=rfl
def aoM(v:Sh.V):y_ v=.agg (iK v).toArray:=rfl
def acY(v:Sh.V):∀x∈iK v,x.oneCell'=true:=by
 intro x a;obtain⟨y,_,rfl⟩:=y9.1 a;rfl
structure Ss(w x:World)(v:Sh.V):Prop where
 r:Row x w.heap.size (iK v)
 b:Below w.heap.size w x
 lt:w.heap.size<x.heap.size
def Ss.drew{w x:World}{v:Sh.V}(h:Ss w x v):Ss w x.drew v:=⟨h.r.drew,h.b.drew,h.lt⟩
theorem Ss.below{w x y:World}{v:Sh.V}(h:Ss w x v)(hb:Below x.heap.size x y):Ss w y v:=⟨h.r.below hb h.lt,h.b.trans (hb.mono h.b.size),u9 h.lt hb.size⟩
def Ss.alloc{w x:World}{v:Sh.V}(h:Ss w x v)(o:Obj):Ss w (x.alloc o) v:=h.below ((Below.refl _ _).alloc (j2 _) o)
theorem Ss.gB{w x:World}{v:Sh.V}(h:Ss w x v)(u:Sh.V):Ss w (x.setCells w.heap.size 0 (iK u)) u:=
 ⟨Row.oD h.r _ _ _ _ _ _ _ _,Below.oD h.b (j2 _) _ _ _ _ _ _ _ _,by have:=h.lt;rw[show(x.setCells w.heap.size 0 (iK u))=oD x w.heap.size (.int .u32 (u.a:Int)) (.int .u32 (u.b:Int)) (.int .u32 (u.c:Int)) (.int .u32 (u.d:Int)) (.int .u32 (u.e:Int)) (.int .u32 (u.f:Int)) (.int .u32 (u.g:Int)) (.int .u32 (u.h:Int))from rfl];simpa[oD]using this⟩
def YZ(l:List UInt8)(x:Nat):lh l++[.int .u8 ((x:Int) / 16777216%256),.int .u8 ((x:Int) / 65536%256),.int .u8 ((x:Int) / 256%256),.int .u8 ((x:Int)%256)]=lh (l++Sh.pb x):=by
 unfold lh Sh.pb;rw[l6];congr 1;simp
def am0(v:Sh.V):iK v=gE (Sh.L8 v):=rfl
def agH(L:List Nat)(a:L.length=8)(i:Nat)(hi:i<8)(w:World):(Instr.index 309 (.agg (gE L).toArray) (.int .i64 (i:Int))).run prog w=.ok (.int .u32 ((L.getD i 0:Nat):Int)) w:=by
 have h:=rH (l:=L) (j:=i) om;unfold Instr.index;simp only[y5]at h;simp[go_sem,hi,h]
namespace Sh
def sb(l:List Nat):Nat->List UInt8
 |0=>[]
 |j+1=>sb l j++pb (l.getD j 0)
def Ra(l:List Nat):∀j,(sb l j).length=4*j
 |0=>rfl
 |j+1=>by rw[sb,i6,Ra l j];show 4*j+4=_;omega
def ab5(v:V):out v=sb (L8 v) 8:=rfl
def agG(v:V):(L8 v).length=8:=rfl
def rest(P:List UInt8)(k:Nat):ByteArray:=⟨(P.drop (64*k)).toArray⟩
def Ak(P:List UInt8)(k:Nat):(rest P k).size=P.length-64*k:=by show(P.drop (64*k)).toArray.size=_;simp
def afx(P:List UInt8)(k:Nat):(rest P k).extract 64 (rest P k).size=rest P (k+1):=by
 apply K9;rw[Ak];simp[rest,K0];rw[show 64*(k+1)=64*k+64 by omega];rw[u5 (by simp;omega)]
def alr(n:Nat):(n+1+xD n+8)%64=0:=by unfold xD;omega
def agl(s:List UInt8):(qo s).length%64=0:=by
 unfold qo;have:(ub (s.length*8%18446744073709551616)).length=8:=by unfold ub;simp
 simp only[i6,A1,this,C0];exact alr _
def aiv(t:List UInt8){h:V}(a:h.ok):∀k,(kh t h k).ok
 |0=>a
 |_+1=>ahy _ _
def acz(t:List UInt8)(h:V)(k:Nat):kh t h (k+1)=block (kh t h k) ((t.drop (64*k)).take 64):=rfl
def amp:H0.ok:=⟨by decide,by decide,by decide,by decide,by decide,by decide,by decide,by decide⟩
end Sh
theorem Ie(s:ByteArray)(w:World)(hL:Laid w)(hs:s.size≤281474976710656):
 Calls Tryz.prog 146 #[.string s] w fun e w'=>e=.returned (.string ⟨(Sh.sum s.data.toList).toArray⟩)∧Below w.heap.size w w':=by
 have HPAD:=Lib.hid (fun w=>aba s w hs)
 have hmod:=Sh.agl s.data.toList
 have HSUM:=Lib.hid (show Sh.sum s.data.toList=Sh.out (Sh.kh (Sh.qo s.data.toList) Sh.H0 ((Sh.qo s.data.toList).length / 64))from rfl)
 generalize Sh.qo s.data.toList=P at HPAD hmod HSUM
 obtain⟨m,hm⟩:∃m,P.length=64*m:=⟨P.length / 64,by omega⟩
 rw[show P.length / 64=m by omega]at HSUM
 obtain⟨pt,hpt⟩:∃q:ByteArray,⟨P.toArray⟩=q:=⟨_,rfl⟩
 rw[hpt]at HPAD
 have HPT:=Lib.hid (show pt=Sh.rest P 0 from hpt▸rfl)
 have HLA:=Lib.hid hL
 have HOK0:=Lib.hid Sh.amp
 obtain⟨_,s0,s1,s2,s3,s4,s5,s6,s7,lt1,lt2⟩:=hL
 generalize Sh.H0=st at s0 s1 s2 s3 s4 s5 s6 s7 HSUM HOK0
 clear hpt hmod
 go_enter Tryz.func146,Tryz.ntmps146
 go_wp2_with (go_at_call 210;refine(HPAD.out _).mono ?_;rintro e x1 ⟨rfl,hb1⟩)
 have HS:=Lib.hid (Ss.below (show Ss w (w.alloc (.cells (iK st).toArray 309)) st from⟨Row.at rfl (by simp),(Below.refl _ _).alloc (j2 _) _,by simp⟩) hb1)
 clear hb1 s0 s1 s2 s3 s4 s5 s6 s7 HPAD
 go_loopw [4] (fun s4 wr=>∃k:Nat,k≤m∧s4=.string (Sh.rest P k)∧Ss w wr (Sh.kh P st k)) (fun s4 _=>We s4)
 case atStart=>exact⟨0,by omega,by rw[HPT.out],HS.out⟩
 case round=>
  clear HS HPT
  obtain⟨k,hk,rfl,hS⟩:=hrel
  by_cases hkm:k<m
  ·have hsz:=Sh.Ak P k
   have hnx:=Sh.afx P k
   have HTK:=Lib.hid (show(Sh.rest P k).data.toList.take 64=(P.drop (64*k)).take 64 from by simp[Sh.rest])
   have HBL:=Lib.hid (Sh.acz P st k)
   have HOK:=Lib.hid (Sh.aiv P HOK0.out k)
   have HS:=Lib.hid hS
   have hl2:(Sh.rest P (k+1)).size<(Sh.rest P k).size:=by rw[Sh.Ak,Sh.Ak];omega
   have HB64:=Lib.hid (show((P.drop (64*k)).take 64).length=64 from by simp;omega)
   generalize(P.drop (64*k)).take 64=B at HTK HBL HB64
   generalize hq2:Sh.rest P (k+1)=q2 at hnx hl2
   have HQ2:=Lib.hid hq2;clear hq2
   generalize Sh.rest P k=q at hsz hnx HTK hl2
   have hq64:64≤q.size:=by omega
   have hq64':(64:Int)≤(q.size:Int):=by omega
   have hemp:q.toList.isEmpty=false:=agx q (by omega)
   clear hsz
   go_upto_region 6 with fail
   have HT64:=Lib.hid (show World.there _ wr.heap.size 0 64 from(Row.at (w:=wr) (t:=310) (l:=List.replicate 64 (.int .u8 0)) rfl (by rfl)).there)
   have HS2:=Lib.hid (HS.out.alloc (.cells (List.replicate 64 (.int .u8 0)).toArray 310))
   have HLT:=Lib.hid (show wr.heap.size<(wr.alloc (.cells (List.replicate 64 (.int .u8 0)).toArray 310)).heap.size from by simp)
   have HWB:=Lib.hid (show w.heap.size<wr.heap.size from HS.out.lt)
   simp only[List.replicate]at HT64 HS2 HLT
   generalize hgb:wr.heap.size=gb at HT64 HLT HWB⊢
   generalize World.alloc _ (Obj.cells _ _)=x2 at HT64 HS2 HLT⊢
   clear hgb HS
   go_upto_region 7 with(refine abn rfl (Operand.tmp 16) (Operand.tmp 17) rfl gb q rfl rfl hq64 HT64.out ?_)
   rw[HTK.out]
   simp only[Act.put,List.setIfInBounds_toArray,List.set_cons_zero,List.set_cons_succ]
   have hone:=Jq B
   have hbl:(eD B).length=64:=by unfold eD;rw[c8];exact HB64.out
   have hne:gb≠w.heap.size:=by have:=HWB.out;omega
   have hS3:Ss w (x2.setCells gb 0 (eD B)) (Sh.kh P st k):=
    ⟨HS2.out.r.cells hne 0 _,xG (eD B) 0 (by have:=HWB.out;omega) HS2.out.b,by have:=HS2.out.lt;have h2:=(xG (B:=0) (b:=gb) (eD B) 0 (j9 gb) (Below.refl 0 x2)).size;exact u9 this h2⟩
   have HRG:=Lib.hid (World.rangeAt_setCells_same x2 gb 0 (eD B) (by rw[hbl];exact HT64.out))
   have HLA3:=Lib.hid (HLA.out.below hS3.b (j2 _))
   have HS3:=Lib.hid hS3
   have HBK:=Lib.hid (fun y (h:Laid y)=>anH (Sh.kh P st k) B y HB64.out HOK.out h.MR h.lt)
   rw[← HBL.out]at HBK
   have HSZ:=Lib.hid (show(Tryz.prog.info? 310).map (·.size)=some (eD B).length from by rw[hbl];kernel_rfl)
   generalize x2.setCells gb 0 (eD B)=x3 at HRG HLA3 HS3⊢
   clear hS3 hone hbl hne HT64 HS2 HLT
   have hvl:(iK (Sh.kh P st k)).length=8:=Yg _
   have HVR:=Lib.hid HS3.out.r.range
   have HS36:=Lib.hid (show(Tryz.prog.info? 309).map (·.size)=some (iK (Sh.kh P st k)).length from by rw[hvl];kernel_rfl)
   have HS37:=Lib.hid (show(Tryz.prog.info? 309).map (·.size)=some (iK (Sh.kh P st (k+1))).toArray.size from by rw[OI];kernel_rfl)
   have HUA:=Lib.hid (all_oneCell_toArray (acY (Sh.kh P st (k+1))))
   have HUT:=Lib.hid (fun y (h:Ss w y (Sh.kh P st k))=>show y.there w.heap.size 0 (iK (Sh.kh P st (k+1))).toArray.size from by rw[OI,← hvl];exact h.r.there)
   have HLAY:=Lib.hid (fun y (h:Ss w y (Sh.kh P st k))=>h.gB (Sh.kh P st (k+1)))
   simp only[aoM]at HBK
   clear hvl HOK HBL HB64
   generalize iK (Sh.kh P st (k+1))=UC at HBK HS37 HUA HUT HLAY
   generalize iK (Sh.kh P st k)=VC at HBK HVR HS36
   generalize eD B=BC at HRG HSZ HBK
   go_upto_region 4 with(first
    |(refine wpList_load_mid rfl 309 (Operand.tmp 3) rfl w.heap.size 0 rfl VC _ HVR.out Tryz.underlying309 rfl HS36.out ?_)
    |(refine wpList_load_mid rfl 310 (Operand.tmp 5) rfl gb 0 rfl BC _ HRG.out Tryz.underlying310 rfl HSZ.out ?_)
    |(go_at_call 211;(refine(HBK.out _ HLA3.out).mono ?_);rintro e x4 ⟨rfl,hb4⟩;have HS4:=Lib.hid (HS3.out.below hb4);clear hb4)
    |(refine wpList_store_mid rfl 309 (Operand.tmp 3) (Operand.tmp 21) rfl w.heap.size 0 UC.toArray rfl rfl (HUT.out _ HS4.out) HS37.out HUA.out ?_))
   simp only[Act.put]
   have HS5:=Lib.hid (HLAY.out _ HS4.out)
   clear HS37 HUA HUT HVR HS36 HRG HSZ HBK HLA3 HS3
   generalize x4.setCells w.heap.size 0 UC=x5 at HS5⊢
   clear HLAY HS4
   go_wp2_with fail
   refine⟨⟨k+1,by omega,?_,HS5.out⟩,?_⟩
   ·rw[HQ2.out]
   ·simp only[We];omega
  ·obtain rfl:k=m:=by omega
   have hemp:(Sh.rest P k).toList.isEmpty=true:=by
    rw[Lib.toList_data]
    have h:=Sh.Ak P k
    rw[hm,G0]at h
    have h2:(Sh.rest P k).data.toList.length=0:=h
    rw[B5.1 h2];rfl
   generalize Sh.rest P k=q at hemp
   obtain⟨V,hV⟩:∃V,Sh.kh P st k=V:=⟨_,rfl⟩
   rw[hV]at hS HSUM
   have HS:=Lib.hid hS
   have hvl:(iK V).length=8:=Yg _
   have HVR:=Lib.hid hS.r.range
   have HS36:=Lib.hid (show(Tryz.prog.info? 309).map (·.size)=some (iK V).length from by rw[hvl];kernel_rfl)
   clear hS hvl hV
   have HIX:=Lib.hid (fun i hi w=>agH (Sh.L8 V) (Sh.agG V) i hi w)
   rw[← am0]at HIX
   have HOUT:=Lib.hid (HSUM.out.trans (Sh.ab5 V))
   generalize Sh.L8 V=LV at HIX HOUT
   obtain⟨VC,hVC⟩:∃VC,iK V=VC:=⟨_,rfl⟩
   rw[hVC]at HVR HS36 HIX
   clear hVC HSUM
   obtain⟨i0,hi,hz0,hz1,hz2⟩:=info_parts Tryz.BZ
   clear hkm hk hm
   go_wp2_with (refine wpList_load_mid rfl 309 (Operand.tmp 3) rfl w.heap.size 0 rfl VC _ HVR.out Tryz.underlying309 rfl HS36.out ?_)
   go_loopw [6,23] (fun s6 s23 wy=>∃j:Nat,j≤8∧s23=.int .i64 (j:Int)∧wy.ownsRow w.heap.size 5 1 s6 (Sh.sb LV j).length (lh (Sh.sb LV j))∧Below w.heap.size w wy) (fun _ s23 _=>8-(intOf s23).toNat)
   case atStart=>exact⟨0,by omega,rfl,World.ownsRow_nil _ _ _ _,HS.out.b⟩
   case round=>
    clear HS HVR HS36
    obtain⟨j,hj,rfl,hown,hbel⟩:=hrel
    have hle:=Sh.Ra LV j
    by_cases h8:j<8
    ·have h8':(j:Int)<8:=by omega
     have hj0:(0:Int)≤(j:Int):=by omega
     have hidx:=fun w=>HIX.out j h8 w
     have HNX:=Lib.hid (show Sh.sb LV (j+1)=Sh.sb LV j++Sh.pb (LV.getD j 0)from rfl)
     generalize LV.getD j 0=x at hidx HNX
     generalize hl2:Sh.sb LV (j+1)=l2 at HNX
     have HL2:=Lib.hid hl2;clear hl2
     generalize Sh.sb LV j=l at hown hle HNX
     have hws:=hbel.size
     go_wp2_with (at_builtin;refine wpList_append_own _ rfl _ _ 116 rfl w.heap.size 5 i0 (.int .u8 0) 1 1 Tryz.underlying116 hi hz0 hz1 hz2 rfl (by decide) _ _ _ rfl (hown.alloc _) ⟨wr.heap.size,0,none⟩ 4 4 [.int .u8 ((x:Int) / 16777216%256),.int .u8 ((x:Int) / 65536%256),.int .u8 ((x:Int) / 256%256),.int .u8 ((x:Int)%256)] rfl rfl ?c1 ?c2 ?c3 ?c4 ?c5 ?_)
     case c1=>
      intro j u hj
      match j,hj with
      |0,hj=>simp at hj;subst hj;simp[Addr.add]
      |1,hj=>simp at hj;subst hj;simp[Addr.add]
      |2,hj=>simp at hj;subst hj;simp[Addr.add]
      |3,hj=>simp at hj;subst hj;simp[Addr.add]
     case c2=>intro u hu;simp at hu;rcases hu with rfl|rfl|rfl|rfl<;>rfl
     case c3=>unfold maxLen;omega
     case c4=>omega
     case c5=>simp;omega
     ·intro v' w1 hown' hgrow _
      have hb1:Below w.heap.size w w1:=(hbel.alloc hws (.cells #[.int .u8 ((x:Int) / 16777216%256),.int .u8 ((x:Int) / 65536%256),.int .u8 ((x:Int) / 256%256),.int .u8 ((x:Int)%256)] 5)).grown hgrow (by simp;omega) (fun j e=>(hown.lt j e).1)
      rw[YZ,← HNX.out]at hown'
      have e:l2.length=4*j+4:=by rw[HNX.out,i6,hle];rfl
      have HO:=Lib.hid (show w1.ownsRow w.heap.size 5 1 v' l2.length (lh l2)from by rw[e];exact hown')
      clear e
      have HB:=Lib.hid hb1
      clear hown' hgrow hb1 hown hbel hws
      go_wp2_with fail
      refine⟨⟨j+1,by omega,by go_num,by rw[HL2.out];exact HO.out,HB.out⟩,by simp only[intOf];omega⟩
    ·obtain rfl:j=8:=by omega
     have h8':¬((8:Nat):Int)<8:=by omega
     rw[← HOUT.out]at hown hle
     have kc:=UR hown (by omega)
     have HB:=Lib.hid hbel
     clear hown hbel HOUT hle
     go_wp2_with fail
     go_ret
     exact⟨vV rfl,HB.out⟩
end Go.Proofs.YtbnonpbnhenkfaaGreatDoor
end
section
namespace Go.Proofs.YtbnonpbnhenkfaaGreatDoor
open Go.RowKit Go.Proofs.Tryz
namespace Mc
def vJ(k:List UInt8):List UInt8:=(List.range 64).map λi=>k.getD i 0
def mixed(k:List UInt8)(x:UInt8):List UInt8:=(List.range 64).map λi=>k.getD i 0 ^^^ x
def key(k:List UInt8):List UInt8:=if 64<k.length then Sh.sum k else k
def NJ(k s:List UInt8):List UInt8:=Sh.sum (mixed (key k) 92++Sh.sum (mixed (key k) 54++s))
def mm(k:List UInt8)(x:UInt8):Nat->List UInt8
 |0=>vJ k
 |i+1=>(mm k x i).set i ((mm k x i).getD i 0 ^^^ x)
def AB(k:List UInt8)(x:UInt8):∀i,(mm k x i).length=64
 |0=>by simp[mm,vJ]
 |i+1=>by rw[mm,x9,AB k x i]
def OX(k:List UInt8){j:Nat}(a:j<64):(vJ k).getD j 0=k.getD j 0:=by rw[y5,vJ,A6,List.getElem?_range a];rfl
def Wc(k:List UInt8)(x:UInt8):∀i,i<=64->∀j,j<64->(mm k x i).getD j 0=if j<i then k.getD j 0 ^^^ x else k.getD j 0
 |0,_,j,a=>by rw[mm,OX k a,y8 om]
 |i+1,hi,j,a=>by
  have b:=Wc k x i om
  rw[mm]
  by_cases e:i=j
  ·subst e
   rw[z7 om,y5,H5 (by rw[AB];omega),I8,b i a,y8 om]
  ·rw[y5,List.getElem?_set_ne e,<-y5,b j a]
   by_cases h:j<i
   ·rw[z7 h,z7 om]
   ·rw[y8 h,y8 om]
def anO(k:List UInt8)(x:UInt8):mm k x 64=mixed k x:=by
 apply List.ext_getElem
 ·rw[AB];simp[mixed]
 ·intro j h1 h2;have a:j<64:=by rw[AB]at h1;exact h1
  have h:=Wc k x 64 (j2 _) j a;rw[z7 a,y5,j8 h1,I8]at h;rw[h];simp[mixed]
def EQ(k:List UInt8)(x:UInt8):(mixed k x).length=64:=by simp[mixed]
def ZH(k:List UInt8):(key k).length<=64:=by
 unfold key;split
 ·show 32<=64;omega
 ·omega
end Mc
theorem Row.gB:∀(cs:List Value) (o:Nat) {x:World} {g:Nat} {l:List Value},Row x g l->o+cs.length<=l.length->Row (x.setCells g o cs) g (l.take o++cs++l.drop (o+cs.length))
 | [],o,x,g,l,h,_=>by
  rw[A2,B9,D0,A5]
  exact h
 |v::cs,o,x,g,l,h,a=>by
  simp only[w6]at a
  have h2:=Row.gB cs (o+1) (h.set o v om) (by rw[x9];omega)
  have e:(l.set o v).take (o+1)++cs++(l.set o v).drop (o+1+cs.length)=l.take o++v::cs++l.drop (o+(v::cs).length):=by
   rw[O8,H5 om,List.take_set_of_le (j2 _),List.drop_set_of_lt om]
   simp only[Option.toList_some,w6,A7,E4,D4]
   rw[show o+1+cs.length=o+(cs.length+1)by omega]
  rw[e]at h2
  exact h2
theorem Zk(w:World)(ty:TypeId)(g:Nat)(s:ByteArray)(hs:s.size≤64)(ht:w.there g 0 64):
 (Builtin.copy_ #[116,9] ty #[.slice (some ⟨g,0,none⟩) 64 64,.string s]).run Tryz.prog w=.ok (goInt s.size) (w.setCells g 0 (eD s.data.toList)):=by
 have hu:=Tryz.underlying116
 obtain⟨i,hi,hz0,hz1,hz2⟩:=info_parts Tryz.BZ
 have hlen:(eD s.data.toList).length=s.size:=by unfold eD;rw[c8];rfl
 have hst:=run_storeCells_cells (P:=Tryz.prog) g 0 (eD s.data.toList) 0 w (fun j hj=>by simpa using(ht j (by omega)).1) (fun j hj=>by simpa using(ht j (by omega)).2) (Jq _)
 have hmin:Nat.min s.size 64=s.size:=E9 hs
 have htk:List.take s.size (List.map (fun b:UInt8=>Value.int IntKind.u8 (b.toNat:Int)) s.data.toList)=eD s.data.toList:=by
  unfold eD;exact u5 (by rw[c8];exact j2 _)
 simp[Builtin.copy_,run_underlying hu,Builtin.lenOf,Builtin.firstCells,sizeOf,typeInfo,hi,hmin]
 rw[htk,hst]
 simp[Result.andThen]
def aog{w:World}{ops:Array Oper}{rest:List Oper}{o:Oper}{a:Act}{Q:Exit->Act->World->Prop}(c:o.guard=none)(d x:Operand)
 (e:o.op=.call {callee:=.builtin .copy,args:=#[d,x],argTypes:=#[116,9]}) (g:Nat) (s:ByteArray)
 (f:a.eval d=.slice (some ⟨g,0,none⟩) 64 64) (i:a.eval x=.string s) (j:s.size<=64) (k:w.there g 0 64)
 (h:wpList prog ops Q rest (a.put o.dst (goInt s.size)) (w.setCells g 0 (eD s.data.toList))):wpList prog ops Q (o::rest) a w:=by
 refine wpList_plain c λK l=>?_
 have b:=Zk w o.type g s j k
 unfold Oper.wp
 simp[execOp,e,resolve,invoke,builtin,f,i,b,Result.andThen]
 exact l _ _ h
def agy(k:List UInt8)(h:k.length<=64):(List.replicate 64 (Value.int .u8 0)).take 0++eD k++(List.replicate 64 (Value.int .u8 0)).drop (0+(eD k).length)=eD (Mc.vJ k):=by
 have a:(eD k).length=k.length:=by unfold eD;rw[c8]
 rw[List.take_zero,D4,j7,a];have hp:(Mc.vJ k).length=64:=by simp[Mc.vJ]
 apply E5;intro j;by_cases b:j<64
 ·rw[vx (by rw[hp];exact b),Mc.OX k b];by_cases e:j<k.length
  ·rw[A8 (by rw[a];exact e),vx e]
  ·rw[A4 (by rw[a];omega),E7,a,List.getElem?_replicate,z7 om,y5,M0 (Nat.le_of_not_lt e)];rfl
 ·rw[M0 (by rw[i6,a,w7,A1];omega),M0 (by unfold eD;rw[c8,hp];omega)]
def aev(l:List UInt8)(j:Nat)(x:UInt8):(eD l).set j (.int .u8 (x.toNat:Int))=eD (l.set j x):=by unfold eD;rw[O3]
def ac9(a:UInt8)(x:Nat)(b:x<256):bits .xor .u8 (a.toNat:Int) (x:Int)=((a ^^^ UInt8.ofNat x).toNat:Int):=by
 rw[u8_xor_nat _ _ (F4 a) b];simp;rw[D1 b]
structure Xs(w x:World)(l:List UInt8):Prop where
 r:Row x w.heap.size (eD l)
 b:Below w.heap.size w x
theorem XR(k:ByteArray)(x:Nat)(w:World)(hk:k.size≤64)(hx:x<256):
 Calls Tryz.prog 147 #[.string k,.int .u8 (x:Int)] w fun e w'=>e=.returned (.string ⟨(Mc.mixed k.data.toList (UInt8.ofNat x)).toArray⟩)∧Below w.heap.size w w':=by
 have HX:=Lib.hid (fun a=>ac9 a x hx)
 go_enter Tryz.func147,Tryz.ntmps147
 go_upto_region 2 with fail
 have hR:=Row.at (w:=w) (t:=310) (l:=List.replicate 64 (.int .u8 0)) (aK:=(List.replicate 64 (.int .u8 0)).toArray) rfl (by rfl)
 have dU:Below w.heap.size w (w.alloc (.cells (List.replicate 64 (.int .u8 0)).toArray 310)):=(Below.refl _ _).alloc (j2 _) _
 have HTH:=Lib.hid hR.there
 have hR2:=Row.gB (eD k.data.toList) 0 hR (by unfold eD;rw[c8,A1];show 0+k.size≤64;omega)
 rw[agy _ hk]at hR2
 have HS:=Lib.hid (Xs.mk hR2 (xG (eD k.data.toList) 0 (j2 _) dU))
 clear hR hR2 dU
 simp only[List.replicate]at HTH HS
 generalize World.alloc _ (Obj.cells _ _)=x1 at HTH HS⊢
 go_wp2_with (refine aog rfl (Operand.tmp 7) (Operand.tmp 8) rfl w.heap.size k rfl rfl hk HTH.out ?_)
 clear HTH
 generalize World.setCells x1 w.heap.size 0 (eD k.data.toList)=x2 at HS⊢
 go_loopw [10] (fun s10 wr=>∃i:Nat,i≤64∧s10=.int .i64 (i:Int)∧Xs w wr (Mc.mm k.data.toList (UInt8.ofNat x) i)) (fun s10 _=>64-(intOf s10).toNat)
 case atStart=>exact⟨0,by omega,rfl,HS.out⟩
 case round=>
  clear HS
  obtain⟨i,hi,rfl,hX⟩:=hrel
  have hl:=Mc.AB k.data.toList (UInt8.ofNat x) i
  by_cases h64:i<64
  ·have h64':(i:Int)<64:=by omega
   have hi0:(0:Int)≤(i:Int):=by omega
   obtain⟨c0,f0⟩:=hX.r i _ (vx (by rw[hl];exact h64))
   have hx0:=HX.out ((Mc.mm k.data.toList (UInt8.ofNat x) i).getD i 0)
   have hn:Xs w (wr.setCell ⟨w.heap.size,i,none⟩ (.int .u8 (((Mc.mm k.data.toList (UInt8.ofNat x) i).getD i 0 ^^^ UInt8.ofNat x).toNat:Int))) (Mc.mm k.data.toList (UInt8.ofNat x) (i+1)):=
    ⟨by rw[Mc.mm,← aev];exact hX.r.set i _ (by unfold eD;rw[c8,hl];exact h64),hX.b.setCell (p:=⟨w.heap.size,i,none⟩) (j2 _) _⟩
   have HN:=Lib.hid hn
   generalize(Mc.mm k.data.toList (UInt8.ofNat x) i).getD i 0 ^^^ UInt8.ofNat x=d at hx0 HN
   generalize(Mc.mm k.data.toList (UInt8.ofNat x) i).getD i 0=c at hx0 c0
   clear hn hX hl
   go_wp2_with fail
   refine⟨⟨i+1,by omega,by go_num,HN.out⟩,by simp only[intOf];omega⟩
  ·obtain rfl:i=64:=by omega
   have h64':¬((64:Nat):Int)<64:=by omega
   rw[Mc.anO]at hX
   have kc:=zH (cap:=64) hX.r (Mc.EQ k.data.toList (UInt8.ofNat x))
   have HB:=Lib.hid hX.b
   obtain⟨m,hm⟩:∃m,Mc.mixed k.data.toList (UInt8.ofNat x)=m:=⟨_,rfl⟩
   rw[hm]at kc
   have HM:=Lib.hid hm
   clear hX hl hm
   go_wp2_with fail
   go_ret
   exact⟨by rw[HM.out];rfl,HB.out⟩
namespace Mc
def nA(k s:ByteArray):ByteArray:=⟨(NJ k.data.toList s.data.toList).toArray⟩
theorem wQ(k s:ByteArray):(nA k s).size=32:=rfl
end Mc
def amI(k s:ByteArray)(w:World)(A:Laid w)(C:k.size<=281474976710656)(J:s.size<=281474976710000):
 Calls prog 66 #[.string k,.string s] w λe w'=>e=.returned (.string (Mc.nA k s))/\Below w.heap.size w w':=by
 obtain⟨key,d⟩:∃q:ByteArray,⟨(Mc.key k.data.toList).toArray⟩=q:=⟨_,rfl⟩
 have j:key.data.toList=Mc.key k.data.toList:=by rw[<-d]
 have o:key.size<=64:=by have:=Mc.ZH k.data.toList;rw[<-j]at this;exact this
 obtain⟨n,f⟩:∃q:ByteArray,⟨(Mc.mixed key.data.toList 92).toArray⟩=q:=⟨_,rfl⟩
 obtain⟨m,g⟩:∃q:ByteArray,⟨(Mc.mixed key.data.toList 54).toArray⟩=q:=⟨_,rfl⟩
 have G:n.size=64:=by rw[<-f];exact Mc.EQ _ _
 have H:m.size=64:=by rw[<-g];exact Mc.EQ _ _
 obtain⟨l,i⟩:∃q:ByteArray,⟨(Sh.sum (m++s).data.toList).toArray⟩=q:=⟨_,rfl⟩
 have F:l.size=32:=by rw[<-i];rfl
 have B:=Lib.hid (show(⟨(Sh.sum (n++l).data.toList).toArray⟩:ByteArray)=Mc.nA k s from by
  unfold Mc.nA Mc.NJ
  rw[<-j]
  congr 3
  simp only[ByteArray.toList_data_append,<-f,<-i,<-g])
 have x:=Lib.hid (λw=>show Calls prog 147 #[.string key,.int .u8 92] w λe w'=>e=.returned (.string n)/\Below w.heap.size w w' from f▸XR key 92 w o om)
 have v:=Lib.hid (λw=>show Calls prog 147 #[.string key,.int .u8 54] w λe w'=>e=.returned (.string m)/\Below w.heap.size w w' from g▸XR key 54 w o om)
 have t:=Lib.hid (λw (h:Laid w)=>show Calls prog 146 #[.string (m++s)] w λe w'=>e=.returned (.string l)/\Below w.heap.size w w' from i▸Ie (m++s) w h (by rw[ByteArray.size_append];omega))
 have y:=Lib.hid (λw (h:Laid w)=>show Calls prog 146 #[.string (n++l)] w λe w'=>e=.returned (.string (Mc.nA k s))/\Below w.heap.size w w' from B.out▸Ie (n++l) w h (by rw[ByteArray.size_append];omega))
 have D:¬(9223372036854775807<m.size+s.size):=om
 have E:¬(9223372036854775807<n.size+l.size):=om
 have z:=Lib.hid A
 have c:=Lib.hid (Below.refl w.heap.size w)
 clear A f g i B j
 by_cases p:64<k.size
 ·have r:(64:Int)<(k.size:Int):=om
  have I:=Lib.hid (λw (h:Laid w)=>show Calls prog 146 #[.string k] w λe w'=>e=.returned (.string key)/\Below w.heap.size w w' from by
   have h2:=Ie k w h C
   have e:(⟨(Sh.sum k.data.toList).toArray⟩:ByteArray)=key:=by rw[<-d];unfold Mc.key;rw[z7 (show 64<k.data.toList.length from p)]
   rw[e]at h2
   exact h2)
  clear d
  go_enter func66,ntmps66
  go_wp2_with (first
   |(go_at_call 146;(first|with_reducible refine(I.out _ (z.out.below c.out (j2 _))).mono ?_|with_reducible refine(t.out _ (z.out.below c.out (j2 _))).mono ?_|with_reducible refine(y.out _ (z.out.below c.out (j2 _))).mono ?_);rintro e u ⟨rfl,a⟩;have b:=Lib.hid (c.out.trans (a.mono c.out.size));clear c a;have c:=b;clear b)
   |(go_at_call 147;(first|with_reducible refine(x.out _).mono ?_|with_reducible refine(v.out _).mono ?_);rintro e u ⟨rfl,a⟩;have b:=Lib.hid (c.out.trans (a.mono c.out.size));clear c a;have c:=b;clear b))
  all_goals (go_ret;exact⟨rr,c.out⟩)
 ·have r:¬(64:Int)<(k.size:Int):=om
  have e:key=k:=by rw[<-d];unfold Mc.key;rw[y8 (show¬64<k.data.toList.length from p)]
  subst e
  clear d
  go_enter func66,ntmps66
  go_wp2_with (first
   |(go_at_call 146;(first|with_reducible refine(t.out _ (z.out.below c.out (j2 _))).mono ?_|with_reducible refine(y.out _ (z.out.below c.out (j2 _))).mono ?_);rintro e u ⟨rfl,a⟩;have b:=Lib.hid (c.out.trans (a.mono c.out.size));clear c a;have c:=b;clear b)
   |(go_at_call 147;(first|with_reducible refine(x.out _).mono ?_|with_reducible refine(v.out _).mono ?_);rintro e u ⟨rfl,a⟩;have b:=Lib.hid (c.out.trans (a.mono c.out.size));clear c a;have c:=b;clear b))
  all_goals (go_ret;exact⟨rr,c.out⟩)
end Go.Proofs.YtbnonpbnhenkfaaGreatDoor
end
namespace Go.Proofs.YtbnonpbnhenkfaaGreatDoor
section
open Go.RowKit
def av(n:UInt64):BA:=⟨(Wi.put n.toNat).toArray⟩
abbrev bQ(t:BA):BA:=Wi.Ig t
def cH(v:V4):BA:=aA++av v.a++av v.b++av v.c++av v.d
def nr(s:BA)(p:cC):BA:=s++(bQ p.k++bQ p.v)
def gq(l:List cC):BA:=match iy l with
 |false=>aA
 |true=>l.foldl nr (av (aG (l.length:Nat)))
def bX.n(t:bX):Int:=match t.no with
 |true=>((2*t.bJ.length+1:Nat):Int)
 |false=>((2*t.bJ.length:Nat):Int)
def jf(s:BA)(v:BA):BA:=s++bQ v
def bX.put(t:bX):BA:=t.bJ.foldl jf (bQ t.key++av (aG t.n))
def n_(s:BA)(t:bX):BA:=s++t.put
def oQ(l:List bX):BA:=match mD l with
 |false=>aA
 |true=>l.foldl n_ (av (aG (l.length:Nat)))
def bM.put(x:bM):BA:=match decide (x.check=0)with
 |false=>aA
 |true=>bQ x.aa++cH x.cT++av (aG x.count)++av (aG x.bC)++av (aG x.dF)++oQ x.dv
def bR.put(n:bR):BA:=bQ n.name++cH n.cap++gq n.ao++av (match n.up with|true=>1|false=>0)
def kg(s:BA)(n:bR):BA:=s++n.put
def ma(s:BA)(x:dt):BA:=s++(av x.aZ++bQ x.node++cH x.v)
def bf.put(p:bf):BA:=p.places.foldl ma (p.al.foldl kg (av (aG (p.al.length:Nat)))++av (aG (p.places.length:Nat)))
def nL(s:BA)(e:aB):BA:=s++(bQ e.aa++cH e.bI++cH e.b_)
def lv(t:List aB):BA:=t.foldl nL (av (aG (t.length:Nat)))
def iu(s:BA)(n:cZ):BA:=s++(av n.round++av n.id++av (aG n.kind))
def fY.put(x:fY):BA:=x.l.foldl iu (av x.first++av (aG (x.l.length:Nat)))
def iz(s:BA)(j:ax):BA:=s++(av j.id++j.x.put++av (aG j.left))
def af.put(s:af):BA:=s.ae.foldl iz (av s.round++av s.next++s.ar.put++lv s.aH++av (aG (s.ae.length:Nat)))++s.dX.put++s.dy.put
def V4.same(x y:V4):Bool:=decide (x.a=y.a)&&(decide (x.b=y.b)&&(decide (x.c=y.c)&&decide (x.d=y.d)))
def bX.same(a b:bX):Bool:=match seq a.key b.key with
 |false=>false
 |true=>match a.no==b.no with
  |false=>false
  |true=>ia seq a.bJ b.bJ
def bM.same(a b:bM):Bool:=match seq a.aa b.aa with
 |false=>false
 |true=>match V4.same a.cT b.cT with
  |false=>false
  |true=>match decide (a.count=b.count)with
   |false=>false
   |true=>match decide (a.bC=b.bC)with
    |false=>false
    |true=>match decide (a.dF=b.dF)with
     |false=>false
     |true=>ia bX.same a.dv b.dv
structure iJ where
 id:Bool
 n:Bool
 aa:Bool
 v:Bool
 x:Bool
 ao:Bool
def iJ.pv(f:iJ):PV:=.agg [bo f.id,bo f.n,bo f.aa,bo f.v,bo f.x,bo f.ao]
def iJ.z:iJ:=⟨false,false,false,false,false,false⟩
def uT:List (Int×iJ):=[(1,⟨false,false,false,false,true,false⟩),(2,⟨true,false,false,false,false,false⟩),(3,⟨false,false,true,true,false,false⟩),(4,⟨true,false,false,false,false,false⟩),(5,⟨false,true,false,false,false,false⟩),(6,⟨false,true,false,false,false,false⟩),(7,⟨false,false,true,false,false,false⟩),(8,⟨false,false,true,false,false,false⟩),(9,⟨false,false,false,true,false,false⟩),(10,⟨false,false,true,true,false,true⟩),(11,⟨false,false,true,false,false,false⟩),(12,⟨false,false,true,false,false,false⟩),(13,iJ.z)]
def gD(k:Int):Option iJ:=(uT.find? λe=>decide (k=e.1)).map (·.2)
def bM.bare(b:Bool)(x:bM):bM:=match b with|true=>x|false=>bM.z
def aC.bare(o:aC)(f:iJ):aC:=⟨o.kind,match f.id with|true=>o.id|false=>0,match f.n with|true=>o.n|false=>0,match f.aa with|true=>o.aa|false=>aA,match f.v with|true=>o.v|false=>V4.z,o.x.bare f.x,match f.ao with|true=>o.ao|false=>[]⟩
def aC.same(a b:aC):Bool:=match decide (a.id=b.id)with
 |false=>false
 |true=>match decide (a.n=b.n)with
  |false=>false
  |true=>match seq a.aa b.aa with
   |false=>false
   |true=>match V4.same a.v b.v with
    |false=>false
    |true=>match bM.same a.x b.x with
     |false=>false
     |true=>ia cC.same a.ao b.ao
def aC.right(o:aC):Bool:=match gD o.kind with
 |none=>false
 |some f=>match o.same (o.bare f)with
  |false=>false
  |true=>match f.x&&!decide (o.x.check=0)with
   |true=>false
   |false=>match decide ((o.aa.size:Int)<=98)with
    |false=>false
    |true=>iy o.ao
def aC.oM(o:aC):Bool:=fJ o.kind 1 3||fJ o.kind 9 13
def h_(b:Bool)(s t:BA):BA:=match b with|true=>s++t|false=>s
def aC.bytes(o:aC)(f:iJ):BA:=h_ f.ao (h_ f.x (h_ f.v (h_ f.aa (h_ f.n (h_ f.id (av (aG o.kind)) (av o.id)) (av o.n)) (bQ o.aa)) (cH o.v)) (o.x.put)) (gq o.ao)
def aC.put(o:aC):BA:=match o.right with
 |false=>aA
 |true=>o.bytes ((gD o.kind).getD iJ.z)
def bn.z:bn:=⟨0,0,0,0,V4.z,V4.z,[],[]⟩
def bn.ef(e:Int):bn:={bn.z with e:=e}
def DY(s:af)(o:aC):bn:=match decide (o.id=0)||decide (s.next<=o.id)with
 |true=>.ef 7
 |false=>match bK s.ae o.id with
  |(_,false)=>{bn.z with id:=o.id,lX:=3}
  |(j,true)=>match j.bB with
   |true=>{bn.z with id:=o.id,lX:=2,n:=aG j.left,al:=s.ar.of o.id}
   |false=>{bn.z with id:=o.id,lX:=1,n:=aG (pA s.bg o.id)}
def tN(first frm:UInt64)(k:Nat)(n:cZ)(p:List cZ×UInt64):List cZ×UInt64:=match decide (frm<=first+UInt64.ofNat k)with
 |false=>p
 |true=>match decide ((p.1.length:Int)<8)with
  |false=>p
  |true=>(p.1++[n],first+UInt64.ofNat k+1)
def sR(first frm:UInt64):List cZ->Nat->List cZ×UInt64->List cZ×UInt64
 | [],_,p=>p
 |n::l,k,p=>sR first frm l (k+1) (tN first frm k n p)
def fY.from(x:fY)(frm:UInt64):List cZ×UInt64:=sR x.first frm x.l 0 ([],if frm<x.first then x.first else frm)
def told(x:fY)(frm:UInt64):bn:={bn.z with n:=(x.from frm).2,gx:=(x.from frm).1}
def Ey(s:af)(o:aC):bn:=match !seq o.aa aA&&!pg o.aa o.aa with
 |true=>.ef 6
 |false=>match cO s.aH o.aa with
  |(_,false)=>.ef 7
  |(e,true)=>{bn.z with v:=e.bI,u:=e.b_}
def Bu(s:af)(o:aC):bn:=match s.ar.find o.aa with
 |(_,false)=>.ef 7
 |(n,true)=>{bn.z with v:=n.cap,u:=(s.ar.free o.aa).1,lX:=match n.up with|true=>1|false=>0}
abbrev uu:=af×UInt64×Int
def zj(s:af)(o:aC):uu:=((s.fh o.id 4).1,o.id,(s.fh o.id 4).2)
def bz(s:af)(o:aC):uu:=({s with aH:=(gg s.aH o.aa o.v).1},0,(gg s.aH o.aa o.v).2)
def bI(s:af)(o:aC):uu:=match seq o.aa aA with
 |true=>(s,0,6)
 |false=>bz s o
def yz(s:af)(o:aC):uu:=({s with ar:=(s.ar.add ⟨o.aa,o.v,o.ao,false⟩).1},0,(s.ar.add ⟨o.aa,o.v,o.ao,false⟩).2)
def met(p:bf)(name:BA):List UInt64:=(p.places.filter λx=>seq x.node name).map dt.aZ
def uE(l:List UInt64):List UInt64:=l.foldl (λa x=>if x∈a then a else a++[x]) []
def nt(l:List UInt64):List UInt64:=l.mergeSort λa b=>decide (a.toNat<=b.toNat)
def bf.fail(p:bf)(name:BA):bf×List UInt64×Int:=match decide ((p.turn name false).2=0)with
 |false=>((p.turn name false).1,[],(p.turn name false).2)
 |true=>((p.turn name false).1,nt (uE (met p name)),0)
def rm(s:af)(l:List UInt64):af:=l.foldl (λs id=>(s.stop id 6).1) s
def qb(s:af)(o:aC):uu:=(rm {s with ar:=(s.ar.fail o.aa).1} (s.ar.fail o.aa).2.1,0,(s.ar.fail o.aa).2.2)
def AF(s:af)(o:aC):uu:=({s with ar:=(s.ar.turn o.aa true).1},0,(s.ar.turn o.aa true).2)
def kj(s:af)(o:aC):uu:=match decide (o.kind=1)with
 |true=>s.fv o.x
 |false=>match decide (o.kind=2)with
  |true=>zj s o
  |false=>match decide (o.kind=3)with
   |true=>bI s o
   |false=>match decide (o.kind=9)with
    |true=>bz s o
    |false=>match decide (o.kind=10)with
     |true=>yz s o
     |false=>match decide (o.kind=11)with
      |true=>qb s o
      |false=>AF s o
def uL(s:af)(o:aC):bn:=match decide (o.kind=4)with
 |true=>DY s o
 |false=>match decide (o.kind=5)with
  |true=>told s.dX o.n
  |false=>match decide (o.kind=6)with
   |true=>told s.dy o.n
   |false=>match decide (o.kind=7)with
    |true=>Ey s o
    |false=>Bu s o
def apply(s:af)(o:aC):af×bn:=match o.right with
 |false=>(s,.ef 2)
 |true=>match fJ o.kind 4 8 with
  |true=>(s,uL s o)
  |false=>match decide (o.kind=13)with
   |true=>(s.oI,{bn.z with n:=s.oI.round})
   |false=>match kj s o with
    |(t,id,e)=>match decide (e=0)with
     |false=>(s,.ef e)
     |true=>({t with dy:=lT t.dy ⟨t.round,id,o.kind⟩},{bn.z with id:=id})
def rQ(s:BA)(n:BA):BA:=s++bQ n
def bn.put(a:bn):BA:=a.gx.foldl iu (a.al.foldl rQ (av (aG a.e)++av a.id++av a.n++av (aG a.lX)++cH a.v++cH a.u++av (aG (a.al.length:Nat)))++av (aG (a.gx.length:Nat)))
structure aQ where
 size:Int
 h0:BA
 s0:BA
 h1:BA
 s1:BA
 down:Bool
 cy:Int
 bx:Int
abbrev aQ.cells(d:aQ):List PV:=[i64 d.size,st d.h0,st d.s0,st d.h1,st d.s1,bo d.down,i64 d.cy,i64 d.bx]
def aQ.pv(d:aQ):PV:=.agg d.cells
def aQ.b_(d:aQ):Nat:=d.h0.size+d.s0.size+(d.h1.size+d.s1.size)
def aQ.read(d:aQ)(f:Int):BA:=match decide (f=0)with
 |true=>d.h0++d.s0
 |false=>match decide (f=1)with
  |true=>d.h1++d.s1
  |false=>aA
def nj(k:Int)(s:BA):Nat:=min k.toNat s.size
def aQ.fR(d:aQ)(k:Int):aQ:=⟨d.size,d.h0++d.s0.extract 0 (nj k d.s0),aA,d.h1++d.s1.extract 0 (nj k d.s1),aA,true,-1,d.bx⟩
def aQ.mZ(d:aQ)(cy bx:Int):aQ:={d with cy:=max cy (-1),bx:=bx}
def aQ.new(n:Int):aQ:=⟨n,aA,aA,aA,aA,false,-1,0⟩
def aQ.gU(d:aQ)(f:Int)(g:BA×BA->BA×BA):aQ:=match decide (f=0)with
 |true=>{d with h0:=(g (d.h0,d.s0)).1,s0:=(g (d.h0,d.s0)).2}
 |false=>{d with h1:=(g (d.h1,d.s1)).1,s1:=(g (d.h1,d.s1)).2}
def iU(f:Int):Bool:=decide (f=0)||decide (f=1)
def aQ.ed(d:aQ)(f:Int)(eS:Bool)(g:BA×BA->BA×BA):aQ×Int:=match iU f with
 |false=>(d,1)
 |true=>match d.down with
  |true=>(d,12)
  |false=>match decide (d.cy=0)with
   |true=>match eS with
    |true=>((d.gU f g).fR d.bx,12)
    |false=>(d.fR d.bx,12)
   |false=>match decide (0<d.cy)with
    |true=>({d.gU f g with cy:=d.cy-1},0)
    |false=>(d.gU f g,0)
def aQ.full(d:aQ)(s:BA):Bool:=decide (d.size<(s.size:Int))||decide (d.size-(s.size:Int)<(d.b_:Int))
def pM(s:BA)(x:BA×BA):BA×BA:=(x.1,x.2++s)
def gw(x:BA×BA):BA×BA:=match seq x.1 aA&&seq x.2 aA with
 |true=>x
 |false=>(x.1++x.2,aA)
def lE(n:Int)(x:BA×BA):Nat:=min n.toNat x.1.size
def lZ(n:Int)(x:BA×BA):BA×BA:=(x.1.extract 0 (lE n x),x.2.extract 0 (min (n.toNat-lE n x) x.2.size))
def aQ.dh(d:aQ)(f:Int)(s:BA):aQ×Int:=match iU f&&!d.down&&d.full s with
 |true=>(d,9)
 |false=>d.ed f true (pM s)
def aQ.dO(d:aQ)(f:Int):aQ×Int:=d.ed f false gw
def aQ.cut(d:aQ)(f n:Int):aQ×Int:=d.ed f false (lZ n)
def eN(b:BA):BA:=⟨(Fr.put b.data.toList).toArray⟩
abbrev jG:BA:=⟨#[0]⟩
abbrev jO:BA:=⟨#[1]⟩
def gn(dR:UInt64)(s:af):BA:=eN (jG++av dR++s.put)
def gH(o:aC):BA:=match seq o.put aA with
 |true=>aA
 |false=>eN (jO++o.put)
structure ay where
 key:BA
 d:aQ
 s:af
 file:Int
 dR:UInt64
abbrev ay.cells(t:ay):List PV:=[st t.key,i64 t.d.size,st t.d.h0,st t.d.s0,st t.d.h1,st t.d.s1,bo t.d.down,i64 t.d.cy,i64 t.d.bx,pu t.s.round,pu t.s.next,sl bR.pv t.s.ar.al,sl dt.pv t.s.ar.places,sl aB.pv t.s.aH,sl ax.pv t.s.ae,sl QE.pv t.s.bg,pu t.s.dX.first,sl cZ.pv t.s.dX.l,pu t.s.dy.first,sl cZ.pv t.s.dy.l,i64 t.file,pu t.dR]
def ay.pv(t:ay):PV:=.agg t.cells
def af.new:af:=⟨0,1,⟨[],[]⟩,[aB.z],[],[],⟨0,[]⟩,⟨0,[]⟩⟩
def ay.f(t:ay):Int:=match decide (t.file=1)with|true=>1|false=>0
def eQ(d:aQ):List (aQ->aQ×Int)->aQ×Int
 | []=>(d,0)
 |g::l=>match g d with
  |(e,x)=>match decide (x=0)with
   |true=>eQ e l
   |false=>(e,x)
def ay.z:ay:=⟨aA,⟨0,aA,aA,aA,aA,false,0,0⟩,⟨0,0,⟨[],[]⟩,[],[],[],⟨0,[]⟩,⟨0,[]⟩⟩,0,0⟩
def ay.new(key:BA)(size:Int):ay×Int:=match decide ((key.size:Int)<1)||decide ((64:Int)<key.size)||decide (size<1)||decide (1048576<size)with
 |true=>(ay.z,1)
 |false=>match eQ (aQ.new size) [λd=>d.dh 0 (gn 1 af.new),λd=>d.dO 0]with
  |(d,e)=>match decide (e=0)with
   |false=>(ay.z,e)
   |true=>(⟨key,d,af.new,0,1⟩,0)
def ay.lg(t:ay):ay×Int:=match eQ t.d [λd=>d.cut (1-t.f) 0,λd=>d.dh (1-t.f) (gn (t.dR+1) t.s),λd=>d.dO (1-t.f),λd=>d.cut t.f 0]with
 |(d,e)=>match decide (e=0)with
  |false=>({t with d:=d},e)
  |true=>({t with d:=d,file:=1-t.f,dR:=t.dR+1},0)
def ay.mg(t:ay)(s:af)(a:bn)(r:BA):ay×bn:=match eQ t.d [λd=>d.dh t.f r,λd=>d.dO t.f]with
 |(d,e)=>match decide (e=0)with
  |false=>({t with d:=d},.ef e)
  |true=>({t with d:=d,s:=s},a)
def ay.full(t:ay)(r:BA):Bool:=decide (t.d.size.tdiv 2<((t.d.read t.f).size:Int)+(r.size:Int))
def ay.do(t:ay)(o:aC):ay×bn:=match t.d.down with
 |true=>(t,.ef 12)
 |false=>match decide ((apply t.s o).2.e=0)&&o.oM with
  |false=>(t,(apply t.s o).2)
  |true=>match t.full (gH o)with
   |false=>t.mg (apply t.s o).1 (apply t.s o).2 (gH o)
   |true=>match decide (t.lg.2=12)with
    |true=>(t.lg.1,.ef 12)
    |false=>t.lg.1.mg (apply t.s o).1 (apply t.s o).2 (gH o)
structure cP where
 kind:Int
 n:UInt64
def cP.pv(c:cP):PV:=.agg [i64 c.kind,pu c.n]
def xL:iE cP.pv 2:=⟨λ_=>⟨rr,rr⟩,λ_=>rfl,λ_ _ _=>rfl⟩
structure cr where
 aD:BA
 bY:List cP
 gY:BA
def cr.pv(t:cr):PV:=.agg [st t.aD,sl cP.pv t.bY,st t.gY]
def cr.z:cr:=⟨aA,[],aA⟩
def cP.put(c:cP):BA:=av (aG c.kind)++av c.n
def cP.gD(c:cP):Bool:=decide (c.kind=1)||decide (c.kind=2)
def uQ(g:BA)(c:cP):BA:=Mc.nA g c.put
def cr.narrowed(t:cr)(l:List cP):cr:=⟨t.aD,t.bY++l,l.foldl uQ t.gY⟩
def cr.new(key aD:BA):cr:=⟨aD,[],Mc.nA key aD⟩
def cr.zg(t:cr)(c:cP):cr:=t.narrowed [c]
def cr.db(t:cr):Bool:=match decide ((t.bY.length:Int)<=8)with
 |false=>false
 |true=>!t.bY.any λc=>!c.gD
def cr.check(key:BA)(t:cr):Bool:=match t.db with
 |false=>false
 |true=>seq ((cr.new key t.aD).narrowed t.bY).gY t.gY
def cP.yO(right round:UInt64)(c:cP):Bool:=match decide (c.kind=1)&&!decide (right &&& ~~~ c.n=0)with
 |true=>true
 |false=>decide (c.kind=2)&&decide (c.n.toNat<round.toNat)
def cr.uz(t:cr)(right round:UInt64):Bool:=!t.bY.any λc=>c.yO right round
def fZ(s:BA)(c:cP):BA:=s++c.put
def cr.nO(t:cr):Bool:=match d_ t.aD with
 |false=>false
 |true=>match t.db with
  |false=>false
  |true=>decide ((t.gY.size:Int)=32)
def cr.bytes(t:cr):BA:=t.bY.foldl fZ (bQ t.aD++av (aG (t.bY.length:Nat)))++t.gY
def cr.put(t:cr):BA:=match t.nO with
 |false=>aA
 |true=>t.bytes
def vm(k:Int):UInt64:=match k with
 |1=>1
 |2=>1
 |3=>4
 |4=>2
 |5=>2
 |6=>2
 |7=>2
 |8=>2
 |_=>0
def fA(o:aC):UInt64×Bool:=match decide (vm o.kind=0)with
 |true=>(0,false)
 |false=>(vm o.kind,true)
def ov(t:cr)(o:aC):BA:=match seq t.put aA||seq o.put aA with
 |true=>aA
 |false=>t.put++o.put
def pN(key:BA)(t:cr)(o:aC)(round:UInt64):Int:=match t.check key with
 |false=>13
 |true=>match fA o with
  |(_,false)=>14
  |(r,true)=>match t.uz r round with
   |false=>14
   |true=>0
structure aO where
 name:BA
 t:ay
def aO.pv(n:aO):PV:=.agg (st n.name::n.t.cells)
structure cK where
 kind:Int
 aD:BA
 key:BA
 n:Int
 bx:Int
 o:aC
 bytes:BA
def cK.pv(e:cK):PV:=.agg [i64 e.kind,st e.aD,st e.key,i64 e.n,i64 e.bx,i64 e.o.kind,pu e.o.id,pu e.o.n,st e.o.aa,pu e.o.v.a,pu e.o.v.b,pu e.o.v.c,pu e.o.v.d,st e.o.x.aa,pu e.o.x.cT.a,pu e.o.x.cT.b,pu e.o.x.cT.c,pu e.o.x.cT.d,i64 e.o.x.count,i64 e.o.x.bC,i64 e.o.x.dF,sl bX.pv e.o.x.dv,sl cC.pv e.o.ao,st e.bytes]
structure dg where
 aD:BA
 a:bn
def dg.pv(r:dg):PV:=.agg [st r.aD,i64 r.a.e,pu r.a.id,pu r.a.n,i64 r.a.lX,pu r.a.v.a,pu r.a.v.b,pu r.a.v.c,pu r.a.v.d,pu r.a.u.a,pu r.a.u.b,pu r.a.u.c,pu r.a.u.d,sl st r.a.al,sl cZ.pv r.a.gx]
def jm(c:List aO)(name:BA):Int:=cJ (λn:aO=>seq n.name name) c 0
def f_(c:List aO)(name:BA):ay×Bool:=match c.find? (λn=>seq n.name name)with
 |some n=>(n.t,true)
 |none=>(ay.z,false)
abbrev qv:=List aO×List dg
def say(name:BA)(e:Int):List dg:=[⟨name,.ef e⟩]
def ij(c:List aO)(name:BA)(f:ay->ay×bn):qv:=match c.find? (λn=>seq n.name name)with
 |none=>(c,say aA 16)
 |some n=>(c.set (jm c name).toNat ⟨n.name,(f n.t).1⟩,[⟨n.name,(f n.t).2⟩])
def ky(c:List aO)(f:ay->ay×bn):qv:=(c.map λn=>⟨n.name,(f n.t).1⟩,c.map λn=>⟨n.name,(f n.t).2⟩)
def my(c:List aO)(name:BA):Nat:=c.findIdx λn=>!dG n.name name
def j_(c:List aO)(e:cK):qv:=match d_ e.aD with
 |false=>(c,say e.aD 6)
 |true=>match decide (0<=jm c e.aD)with
  |true=>(c,say e.aD 8)
  |false=>match decide (8<=(c.length:Int))with
   |true=>(c,say e.aD 9)
   |false=>match ay.new e.key e.n with
    |(t,no)=>match decide (no=0)with
     |false=>(c,say e.aD no)
     |true=>(c.take (my c e.aD)++⟨e.aD,t⟩::c.drop (my c e.aD),say e.aD 0)
def rN(c:List aO)(e:cK):qv:=match decide (0<=jm c e.aD)&&!fJ e.o.kind 9 12 with
 |true=>(c,say e.aD 14)
 |false=>ij c e.aD λt=>t.do e.o
def mO(c:List aO):Option (cr×aC)->qv
 |none=>(c,say aA 2)
 |some (k,o)=>match f_ c k.aD with
  |(_,false)=>(c,say aA 16)
  |(t,true)=>match k.check t.key with
   |false=>(c,say aA 13)
   |true=>match t.d.down with
    |true=>(c,say k.aD 12)
    |false=>match pN t.key k o t.s.round with
     |no=>match decide (no=0)with
      |false=>(c,say k.aD no)
      |true=>ij c k.aD λt=>t.do o
def aC.z:aC:=⟨0,0,0,aA,V4.z,bM.z,[]⟩
def nK:aC:={aC.z with kind:=13}
end
end Go.Proofs.YtbnonpbnhenkfaaGreatDoor
section
namespace Go.Proofs.YtbnonpbnhenkfaaGreatDoor
open Go.RowKit Go.Proofs.Tryz
structure Gv(w x:World)(s:ByteArray)(a:Int)(u:Nat)(n:Int)(o:Bool):Prop where
 cs:Row x w.heap.size [.string s]
 ca:Row x (w.heap.size+1) [.int .i64 a]
 cu:Row x (w.heap.size+1+1) [.int .u64 (u:Int)]
 cn:Row x (w.heap.size+1+1+1) [.int .i64 n]
 co:Row x (w.heap.size+1+1+1+1) [.bool o]
 b:Below w.heap.size w x
 lt:w.heap.size+1+1+1+1<x.heap.size
theorem Row.one{w:World}{b:Nat}{a0:Value}(h:Row w b [a0]):w.cell? ⟨b,0,none⟩=some a0/\w.frozen? ⟨b,0,none⟩=false:=h 0 _ rr
namespace Gv
variable {w x y:World}{s:ByteArray}{a n:Int}{u:Nat}{o:Bool}
theorem below(h:Gv w x s a u n o)(hb:Below x.heap.size x y):Gv w y s a u n o:=
 have:=h.lt
 ⟨h.cs.below hb om,h.ca.below hb om,h.cu.below hb om,h.cn.below hb om,h.co.below hb om,h.b.trans (hb.mono h.b.size),u9 h.lt hb.size⟩
theorem drew(h:Gv w x s a u n o):Gv w x.drew s a u n o:=⟨h.cs,h.ca,h.cu,h.cn,h.co,h.b.drew,h.lt⟩
theorem Li(h:Gv w x s a u n o)(v:Nat):Gv w (x.setCell ⟨w.heap.size+1+1,0,none⟩ (.int .u64 (v:Int))) s a v n o:=
 ⟨h.cs.fj _ om,h.ca.fj _ om,h.cu.set 0 _ (by simp),h.cn.fj _ om,h.co.fj _ om,h.b.setCell (p:=⟨w.heap.size+1+1,0,none⟩) (by show w.heap.size<=w.heap.size+1+1;omega) _,by simpa using h.lt⟩
theorem KO(h:Gv w x s a u n o)(v:Int):Gv w (x.setCell ⟨w.heap.size+1+1+1,0,none⟩ (.int .i64 v)) s a u v o:=
 ⟨h.cs.fj _ om,h.ca.fj _ om,h.cu.fj _ om,h.cn.set 0 _ (by simp),h.co.fj _ om,h.b.setCell (p:=⟨w.heap.size+1+1+1,0,none⟩) (by show w.heap.size<=w.heap.size+1+1+1;omega) _,by simpa using h.lt⟩
theorem ME(h:Gv w x s a u n o)(v:Bool):Gv w (x.setCell ⟨w.heap.size+1+1+1+1,0,none⟩ (.bool v)) s a u n v:=
 ⟨h.cs.fj _ om,h.ca.fj _ om,h.cu.fj _ om,h.cn.fj _ om,h.co.set 0 _ (by simp),h.b.setCell (p:=⟨w.heap.size+1+1+1+1,0,none⟩) (by show w.heap.size<=w.heap.size+1+1+1+1;omega) _,by simpa using h.lt⟩
theorem cells(h:Gv w x s a u n o):x.cell? ⟨w.heap.size,0,none⟩=some (.string s)/\x.cell? ⟨w.heap.size+1,0,none⟩=some (.int .i64 a)/\x.cell? ⟨w.heap.size+1+1,0,none⟩=some (.int .u64 (u:Int))/\x.cell? ⟨w.heap.size+1+1+1,0,none⟩=some (.int .i64 n)/\x.cell? ⟨w.heap.size+1+1+1+1,0,none⟩=some (.bool o)/\
 x.frozen? ⟨w.heap.size+1+1,0,none⟩=false/\x.frozen? ⟨w.heap.size+1+1+1,0,none⟩=false/\x.frozen? ⟨w.heap.size+1+1+1+1,0,none⟩=false:=
 ⟨h.cs.one.1,h.ca.one.1,h.cu.one.1,h.cn.one.1,h.co.one.1,h.cu.one.2,h.cn.one.2,h.co.one.2⟩
end Gv
theorem FX(w x:World)(s:ByteArray)(a:Int)(u:Nat)(o:Bool)(h:Gv w x s a u 0 o):
 CallsD prog 310 #[.pointer (some ⟨w.heap.size+1+1+1,0,none⟩),.pointer (some ⟨w.heap.size+1+1,0,none⟩),.pointer (some ⟨w.heap.size,0,none⟩),.pointer (some ⟨w.heap.size+1,0,none⟩),.pointer (some ⟨w.heap.size+1+1+1+1,0,none⟩)] .returning x
  λe u' x'=>u'=.returning/\(e=.returned (.tuple #[])/\Gv w x' s a 0 0 false):=by
 obtain⟨c0,c1,c2,c3,c4,f2,f3,f4⟩:=h.cells
 have b:=Lib.hid h;clear h
 go_enter_d func310,ntmps310
 go_upto_region 0 with fail
 go_cut [5] (λ_ wx=>Gv w wx s a u 0 false)
 case first=>
  go_region
  all_goals (go_wp2_with fail;go_meet;exact(b.out.drew).ME false)
 case rest=>
  clear b c0 c1 c2 c3 c4 f2 f3 f4
  obtain⟨c0,c1,c2,c3,c4,f2,f3,f4⟩:=hcut.cells
  have b:=Lib.hid hcut;clear hcut
  go_wp2_with fail
  have hG:=(b.out.Li 0).KO 0
  exact⟨rr,_,results_none rr _ _ _,rr,hG⟩
theorem ahs{w w':World}{b d e c:Nat}{a0 a1 a2 a3:Value}(hb:Below w.heap.size w w')(h:w.cell? ⟨b,0,none⟩=some a0/\w.cell? ⟨d,0,none⟩=some a1/\w.cell? ⟨e,0,none⟩=some a2/\w.cell? ⟨c,0,none⟩=some a3):
 w'.cell? ⟨b,0,none⟩=some a0/\w'.cell? ⟨d,0,none⟩=some a1/\w'.cell? ⟨e,0,none⟩=some a2/\w'.cell? ⟨c,0,none⟩=some a3:=
 ⟨(hb.cell (p:=⟨b,0,none⟩) (World.block_lt_of_cell? w _ h.1)).trans h.1,(hb.cell (p:=⟨d,0,none⟩) (World.block_lt_of_cell? w _ h.2.1)).trans h.2.1,(hb.cell (p:=⟨e,0,none⟩) (World.block_lt_of_cell? w _ h.2.2.1)).trans h.2.2.1,(hb.cell (p:=⟨c,0,none⟩) (World.block_lt_of_cell? w _ h.2.2.2)).trans h.2.2.2⟩
theorem Zl{w:World}{c f g d b:Nat}{a0 a1 a2 a3 v:Value}(h0:b≠c)(h1:b≠f)(h2:b≠g)(i:b≠d)(h:w.cell? ⟨c,0,none⟩=some a0/\w.cell? ⟨f,0,none⟩=some a1/\w.cell? ⟨g,0,none⟩=some a2/\w.cell? ⟨d,0,none⟩=some a3):
 (w.setCell ⟨b,0,none⟩ v).cell? ⟨c,0,none⟩=some a0/\(w.setCell ⟨b,0,none⟩ v).cell? ⟨f,0,none⟩=some a1/\(w.setCell ⟨b,0,none⟩ v).cell? ⟨g,0,none⟩=some a2/\(w.setCell ⟨b,0,none⟩ v).cell? ⟨d,0,none⟩=some a3:=
 ⟨(World.cell?_setCell_other _ _ _ _ (by intro e;cases e;exact h0 rr)).trans h.1,(World.cell?_setCell_other _ _ _ _ (by intro e;cases e;exact h1 rr)).trans h.2.1,(World.cell?_setCell_other _ _ _ _ (by intro e;cases e;exact h2 rr)).trans h.2.2.1,(World.cell?_setCell_other _ _ _ _ (by intro e;cases e;exact i rr)).trans h.2.2.2⟩
theorem aad(w x:World)(s:ByteArray)(a n u:Nat)(o r:Bool)(h:Gv w x s a u n o)(c:u<18446744073709551616)(i:0<n)(j:a<=n)(k:n<=s.size)(l:((⟨(Wi.put u).toArray⟩:ByteArray).toList==(s.extract a n).toList)=r):
 CallsD prog 310 #[.pointer (some ⟨w.heap.size+1+1+1,0,none⟩),.pointer (some ⟨w.heap.size+1+1,0,none⟩),.pointer (some ⟨w.heap.size,0,none⟩),.pointer (some ⟨w.heap.size+1,0,none⟩),.pointer (some ⟨w.heap.size+1+1+1+1,0,none⟩)] .returning x
  λe u' x'=>u'=.returning/\(e=.returned (.tuple #[])/\Gv w x' s a (if r then u else 0) (if r then n else 0) r):=by
 obtain⟨c0,c1,c2,c3,c4,f2,f3,f4⟩:=h.cells
 have b:=Lib.hid h;clear h
 have g:=Lib.hid (λw=>JG u w c);clear c
 obtain⟨q,hq⟩:∃q,(⟨(Wi.put u).toArray⟩:ByteArray)=q:=⟨_,rfl⟩
 rw[hq]at g l
 clear hq
 have m:(0:Int)<(n:Int):=om
 have p:(0:Int)<=(n:Int):=om
 have t:(0:Int)<=(a:Int):=om
 have d:(a:Int)<=(n:Int):=om
 have f:(n:Int)<=(s.size:Int):=om
 have v:decide (0<n)=true:=by simpa using i
 go_enter_d func310,ntmps310
 go_upto_region 0 with fail
 go_cut [5] (λ_ wx=>Gv w wx s a u n r)
 case first=>
  go_region_held3 (λw'=>w'.cell? ⟨w.heap.size,0,none⟩=some (.string s)/\w'.cell? ⟨w.heap.size+1,0,none⟩=some (.int .i64 (a:Int))/\w'.cell? ⟨w.heap.size+1+1,0,none⟩=some (.int .u64 (u:Int))/\w'.cell? ⟨w.heap.size+1+1+1,0,none⟩=some (.int .i64 (n:Int))) (first|(exact Zl om om om om ⟨d0,d1,d2,d3⟩)|go_keep|(exact ahs hq (by first|assumption|(simp[go_sem, *];done))))
   ((first|(go_at_call 138;((with_reducible refine(g.out _).mono ?_);rintro e y ⟨rfl,hq⟩);have hG:=(b.out.drew).below hq;obtain⟨d0,d1,d2,d3,d4,g2,g3,g4⟩:=hG.cells)))
  all_goals (go_wp2_with fail;go_meet;exact hG.ME r)
 case rest=>
  clear b c0 c1 c2 c3 c4 f2 f3 f4
  obtain⟨c0,c1,c2,c3,c4,f2,f3,f4⟩:=hcut.cells
  have b:=Lib.hid hcut;clear hcut
  cases r
  ·go_wp2_with fail
   have hG:=(b.out.Li 0).KO 0
   exact⟨rr,_,results_none rr _ _ _,rr,hG⟩
  ·go_wp2_with fail
   exact⟨rr,_,results_none rr _ _ _,rr,b.out⟩
end Go.Proofs.YtbnonpbnhenkfaaGreatDoor
end
section
namespace Go.Proofs.YtbnonpbnhenkfaaGreatDoor
open Go.RowKit
namespace Wi
def get(s:ByteArray)(a:Int):Nat×Int×Bool:=if a<0 then(0,0,false)else
 match pD (s.data.toList.drop a.toNat)with
 |none=>(0,0,false)
 |some (u,c)=>(u,a+(c:Int),true)
def nx(u x j:Nat):Nat:=u ||| (x%128*2^(7*j)%18446744073709551616)
def RA(u x j:Nat)(a:u<18446744073709551616):nx u x j<18446744073709551616:=by
 unfold nx;exact I4 (n:=64) a (G3 _ (by decide))
def Fh(j:Nat):2^(7*j)=128^j:=by rw[Nat.pow_mul]
def OT(u b i:Nat)(h:u<2^i):u ||| (b*2^i)=u+b*2^i:=by
 rw[Nat.or_comm,L9,<-Nat.two_pow_add_eq_or_of_lt h];omega
def Vg{j:Nat}(h:j<=8):128^j<=72057594037927936:=by
 have:=Nat.pow_le_pow_right (n:=128) om h;exact r8 this (by decide)
def YI{u x j:Nat}(a:u<128^j)(c:j<=9):nx u x j=(u+128^j*(x%128))%18446744073709551616:=by
 have d:x%128<128:=G3 _ om;rcases Nat.lt_or_ge j 9 with h|h
 ·have hp:=Vg (show j<=8 by omega);have b:x%128*128^j<=127*72057594037927936:=L5 om hp;have h1:x%128*2^(7*j)%18446744073709551616=x%128*2^(7*j):=D1 (by rw[Fh];omega);unfold nx;rw[h1,OT u (x%128) (7*j) (by rw[Fh];exact a),Fh,L9 (x%128) (128^j)];rw[L9]at b;exact(D1 om).symm
 ·obtain rfl:j=9:=om
  have e:(128:Nat)^9=9223372036854775808:=by decide
  have e2:(2:Nat)^(7*9)=9223372036854775808:=by decide
  rw[e]at a⊢;have h2:x%128*9223372036854775808%18446744073709551616=x%2*2^63:=by
   rw[show(2:Nat)^63=9223372036854775808 from by decide];omega
  unfold nx;rw[e2,h2,OT u (x%2) 63 (by rw[show(2:Nat)^63=9223372036854775808 from by decide];exact a),show(2:Nat)^63=9223372036854775808 from by decide];omega
structure qp(t:List UInt8)(j u:Nat):Prop where
 hi:∀b∈t.take j,128<=b.toNat
 lo:j<=9->u=dL (t.take j)
 lt:u<18446744073709551616
def qp.start(t:List UInt8):qp t 0 0:=⟨by simp,λ_=>by simp[dL],by decide⟩
def Xy{t:List UInt8}{j:Nat}(h:j<t.length):t.take (j+1)=t.take j++[t[j]]:=by rw[List.take_succ_eq_append_getElem h]
theorem qp.next{t:List UInt8}{j u:Nat}(h:qp t j u)(c:j<t.length)(f:j<=9)(hb:128<=t[j].toNat):qp t (j+1) (nx u t[j].toNat j):=by
 have d:(t.take j).length=j:=by simp;omega
 refine⟨?_,?_,RA _ _ _ h.lt⟩
 ·intro b a;rw[Xy c]at a;rcases s8.1 a with a|a
  ·exact h.hi b a
  ·simp at a;subst a;exact hb
 ·intro g;have e:=Rx (t.take j);rw[d,<-h.lo om]at e;have hp:=Vg (show j<=8 by omega);rw[YI e om,Xy c,abU,d,<-h.lo om];have i:=F4 t[j];rw[show t[j].toNat%128=t[j].toNat-128 by omega];have k:128^j*(t[j].toNat-128)<=72057594037927936*127:=L5 hp om;exact D1 om
def qp.done{t:List UInt8}{j u:Nat}(h:qp t j u)(d:j<t.length)(a:j<=9)(hb:t[j].toNat<128):
 pD t=if put (nx u t[j].toNat j)=t.take (j+1)then some (nx u t[j].toNat j,j+1)else none:=by
 have b:(t.take j).length=j:=by simp;omega
 have e:dZ 10 t=some (dL (t.take j)+128^j*t[j].toNat,j+1):=by
  have:=WE (k:=10) (l:=t.take j) (t.drop j) h.hi om
  rw[A5,b,o8 d]at this
  obtain⟨m,f⟩:∃m,10-j=m+1:=⟨9-j,om⟩
  rw[this,f,dZ,z7 hb]
  simp;omega
 have c:=Rx (t.take j)
 rw[b,<-h.lo a]at c
 unfold pD
 rw[e,<-h.lo a]
 simp only
 rw[YI c a,show t[j].toNat%128=t[j].toNat by omega]
def qp.never{t:List UInt8}{j u:Nat}(h:qp t j u)(e:j<=t.length)(a:j=10\/j=t.length/\j<=10):pD t=none:=by
 have b:(t.take j).length=j:=by simp;omega
 have c:dZ 10 t=none:=by
  have:=WE (k:=10) (l:=t.take j) (t.drop j) h.hi om;rw[A5,b]at this;rw[this];rcases a with rfl|⟨rfl,d⟩
  ·rfl
  ·rw[F7];cases 10-t.length<;>rfl
 unfold pD;rw[c]
def ahT(U x j:Nat)(a:U<18446744073709551616)(b:x<256):
 bits .or .u64 (U:Int) (IntKind.u64.wrap (IntKind.u64.wrap (bits .andNot .u8 (x:Int) 128)*2^(7*j)))=((nx U x j:Nat):Int):=by
 have h1:=u8_andNot_nat x 128 b om
 have e:x &&& (255-128)=x%128:=Nat.and_two_pow_sub_one_eq_mod x 7
 rw[e]at h1
 rw[show((128:Nat):Int)=(128:Int)from rfl]at h1
 rw[h1]
 have h2:IntKind.u64.wrap ((x%128:Nat):Int)=((x%128:Nat):Int):=by rw[IntKind.wrap_u64];omega
 rw[h2]
 have c:((x%128:Nat):Int)*2^(7*j)=((x%128*2^(7*j):Nat):Int):=by
  rw[N9,K8];rfl
 rw[c]
 have d:IntKind.u64.wrap ((x%128*2^(7*j):Nat):Int)=((x%128*2^(7*j)%18446744073709551616:Nat):Int):=by rw[IntKind.wrap_u64];omega
 rw[d,u64_or_nat _ _ a (G3 _ (by decide))]
 rfl
end Wi
end Go.Proofs.YtbnonpbnhenkfaaGreatDoor
end
namespace Go.Proofs.YtbnonpbnhenkfaaGreatDoor
section
open Go.RowKit Go.Proofs.Tryz
theorem Gv.new(w:World)(s:ByteArray)(a:Int):Gv w (((((w.alloc (.cells #[.string s] 9)).alloc (.cells #[.int .i64 a] 3)).alloc (.cells #[.int .u64 0] 30)).alloc (.cells #[.int .i64 0] 3)).alloc (.cells #[.bool false] 4)) s a 0 0 false:=
 ⟨Row.alloc (Row.alloc (Row.alloc (Row.alloc (Row.at rr rr) (by simp) _) (by simp<;>omega) _) (by simp<;>omega) _) (by simp<;>omega) _,
  Row.alloc (Row.alloc (Row.alloc (Row.at (by simp) rr) (by simp) _) (by simp<;>omega) _) (by simp<;>omega) _,
  Row.alloc (Row.alloc (Row.at (by simp) rr) (by simp) _) (by simp<;>omega) _,
  Row.alloc (Row.at (by simp) rr) (by simp) _,Row.at (by simp) rr,
  ((((((Below.refl _ _).alloc (j2 _) _).alloc (by simp) _).alloc (by simp<;>omega) _).alloc (by simp<;>omega) _).alloc (by simp<;>omega) _),by simp⟩
def amj{s:ByteArray}{a p:Nat}(b:a<=p)(hp:p<s.size):∃h:p-a<(s.data.toList.drop a).length,(s.data.toList.drop a)[p-a]=s[p]:=by
 have c:s.data.toList.length=s.size:=by simp
 refine⟨by simp;omega,?_⟩;rw[List.getElem_drop];have:a+(p-a)=p:=om
 simp[this];rfl
def YL(s:ByteArray)(a n:Nat):(s.extract a n).toList=(s.data.toList.drop a).take (n-a):=by rw[Lib.toList_data,Lib.extract_data]
def Wi.val(r:Nat×Int×Bool):Value:=.tuple #[.int .u64 (r.1:Int),.int .i64 r.2.1,.bool r.2.2]
def akh(l:List UInt8):(⟨l.toArray⟩:ByteArray).toList=l:=by rw[Lib.toList_data]
def Pt{s:ByteArray}{a:Nat}(h:Wi.pD (s.data.toList.drop a)=none):Wi.get s a=(0,0,false):=by
 unfold Wi.get;rw[y8 om,x8,h]
theorem TH{s:ByteArray}{a c u:Nat}(h:Wi.pD (s.data.toList.drop a)=some (u,c)):Wi.get s a=(u,(a:Int)+(c:Int),true):=by
 unfold Wi.get;rw[y8 om,x8,h]
def aaU{s:ByteArray}{a p V:Nat}{r:Bool}(d:a<=p)(b:Wi.pD (s.data.toList.drop a)=if Wi.put V=(s.data.toList.drop a).take (p-a+1)then some (V,p-a+1)else none)
 (c:((⟨(Wi.put V).toArray⟩:ByteArray).toList==(s.extract a (p+1)).toList)=r):Wi.get s a=(if r then V else 0,if r then((p+1:Nat):Int)else 0,r):=by
 rw[akh,YL,show p+1-a=p-a+1 by omega]at c
 by_cases h:Wi.put V=(s.data.toList.drop a).take (p-a+1)
 ·rw[z7 h]at b
  have:r=true:=by rw[<-c,h];simp
  subst this
  rw[TH b]
  simp;omega
 ·rw[y8 h]at b
  have:r=false:=by rw[<-c];simpa using h
  subst this
  rw[Pt b]
  simp
theorem ajY(s:ByteArray)(a:Nat)(w:World)(hs:a<s.size)(hz:s.size<=9007199254740992):
 Calls prog 262 #[.string s,.int .i64 (a:Int)] w λe w'=>e=.returned (Wi.val (Wi.get s a))/\Below w.heap.size w w':=by
 have hmf:∀(fn:Fn) (first cap:Array Value) (w:World),(Instr.makeFunc fn first cap).run prog w=.ok (.func fn first cap) w:=λ_ _ _ _=>rfl
 obtain⟨r,hr⟩:∃r,Wi.get s a=r:=⟨_,rfl⟩
 rw[hr]
 have HR:=Lib.hid hr;clear hr
 have ha1:¬((a:Int)<0):=om
 have ha2:(a:Int)<(s.size:Int):=om
 have ha3:¬((s.size:Int)<=(a:Int)):=om
 go_enter_defers func262,ntmps262
 have HG0:=Lib.hid (Gv.new w s a)
 go_wp2_with fail
 go_loopw [7] (λv wr=>∃(p U:Nat),a<=p/\p<=s.size/\p<=a+10/\v=.int .i64 (p:Int)/\Gv w wr s a U 0 false/\Wi.qp (s.data.toList.drop a) (p-a) U) (λv _=>s.size-(intOf v).toNat)
 case atStart=>exact⟨a,0,om,om,om,rr,HG0.out,by rw[G0];exact Wi.qp.start _⟩
 case round=>
  clear HG0
  obtain⟨p,U,h1,h2,h3,rfl,hG,hS⟩:=hrel
  obtain⟨c0,c1,c2,c3,c4,f2,f3,f4⟩:=hG.cells
  have HG:=Lib.hid hG;clear hG hmf
  have HS:=Lib.hid hS;clear hS
  have hlen:(s.data.toList.drop a).length=s.size-a:=by simp
  have HL:=Lib.hid hlen;clear hlen
  by_cases hp:p<s.size/\p<a+10
  ·obtain⟨hp1,hp2⟩:=hp
   have hp1':(p:Int)<(s.size:Int):=om
   have hp2':(p:Int)<(a:Int)+10:=om
   have hp0:(0:Int)<=(p:Int):=om
   have hw1:IntKind.i64.wrap ((a:Int)+10)=(a:Int)+10:=by rw[IntKind.wrap_i64];omega
   obtain⟨hj,hje⟩:=amj h1 hp1
   obtain⟨x,hx⟩:∃x,s[p].toNat=x:=⟨_,rfl⟩
   have hx256:x<256:=by have:=F4 s[p];omega
   have HOR:=Lib.hid (Wi.ahT U x (p-a) HS.out.lt hx256)
   have hVlt:=Wi.RA U x (p-a) HS.out.lt
   have HN:=Lib.hid (fun(hb:128<=(s.data.toList.drop a)[p-a].toNat)=>HS.out.next hj om hb)
   have HD:=Lib.hid (fun(hb:(s.data.toList.drop a)[p-a].toNat<128)=>HS.out.done hj om hb)
   rw[hje,hx]at HN HD
   have HX:=Lib.hid hx;clear hx hje hj
   generalize Wi.nx U x (p-a)=V at HOR HN HD hVlt
   have HV:=Lib.hid hVlt;clear hVlt
   go_upto_region 6 with fail
   go_cut [41]from 30 to 41 (λ_ wx=>Gv w wx s a V 0 false)
   case first=>
    go_region
    all_goals (go_wp2_with fail;go_meet;rw[HX.out,HOR.out];exact(HG.out.Li V).drew)
   case rest=>
    clear HOR HG c0 c1 c2 c3 c4 f2 f3 f4
    obtain⟨c0,c1,c2,c3,c4,f2,f3,f4⟩:=hcut.cells
    have HG:=Lib.hid hcut;clear hcut
    go_upto_region 7 with fail
    by_cases hb:x<128
    ·have hb1:(x:Int)<128:=om
     have hx:=HX.out
     have hd:=HD.out hb
     clear HD HN HX
     have HDD:=Lib.hid hd;clear hd
     have hb2:(s[p].toNat:Int)<128:=om
     clear hx
     go_wp2_with fail
     have hG:=HG.out.KO ((p:Int)+1)
     rw[show(p:Int)+1=((p+1:Nat):Int)from by omega]at hG⊢
     generalize World.setCell _ _ _=wz at hG⊢
     refine leaves_cons (f:=310) (args:=#[.pointer (some ⟨w.heap.size+1+1+1,0,none⟩),.pointer (some ⟨w.heap.size+1+1,0,none⟩),.pointer (some ⟨w.heap.size,0,none⟩),.pointer (some ⟨w.heap.size+1,0,none⟩),.pointer (some ⟨w.heap.size+1+1+1+1,0,none⟩)]) (by simp) (by simp[go_sem]) ?_
     obtain⟨rr,hrr⟩:∃rr,((⟨(Wi.put V).toArray⟩:ByteArray).toList==(s.extract a (p+1)).toList)=rr:=⟨_,rfl⟩
     have hget:=aaU h1 HDD.out hrr
     rw[HR.out]at hget
     refine(aad w wz s a (p+1) V false rr hG HV.out om om om hrr).mono ?_
     rintro e u' x' ⟨rfl,rfl,hG'⟩
     obtain⟨_,_,d2,d3,d4,_,_,_⟩:=hG'.cells
     refine⟨Wi.val (if rr then V else 0,if rr then((p+1:Nat):Int)else 0,rr),?_,?_,hG'.b⟩
     ·clear hget hrr
      cases rr<;>simp[results,results262,go_sem,d2,d3,d4,Wi.val]
     ·rw[hget]
    ·have hb1:¬((x:Int)<128):=om
     have hx:=HX.out
     have hd:=HN.out om
     clear HD HN HX
     have HDD:=Lib.hid hd;clear hd
     have hb2:¬((s[p].toNat:Int)<128):=om
     clear hx
     go_wp2_with fail
     go_roundw
     case rel=>exact⟨p+1,V,om,om,om,by go_num,HG.out,by rw[show p+1-a=p-a+1 by omega];exact HDD.out⟩
     case measure=>simp[intOf];omega
  ·have HZ:=Lib.hid (Pt (HS.out.never (by rw[HL.out];omega) (by rw[HL.out];omega)))
   clear HS HL
   by_cases hp1:p<s.size
   ·have hp1':(p:Int)<(s.size:Int):=om
    have hp2':¬((p:Int)<(a:Int)+10):=om
    have hw1:IntKind.i64.wrap ((a:Int)+10)=(a:Int)+10:=by rw[IntKind.wrap_i64];omega
    go_wp2_with fail
    refine leaves_cons (f:=310) (args:=#[.pointer (some ⟨w.heap.size+1+1+1,0,none⟩),.pointer (some ⟨w.heap.size+1+1,0,none⟩),.pointer (some ⟨w.heap.size,0,none⟩),.pointer (some ⟨w.heap.size+1,0,none⟩),.pointer (some ⟨w.heap.size+1+1+1+1,0,none⟩)]) (by simp) (by simp[go_sem])<|(FX w _ s a U false HG.out).mono ?_
    rintro e u' x' ⟨rfl,rfl,hG'⟩
    obtain⟨_,_,d2,d3,d4,_,_,_⟩:=hG'.cells
    refine⟨Wi.val (0,0,false),?_,?_,hG'.b⟩
    ·simp[results,results262,go_sem,d2,d3,d4];try rfl
    ·rw[<-HR.out,HZ.out]
   ·have hp1':¬((p:Int)<(s.size:Int)):=om
    go_wp2_with fail
    refine leaves_cons (f:=310) (args:=#[.pointer (some ⟨w.heap.size+1+1+1,0,none⟩),.pointer (some ⟨w.heap.size+1+1,0,none⟩),.pointer (some ⟨w.heap.size,0,none⟩),.pointer (some ⟨w.heap.size+1,0,none⟩),.pointer (some ⟨w.heap.size+1+1+1+1,0,none⟩)]) (by simp) (by simp[go_sem])<|(FX w _ s a U false HG.out).mono ?_
    rintro e u' x' ⟨rfl,rfl,hG'⟩
    obtain⟨_,_,d2,d3,d4,_,_,_⟩:=hG'.cells
    refine⟨Wi.val (0,0,false),?_,?_,hG'.b⟩
    ·simp[results,results262,go_sem,d2,d3,d4];try rfl
    ·rw[<-HR.out,HZ.out]
def Ho{s:ByteArray}{a:Int}(h:a<0\/(s.size:Int)<=a):Wi.get s a=(0,0,false):=by
 unfold Wi.get;by_cases h1:a<0
 ·rw[z7 h1]
 ·rw[y8 h1,r9 (by simp;omega)];rfl
def amV(s:ByteArray)(a:Int)(w:World)(h:a<0\/(s.size:Int)<=a):
 Calls prog 262 #[.string s,.int .i64 a] w λe w'=>e=.returned (Wi.val (Wi.get s a))/\Below w.heap.size w w':=by
 have j:∀(fn:Fn) (first cap:Array Value) (w:World),(Instr.makeFunc fn first cap).run prog w=.ok (.func fn first cap) w:=λ_ _ _ _=>rfl
 obtain⟨r,d⟩:∃r,Wi.get s a=r:=⟨_,rfl⟩
 rw[d]
 have g:=Ho h
 rw[d]at g
 have m:=Lib.hid g;clear g d
 have i:=Lib.hid (Gv.new w s a)
 by_cases n:a<0
 case' neg=>
  have k:¬(a<(s.size:Int)):=om
  have l:(s.size:Int)<=a:=om
 all_goals
  clear h
  go_enter_defers func262,ntmps262
  go_wp2_with fail
  refine leaves_cons (f:=310) (args:=#[.pointer (some ⟨w.heap.size+1+1+1,0,none⟩),.pointer (some ⟨w.heap.size+1+1,0,none⟩),.pointer (some ⟨w.heap.size,0,none⟩),.pointer (some ⟨w.heap.size+1,0,none⟩),.pointer (some ⟨w.heap.size+1+1+1+1,0,none⟩)]) (by simp) (by simp[go_sem])<|(FX w _ s a 0 false i.out).mono ?_
  rintro e u' x' ⟨rfl,rfl,c⟩
  obtain⟨_,_,d2,d3,d4,_,_,_⟩:=c.cells
  refine⟨Wi.val (0,0,false),?_,?_,c.b⟩
  ·simp[results,results262,go_sem,d2,d3,d4];try rfl
  ·rw[m.out]
def Oz(s:ByteArray)(a:Int)(w:World)(b:s.size<=9007199254740992):
 Calls prog 262 #[.string s,.int .i64 a] w λe w'=>e=.returned (Wi.val (Wi.get s a))/\Below w.heap.size w w':=by
 by_cases h:a<0\/(s.size:Int)<=a
 ·exact amV s a w h
 ·obtain⟨n,rfl⟩:=E6 (show 0<=a by omega)
  exact ajY s n w om b
end
end Go.Proofs.YtbnonpbnhenkfaaGreatDoor
section
namespace Go.Proofs.YtbnonpbnhenkfaaGreatDoor
open Go.RowKit Go.Proofs.Tryz
def AO{s:ByteArray}{a:Int}{n:Nat}{f:Int}(h:Wi.get s a=(n,f,true)):
 ∃a':Nat,a=(a':Int)/\f=((a'+(Wi.put n).length:Nat):Int)/\a'+(Wi.put n).length<=s.size/\n<18446744073709551616/\(s.data.toList.drop a').take (Wi.put n).length=Wi.put n:=by
 unfold Wi.get at h
 split at h
 ·simp at h
 ·rename_i h0
  obtain⟨a',rfl⟩:=E6 (show 0<=a by omega)
  rw[x8]at h
  split at h
  ·simp at h
  ·rename_i u c d
   obtain⟨e1,e2⟩:=I3 h
   obtain⟨e2,_⟩:=I3 e2
   subst e1;subst e2
   obtain⟨h1,h2,i,b⟩:=Wi.ajA d
   subst h2
   refine⟨a',rr,om,?_,h1,b⟩
   have g:=congrArg List.length b
   rw[l8,w7]at g
   have:=(Wi.w_ u).1
   have e:s.data.toList.length=s.size:=by simp
   omega
def IB{s:ByteArray}{a:Int}{n:Nat}{f:Int}(h:Wi.get s a=(n,f,false)):n=0/\f=0:=by
 unfold Wi.get at h;split at h
 ·simp at h;omega
 ·split at h
  ·simp at h;omega
  ·simp at h
namespace Wi
def qc(s:ByteArray)(a m:Int):ByteArray×Int×Bool:=
 if(get s a).2.2=true/\0<=m/\((get s a).1:Int)<=m/\((get s a).1:Int)<=(s.size:Int)-(get s a).2.1
 then(s.extract (get s a).2.1.toNat ((get s a).2.1.toNat+(get s a).1),(get s a).2.1+((get s a).1:Int),true)else(⟨#[]⟩,0,false)
def agm(r:ByteArray×Int×Bool):Value:=.tuple #[.string r.1,.int .i64 r.2.1,.bool r.2.2]
end Wi
def adF(s:ByteArray)(a m:Int)(w:World)(q:s.size<=9007199254740992):
 Calls prog 261 #[.string s,.int .i64 a,.int .i64 m] w λe w'=>e=.returned (Wi.agm (Wi.qc s a m))/\Below w.heap.size w w':=by
 have b:=λw=>Oz s a w q
 obtain⟨R,d⟩:∃R,Wi.qc s a m=R:=⟨_,rfl⟩
 rw[d]
 unfold Wi.qc at d
 obtain⟨r,g⟩:∃r,Wi.get s a=r:=⟨_,rfl⟩
 rw[g]at b d
 obtain⟨n,f,ok⟩:=r
 unfold Wi.val at b
 simp only at b d
 have b:=Lib.hid b
 cases ok
 case false=>
  obtain⟨rfl,rfl⟩:=IB g
  have c:=Lib.hid (show(⟨#[]⟩,0,false)=R by rw[<-d,y8 (by simp)])
  clear d g
  go_enter func261,ntmps261
  go_wp2_with fail
  refine(b.out _).mono ?_
  rintro e w1 ⟨rfl,hb⟩
  go_wp2_with fail
  go_ret3
  exact⟨by rw[<-c.out];rfl,hb⟩
 case true=>
  obtain⟨a',rfl,rfl,i,j,-⟩:=AO g
  clear g
  obtain⟨F,l⟩:∃F,a'+(Wi.put n).length=F:=⟨_,rfl⟩
  rw[l]at i b d
  clear l
  by_cases o:m<0
  ·have c:=Lib.hid (show(⟨#[]⟩,0,false)=R by rw[<-d,y8 om])
   clear d j
   go_enter func261,ntmps261
   go_wp2_with fail
   refine(b.out _).mono ?_
   rintro e w1 ⟨rfl,hb⟩
   go_wp2_with fail
   go_ret3
   exact⟨by rw[<-c.out];rfl,hb⟩
  ·obtain⟨M,rfl⟩:=E6 (show 0<=m by omega)
   obtain⟨K,p⟩:∃K,min M (s.size-F)=K:=⟨_,rfl⟩
   have t:min (M:Int) ((s.size:Int)-(F:Int))=(K:Int):=om
   have u:K<=9007199254740992:=om
   have v:IntKind.u64.wrap (K:Int)=(K:Int):=by rw[IntKind.wrap_u64];omega
   have x:¬((M:Int)<0):=om
   by_cases h:n<=K
   ·have y:IntKind.i64.wrap (n:Int)=(n:Int):=by rw[IntKind.wrap_i64];omega
    have c:=Lib.hid (show(s.extract F (F+n),((F+n:Nat):Int),true)=R by rw[<-d,z7 ⟨rr,om,om,om⟩];simp)
    have h1:¬((K:Int)<(n:Int)):=om
    have h2:(0:Int)<=(F:Int):=om
    have z:(F:Int)<=((F+n:Nat):Int):=om
    have A:((F+n:Nat):Int)<=(s.size:Int):=om
    have B:(F:Int)+(n:Int)=((F+n:Nat):Int):=om
    have C:(n:Int)<=9007199254740992:=om
    have D:(0:Int)<=(n:Int):=om
    have k:(F:Int)<=(s.size:Int):=om
    generalize F+n=G at c z A B
    clear d j p o h
    go_enter func261,ntmps261
    go_wp2_with fail
    refine(b.out _).mono ?_
    rintro e w1 ⟨rfl,hb⟩
    go_wp2_with fail
    go_ret3
    exact⟨by rw[<-c.out];rfl,hb⟩
   ·have c:=Lib.hid (show(⟨#[]⟩,0,false)=R by rw[<-d,y8 om])
    have h1:(K:Int)<(n:Int):=om
    have k:(F:Int)<=(s.size:Int):=om
    clear d j p o h
    go_enter func261,ntmps261
    go_wp2_with fail
    refine(b.out _).mono ?_
    rintro e w1 ⟨rfl,hb⟩
    go_wp2_with fail
    go_ret3
    exact⟨by rw[<-c.out];rfl,hb⟩
end Go.Proofs.YtbnonpbnhenkfaaGreatDoor
end
namespace Go.Proofs.YtbnonpbnhenkfaaGreatDoor
section
open Go.RowKit
def ant{s:ByteArray}{A R:List UInt8}{n:Nat}(a:n<18446744073709551616)(h:s.data.toList=A++(Wi.put n++R)):Wi.get s (A.length:Int)=(n,(A.length:Int)+((Wi.put n).length:Int),true):=by grind [TH,Wi.akm]
def akU{s:ByteArray}{A B R:List UInt8}{t:ByteArray}(h:s.data.toList=A++(B++(t.data.toList++R))):s.extract (A.length+B.length) (A.length+B.length+t.size)=t:=by
 apply K9;apply M7.1;simp_all
theorem EG(a b:BA):(a++b).data.toList=a.data.toList++b.data.toList:=by simp
theorem qK(a:BA):a.data.toList.length=a.size:=by simp
theorem QD{a b:BA}(h:a.data.toList=b.data.toList):a=b:=K9 (M7.1 h)
def At(s:BA)(i:Nat)(t:BA):Prop:=∃A R:List UInt8,s.data.toList=A++(t.data.toList++R)/\A.length=i
def At.l{s:BA}{i:Nat}{t u:BA}(h:At s i (t++u)):At s i t:=by
 obtain⟨A,R,h1,h2⟩:=h;exact⟨A,u.data.toList++R,by simp_all,h2⟩
def At.r{s:BA}{i:Nat}{t u:BA}(h:At s i (t++u)):At s (i+t.size) u:=by
 obtain⟨A,R,h1,h2⟩:=h;exact⟨A++t.data.toList,R,by simp_all,by simp_all⟩
def At.le{s:BA}{i:Nat}{t:BA}(h:At s i t):i+t.size<=s.size:=by
 obtain⟨A,R,h1,h2⟩:=h;grind [qK]
def At.zero(t u:BA):At (t++u) 0 t:=⟨[],u.data.toList,by simp_all,rr⟩
def At.aci(t:BA):At t 0 t:=⟨[],[],by simp_all,rr⟩
def At.behind(a t:BA):At (a++t) a.size t:=⟨a.data.toList,[],by simp_all,qK a⟩
theorem KW(n:UInt64):(av n).data.toList=Wi.put n.toNat:=rfl
theorem cv(n:UInt64):1<=(av n).size/\(av n).size<=10:=by grind [qK,KW,Wi.w_]
theorem gh(t:BA):(bQ t).size<=t.size+10/\t.size+1<=(bQ t).size:=by
 have h:=Wi.w_ t.size;have h2:(bQ t).size=(Wi.put t.size).length+t.size:=by
  show((⟨(Wi.put t.size).toArray⟩:BA)++t).size=_
  grind [qK,EG]
 omega
def At.num{s:BA}{i:Nat}{n:UInt64}(h:At s i (av n)):Wi.get s (i:Int)=(n.toNat,((i+(av n).size:Nat):Int),true):=by
 obtain⟨A,R,h1,rfl⟩:=h;rw[KW]at h1;rw[ant (tM n) h1];grind [qK,KW]
def At.ext{s:BA}{i:Nat}{t:BA}(h:At s i t):s.extract i (i+t.size)=t:=by
 obtain⟨A,R,h1,rfl⟩:=h;have:=akU (s:=s) (A:=A) (B:=[]) (R:=R) (t:=t) (by rw[h1];rfl);omega
def At.text{s:BA}{i:Nat}{t:BA}{m:Int}(h:At s i (bQ t))(b:t.size<18446744073709551616)(c:(t.size:Int)<=m):Wi.qc s (i:Int) m=(t,((i+(bQ t).size:Nat):Int),true):=by
 have a:At s i (av (UInt64.ofNat t.size))/\At s (i+(av (UInt64.ofNat t.size)).size) t:=by
  have e:bQ t=av (UInt64.ofNat t.size)++t:=by
   show(⟨(Wi.put t.size).toArray⟩:BA)++t=(⟨(Wi.put (UInt64.ofNat t.size).toNat).toArray⟩:BA)++t
   grind [qC]
  rw[e]at h;exact⟨h.l,h.r⟩
 have e:(bQ t).size=(av (UInt64.ofNat t.size)).size+t.size:=by
  show((⟨(Wi.put t.size).toArray⟩:BA)++t).size=_
  grind [av,qC]
 have h1:=a.1.num;rw[qC b]at h1;have d:=a.2.le;unfold Wi.qc;rw[h1];dsimp only;rw[z7 ⟨rr,om,c,om⟩,x8,a.2.ext,e,<-Int.natCast_add,B4]
def jV{α:Type}{f:BA->α->BA}{B:Nat}:∀{l:List α} {s:BA},(∀s,∀x∈l,(f s x).size<=s.size+B)->(l.foldl f s).size<=s.size+B*l.length
 | [],s,_=>by simp
 |x::l,s,h=>by
  have h1:=jV (f:=f) (B:=B) (l:=l) (s:=f s x) λs y a=>h s y (j3 _ a)
  grind [Nat.mul_succ]
def cD(a b:BA):(a++b).size=a.size+b.size:=by simp_all
theorem jW(v:V4):(cH v).size<=40:=by
 unfold cH;have:=cv v.a;have:=cv v.b;have:=cv v.c;have:=cv v.d;rw[cD,cD,cD,cD];show 0+_+_+_+_<=40
 omega
def Lh{ι:Type}{M nx:Nat}{ρ:Nat->Nat}{I:dM ι}{s s':AS}{q:ι}{U:List (Nat×PV)}{H:List (Nat×aI)}(a:I.eG q=U)(b:I.dE q=H)(h:ga M nx ρ ⟨λ_=>U,I.gd,λ_=>H,I.bx⟩ s q s'):ga M nx ρ I s q s':=by
 subst a b;exact⟨h.eG,h.gd,h.dE,h.bx,h.fix,h.dL,h.inj⟩
def ck.at{M nx:Nat}{I:dM Nat}{J:Nat->Prop}{s:AS}{i u q:Nat}{s':AS}{U:List (Nat×PV)}{H:List (Nat×aI)}(ρ:Nat->Nat)(a:J (q+1))(h:s'.bD i=some (i64 q))(b:I.eG (q+1)=U)(c:I.dE (q+1)=H)(hb:ga M nx ρ ⟨λ_=>U,I.gd,λ_=>H,I.bx⟩ s (q+1) ⟨da (da s'.bD u (some (i64 (q+1:Nat)))) i (some (i64 (q+1:Nat))),s'.hp⟩):ck M nx I J s i u q s':=.is ρ a h (Lh b c hb)
def dM.of{σ:Type}(F:Nat->σ)(U:σ->List (Nat×PV))(gd:List Nat)(H:σ->List (Nat×aI))(bx:List Nat):dM Nat:=⟨λq=>U (F q),gd,λq=>H (F q),bx⟩
def cE{σ:Type}{F:Nat->σ}{U:σ->List (Nat×PV)}{gd:List Nat}{H:σ->List (Nat×aI)}{bx:List Nat}{s:AS}{i c q:Nat}{b:Bool}{v:σ}(h:F q=v):pz (dM.of F U gd H bx) s i c q b=pz (dM.of (λ_=>v) U gd H bx) s i c q b:=by
 subst h;rfl
theorem ck.of{M nx:Nat}{σ:Type}{F:Nat->σ}{U:σ->List (Nat×PV)}{gd:List Nat}{H:σ->List (Nat×aI)}{bx:List Nat}{J:Nat->Prop}{s:AS}{i u q:Nat}{s':AS}{v:σ}(ρ:Nat->Nat)(hv:F (q+1)=v)(a:J (q+1))(h:s'.bD i=some (i64 q))(hb:ga M nx ρ (dM.of (λ_=>v) U gd H bx) s (q+1) ⟨da (da s'.bD u (some (i64 (q+1:Nat)))) i (some (i64 (q+1:Nat))),s'.hp⟩):ck M nx (dM.of F U gd H bx) J s i u q s':=.is ρ a h (Lh (congrArg U hv) (congrArg H hv) hb)
def cw{α:Type}{l:List α}{k:Nat}(h:k<l.length):∃x,l[k]? = some x:=⟨_,j8 h⟩
def fW{α:Type}{l:List α}{q:Nat}{x:α}(h:l[q]? = some x):l.take (q+1)=l.take q++[x]:=by rw[L6,h];rfl
def sw(a b:Nat)(i:Nat):Nat:=match Nat.beq i a with|true=>b|false=>i
def eE{α:Type}{f:α->PV}{k:Nat}(h:iE f k)(l:List α)(x:α)(a:l.length<67108864):ph (l.map f) [f x] k/\l.length=(l.map f).length:=
 ⟨⟨by rw[c8];exact a,(h.rows l).k,h.rows [x]⟩,(c8 ..).symm⟩
end
section
open Go.Shelf Go.RowKit Go.Proofs.Tryz
def ann:Go.Shelf.Ren:=⟨fun|6=>274|8=>213|n=>n,fun|0=>0|3=>3|4=>4|22=>241|23=>243|25=>315|n=>n,λn=>n⟩
def ahP:SlLaysH0.n8 prog ann:={
 mixed:=by kernel_rfl
 f6:=Exists.intro "slices.IndexFunc[[]demesne/word.span,demesne/word.span]" ⟨by kernel_rfl,func274.trans (congrArg some (by kernel_rfl))⟩
 f8:=Exists.intro "slices.ContainsFunc[[]demesne/word.span,demesne/word.span]" ⟨by kernel_rfl,func213.trans (congrArg some (by kernel_rfl))⟩
 t0:=underlying0
 a0:=isAgg0
 z0:=sizeOf0
 v0:=zeroValue0
 t3:=underlying3
 a3:=isAgg3
 z3:=sizeOf3
 v3:=zeroValue3
 t4:=underlying4
 a4:=isAgg4
 z4:=sizeOf4
 v4:=zeroValue4
 t22:=underlying241
 a22:=isAgg241
 z22:=sizeOf241
 v22:=zeroValue241
 t25:=underlying315
 a25:=isAgg315
 z25:=sizeOf315
 v25:=zeroValue315
 }
structure fT where
 k:Int
 n:Nat
instance:Inhabited fT:=⟨⟨0,0⟩⟩
def fT.cells(c:fT):List Value:=[.int .i64 c.k,.int .u64 (c.n:Int)]
def fT.val(c:fT):Value:=.agg c.cells.toArray
def yY(w:World)(b o:Nat)(c:fT):Prop:=w.cell? ⟨b,o,none⟩=some (.int .i64 c.k)/\w.cell? ⟨b,o+1,none⟩=some (.int .u64 (c.n:Int))
def pn(w:World)(v:Value)(l:List fT):Prop:=
 (v=.slice none 0 0/\l=[])\/(∃ad c,v=.slice (some ad) 0 c/\l=[])\/∃b off cap,v=.slice (some ⟨b,off,none⟩) l.length cap/\b<w.heap.size/\∀j (h:j<l.length),yY w b (off+j*2) l[j]
theorem pn.below{w w':World}{B:Nat}{v:Value}{l:List fT}(h:pn w v l)(hb:Below B w w')(c:w.heap.size<=B):pn w' v l:=by
 rcases h with h|h|⟨b,off,cap,e,a,d⟩
 ·exact .inl h
 ·exact .inr (.inl h)
 ·exact .inr (.inr ⟨b,off,cap,e,u9 a hb.size,λj f=>⟨(hb.cell (p:=⟨b,off+j*2,none⟩) (u9 a c)).trans (d j f).1,(hb.cell (p:=⟨b,off+j*2+1,none⟩) (u9 a c)).trans (d j f).2⟩⟩)
def pn.form{w:World}{v:Value}{l:List fT}(h:pn w v l):∃a cap,v=.slice a l.length cap:=by
 rcases h with⟨rfl,rfl⟩|⟨a,c,rfl,rfl⟩|⟨b,off,cap,rfl,_⟩
 ·exact⟨_,_,rr⟩
 ·exact⟨_,_,rr⟩
 ·exact⟨_,_,rr⟩
def pn.nil(w:World):pn w (.slice none 0 0) []:=.inl ⟨rr,rr⟩
end
end Go.Proofs.YtbnonpbnhenkfaaGreatDoor
