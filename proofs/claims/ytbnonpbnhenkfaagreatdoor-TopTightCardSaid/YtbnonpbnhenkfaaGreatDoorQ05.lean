/- Part 5 of the proof; the last part says what is proved. -/
import Derived.Test.YtbnonpbnhenkfaaGreatDoorQ04
import Derived.Deep.RegionHeld3
import Derived.Deep.DeepCutAuto
import Derived.Deep.MidRow
import Derived.Shelf.Strings.Builder1
import Derived.Shelf.Strings.Builder2
import Derived.Shelf.Strings.BuilderF
import Derived.Shelf.Strings.BuilderK
import Derived.Shelf.Strings.Builder2Cap
import Derived.Shelf.Strings.Prefix
import Derived.Shelf.Strings.Repeat
import Derived.Shelf.Strings.BuilderCap
import Derived.Test.YtbnonpbnhenkfaaGreatDoorProg
import Derived.Lib.BufferWrite
import Derived.Lib.Strings
import Derived.Lib.MinMax
import Derived.Shelf.SlicesQ.IndexFunc
set_option linter.all false
set_option maxRecDepth 1000000
set_option maxHeartbeats 8000000
section
namespace Go.Proofs.YtbnonpbnhenkfaaGreatDoor
open Go.RowKit
def cV(b:List UInt8):List Value:=b.map fun x=>.int .u8 (x.toNat:Int)
def eE(l:List Nat):List Value:=l.map fun x:Nat=>.int .u32 (x:Int)
namespace Sh
theorem pp(b:List UInt8):∀k,(lc b k).length=k
 |0=>rfl
 |k+1=>by rw[lc,uP,aap,pp b k];rfl
def fw(b:List UInt8)(i:Nat):List Nat:=lc b i++List.replicate (64-i) 0
theorem N6(b:List UInt8){i:Nat}(h:i≤64):(fw b i).length=64:=by unfold fw;rw[aap,pp,abh];omega
theorem G5(b:List UInt8){i:Nat}(h:i<64)(x:Nat)(hx:x=if i<16 then word b i else made (lc b i) i):(fw b i).set i x=fw b (i+1):=by
 unfold fw;rw[List.set_append_right _ _ (by rw[pp];omega),pp,acn,lc,uP,pp,← hx];obtain⟨m,hm⟩:∃m,64-i=m+1:=⟨63-i,by omega⟩;rw[hm,show 64-(i+1)=m by omega,List.replicate_succ,List.set_cons_zero,abd];rfl
theorem wJ(b:List UInt8){i j:Nat}(h:j<i):(fw b i).getD j 0=(lc b i).getD j 0:=by
 unfold fw;rw[aba,aba,abt (by rw[pp];exact h)]
theorem add_lt(a b:Nat):add a b<4294967296:=acM _ (by decide)
theorem VT{a b c d:Nat}(ha:a<256)(hb:b<256)(hc:c<256)(hd:d<256):four a b c d<4294967296:=by
 unfold four;exact acE (n:=32) (acE (n:=32) (acE (n:=32) (by omega) (by omega)) (by omega)) (by omega)
theorem Es(b:List UInt8):∀k,∀x∈lc b k,x<4294967296
 |0=>by simp[lc]
 |k+1=>by
  intro x hx
  rw[lc,uP]at hx
  rcases aaN.1 hx with h|h
  ·exact Es b k x h
  ·simp only[aaD]at h
   subst h
   split
   ·exact VT (acf _) (acf _) (acf _) (acf _)
   ·exact add_lt _ _
theorem sf(b:List UInt8)(i j:Nat):(fw b i).getD j 0<4294967296:=by
 rw[aba];cases h:(fw b i)[j]? with
 |none=>simp
 |some x=>
  have hm:x∈fw b i:=aau h;unfold fw at hm;rcases aaN.1 hm with h1|h1
  ·exact Es b i x h1
  ·have:=abK h1;subst this;simp
end Sh
theorem qu{b:List UInt8}{j:Nat}(h:j<b.length):(cV b)[j]? = some (.int .u8 ((b.getD j 0).toNat:Int)):=by
 unfold cV;rw[aaT,aay h,aba,aay h];rfl
theorem mN{l:List Nat}{j:Nat}(h:j<l.length):(eE l)[j]? = some (.int .u32 ((l.getD j 0:Nat):Int)):=by
 unfold eE;rw[aaT,aay h,aba,aay h];rfl
theorem IK(l:List Nat)(j x:Nat):(eE l).set j (.int .u32 (x:Int))=eE (l.set j x):=by unfold eE;rw[List.map_set]
theorem xh(l:List Nat):(eE l).length=l.length:=by simp[eE]
theorem Row.range{w:World}{b:Nat}{l:List Value}(h:Row w b l):w.rangeAt b 0 l:=fun j v e=>by rw[aav];exact(h j v e).1
theorem Row.there{w:World}{b:Nat}{l:List Value}(h:Row w b l):w.there b 0 l.length:=fun j hj=>by
 rw[aav]
 have:=h j _ (aay hj)
 exact⟨by rw[this.1];rfl,this.2⟩
theorem qT{B b:Nat}{w:World}:∀{x:World} (l:List Value) (o:Nat),B≤b→Below B w x→Below B w (x.setCells b o l)
 |_,[],_,_,h=>h
 |_,v::l,o,hb,h=>qT l (o+1) hb (h.setCell (p:=⟨b,o,none⟩) hb v)
theorem DM{fn:Func}{p:Tmp}{ty:TypeId}(h:fn.results=#[.cell p ty])(tmps:Array Value)(P:Program)(w:World)(a:Addr)(v:Value)(ha:tmps.getD p undef=.pointer (some a))(hl:(loadVar ty a).run P w=.ok v w):
 (results fn tmps).run P w=.ok v w:=by
 simp only[results,h]
 have ha':tmps[p]?.getD undef=.pointer (some a):=by simpa using ha
 simp[ha',asAddr,hl]
structure Ws(w x:World)(b:List UInt8)(l:List Nat):Prop where
 r0:Row x w.heap.size (cV b)
 r1:Row x (w.heap.size+1) (List.replicate 64 (.int .u32 0))
 r2:Row x (w.heap.size+1+1) (eE l)
 b:Below w.heap.size w x
 lt:w.heap.size+1+1<x.heap.size
theorem Ws.drew{w x:World}{b:List UInt8}{l:List Nat}(h:Ws w x b l):Ws w x.drew b l:=⟨h.r0,h.r1,h.r2,h.b.drew,h.lt⟩
theorem Ws.set{w x:World}{b:List UInt8}{l:List Nat}(h:Ws w x b l)(i v:Nat)(hi:i<l.length):Ws w (x.setCell ⟨w.heap.size+1+1,i,none⟩ (.int .u32 (v:Int))) b (l.set i v):=
 ⟨h.r0.other _ (by omega),h.r1.other _ (by omega),by rw[← IK];exact h.r2.set i _ (by rw[xh];exact hi),h.b.setCell (p:=⟨w.heap.size+1+1,i,none⟩) (by show w.heap.size≤w.heap.size+1+1;omega) _,by simpa using h.lt⟩
theorem P_{w:World}{b0 b1 b2 b3 b o0 o1 o2 o3 o:Nat}{a0 a1 a2 a3 v:Value}(h0:b≠b0)(h1:b≠b1)(h2:b≠b2)(h3:b≠b3)(h:w.cell? ⟨b0,o0,none⟩=some a0∧w.cell? ⟨b1,o1,none⟩=some a1∧w.cell? ⟨b2,o2,none⟩=some a2∧w.cell? ⟨b3,o3,none⟩=some a3):
 (w.setCell ⟨b,o,none⟩ v).cell? ⟨b0,o0,none⟩=some a0∧(w.setCell ⟨b,o,none⟩ v).cell? ⟨b1,o1,none⟩=some a1∧(w.setCell ⟨b,o,none⟩ v).cell? ⟨b2,o2,none⟩=some a2∧(w.setCell ⟨b,o,none⟩ v).cell? ⟨b3,o3,none⟩=some a3:=
 ⟨(World.cell?_setCell_other _ _ _ _ (by intro e;cases e;exact h0 rfl)).trans h.1,(World.cell?_setCell_other _ _ _ _ (by intro e;cases e;exact h1 rfl)).trans h.2.1,(World.cell?_setCell_other _ _ _ _ (by intro e;cases e;exact h2 rfl)).trans h.2.2.1,(World.cell?_setCell_other _ _ _ _ (by intro e;cases e;exact h3 rfl)).trans h.2.2.2⟩
theorem Vr{w:World}{b0 b1 b2 b3 b o0 o1 o2 o3 o:Nat}{a0 a1 a2 a3 v:Value}(h0:b≠b0)(h1:b≠b1)(h2:b≠b2)(h3:b≠b3)(h:w.cell? ⟨b0,o0,none⟩=some a0∧w.cell? ⟨b1,o1,none⟩=some a1∧w.cell? ⟨b2,o2,none⟩=some a2∧w.cell? ⟨b3,o3,none⟩=some a3):
 (w.setCell ⟨b,o,none⟩ v).drew.cell? ⟨b0,o0,none⟩=some a0∧(w.setCell ⟨b,o,none⟩ v).drew.cell? ⟨b1,o1,none⟩=some a1∧(w.setCell ⟨b,o,none⟩ v).drew.cell? ⟨b2,o2,none⟩=some a2∧(w.setCell ⟨b,o,none⟩ v).drew.cell? ⟨b3,o3,none⟩=some a3:=P_ h0 h1 h2 h3 h
theorem YN{a b c d:Nat}(ha:a<256)(hb:b<256)(hc:c<256)(hd:d<256):
 bits .or .u32 (bits .or .u32 (bits .or .u32 ((a:Int)*16777216) ((b:Int)*65536)) ((c:Int)*256)) (d:Int)=((Sh.four a b c d:Nat):Int):=by
 have h1:a*16777216 ||| b*65536<2^32:=acE (by omega) (by omega)
 have h2:a*16777216 ||| b*65536 ||| c*256<2^32:=acE h1 (by omega)
 rw[show(a:Int)*16777216=((a*16777216:Nat):Int)by omega,show(b:Int)*65536=((b*65536:Nat):Int)by omega,show(c:Int)*256=((c*256:Nat):Int)by omega,
  u32_or_nat _ _ (by omega) (by omega),u32_or_nat _ _ (by omega) (by omega),u32_or_nat _ _ (by omega) (by omega)]
 rfl
theorem Ty{w:World}{b o0 o1 o:Nat}{a0 a1 v:Value}(h0:o0≠o)(h1:o1≠o)(h:w.cell? ⟨b,o0,none⟩=some a0∧w.cell? ⟨b,o1,none⟩=some a1):
 (w.setCell ⟨b,o,none⟩ v).drew.drew.cell? ⟨b,o0,none⟩=some a0∧(w.setCell ⟨b,o,none⟩ v).drew.drew.cell? ⟨b,o1,none⟩=some a1:=
 ⟨(World.cell?_setCell_other _ _ _ _ (by intro e;cases e;exact h0 rfl)).trans h.1,(World.cell?_setCell_other _ _ _ _ (by intro e;cases e;exact h1 rfl)).trans h.2⟩
theorem pi(a b:Nat):IntKind.u32.wrap ((a:Int)+(b:Int))=((Sh.add a b:Nat):Int):=by unfold Sh.add;rw[IntKind.wrap_u32];omega
theorem Sh.tP(x n:Nat)(hx:x<4294967296):Sh.dN x n<4294967296:=by
 unfold Sh.dN;have h3:x / 2^n≤x:=adv _ _;exact acE (n:=32) (acM _ (by decide)) (by omega)
theorem s9{a b c:Nat}(ha:a<4294967296)(hb:b<4294967296)(hc:c<4294967296):bits .xor .u32 (bits .xor .u32 (a:Int) (b:Int)) (c:Int)=((a ^^^ b ^^^ c:Nat):Int):=by rw[u32_xor_nat _ _ ha hb,u32_xor_nat _ _ (acR (n:=32) ha hb) hc]
theorem Q9(p q x y r7 r18 r17 r19:Nat)(lx:x<4294967296)(ly:y<4294967296)(h7:Sh.dN x 7=r7)(h18:Sh.dN x 18=r18)(h17:Sh.dN y 17=r17)(h19:Sh.dN y 19=r19):
 IntKind.u32.wrap (IntKind.u32.wrap (IntKind.u32.wrap ((p:Int)+bits .xor .u32 (bits .xor .u32 (r7:Int) (r18:Int)) ((x:Int) / 8))+(q:Int))+bits .xor .u32 (bits .xor .u32 (r17:Int) (r19:Int)) ((y:Int) / 1024))=
  ((Sh.add (Sh.add (Sh.add p (Sh.sN x)) q) (Sh.tq y):Nat):Int):=by
 rw[show(x:Int) / 8=((x / 8:Nat):Int)by omega,show(y:Int) / 1024=((y / 1024:Nat):Int)by omega,
  s9 (by rw[← h7];exact Sh.tP _ _ lx) (by rw[← h18];exact Sh.tP _ _ lx) (by omega),
  s9 (by rw[← h17];exact Sh.tP _ _ ly) (by rw[← h19];exact Sh.tP _ _ ly) (by omega),pi,pi,pi]
 unfold Sh.sN Sh.tq
 rw[h7,h18,h17,h19]
theorem Z6(b:List UInt8)(w:World)(hb:b.length=64):
 Calls Tryz.prog 272 #[.agg (cV b).toArray] w fun e w'=>e=.returned (.agg (eE (Sh.words b)).toArray)∧Below w.heap.size w w':=by
 have HBL:=Lib.hid hb;clear hb
 go_enter Tryz.func272,Tryz.ntmps272
 go_wp2_with fail
 go_loopw [7] (fun v wr=>∃i:Nat,i≤64∧v=.int .i64 (i:Int)∧Ws w wr b (Sh.fw b i)) (fun v _=>64-(intOf v).toNat)
 case atStart=>
  refine⟨0,by omega,rfl,?_,?_,?_,?_,?_⟩
  ·exact Row.alloc (Row.alloc (Row.at rfl (by simp)) (by simp) _) (by simp<;>omega) _
  ·exact Row.alloc (Row.at (by simp) rfl) (by simp) _
  ·exact Row.at (by simp) rfl
  ·go_grown
  ·simp
 case round=>
  obtain⟨i,hi,rfl,hW⟩:=hrel
  have HW:=Lib.hid hW;clear hW
  by_cases h64:i<64
  ·have h64':(i:Int)<64:=by omega
   have hi0:(0:Int)≤(i:Int):=by omega
   have hl:=Sh.N6 b hi
   by_cases h16:i<16
   ·have h16':(i:Int)<16:=by omega
    obtain⟨c0,_⟩:=HW.out.r0 (4*i) _ (qu (by rw[HBL.out];omega))
    obtain⟨c1,_⟩:=HW.out.r0 (4*i+1) _ (qu (by rw[HBL.out];omega))
    obtain⟨c2,_⟩:=HW.out.r0 (4*i+2) _ (qu (by rw[HBL.out];omega))
    obtain⟨c3,_⟩:=HW.out.r0 (4*i+3) _ (qu (by rw[HBL.out];omega))
    obtain⟨d0,f0⟩:=HW.out.r2 i _ (mN (by rw[hl];exact h64))
    obtain⟨p0,hp0⟩:∃p,4*i=p:=⟨_,rfl⟩
    obtain⟨p1,hp1⟩:∃p,4*i+1=p:=⟨_,rfl⟩
    obtain⟨p2,hp2⟩:∃p,4*i+2=p:=⟨_,rfl⟩
    obtain⟨p3,oc⟩:∃p,4*i+3=p:=⟨_,rfl⟩
    rw[hp0]at c0
    rw[hp1]at c1
    rw[hp2]at c2
    rw[oc]at c3
    have q0:IntKind.i64.wrap (4*(i:Int))=(p0:Int):=by rw[IntKind.wrap_i64];omega
    have q1:IntKind.i64.wrap ((p0:Int)+1)=(p1:Int):=by rw[IntKind.wrap_i64];omega
    have q2:IntKind.i64.wrap ((p0:Int)+2)=(p2:Int):=by rw[IntKind.wrap_i64];omega
    have q3:IntKind.i64.wrap ((p0:Int)+3)=(p3:Int):=by rw[IntKind.wrap_i64];omega
    have b0:(0:Int)≤(p0:Int)∧(p0:Int)<64:=by omega
    have b1:(0:Int)≤(p1:Int)∧(p1:Int)<64:=by omega
    have b2:(0:Int)≤(p2:Int)∧(p2:Int)<64:=by omega
    have b3:(0:Int)≤(p3:Int)∧(p3:Int)<64:=by omega
    obtain⟨b0,b0'⟩:=b0
    obtain⟨b1,b1'⟩:=b1
    obtain⟨b2,b2'⟩:=b2
    obtain⟨b3,b3'⟩:=b3
    have HP:=Lib.hid (⟨hp0,hp1,hp2,oc⟩:_∧_∧_∧_)
    clear hp0 hp1 hp2 oc
    have hword:Sh.word b i=Sh.four (b.getD p0 0).toNat (b.getD p1 0).toNat (b.getD p2 0).toNat (b.getD p3 0).toNat:=by
     unfold Sh.word;rw[HP.out.2.1,HP.out.2.2.1,HP.out.2.2.2,HP.out.1]
    have y0:=acf (b.getD p0 0)
    have y1:=acf (b.getD p1 0)
    have y2:=acf (b.getD p2 0)
    have y3:=acf (b.getD p3 0)
    generalize(b.getD p0 0).toNat=x0 at c0 hword y0
    generalize(b.getD p1 0).toNat=x1 at c1 hword y1
    generalize(b.getD p2 0).toNat=x2 at c2 hword y2
    generalize(b.getD p3 0).toNat=x3 at c3 hword y3
    have e0:IntKind.u32.wrap (x0:Int)=(x0:Int):=by rw[IntKind.wrap_u32];omega
    have e1:IntKind.u32.wrap (x1:Int)=(x1:Int):=by rw[IntKind.wrap_u32];omega
    have e2:IntKind.u32.wrap (x2:Int)=(x2:Int):=by rw[IntKind.wrap_u32];omega
    have e3:IntKind.u32.wrap (x3:Int)=(x3:Int):=by rw[IntKind.wrap_u32];omega
    have k0:IntKind.u32.wrap ((x0:Int)*16777216)=(x0:Int)*16777216:=by rw[IntKind.wrap_u32];omega
    have k1:IntKind.u32.wrap ((x1:Int)*65536)=(x1:Int)*65536:=by rw[IntKind.wrap_u32];omega
    have k2:IntKind.u32.wrap ((x2:Int)*256)=(x2:Int)*256:=by rw[IntKind.wrap_u32];omega
    have HV:=Lib.hid (YN y0 y1 y2 y3)
    have HN:=Lib.hid (Sh.G5 b h64 (Sh.four x0 x1 x2 x3) (by rw[abb h16,hword]))
    clear y0 y1 y2 y3 hword
    go_upto_region 6 with fail
    go_cut [41] (fun _ wx=>Ws w wx b (Sh.fw b (i+1)))
    case first=>
     go_region_held3 (fun w'=>w'.cell? ⟨w.heap.size,p0,none⟩=some (.int .u8 (x0:Int))∧w'.cell? ⟨w.heap.size,p1,none⟩=some (.int .u8 (x1:Int))∧w'.cell? ⟨w.heap.size,p2,none⟩=some (.int .u8 (x2:Int))∧w'.cell? ⟨w.heap.size,p3,none⟩=some (.int .u8 (x3:Int)))
      (first|(exact⟨c0,c1,c2,c3⟩)|(exact Vr (show w.heap.size+1+1≠w.heap.size by omega) (show w.heap.size+1+1≠w.heap.size by omega) (show w.heap.size+1+1≠w.heap.size by omega) (show w.heap.size+1+1≠w.heap.size by omega) ⟨c0,c1,c2,c3⟩)) (fail)
     all_goals (go_wp2_with fail;go_meet;rw[HV.out,← HN.out];exact(HW.out.set i _ (by rw[hl];exact h64)).drew)
    case rest=>
     have HW2:=Lib.hid hcut;clear hcut
     clear HW HP HV HN c0 c1 c2 c3 d0 f0 q0 q1 q2 q3 b0 b0' b1 b1' b2 b2' b3 b3' e0 e1 e2 e3 k0 k1 k2
     go_wp2_with fail
     go_roundw
     case rel=>exact⟨i+1,by omega,by go_num,HW2.out⟩
     case measure=>simp[intOf];omega
   ·have h16':¬(i:Int)<16:=by omega
    obtain⟨d0,f0⟩:=HW.out.r2 i _ (mN (by rw[hl];exact h64))
    obtain⟨n15,m15⟩:∃n,i-15=n:=⟨_,rfl⟩
    obtain⟨n2,m2⟩:∃n,i-2=n:=⟨_,rfl⟩
    obtain⟨n16,m16⟩:∃n,i-16=n:=⟨_,rfl⟩
    obtain⟨n7,m7⟩:∃n,i-7=n:=⟨_,rfl⟩
    obtain⟨c15,_⟩:=HW.out.r2 n15 _ (mN (by rw[hl];omega))
    obtain⟨c2,_⟩:=HW.out.r2 n2 _ (mN (by rw[hl];omega))
    obtain⟨c16,_⟩:=HW.out.r2 n16 _ (mN (by rw[hl];omega))
    obtain⟨c7,_⟩:=HW.out.r2 n7 _ (mN (by rw[hl];omega))
    have hmade:Sh.made (Sh.lc b i) i=Sh.add (Sh.add (Sh.add ((Sh.fw b i).getD n16 0) (Sh.sN ((Sh.fw b i).getD n15 0))) ((Sh.fw b i).getD n7 0)) (Sh.tq ((Sh.fw b i).getD n2 0)):=by
     unfold Sh.made
     rw[m15,m2,m16,m7,Sh.wJ b (by omega),Sh.wJ b (by omega),Sh.wJ b (by omega),Sh.wJ b (by omega)]
    have l15:=Sh.sf b i n15
    have l2:=Sh.sf b i n2
    have l16:=Sh.sf b i n16
    have l7:=Sh.sf b i n7
    generalize(Sh.fw b i).getD n15 0=x at c15 hmade l15
    generalize(Sh.fw b i).getD n2 0=y at c2 hmade l2
    generalize(Sh.fw b i).getD n16 0=p at c16 hmade l16
    generalize(Sh.fw b i).getD n7 0=q at c7 hmade l7
    have q15:IntKind.i64.wrap ((i:Int)-15)=(n15:Int):=by rw[IntKind.wrap_i64];omega
    have q2:IntKind.i64.wrap ((i:Int)-2)=(n2:Int):=by rw[IntKind.wrap_i64];omega
    have q16:IntKind.i64.wrap ((i:Int)-16)=(n16:Int):=by rw[IntKind.wrap_i64];omega
    have q7:IntKind.i64.wrap ((i:Int)-7)=(n7:Int):=by rw[IntKind.wrap_i64];omega
    have b15:(0:Int)≤(n15:Int):=by omega
    have b15':(n15:Int)<64:=by omega
    have b2:(0:Int)≤(n2:Int):=by omega
    have b2':(n2:Int)<64:=by omega
    have b16:(0:Int)≤(n16:Int):=by omega
    have b16':(n16:Int)<64:=by omega
    have b7:(0:Int)≤(n7:Int):=by omega
    have b7':(n7:Int)<64:=by omega
    have hne16:n16≠i:=by omega
    have hne7:n7≠i:=by omega
    obtain⟨r7,hr7⟩:∃r,Sh.dN x 7=r:=⟨_,rfl⟩
    have T7:=Lib.hid (fun w=>show Calls Tryz.prog 273 #[.int .u32 (x:Int),.int .i64 7] w fun e w'=>e=.returned (.int .u32 (r7:Int))∧w=w' from by have:=nF x 7 w l15 (by omega) (by omega);rw[hr7]at this;exact this)
    obtain⟨r18,hr18⟩:∃r,Sh.dN x 18=r:=⟨_,rfl⟩
    have T18:=Lib.hid (fun w=>show Calls Tryz.prog 273 #[.int .u32 (x:Int),.int .i64 18] w fun e w'=>e=.returned (.int .u32 (r18:Int))∧w=w' from by have:=nF x 18 w l15 (by omega) (by omega);rw[hr18]at this;exact this)
    obtain⟨r17,hr17⟩:∃r,Sh.dN y 17=r:=⟨_,rfl⟩
    have T17:=Lib.hid (fun w=>show Calls Tryz.prog 273 #[.int .u32 (y:Int),.int .i64 17] w fun e w'=>e=.returned (.int .u32 (r17:Int))∧w=w' from by have:=nF y 17 w l2 (by omega) (by omega);rw[hr17]at this;exact this)
    obtain⟨r19,hr19⟩:∃r,Sh.dN y 19=r:=⟨_,rfl⟩
    have T19:=Lib.hid (fun w=>show Calls Tryz.prog 273 #[.int .u32 (y:Int),.int .i64 19] w fun e w'=>e=.returned (.int .u32 (r19:Int))∧w=w' from by have:=nF y 19 w l2 (by omega) (by omega);rw[hr19]at this;exact this)
    have HV:=Lib.hid (Q9 p q x y r7 r18 r17 r19 l15 l2 hr7 hr18 hr17 hr19)
    have HN:=Lib.hid (Sh.G5 b h64 _ (by rw[abg h16,hmade]))
    clear hmade l15 l2 l16 l7
    clear m15 m2 m16 m7 h16 hr7 hr18 hr17 hr19
    go_upto_region 7 with fail
    go_region_held3 (fun w'=>w'.cell? ⟨w.heap.size+1+1,n15,none⟩=some (.int .u32 (x:Int))∧w'.cell? ⟨w.heap.size+1+1,n2,none⟩=some (.int .u32 (y:Int))) (exact⟨c15,c2⟩) (fail)
    go_upto_region 8 with fail
    go_region_held3 (fun w'=>w'.cell? ⟨w.heap.size+1+1,n16,none⟩=some (.int .u32 (p:Int))∧w'.cell? ⟨w.heap.size+1+1,n7,none⟩=some (.int .u32 (q:Int)))
     (first|(exact⟨c16,c7⟩)|(exact Ty hne16 hne7 ⟨c16,c7⟩))
     ((first|(go_at_call 273;((with_reducible refine(T7.out _).mono ?_);rintro e u ⟨rfl,rfl⟩))|(go_at_call 273;((with_reducible refine(T18.out _).mono ?_);rintro e u ⟨rfl,rfl⟩))|(go_at_call 273;((with_reducible refine(T17.out _).mono ?_);rintro e u ⟨rfl,rfl⟩))|(go_at_call 273;((with_reducible refine(T19.out _).mono ?_);rintro e u ⟨rfl,rfl⟩))))
    clear c15 c2 c16 c7 q15 q2 q16 q7 b15 b15' b2 b2' b16 b16' b7 b7' d0 f0
    rw[HV.out]
    have hW2:=((HW.out.set i (Sh.add (Sh.add (Sh.add p (Sh.sN x)) q) (Sh.tq y)) (by rw[hl];exact h64)).drew).drew
    rw[HN.out]at hW2
    have HW2:=Lib.hid hW2;clear hW2
    go_wp2_with fail
    go_roundw
    case rel=>exact⟨i+1,by omega,by go_num,HW2.out⟩
    case measure=>simp[intOf];omega
  ·obtain rfl:i=64:=by omega
   have h64':¬((64:Nat):Int)<64:=by omega
   have hp:Sh.fw b 64=Sh.words b:=by unfold Sh.fw Sh.words;simp
   have hW:=HW.out
   rw[hp]at hW
   have hlw:(eE (Sh.words b)).length=64:=by rw[xh];exact Sh.pp b 64
   have hone:∀v∈eE (Sh.words b),v.oneCell'=true:=by
    intro v hv
    obtain⟨x,_,rfl⟩:=abc.1 hv
    rfl
   have hrange:wr.rangeAt (w.heap.size+1+1) 0 (eE (Sh.words b)):=hW.r2.range
   have hthere:wr.there (w.heap.size+1) 0 (eE (Sh.words b)).toArray.size:=by
    have hs64:(eE (Sh.words b)).toArray.size=64:=by simp[hlw]
    rw[hs64];simpa using hW.r1.there
   have hB:=hW.b
   have hlt:=hW.lt
   clear HW hp
   obtain⟨L,hLe⟩:∃L,eE (Sh.words b)=L:=⟨_,rfl⟩
   rw[hLe]at hlw hone hrange hthere
   have HLE:=Lib.hid hLe;clear hLe
   have hall:=all_oneCell_toArray hone
   have hsz:(Tryz.prog.info? 380).map (·.size)=some L.length:=by rw[hlw];kernel_rfl
   have hsz2:(Tryz.prog.info? 380).map (·.size)=some L.toArray.size:=by rw[abv];exact hsz
   have HX:=Lib.hid (⟨hlw,hone,hrange,hthere⟩:_∧_∧_∧_)
   have HB:=Lib.hid hB
   have HSZ:=Lib.hid hsz
   have HSZ2:=Lib.hid hsz2
   have HALL:=Lib.hid hall
   clear hlw hone hrange hthere hB hsz hsz2 hall hW
   go_upto_region 10 with fail
   go_wp2_with (first
    |(refine wpList_load_mid rfl 380 _ rfl (w.heap.size+1+1) 0 rfl L _ HX.out.2.2.1 Tryz.underlying380 rfl HSZ.out ?_)
    |(refine wpList_store_mid rfl 380 _ _ rfl (w.heap.size+1) 0 L.toArray rfl rfl HX.out.2.2.2 HSZ2.out HALL.out ?_))
   have hth:wr.there (w.heap.size+1) 0 L.length:=by have:=HX.out.2.2.2;rwa [abv]at this
   have hload:=run_loadVar_mid (P:=Tryz.prog) (wr.setCells (w.heap.size+1) 0 L) (w.heap.size+1) 0 380 L _ (World.rangeAt_setCells_same wr (w.heap.size+1) 0 L hth) Tryz.underlying380 rfl HSZ.out
   have hbel:=qT L 0 (show w.heap.size≤w.heap.size+1 by omega) HB.out
   generalize wr.setCells (w.heap.size+1) 0 L=wz at hload hbel⊢
   exact bodyPost_ret (DM Tryz.results272 _ _ _ _ _ rfl hload) rfl<|⟨by rw[HLE.out],hbel⟩
end Go.Proofs.YtbnonpbnhenkfaaGreatDoor
end
namespace Go.Proofs.YtbnonpbnhenkfaaGreatDoor
section
open Go.RowKit
def fk(v:Sh.V):List Value:=eE [v.a,v.b,v.c,v.d,v.e,v.f,v.g,v.h]
def t_(v:Sh.V):Value:=.agg #[.int .u32 (v.a:Int),.int .u32 (v.b:Int),.int .u32 (v.c:Int),.int .u32 (v.d:Int),.int .u32 (v.e:Int),.int .u32 (v.f:Int),.int .u32 (v.g:Int),.int .u32 (v.h:Int)]
structure Sh.V.ok(v:Sh.V):Prop where
 a:v.a<4294967296
 b:v.b<4294967296
 c:v.c<4294967296
 d:v.d<4294967296
 e:v.e<4294967296
 f:v.f<4294967296
 g:v.g<4294967296
 h:v.h<4294967296
theorem Sh.Sd{v:Sh.V}(k w:Nat)(h:v.ok):(Sh.uf k w v).ok:=⟨Sh.add_lt _ _,h.a,h.b,h.c,Sh.add_lt _ _,h.e,h.f,h.g⟩
theorem Sh.ID{v:Sh.V}(w:List Nat)(h:v.ok):∀k,(Sh.rounds w v k).ok
 |0=>h
 |k+1=>Sh.Sd _ _ (Sh.ID w h k)
theorem Sh.Mu(v h:Sh.V):(Sh.plus v h).ok:=⟨Sh.add_lt _ _,Sh.add_lt _ _,Sh.add_lt _ _,Sh.add_lt _ _,Sh.add_lt _ _,Sh.add_lt _ _,Sh.add_lt _ _,Sh.add_lt _ _⟩
theorem Sh.TX(h:Sh.V)(b:List UInt8):(Sh.block h b).ok:=Sh.Mu _ _
theorem TB(L:List Nat)(hL:L.length=64)(i:Nat)(hi:i<64)(w:World):(Instr.index 380 (.agg (eE L).toArray) (.int .i64 (i:Int))).run Tryz.prog w=.ok (.int .u32 ((L.getD i 0:Nat):Int)) w:=by
 have h:=mN (l:=L) (j:=i) (by omega);unfold Instr.index;simp only[aba]at h;simp[go_sem,hi,h]
def sF(w:World):Prop:=∀i,i<64→w.cell? ⟨5,i,none⟩=some (.int .u32 ((Sh.K.getD i 0:Nat):Int))
theorem sF.below{w x:World}{B:Nat}(h:sF w)(hb:Below B w x)(hB:5<B):sF x:=fun i hi=>(hb.cell (p:=⟨5,i,none⟩) hB).trans (h i hi)
structure Bs(w x:World)(h v:Sh.V):Prop where
 r0:Row x w.heap.size (fk h)
 r2:Row x (w.heap.size+1+1) [.int .u32 0,.int .u32 0,.int .u32 0,.int .u32 0,.int .u32 0,.int .u32 0,.int .u32 0,.int .u32 0]
 r3:Row x (w.heap.size+1+1+1) (fk v)
 b:Below w.heap.size w x
 lt:w.heap.size+1+1+1<x.heap.size
theorem Bs.drew{w x:World}{h v:Sh.V}(t:Bs w x h v):Bs w x.drew h v:=⟨t.r0,t.r2,t.r3,t.b.drew,t.lt⟩
theorem Bs.below{w x y:World}{h v:Sh.V}(t:Bs w x h v)(hb:Below x.heap.size x y):Bs w y h v:=
 have:=t.lt
 ⟨t.r0.below hb (by omega),t.r2.below hb (by omega),t.r3.below hb t.lt,t.b.trans (hb.mono t.b.size),aaS t.lt hb.size⟩
theorem Bs.lay{w x:World}{h v:Sh.V}(t:Bs w x h v)(u:Sh.V):Bs w (ku x (w.heap.size+1+1+1) (.int .u32 (u.a:Int)) (.int .u32 (u.b:Int)) (.int .u32 (u.c:Int)) (.int .u32 (u.d:Int)) (.int .u32 (u.e:Int)) (.int .u32 (u.f:Int)) (.int .u32 (u.g:Int)) (.int .u32 (u.h:Int))) h u:=
 ⟨t.r0.HU _ _ _ _ _ _ _ _ (by omega),t.r2.HU _ _ _ _ _ _ _ _ (by omega),Row.ku t.r3 _ _ _ _ _ _ _ _,Below.ku t.b (by omega) _ _ _ _ _ _ _ _,by simpa[ku]using t.lt⟩
theorem Sh.ri{x n r:Nat}(h:Sh.dN x n=r)(hx:x<4294967296):r<4294967296:=by rw[← h];exact Sh.tP _ _ hx
theorem Mx{k w:Nat}{v:Sh.V}(ho:v.ok){r6 r11 nM:Nat}(h6:Sh.dN v.e 6=r6)(h11:Sh.dN v.e 11=r11)(h25:Sh.dN v.e 25=nM):
 IntKind.u32.wrap (IntKind.u32.wrap (IntKind.u32.wrap (IntKind.u32.wrap ((v.h:Int)+bits .xor .u32 (bits .xor .u32 (r6:Int) (r11:Int)) (nM:Int))+bits .xor .u32 (bits .and .u32 (v.e:Int) (v.f:Int)) (bits .and .u32 (bits .xor .u32 IntKind.u32.max (v.e:Int)) (v.g:Int)))+(k:Int))+(w:Int))=((Sh.one k w v:Nat):Int):=by
 have hn:4294967295 ^^^ v.e<2^32:=acR (by omega) ho.e
 rw[s9 (Sh.ri h6 ho.e) (Sh.ri h11 ho.e) (Sh.ri h25 ho.e),C4 _ ho.e,u32_and_nat _ _ ho.e ho.f,u32_and_nat _ _ hn ho.g,
  u32_xor_nat _ _ (adf adw ho.e) (adf adw hn),pi,pi,pi,pi]
 unfold Sh.one
 rw[h6,h11,h25]
theorem Rf{v:Sh.V}(ho:v.ok){r2 r13 r22:Nat}(h2:Sh.dN v.a 2=r2)(h13:Sh.dN v.a 13=r13)(h22:Sh.dN v.a 22=r22):
 IntKind.u32.wrap (bits .xor .u32 (bits .xor .u32 (r2:Int) (r13:Int)) (r22:Int)+bits .xor .u32 (bits .xor .u32 (bits .and .u32 (v.a:Int) (v.b:Int)) (bits .and .u32 (v.a:Int) (v.c:Int))) (bits .and .u32 (v.b:Int) (v.c:Int)))=((Sh.two v:Nat):Int):=by
 rw[s9 (Sh.ri h2 ho.a) (Sh.ri h13 ho.a) (Sh.ri h22 ho.a),u32_and_nat _ _ ho.a ho.b,u32_and_nat _ _ ho.a ho.c,u32_and_nat _ _ ho.b ho.c,
  s9 (adf adw ho.a) (adf adw ho.a) (adf adw ho.b),pi]
 unfold Sh.two
 rw[h2,h13,h22]
def Sh.L8(v:Sh.V):List Nat:=[v.a,v.b,v.c,v.d,v.e,v.f,v.g,v.h]
def Sh.jN(v h:List Nat):Nat→List Nat
 |0=>v
 |j+1=>(Sh.jN v h j).set j (Sh.add ((Sh.jN v h j).getD j 0) (h.getD j 0))
theorem Sh.GZ(v h:List Nat):∀j,(Sh.jN v h j).length=v.length
 |0=>rfl
 |j+1=>by simp[Sh.jN,Sh.GZ v h j]
theorem Sh.YK(v h:Sh.V):Sh.jN (Sh.L8 v) (Sh.L8 h) 8=Sh.L8 (Sh.plus v h):=rfl
structure Cs(w x:World)(h l:List Nat):Prop where
 r0:Row x w.heap.size (eE h)
 r2:Row x (w.heap.size+1+1) [.int .u32 0,.int .u32 0,.int .u32 0,.int .u32 0,.int .u32 0,.int .u32 0,.int .u32 0,.int .u32 0]
 r3:Row x (w.heap.size+1+1+1) (eE l)
 b:Below w.heap.size w x
 lt:w.heap.size+1+1+1<x.heap.size
theorem Bs.cs{w x:World}{h v:Sh.V}(t:Bs w x h v):Cs w x (Sh.L8 h) (Sh.L8 v):=⟨t.r0,t.r2,t.r3,t.b,t.lt⟩
theorem Cs.drew{w x:World}{h l:List Nat}(t:Cs w x h l):Cs w x.drew h l:=⟨t.r0,t.r2,t.r3,t.b.drew,t.lt⟩
theorem Cs.set{w x:World}{h l:List Nat}(t:Cs w x h l)(i v:Nat)(hi:i<l.length):Cs w (x.setCell ⟨w.heap.size+1+1+1,i,none⟩ (.int .u32 (v:Int))) h (l.set i v):=
 ⟨t.r0.other _ (by omega),t.r2.other _ (by omega),by rw[← IK];exact t.r3.set i _ (by rw[xh];exact hi),t.b.setCell (p:=⟨w.heap.size+1+1+1,i,none⟩) (by show w.heap.size≤w.heap.size+1+1+1;omega) _,by simpa using t.lt⟩
theorem Sh.rounds_succ(w:List Nat)(v:Sh.V)(k:Nat):Sh.rounds w v (k+1)=Sh.uf (Sh.K.getD k 0) (w.getD k 0) (Sh.rounds w v k):=rfl
theorem Sh.Q7(h:Sh.V)(b:List UInt8):Sh.block h b=Sh.plus (Sh.rounds (Sh.words b) h 64) h:=rfl
theorem Sh.Vs(b:List UInt8):(Sh.words b).length=64:=by unfold Sh.words;exact Sh.pp b 64
theorem Sh.R6(v h:List Nat)(j:Nat):(Sh.jN v h j).set j (Sh.add ((Sh.jN v h j).getD j 0) (h.getD j 0))=Sh.jN v h (j+1):=rfl
theorem VH(a0 a1 a2 a3 a4 a5 a6 a7:Int):(#[Value.int .u32 a0,.int .u32 a1,.int .u32 a2,.int .u32 a3,.int .u32 a4,.int .u32 a5,.int .u32 a6,.int .u32 a7]:Array Value).all (·.oneCell')=true:=by simp[Value.oneCell']
theorem X4(st:Sh.V)(b:List UInt8)(w:World)(hb:b.length=64)(hh:st.ok)(hK:sF w)(hw:5<w.heap.size):
 Calls Tryz.prog 211 #[t_ st,.agg (cV b).toArray] w fun e w'=>e=.returned (t_ (Sh.block st b))∧Below w.heap.size w w':=by
 have hbl:(cV b).length=64:=by unfold cV;simpa using hb
 have HSZ:=Lib.hid (show(Tryz.prog.info? 310).map (·.size)=some (cV b).length from by rw[hbl];kernel_rfl)
 have HW:=Lib.hid (fun w=>Z6 b w hb)
 have hwl:(Sh.words b).length=64:=Sh.Vs b
 have HI:=Lib.hid (fun i (hi:i<64) w=>TB (Sh.words b) hwl i hi w)
 have hwlt:∀i,(Sh.words b).getD i 0<4294967296:=fun i=>by have:=Sh.sf b 64 i;unfold Sh.fw at this;simpa[Sh.words]using this
 have HWLT:=Lib.hid hwlt;clear hwlt
 have HBK:=Lib.hid (Sh.Q7 st b)
 have HK:=Lib.hid hK;clear hK hbl hwl hb
 generalize Sh.block st b=z at HBK⊢
 generalize Sh.words b=WL at HW HI HWLT HBK
 generalize cV b=BV at HW HSZ⊢
 unfold t_
 go_enter Tryz.func211,Tryz.ntmps211
 go_upto_region 2 with fail
 have hT:Bs w ((((w.alloc (.cells (fk st).toArray 309)).alloc (.cells (BV).toArray 310)).alloc (.cells #[.int .u32 0,.int .u32 0,.int .u32 0,.int .u32 0,.int .u32 0,.int .u32 0,.int .u32 0,.int .u32 0] 309)).alloc (.cells (fk st).toArray 309)) st st:=
  ⟨Row.alloc (Row.alloc (Row.alloc (Row.at rfl (by simp)) (by simp) _) (by simp<;>omega) _) (by simp<;>omega) _,Row.alloc (Row.at (by simp) rfl) (by simp) _,Row.at (by simp) (by simp),
   by go_grown,by simp⟩
 have hRB:Row ((((w.alloc (.cells (fk st).toArray 309)).alloc (.cells (BV).toArray 310)).alloc (.cells #[.int .u32 0,.int .u32 0,.int .u32 0,.int .u32 0,.int .u32 0,.int .u32 0,.int .u32 0,.int .u32 0] 309)).alloc (.cells (fk st).toArray 309)) (w.heap.size+1) (BV):=
  Row.alloc (Row.alloc (Row.at (by simp) (by simp)) (by simp) _) (by simp<;>omega) _
 unfold fk eE at hT hRB
 simp only[aaZ,List.map_nil]at hT hRB
 generalize World.alloc _ (Obj.cells _ _)=x0 at hT hRB⊢
 have HT:=Lib.hid hT;clear hT
 have HRB:=Lib.hid hRB;clear hRB
 go_wp2_with (refine wpList_load_mid rfl 310 _ rfl (w.heap.size+1) 0 rfl (BV) _ HRB.out.range Tryz.underlying310 rfl HSZ.out ?_)
 refine(HW.out _).mono ?_
 rintro e x1 ⟨rfl,hb1⟩
 have HT1:=Lib.hid (HT.out.below hb1);clear HT HRB hb1 HW HSZ
 have HT:=HT1;clear HT1
 go_wp2_with fail
 go_loopw [16] (fun s16 wr=>∃i:Nat,i≤64∧s16=.int .i64 (i:Int)∧Bs w wr st (Sh.rounds (WL) st i)) (fun s16 _=>64-(intOf s16).toNat)
 case atStart=>exact⟨0,by omega,rfl,HT.out⟩
 case round=>
  clear HT
  obtain⟨i,hi,rfl,hT⟩:=hrel
  by_cases h64:i<64
  ·have h64':(i:Int)<64:=by omega
   have hi0:(0:Int)≤(i:Int):=by omega
   have hidx:=fun w=>HI.out i h64 w
   have hwi:=HWLT.out i
   have hki:=(HK.out.below hT.b hw) i h64
   have hok:=Sh.ID (WL) hh i
   have hnext:Sh.rounds (WL) st (i+1)=Sh.uf (Sh.K.getD i 0) ((WL).getD i 0) (Sh.rounds (WL) st i):=Sh.rounds_succ _ _ _
   generalize(WL).getD i 0=wi at hidx hwi hnext
   generalize Sh.K.getD i 0=ki at hki hnext
   have HT:=Lib.hid hT
   obtain⟨c0,c1,c2,c3,c4,c5,c6,c7,f0,f1,f2,f3,f4,f5,f6,f7⟩:=Row.eight hT.r3
   clear hT
   generalize Sh.rounds (WL) st i=v at*
   obtain⟨va,vb,vc,vd,ve,vf,vg,vh⟩:=v
   simp only at c0 c1 c2 c3 c4 c5 c6 c7
   have hva:=hok.a
   have hve:=hok.e
   simp only at hva hve
   generalize hg3:w.heap.size+1+1+1=g3 at c0 c1 c2 c3 c4 c5 c6 c7 f0 f1 f2 f3 f4 f5 f6 f7⊢
   have HG3:=Lib.hid hg3;clear hg3
   obtain⟨r2,hr2⟩:∃r,Sh.dN va 2=r:=⟨_,rfl⟩
   have T2:=Lib.hid (fun w=>show Calls Tryz.prog 273 #[.int .u32 (va:Int),.int .i64 2] w fun e w'=>e=.returned (.int .u32 (r2:Int))∧w=w' from by have:=nF (va) 2 w hva (by omega) (by omega);rw[hr2]at this;exact this)
   obtain⟨r13,hr13⟩:∃r,Sh.dN va 13=r:=⟨_,rfl⟩
   have T13:=Lib.hid (fun w=>show Calls Tryz.prog 273 #[.int .u32 (va:Int),.int .i64 13] w fun e w'=>e=.returned (.int .u32 (r13:Int))∧w=w' from by have:=nF (va) 13 w hva (by omega) (by omega);rw[hr13]at this;exact this)
   obtain⟨r22,hr22⟩:∃r,Sh.dN va 22=r:=⟨_,rfl⟩
   have T22:=Lib.hid (fun w=>show Calls Tryz.prog 273 #[.int .u32 (va:Int),.int .i64 22] w fun e w'=>e=.returned (.int .u32 (r22:Int))∧w=w' from by have:=nF (va) 22 w hva (by omega) (by omega);rw[hr22]at this;exact this)
   obtain⟨r6,hr6⟩:∃r,Sh.dN ve 6=r:=⟨_,rfl⟩
   have T6:=Lib.hid (fun w=>show Calls Tryz.prog 273 #[.int .u32 (ve:Int),.int .i64 6] w fun e w'=>e=.returned (.int .u32 (r6:Int))∧w=w' from by have:=nF (ve) 6 w hve (by omega) (by omega);rw[hr6]at this;exact this)
   obtain⟨r11,hr11⟩:∃r,Sh.dN ve 11=r:=⟨_,rfl⟩
   have T11:=Lib.hid (fun w=>show Calls Tryz.prog 273 #[.int .u32 (ve:Int),.int .i64 11] w fun e w'=>e=.returned (.int .u32 (r11:Int))∧w=w' from by have:=nF (ve) 11 w hve (by omega) (by omega);rw[hr11]at this;exact this)
   obtain⟨nM,hr25⟩:∃r,Sh.dN ve 25=r:=⟨_,rfl⟩
   have T25:=Lib.hid (fun w=>show Calls Tryz.prog 273 #[.int .u32 (ve:Int),.int .i64 25] w fun e w'=>e=.returned (.int .u32 (nM:Int))∧w=w' from by have:=nF (ve) 25 w hve (by omega) (by omega);rw[hr25]at this;exact this)
   have HRR:=Lib.hid (⟨hr2,hr13,hr22,hr6,hr11,hr25⟩:_∧_∧_∧_∧_∧_)
   have HOK:=Lib.hid hok
   have HN:=Lib.hid hnext
   have HWI:=Lib.hid hwi
   clear hr2 hr13 hr22 hr6 hr11 hr25 hok hnext hwi hva hve
   go_upto_region 5 with fail
   go_region_held3 (fun w'=>w'.cell? ⟨g3,0,none⟩=some (.int .u32 (va:Int))∧w'.cell? ⟨g3,4,none⟩=some (.int .u32 (ve:Int))) (exact⟨c0,c4⟩) (fail)
   go_upto_region 6 with fail
   go_region_held3 (fun w'=>w'.cell? ⟨g3,5,none⟩=some (.int .u32 (vf:Int))∧w'.cell? ⟨g3,6,none⟩=some (.int .u32 (vg:Int))∧w'.cell? ⟨g3,7,none⟩=some (.int .u32 (vh:Int))∧w'.cell? ⟨5,i,none⟩=some (.int .u32 (ki:Int))) (exact⟨c5,c6,c7,hki⟩) ((first|(go_at_call 273;((with_reducible refine(T6.out _).mono ?_);rintro e u ⟨rfl,rfl⟩))|(go_at_call 273;((with_reducible refine(T11.out _).mono ?_);rintro e u ⟨rfl,rfl⟩))|(go_at_call 273;((with_reducible refine(T25.out _).mono ?_);rintro e u ⟨rfl,rfl⟩))))
   go_upto_region 7 with fail
   have H1:=Mx (k:=ki) (w:=wi) HOK.out HRR.out.2.2.2.1 HRR.out.2.2.2.2.1 HRR.out.2.2.2.2.2
   simp only at H1
   simp only[H1]
   clear H1
   generalize ho:Sh.one ki wi _=o
   generalize bits .xor .u32 (r6:Int) (r11:Int)=q1
   generalize bits .xor .u32 q1 (nM:Int)=q2
   generalize IntKind.u32.wrap ((vh:Int)+q2)=q3
   generalize bits .and .u32 (ve:Int) (vf:Int)=q4
   generalize bits .xor .u32 IntKind.u32.max (ve:Int)=q5
   generalize bits .and .u32 q5 (vg:Int)=q6
   generalize bits .xor .u32 q4 q6=q7
   generalize IntKind.u32.wrap (q3+q7)=q8
   generalize IntKind.u32.wrap (q8+(ki:Int))=q9
   go_region_held3 (fun w'=>w'.cell? ⟨g3,1,none⟩=some (.int .u32 (vb:Int))∧w'.cell? ⟨g3,2,none⟩=some (.int .u32 (vc:Int))) (exact⟨c1,c2⟩) ((first|(go_at_call 273;((with_reducible refine(T2.out _).mono ?_);rintro e u ⟨rfl,rfl⟩))|(go_at_call 273;((with_reducible refine(T13.out _).mono ?_);rintro e u ⟨rfl,rfl⟩))|(go_at_call 273;((with_reducible refine(T22.out _).mono ?_);rintro e u ⟨rfl,rfl⟩))))
   go_upto_region 8 with fail
   have H2:=Rf HOK.out HRR.out.1 HRR.out.2.1 HRR.out.2.2.1
   simp only at H2
   simp only[H2]
   clear H2 HRR
   generalize ht:Sh.two _=t
   generalize bits .xor .u32 (r2:Int) (r13:Int)=p1
   generalize bits .xor .u32 p1 (r22:Int)=p2
   generalize bits .and .u32 (va:Int) (vb:Int)=p3
   generalize bits .and .u32 (va:Int) (vc:Int)=p4
   generalize bits .xor .u32 p3 p4=p5
   generalize bits .and .u32 (vb:Int) (vc:Int)=p6
   generalize bits .xor .u32 p5 p6=p7
   have HN2:=HN.out
   unfold Sh.uf at HN2
   rw[ho,ht]at HN2
   have HN3:=Lib.hid HN2
   clear ho ht HN HN2
   have HTH:=Lib.hid (show wr.drew.drew.drew.there g3 0 8 from by have h:=HT.out.r3.there;rw[HG3.out]at h;exact h)
   have HS8:=Lib.hid (show(Tryz.prog.info? 309).map (·.size)=some 8 from by kernel_rfl)
   go_wp2_with (refine wpList_store_mid rfl 309 (Operand.tmp 5) (Operand.tmp 93) rfl g3 0 _ rfl rfl ?ht ?hi ?ha ?_;(case ht=>exact HTH.out);(case hi=>exact HS8.out);(case ha=>exact VH _ _ _ _ _ _ _ _))
   refine⟨⟨i+1,by omega,rfl,?_⟩,by simp only[intOf];omega⟩
   have hg3:=HG3.out
   subst hg3
   have HF:=HT.out.drew.drew.drew.lay (Sh.rounds WL st (i+1))
   rw[HN3.out]at HF
   rw[HN3.out]
   have e1:((Sh.add o t:Nat):Int)=((o:Int)+(t:Int))%4294967296:=by unfold Sh.add;omega
   have e2:((Sh.add vd o:Nat):Int)=((vd:Int)+(o:Int))%4294967296:=by unfold Sh.add;omega
   simp only[e1,e2]at HF
   exact HF
  ·obtain rfl:i=64:=by omega
   have HTE:=Lib.hid hT.cs
   clear hT HI HWLT
   have hB0:=HBK.out
   clear HBK
   generalize Sh.rounds (WL) st 64=v at HTE hB0
   have HB0:=Lib.hid hB0;clear hB0
   go_wp2_with fail
   go_loopw [95,12] (fun s95 s12 wy=>∃j:Nat,j≤8∧s95=.int .i64 (j:Int)∧Cs w wy (Sh.L8 st) (Sh.jN (Sh.L8 v) (Sh.L8 st) j)) (fun s95 _ _=>8-(intOf s95).toNat)
   case atStart=>exact⟨0,by omega,rfl,HTE.out⟩
   case round=>
    clear HTE
    obtain⟨j,hj,rfl,hC⟩:=hrel
    have hl:=Sh.GZ (Sh.L8 v) (Sh.L8 st) j
    have hl8:(Sh.L8 v).length=8:=rfl
    by_cases h8:j<8
    ·have h8':(j:Int)<8:=by omega
     have hj0:(0:Int)≤(j:Int):=by omega
     obtain⟨c0,f0⟩:=hC.r3 j _ (mN (by omega))
     obtain⟨c1,f1⟩:=hC.r0 j _ (mN (show j<(Sh.L8 st).length from h8))
     have hnext:=(hC.set j (Sh.add ((Sh.jN (Sh.L8 v) (Sh.L8 st) j).getD j 0) ((Sh.L8 st).getD j 0)) (by omega)).drew
     have hm:(Sh.jN (Sh.L8 v) (Sh.L8 st) j).set j (Sh.add ((Sh.jN (Sh.L8 v) (Sh.L8 st) j).getD j 0) ((Sh.L8 st).getD j 0))=Sh.jN (Sh.L8 v) (Sh.L8 st) (j+1):=Sh.R6 _ _ _
     rw[hm]at hnext
     have HNX:=Lib.hid hnext
     clear hnext hC hm hl hl8
     generalize(Sh.jN (Sh.L8 v) (Sh.L8 st) j).getD j 0=p at c0 f0 HNX
     generalize(Sh.L8 st).getD j 0=q at c1 f1 HNX
     go_upto_region 13 with fail
     go_region
     go_wp2_with fail
     have e1:((Sh.add p q:Nat):Int)=((p:Int)+(q:Int))%4294967296:=by unfold Sh.add;omega
     have HN4:=HNX.out
     rw[e1]at HN4
     refine⟨⟨j+1,by omega,by go_num,HN4⟩,by simp only[intOf];omega⟩
    ·obtain rfl:j=8:=by omega
     have h8':¬((8:Nat):Int)<8:=by omega
     rw[Sh.YK,← HB0.out]at hC
     have hlw:(eE (Sh.L8 z)).length=8:=by rw[xh];rfl
     have hone:∀v∈eE (Sh.L8 z),v.oneCell'=true:=by
      intro v hv
      obtain⟨x,_,rfl⟩:=abc.1 hv
      rfl
     have hrange:wr.rangeAt (w.heap.size+1+1+1) 0 (eE (Sh.L8 z)):=hC.r3.range
     have hthere:wr.there (w.heap.size+1+1) 0 (eE (Sh.L8 z)).toArray.size:=by
      have hs8:(eE (Sh.L8 z)).toArray.size=8:=by rw[abv];exact hlw
      rw[hs8];simpa using hC.r2.there
     have hB:=hC.b
     have hval:t_ z=.agg (eE (Sh.L8 z)).toArray:=rfl
     clear HB0 hl hl8
     obtain⟨L,hLe⟩:∃L,eE (Sh.L8 z)=L:=⟨_,rfl⟩
     rw[hLe]at hlw hone hrange hthere hval
     have HVAL:=Lib.hid hval;clear hLe hval
     have hall:=all_oneCell_toArray hone
     have hsz:(Tryz.prog.info? 309).map (·.size)=some L.length:=by rw[hlw];kernel_rfl
     have hsz2:(Tryz.prog.info? 309).map (·.size)=some L.toArray.size:=by rw[abv];exact hsz
     have HX:=Lib.hid (⟨hlw,hone,hrange,hthere⟩:_∧_∧_∧_)
     have HB:=Lib.hid hB
     have HSZ:=Lib.hid hsz
     have HSZ2:=Lib.hid hsz2
     have HALL:=Lib.hid hall
     clear hlw hone hrange hthere hB hsz hsz2 hall hC
     go_upto_region 15 with fail
     go_wp2_with (first
      |(refine wpList_load_mid rfl 309 _ rfl (w.heap.size+1+1+1) 0 rfl L _ HX.out.2.2.1 Tryz.underlying309 rfl HSZ.out ?_)
      |(refine wpList_store_mid rfl 309 _ _ rfl (w.heap.size+1+1) 0 L.toArray rfl rfl HX.out.2.2.2 HSZ2.out HALL.out ?_))
     have hth:wr.there (w.heap.size+1+1) 0 L.length:=by have:=HX.out.2.2.2;rwa [abv]at this
     have hload:=run_loadVar_mid (P:=Tryz.prog) (wr.setCells (w.heap.size+1+1) 0 L) (w.heap.size+1+1) 0 309 L _ (World.rangeAt_setCells_same wr (w.heap.size+1+1) 0 L hth) Tryz.underlying309 rfl HSZ.out
     have hbel:=qT L 0 (show w.heap.size≤w.heap.size+1+1 by omega) HB.out
     generalize wr.setCells (w.heap.size+1+1) 0 L=wz at hload hbel⊢
     exact bodyPost_ret (DM Tryz.results211 _ _ _ _ _ rfl hload) rfl<|⟨by rw[← HVAL.out];rfl,hbel⟩
end
end Go.Proofs.YtbnonpbnhenkfaaGreatDoor
section
namespace Go.Proofs
open Go.Shelf
def Tryz.E9:Go.Shelf.Ren:=⟨fun|105=>271|212=>315|99=>316|165=>240|166=>241|170=>317|169=>242|263=>364|264=>309|206=>365|240=>294|241=>295|276=>349|277=>350|n=>n,fun|9=>9|3=>3|4=>4|20=>20|0=>0|46=>304|109=>424|5=>5|72=>341|76=>345|51=>308|146=>455|53=>30|148=>260|70=>339|37=>116|75=>344|127=>407|164=>441|80=>228|n=>n,fun|n=>n⟩
theorem Tryz.Yu:Go.Proofs.Lays.n105 Tryz.prog Tryz.E9:={
 mixed:=by kernel_rfl
 f99:=Tryz.func316.trans (congrArg some (by kernel_rfl))
 f105:=Tryz.func271.trans (congrArg some (by kernel_rfl))
 f165:=Tryz.func240.trans (congrArg some (by kernel_rfl))
 f166:=Tryz.func241.trans (congrArg some (by kernel_rfl))
 f169:=Tryz.func242.trans (congrArg some (by kernel_rfl))
 f170:=Tryz.func317.trans (congrArg some (by kernel_rfl))
 f206:=Tryz.func365.trans (congrArg some (by kernel_rfl))
 f212:=Tryz.func315.trans (congrArg some (by kernel_rfl))
 f240:=Tryz.func294.trans (congrArg some (by kernel_rfl))
 f241:=Tryz.func295.trans (congrArg some (by kernel_rfl))
 f263:=Tryz.func364.trans (congrArg some (by kernel_rfl))
 f264:=Tryz.func309.trans (congrArg some (by kernel_rfl))
 f276:=Tryz.func349.trans (congrArg some (by kernel_rfl))
 f277:=Tryz.func350.trans (congrArg some (by kernel_rfl))
 t0:=Tryz.underlying0
 a0:=Tryz.isAgg0
 z0:=Tryz.sizeOf0
 v0:=Tryz.zeroValue0
 t3:=Tryz.underlying3
 a3:=Tryz.isAgg3
 z3:=Tryz.sizeOf3
 v3:=Tryz.zeroValue3
 t4:=Tryz.underlying4
 a4:=Tryz.isAgg4
 z4:=Tryz.sizeOf4
 v4:=Tryz.zeroValue4
 t5:=Tryz.underlying5
 a5:=Tryz.isAgg5
 z5:=Tryz.sizeOf5
 v5:=Tryz.zeroValue5
 t9:=Tryz.underlying9
 a9:=Tryz.isAgg9
 z9:=Tryz.sizeOf9
 v9:=Tryz.zeroValue9
 t20:=Tryz.underlying20
 a20:=Tryz.isAgg20
 z20:=Tryz.sizeOf20
 v20:=Tryz.zeroValue20
 t37:=Tryz.underlying116
 a37:=Tryz.isAgg116
 z37:=Tryz.sizeOf116
 v37:=Tryz.zeroValue116
 t46:=Tryz.underlying304
 a46:=Tryz.isAgg304
 z46:=Tryz.sizeOf304
 v46:=Tryz.zeroValue304
 t51:=Tryz.underlying308
 a51:=Tryz.isAgg308
 z51:=Tryz.sizeOf308
 v51:=Tryz.zeroValue308
 t53:=Tryz.underlying30
 a53:=Tryz.isAgg30
 z53:=Tryz.sizeOf30
 v53:=Tryz.zeroValue30
 t70:=Tryz.underlying339
 a70:=Tryz.isAgg339
 z70:=Tryz.sizeOf339
 v70:=Tryz.zeroValue339
 t72:=Tryz.underlying341
 a72:=Tryz.isAgg341
 z72:=Tryz.sizeOf341
 v72:=Tryz.zeroValue341
 t75:=Tryz.underlying344
 a75:=Tryz.isAgg344
 z75:=Tryz.sizeOf344
 v75:=Tryz.zeroValue344
 t76:=Tryz.underlying345
 a76:=Tryz.isAgg345
 z76:=Tryz.sizeOf345
 v76:=Tryz.zeroValue345
 t109:=Tryz.underlying424
 a109:=Tryz.isAgg424
 z109:=Tryz.sizeOf424
 v109:=Tryz.zeroValue424
 t127:=Tryz.underlying407
 a127:=Tryz.isAgg407
 z127:=Tryz.sizeOf407
 v127:=Tryz.zeroValue407
 t146:=Tryz.underlying455
 a146:=Tryz.isAgg455
 z146:=Tryz.sizeOf455
 v146:=Tryz.zeroValue455
 t148:=Tryz.underlying260
 a148:=Tryz.isAgg260
 z148:=Tryz.sizeOf260
 v148:=Tryz.zeroValue260
 t164:=Tryz.underlying441
 a164:=Tryz.isAgg441
 z164:=Tryz.sizeOf441
 v164:=Tryz.zeroValue441}
theorem Tryz.MZ:Builder.Extra Tryz.prog Tryz.E9:={
 sizeBuilder:=by kernel_rfl
 liesBuilder:=by kernel_rfl
 t5:=Tryz.underlying5
 a5:=Tryz.isAgg5
 z5:=Tryz.sizeOf5
 v5:=Tryz.zeroValue5
 infoByte:=by kernel_rfl
 cellsByte:=by kernel_rfl
 sizeByte:=by kernel_rfl
 neB5:=by decide}
open Go.RowKit Go.Lib in
theorem Tryz.strings_Repeat(s:ByteArray)(c:Nat)(w:World)(hc:c≤9223372036854775807)(hlen:s.size*c≤140737488355328):
 Calls Tryz.prog 271 #[.string s,.int .i64 c] w fun e w'=>e=.returned (.string ⟨(Lib.repeatL s.data.toList c).toArray⟩)∧Below w.heap.size w w':=Any.strings_Repeat Tryz.Yu Tryz.MZ s c w hc hlen
end Go.Proofs
end
namespace Go.Proofs.YtbnonpbnhenkfaaGreatDoor
section
open Go.RowKit
theorem uv{y:World}{g n cap:Nat}{l:List UInt8}(h:Row y g (ia l))(hl:l.length=n):
 (convert 116 9 (.slice (some ⟨g,0,none⟩) n cap)).run Tryz.prog y=.ok (.string ⟨l.toArray⟩) y:=by
 subst hl
 have key:=run_convert_bytes_arg (P:=Tryz.prog) y 116 5 Tryz.underlying116 Tryz.underlying5 g 0 l.length cap (l.map fun b=>(b.toNat:Int)) (by simp) (fun i hi=>by
  have e:(⟨g,0+i,none⟩:Addr)=⟨g,i,none⟩:=by rw[aav]
  rw[e,(h i (.int .u8 ((l[i]'hi).toNat:Int)) (by simp[ia,hi])).1]
  simp[hi]) 9 Tryz.underlying9
 rw[key]
 have e2:strOfNums (l.map fun b=>(b.toNat:Int))=⟨l.toArray⟩:=by
  apply adi
  apply adp.1
  rw[strOfNums_data,abX]
  simp[Function.comp_def]
 rw[e2]
structure fL(w y:World)(g n cap:Nat)(l:List UInt8):Prop where
 r:Row y g (ia l)
 lt:g<y.heap.size
 b:Below w.heap.size w y
theorem fL.alloc{w y:World}{g n cap:Nat}{l:List UInt8}(h:fL w y g n cap l)(o:Obj):fL w (y.alloc o) g n cap l:=⟨h.r.alloc h.lt o,by have:=h.lt;simp;omega,h.b.alloc h.b.size o⟩
theorem fL.drew{w y:World}{g n cap:Nat}{l:List UInt8}(h:fL w y g n cap l):fL w y.drew g n cap l:=⟨h.r.drew,h.lt,h.b.drew⟩
theorem fL.below{w y z:World}{g n cap:Nat}{l:List UInt8}(h:fL w y g n cap l)(hb:Below y.heap.size y z):fL w z g n cap l:=⟨h.r.below hb h.lt,aaS h.lt hb.size,h.b.trans (hb.mono h.b.size)⟩
theorem fL.out{w y:World}{g n cap:Nat}{l:List UInt8}(h:fL w y g n cap l)(hl:l.length=n):
 (convert 116 9 (.slice (some ⟨g,0,none⟩) n cap)).run Tryz.prog y=.ok (.string ⟨l.toArray⟩) y∧fL w y g n cap l:=⟨uv h.r hl,h⟩
theorem BK(y:World)(c:Nat)(hc:c<256):Row (y.alloc (.cells #[.int .u8 (c:Int)] 5)) y.heap.size (ia [UInt8.ofNat c]):=Row.at rfl (by simp[ia];omega)
theorem Ya(y:World):(convert 116 9 (.slice (some ⟨y.heap.size,0,none⟩) 1 1)).run Tryz.prog (y.alloc (.cells #[.int .u8 128] 5)).drew=.ok (.string ⟨#[128]⟩) (y.alloc (.cells #[.int .u8 128] 5)).drew:=
 uv (l:=[128]) (BK y 128 (by omega)).drew rfl
theorem OE(y:World):(convert 116 9 (.slice (some ⟨y.heap.size,0,none⟩) 1 1)).run Tryz.prog (y.alloc (.cells #[.int .u8 128] 5))=.ok (.string ⟨#[128]⟩) (y.alloc (.cells #[.int .u8 128] 5)):=
 uv (l:=[128]) (BK y 128 (by omega)) rfl
theorem We{y u:World}{B:Nat}(hb:Below B (y.alloc (.cells #[.int .u8 128] 5)).drew u)(hB:y.heap.size<B):(convert 116 9 (.slice (some ⟨y.heap.size,0,none⟩) 1 1)).run Tryz.prog u=.ok (.string ⟨#[128]⟩) u:=
 uv (l:=[128]) ((BK y 128 (by omega)).drew.below hb hB) rfl
theorem R8(w:World)(n:Nat)(h:n<562949953421313):
 Row (w.alloc (.cells #[Value.int IntKind.u8 ((n:Int)*8 / 72057594037927936),Value.int IntKind.u8 ((n:Int)*8 / 281474976710656),
  Value.int IntKind.u8 ((n:Int)*8 / 1099511627776%256),
  Value.int IntKind.u8 ((n:Int)*8 / 4294967296%256),Value.int IntKind.u8 ((n:Int)*8 / 16777216%256),
  Value.int IntKind.u8 ((n:Int)*8 / 65536%256),Value.int IntKind.u8 ((n:Int)*8 / 256%256),
  Value.int IntKind.u8 ((n:Int)*8%256)] 378)) w.heap.size (ia (Sh.len8 (n*8))):=by
 refine Row.at rfl ?_
 unfold ia Sh.len8
 simp[List.range,List.range.loop]
 omega
theorem yh:∀z,Lib.repeatL [(0:UInt8)] z=List.replicate z 0
 |0=>rfl
 |z+1=>by rw[List.replicate_succ,← yh z];rfl
theorem YU(s:ByteArray)(w:World)(hs:s.size≤281474976710656):
 Calls Tryz.prog 210 #[.string s] w fun e w'=>e=.returned (.string ⟨(Sh.my s.data.toList).toArray⟩)∧Below w.heap.size w w':=by
 obtain⟨z,hz⟩:∃z,Sh.qO s.size=z:=⟨_,rfl⟩
 have hz2:((119-(s.size:Int)%64)%64)=(z:Int):=by subst hz;unfold Sh.qO;omega
 have hz3:((119-(s.size:Int))%64)=(z:Int):=by rw[← hz2];omega
 have hz64:z<64:=by subst hz;unfold Sh.qO;omega
 have HREP:=Lib.hid (fun w=>Tryz.strings_Repeat ⟨#[0]⟩ z w (by omega) (by show 1*z≤_;omega))
 have HL:=Lib.hid (R8 w s.size (by omega))
 have hll:(Sh.len8 (s.size*8)).length=8:=rfl
 have HP:=Lib.hid (show Sh.my s.data.toList=s.data.toList++[128]++List.replicate z 0++Sh.len8 (s.size*8)from by
  unfold Sh.my;rw[show s.data.toList.length=s.size from rfl,hz,aco (by omega)])
 generalize Sh.len8 (s.size*8)=L at HL hll HP
 clear hz
 obtain⟨o1,ho1⟩:∃o:ByteArray,⟨#[128]⟩=o:=⟨_,rfl⟩
 obtain⟨zr,hzr⟩:∃o:ByteArray,⟨(Lib.repeatL [(0:UInt8)] z).toArray⟩=o:=⟨_,rfl⟩
 obtain⟨lb,hlb⟩:∃o:ByteArray,⟨L.toArray⟩=o:=⟨_,rfl⟩
 have so1:o1.size≤1:=by rw[← ho1];decide
 have szr:zr.size≤64:=by rw[← hzr,yh];show(List.replicate z (0:UInt8)).toArray.size≤64;simp;omega
 have slb:lb.size≤8:=by rw[← hlb];show L.toArray.size≤8;simp;omega
 have hc1:=Ya
 rw[ho1]at hc1
 have hc0:=OE
 rw[ho1]at hc0
 have HC2:=Lib.hid (fun(y u:World) (hb:Below (y.alloc (.cells #[.int .u8 128] 5)).drew.heap.size (y.alloc (.cells #[.int .u8 128] 5)).drew u)=>We hb (by simp))
 rw[ho1]at HC2
 have HREP2:=Lib.hid (fun w=>show Calls Tryz.prog 271 #[.string ⟨#[0]⟩,.int .i64 (z:Int)] w fun e w'=>e=.returned (.string zr)∧Below w.heap.size w w' from hzr▸HREP.out w)
 have HLO:=Lib.hid (fun y (h:fL w y w.heap.size 8 8 L)=>hlb▸h.out hll)
 have HPP:=Lib.hid (show(⟨(Sh.my s.data.toList).toArray⟩:ByteArray)=s++o1++zr++lb from by
  rw[HP.out,← hzr,← hlb,← ho1,yh]
  apply adi
  simp)
 clear HREP HP hzr hlb ho1
 go_enter Tryz.func210,Tryz.ntmps210
 go_wp2_with fail
 refine wp_loop_rounds 9 ?_
 repeat (rw[rounds_succ];go_wp2_with fail)
 have HS:=Lib.hid (show fL w _ w.heap.size 8 8 L from⟨HL.out,by simp,(Below.refl _ _).alloc (aas _) _⟩)
 generalize w.alloc _=x0 at HS⊢
 clear HL
 try rw[hz3]
 try rw[hz2]
 clear hz2 hz3
 have hn1:¬(9223372036854775807<s.size+o1.size):=by omega
 have hn2:¬(9223372036854775807<s.size+o1.size+zr.size):=by omega
 have hn3:¬(9223372036854775807<s.size+o1.size+zr.size+lb.size):=by omega
 have hS0:fL w x0 w.heap.size 8 8 L:=HS.out
 have hcl:∀y,fL w y w.heap.size 8 8 L→(convert 116 9 (.slice (some ⟨w.heap.size,0,none⟩) 8 8)).run Tryz.prog y=.ok (.string lb) y:=fun y h=>(HLO.out y h).1
 have hal:∀y o,fL w y w.heap.size 8 8 L→fL w (y.alloc o) w.heap.size 8 8 L:=fun y o h=>h.alloc o
 have hdr:∀y,fL w y w.heap.size 8 8 L→fL w y.drew w.heap.size 8 8 L:=fun y h=>h.drew
 have hcd:(convert 116 9 (.slice (some ⟨w.heap.size,0,none⟩) 8 8)).run Tryz.prog x0.drew=.ok (.string lb) x0.drew:=hcl _ (hdr _ hS0)
 have hcad:∀o,(convert 116 9 (.slice (some ⟨w.heap.size,0,none⟩) 8 8)).run Tryz.prog (x0.alloc o).drew=.ok (.string lb) (x0.alloc o).drew:=fun o=>hcl _ (hdr _ (hal _ _ hS0))
 have HBE:=Lib.hid (fun(y u:World) (hb:Below y.heap.size y u) (h:fL w y w.heap.size 8 8 L)=>h.below hb)
 clear HLO HS
 go_region_with ((first|(go_at_call 271;((with_reducible refine(HREP2.out _).mono ?_);rintro e u ⟨rfl,hbu⟩;(try (have hc2:=HC2.out _ _ hbu));have hSu:=HBE.out _ _ hbu (by simp[hS0,hal,hdr]);have hcu:=hcl _ hSu;have hcua:=fun o=>hcl _ (hal _ o hSu)))))
 all_goals (go_wp2_with fail)
 all_goals (go_ret;exact⟨pM (by rw[HPP.out]),fL.b (g:=w.heap.size) (n:=8) (cap:=8) (l:=L) (by simp[*])⟩)
end
end Go.Proofs.YtbnonpbnhenkfaaGreatDoor
section
namespace Go.Proofs.YtbnonpbnhenkfaaGreatDoor
open Go.RowKit
structure Laid(w:World):Prop where
 EH:sF w
 s0:w.cell? ⟨4,0,none⟩=some (.int .u32 ((Sh.H0.a:Nat):Int))
 s1:w.cell? ⟨4,1,none⟩=some (.int .u32 ((Sh.H0.b:Nat):Int))
 s2:w.cell? ⟨4,2,none⟩=some (.int .u32 ((Sh.H0.c:Nat):Int))
 s3:w.cell? ⟨4,3,none⟩=some (.int .u32 ((Sh.H0.d:Nat):Int))
 s4:w.cell? ⟨4,4,none⟩=some (.int .u32 ((Sh.H0.e:Nat):Int))
 s5:w.cell? ⟨4,5,none⟩=some (.int .u32 ((Sh.H0.f:Nat):Int))
 s6:w.cell? ⟨4,6,none⟩=some (.int .u32 ((Sh.H0.g:Nat):Int))
 s7:w.cell? ⟨4,7,none⟩=some (.int .u32 ((Sh.H0.h:Nat):Int))
 lt:5<w.heap.size
 J1:4<w.heap.size
theorem Laid.below{w x:World}{B:Nat}(h:Laid w)(hb:Below B w x)(hB:w.heap.size≤B):Laid x:=
 have h1:5<B:=aaS h.lt hB
 have h2:4<B:=aaS h.J1 hB
 have h3:=hb.size
 ⟨h.EH.below hb h1,(hb.cell (p:=⟨_,0,none⟩) h2).trans h.s0,(hb.cell (p:=⟨_,1,none⟩) h2).trans h.s1,(hb.cell (p:=⟨_,2,none⟩) h2).trans h.s2,
  (hb.cell (p:=⟨_,3,none⟩) h2).trans h.s3,(hb.cell (p:=⟨_,4,none⟩) h2).trans h.s4,(hb.cell (p:=⟨_,5,none⟩) h2).trans h.s5,
  (hb.cell (p:=⟨_,6,none⟩) h2).trans h.s6,(hb.cell (p:=⟨_,7,none⟩) h2).trans h.s7,aaS h.lt h3,aaS h.J1 h3⟩
theorem Bz(l:List UInt8):∀v∈cV l,v.oneCell'=true:=by
 intro v hv;simp only[cV,abc]at hv;obtain⟨b,_,rfl⟩:=hv;rfl
theorem Rn(w:World)(ty:TypeId)(g:Nat)(s:ByteArray)(hs:64≤s.size)(ht:w.there g 0 64):
 (Builtin.copy_ #[116,9] ty #[.slice (some ⟨g,0,none⟩) 64 64,.string s]).run Tryz.prog w=.ok (goInt 64) (w.setCells g 0 (cV (s.data.toList.take 64))):=by
 have hu:=Tryz.underlying116
 obtain⟨i,hi,hz0,hz1,hz2⟩:=info_parts Tryz.w9
 have hlen:(cV (s.data.toList.take 64)).length=64:=by
  unfold cV;rw[aao,aax,show s.data.toList.length=s.size from rfl];omega
 have hst:=run_storeCells_cells (P:=Tryz.prog) g 0 (cV (s.data.toList.take 64)) 0 w (fun j hj=>by simpa using(ht j (by omega)).1) (fun j hj=>by simpa using(ht j (by omega)).2) (Bz _)
 have hmin:Nat.min s.size 64=64:=Nat.min_eq_right hs
 have htk:List.take 64 (List.map (fun b:UInt8=>Value.int IntKind.u8 (b.toNat:Int)) s.data.toList)=cV (s.data.toList.take 64):=by
  unfold cV;rw[acB]
 simp[Builtin.copy_,run_underlying hu,Builtin.lenOf,Builtin.firstCells,sizeOf,typeInfo,hi,hmin]
 rw[htk,hst]
 simp[Result.andThen]
theorem YY{w:World}{ops:Array Oper}{rest:List Oper}{o:Oper}{a:Act}{Q:Exit→Act→World→Prop}(hgd:o.guard=none)(d x:Operand)
 (ho:o.op=.call {callee:=.builtin .copy,args:=#[d,x],argTypes:=#[116,9]}) (g:Nat) (s:ByteArray)
 (hd:a.eval d=.slice (some ⟨g,0,none⟩) 64 64) (hx:a.eval x=.string s) (hs:64≤s.size) (ht:w.there g 0 64)
 (h:wpList Tryz.prog ops Q rest (a.put o.dst (goInt 64)) (w.setCells g 0 (cV (s.data.toList.take 64)))):wpList Tryz.prog ops Q (o::rest) a w:=by
 refine wpList_plain hgd fun K hK=>?_
 have hrun:=Rn w o.type g s hs ht
 unfold Oper.wp
 simp[execOp,ho,resolve,invoke,builtin,hd,hx,hrun,Result.andThen]
 exact hK _ _ h
theorem YH(q:ByteArray)(h:0<q.size):q.toList.isEmpty=false:=by
 rw[Lib.toList_data];have:0<q.data.toList.length:=h;cases hq:q.data.toList with
 |nil=>rw[hq]at this;simp at this
 |cons a l=>rfl
def Ki:Value→Nat
 |.string q=>q.size
 |_=>0
theorem Row.cells{x:World}{g b:Nat}{l:List Value}(h:Row x g l)(hne:b≠g)(o:Nat)(cs:List Value):Row (x.setCells b o cs) g l:=fun j v e=>
 ⟨by rw[World.cell?_setCells_out b cs o x _ (fun e'=>absurd e' (by simpa using Ne.symm hne))];exact(h j v e).1,by rw[World.frozen?_setCells];exact(h j v e).2⟩
theorem D1(v:Sh.V):(fk v).length=8:=rfl
theorem EV(v:Sh.V):(fk v).toArray.size=8:=rfl
theorem Y_(v:Sh.V):t_ v=.agg (fk v).toArray:=rfl
theorem SA(v:Sh.V):∀x∈fk v,x.oneCell'=true:=by
 intro x hx;obtain⟨y,_,rfl⟩:=abc.1 hx;rfl
structure Ss(w x:World)(v:Sh.V):Prop where
 r:Row x w.heap.size (fk v)
 b:Below w.heap.size w x
 lt:w.heap.size<x.heap.size
theorem Ss.drew{w x:World}{v:Sh.V}(h:Ss w x v):Ss w x.drew v:=⟨h.r.drew,h.b.drew,h.lt⟩
theorem Ss.below{w x y:World}{v:Sh.V}(h:Ss w x v)(hb:Below x.heap.size x y):Ss w y v:=⟨h.r.below hb h.lt,h.b.trans (hb.mono h.b.size),aaS h.lt hb.size⟩
theorem Ss.alloc{w x:World}{v:Sh.V}(h:Ss w x v)(o:Obj):Ss w (x.alloc o) v:=h.below ((Below.refl _ _).alloc (aas _) o)
theorem Ss.lay{w x:World}{v:Sh.V}(h:Ss w x v)(u:Sh.V):Ss w (x.setCells w.heap.size 0 (fk u)) u:=
 ⟨Row.ku h.r _ _ _ _ _ _ _ _,Below.ku h.b (aas _) _ _ _ _ _ _ _ _,by have:=h.lt;rw[show(x.setCells w.heap.size 0 (fk u))=ku x w.heap.size (.int .u32 (u.a:Int)) (.int .u32 (u.b:Int)) (.int .u32 (u.c:Int)) (.int .u32 (u.d:Int)) (.int .u32 (u.e:Int)) (.int .u32 (u.f:Int)) (.int .u32 (u.g:Int)) (.int .u32 (u.h:Int))from rfl];simpa[ku]using this⟩
theorem NT(l:List UInt8)(x:Nat):ia l++[.int .u8 ((x:Int) / 16777216%256),.int .u8 ((x:Int) / 65536%256),.int .u8 ((x:Int) / 256%256),.int .u8 ((x:Int)%256)]=ia (l++Sh.lD x):=by
 unfold ia Sh.lD;rw[aaC];congr 1;simp
theorem Sv(v:Sh.V):fk v=eE (Sh.L8 v):=rfl
theorem PB(L:List Nat)(hL:L.length=8)(i:Nat)(hi:i<8)(w:World):(Instr.index 309 (.agg (eE L).toArray) (.int .i64 (i:Int))).run Tryz.prog w=.ok (.int .u32 ((L.getD i 0:Nat):Int)) w:=by
 have h:=mN (l:=L) (j:=i) (by omega);unfold Instr.index;simp only[aba]at h;simp[go_sem,hi,h]
namespace Sh
def nG(l:List Nat):Nat→List UInt8
 |0=>[]
 |j+1=>nG l j++lD (l.getD j 0)
theorem JQ(l:List Nat):∀j,(nG l j).length=4*j
 |0=>rfl
 |j+1=>by rw[nG,aap,JQ l j];show 4*j+4=_;omega
theorem WH(v:V):out v=nG (L8 v) 8:=rfl
theorem Z5(v:V):(L8 v).length=8:=rfl
def rest(P:List UInt8)(k:Nat):ByteArray:=⟨(P.drop (64*k)).toArray⟩
theorem uF(P:List UInt8)(k:Nat):(rest P k).size=P.length-64*k:=by show(P.drop (64*k)).toArray.size=_;simp
theorem Mp(P:List UInt8)(k:Nat):(rest P k).extract 64 (rest P k).size=rest P (k+1):=by
 apply adi;rw[uF];simp[rest,adn];rw[show 64*(k+1)=64*k+64 by omega];rw[aaQ (by simp;omega)]
theorem Wl(n:Nat):(n+1+qO n+8)%64=0:=by unfold qO;omega
theorem WM(s:List UInt8):(my s).length%64=0:=by
 unfold my;have:(len8 (s.length*8%18446744073709551616)).length=8:=by unfold len8;simp
 simp only[aap,abh,this,abo];exact Wl _
theorem OI(t:List UInt8){h:V}(hh:h.ok):∀k,(blocks t h k).ok
 |0=>hh
 |_+1=>TX _ _
theorem Y5(t:List UInt8)(h:V)(k:Nat):blocks t h (k+1)=block (blocks t h k) ((t.drop (64*k)).take 64):=rfl
theorem MN:H0.ok:=⟨by decide,by decide,by decide,by decide,by decide,by decide,by decide,by decide⟩
end Sh
theorem zW(s:ByteArray)(w:World)(hL:Laid w)(hs:s.size≤281474976710656):
 Calls Tryz.prog 146 #[.string s] w fun e w'=>e=.returned (.string ⟨(Sh.sum s.data.toList).toArray⟩)∧Below w.heap.size w w':=by
 have HPAD:=Lib.hid (fun w=>YU s w hs)
 have hmod:=Sh.WM s.data.toList
 have HSUM:=Lib.hid (show Sh.sum s.data.toList=Sh.out (Sh.blocks (Sh.my s.data.toList) Sh.H0 ((Sh.my s.data.toList).length / 64))from rfl)
 generalize Sh.my s.data.toList=P at HPAD hmod HSUM
 obtain⟨m,hm⟩:∃m,P.length=64*m:=⟨P.length / 64,by omega⟩
 rw[show P.length / 64=m by omega]at HSUM
 obtain⟨pt,hpt⟩:∃q:ByteArray,⟨P.toArray⟩=q:=⟨_,rfl⟩
 rw[hpt]at HPAD
 have HPT:=Lib.hid (show pt=Sh.rest P 0 from hpt▸rfl)
 have HLA:=Lib.hid hL
 have HOK0:=Lib.hid Sh.MN
 obtain⟨_,s0,s1,s2,s3,s4,s5,s6,s7,lt1,lt2⟩:=hL
 generalize Sh.H0=st at s0 s1 s2 s3 s4 s5 s6 s7 HSUM HOK0
 clear hpt hmod
 go_enter Tryz.func146,Tryz.ntmps146
 go_wp2_with (go_at_call 210;refine(HPAD.out _).mono ?_;rintro e x1 ⟨rfl,hb1⟩)
 have HS:=Lib.hid (Ss.below (show Ss w (w.alloc (.cells (fk st).toArray 309)) st from⟨Row.at rfl (by simp),(Below.refl _ _).alloc (aas _) _,by simp⟩) hb1)
 clear hb1 s0 s1 s2 s3 s4 s5 s6 s7 HPAD
 go_loopw [4] (fun s4 wr=>∃k:Nat,k≤m∧s4=.string (Sh.rest P k)∧Ss w wr (Sh.blocks P st k)) (fun s4 _=>Ki s4)
 case atStart=>exact⟨0,by omega,by rw[HPT.out],HS.out⟩
 case round=>
  clear HS HPT
  obtain⟨k,hk,rfl,hS⟩:=hrel
  by_cases hkm:k<m
  ·have hsz:=Sh.uF P k
   have hnx:=Sh.Mp P k
   have HTK:=Lib.hid (show(Sh.rest P k).data.toList.take 64=(P.drop (64*k)).take 64 from by simp[Sh.rest])
   have HBL:=Lib.hid (Sh.Y5 P st k)
   have HOK:=Lib.hid (Sh.OI P HOK0.out k)
   have HS:=Lib.hid hS
   have hl2:(Sh.rest P (k+1)).size<(Sh.rest P k).size:=by rw[Sh.uF,Sh.uF];omega
   have HB64:=Lib.hid (show((P.drop (64*k)).take 64).length=64 from by simp;omega)
   generalize(P.drop (64*k)).take 64=B at HTK HBL HB64
   generalize hq2:Sh.rest P (k+1)=q2 at hnx hl2
   have HQ2:=Lib.hid hq2;clear hq2
   generalize Sh.rest P k=q at hsz hnx HTK hl2
   have hq64:64≤q.size:=by omega
   have hq64':(64:Int)≤(q.size:Int):=by omega
   have hemp:q.toList.isEmpty=false:=YH q (by omega)
   clear hsz
   go_upto_region 6 with fail
   have HT64:=Lib.hid (show World.there _ wr.heap.size 0 64 from(Row.at (w:=wr) (t:=310) (l:=List.replicate 64 (.int .u8 0)) rfl (by rfl)).there)
   have HS2:=Lib.hid (HS.out.alloc (.cells (List.replicate 64 (.int .u8 0)).toArray 310))
   have HLT:=Lib.hid (show wr.heap.size<(wr.alloc (.cells (List.replicate 64 (.int .u8 0)).toArray 310)).heap.size from by simp)
   have HWB:=Lib.hid (show w.heap.size<wr.heap.size from HS.out.lt)
   simp only[List.replicate]at HT64 HS2 HLT
   generalize hgb:wr.heap.size=gb at HT64 HLT HWB⊢
   generalize World.alloc _ (Obj.cells _ _)=x2 at HT64 HS2 HLT⊢
   clear hgb HS
   go_upto_region 7 with(refine YY rfl (Operand.tmp 16) (Operand.tmp 17) rfl gb q rfl rfl hq64 HT64.out ?_)
   rw[HTK.out]
   simp only[Act.put,List.setIfInBounds_toArray,List.set_cons_zero,List.set_cons_succ]
   have hone:=Bz B
   have hbl:(cV B).length=64:=by unfold cV;rw[aao];exact HB64.out
   have hne:gb≠w.heap.size:=by have:=HWB.out;omega
   have hS3:Ss w (x2.setCells gb 0 (cV B)) (Sh.blocks P st k):=
    ⟨HS2.out.r.cells hne 0 _,qT (cV B) 0 (by have:=HWB.out;omega) HS2.out.b,by have:=HS2.out.lt;have h2:=(qT (B:=0) (b:=gb) (cV B) 0 (aaF gb) (Below.refl 0 x2)).size;exact aaS this h2⟩
   have HRG:=Lib.hid (World.rangeAt_setCells_same x2 gb 0 (cV B) (by rw[hbl];exact HT64.out))
   have HLA3:=Lib.hid (HLA.out.below hS3.b (aas _))
   have HS3:=Lib.hid hS3
   have HBK:=Lib.hid (fun y (h:Laid y)=>X4 (Sh.blocks P st k) B y HB64.out HOK.out h.EH h.lt)
   rw[← HBL.out]at HBK
   have HSZ:=Lib.hid (show(Tryz.prog.info? 310).map (·.size)=some (cV B).length from by rw[hbl];kernel_rfl)
   generalize x2.setCells gb 0 (cV B)=x3 at HRG HLA3 HS3⊢
   clear hS3 hone hbl hne HT64 HS2 HLT
   have hvl:(fk (Sh.blocks P st k)).length=8:=D1 _
   have HVR:=Lib.hid HS3.out.r.range
   have HS36:=Lib.hid (show(Tryz.prog.info? 309).map (·.size)=some (fk (Sh.blocks P st k)).length from by rw[hvl];kernel_rfl)
   have HS37:=Lib.hid (show(Tryz.prog.info? 309).map (·.size)=some (fk (Sh.blocks P st (k+1))).toArray.size from by rw[EV];kernel_rfl)
   have HUA:=Lib.hid (all_oneCell_toArray (SA (Sh.blocks P st (k+1))))
   have HUT:=Lib.hid (fun y (h:Ss w y (Sh.blocks P st k))=>show y.there w.heap.size 0 (fk (Sh.blocks P st (k+1))).toArray.size from by rw[EV,← hvl];exact h.r.there)
   have HLAY:=Lib.hid (fun y (h:Ss w y (Sh.blocks P st k))=>h.lay (Sh.blocks P st (k+1)))
   simp only[Y_]at HBK
   clear hvl HOK HBL HB64
   generalize fk (Sh.blocks P st (k+1))=UC at HBK HS37 HUA HUT HLAY
   generalize fk (Sh.blocks P st k)=VC at HBK HVR HS36
   generalize cV B=BC at HRG HSZ HBK
   go_upto_region 4 with(first
    |(refine wpList_load_mid rfl 309 (Operand.tmp 3) rfl w.heap.size 0 rfl VC _ HVR.out Tryz.underlying309 rfl HS36.out ?_)
    |(refine wpList_load_mid rfl 310 (Operand.tmp 5) rfl gb 0 rfl BC _ HRG.out Tryz.underlying310 rfl HSZ.out ?_)
    |(go_at_call 211;(refine(HBK.out _ HLA3.out).mono ?_);rintro e x4 ⟨rfl,hb4⟩;have HS4:=Lib.hid (HS3.out.below hb4);clear hb4)
    |(refine wpList_store_mid rfl 309 (Operand.tmp 3) (Operand.tmp 21) rfl w.heap.size 0 UC.toArray rfl rfl (HUT.out _ HS4.out) HS37.out HUA.out ?_))
   simp only[Act.put]
   have HS5:=Lib.hid (HLAY.out _ HS4.out)
   clear HS37 HUA HUT HVR HS36 HRG HSZ HBK HLA3 HS3
   generalize x4.setCells w.heap.size 0 UC=x5 at HS5⊢
   clear HLAY HS4
   go_wp2_with fail
   refine⟨⟨k+1,by omega,?_,HS5.out⟩,?_⟩
   ·rw[HQ2.out]
   ·simp only[Ki];omega
  ·obtain rfl:k=m:=by omega
   have hemp:(Sh.rest P k).toList.isEmpty=true:=by
    rw[Lib.toList_data]
    have h:=Sh.uF P k
    rw[hm,acn]at h
    have h2:(Sh.rest P k).data.toList.length=0:=h
    rw[abz.1 h2];rfl
   generalize Sh.rest P k=q at hemp
   obtain⟨V,hV⟩:∃V,Sh.blocks P st k=V:=⟨_,rfl⟩
   rw[hV]at hS HSUM
   have HS:=Lib.hid hS
   have hvl:(fk V).length=8:=D1 _
   have HVR:=Lib.hid hS.r.range
   have HS36:=Lib.hid (show(Tryz.prog.info? 309).map (·.size)=some (fk V).length from by rw[hvl];kernel_rfl)
   clear hS hvl hV
   have HIX:=Lib.hid (fun i hi w=>PB (Sh.L8 V) (Sh.Z5 V) i hi w)
   rw[← Sv]at HIX
   have HOUT:=Lib.hid (HSUM.out.trans (Sh.WH V))
   generalize Sh.L8 V=LV at HIX HOUT
   obtain⟨VC,hVC⟩:∃VC,fk V=VC:=⟨_,rfl⟩
   rw[hVC]at HVR HS36 HIX
   clear hVC HSUM
   obtain⟨i0,hi,hz0,hz1,hz2⟩:=info_parts Tryz.w9
   clear hkm hk hm
   go_wp2_with (refine wpList_load_mid rfl 309 (Operand.tmp 3) rfl w.heap.size 0 rfl VC _ HVR.out Tryz.underlying309 rfl HS36.out ?_)
   go_loopw [6,23] (fun s6 s23 wy=>∃j:Nat,j≤8∧s23=.int .i64 (j:Int)∧wy.ownsRow w.heap.size 5 1 s6 (Sh.nG LV j).length (ia (Sh.nG LV j))∧Below w.heap.size w wy) (fun _ s23 _=>8-(intOf s23).toNat)
   case atStart=>exact⟨0,by omega,rfl,World.ownsRow_nil _ _ _ _,HS.out.b⟩
   case round=>
    clear HS HVR HS36
    obtain⟨j,hj,rfl,hown,hbel⟩:=hrel
    have hle:=Sh.JQ LV j
    by_cases h8:j<8
    ·have h8':(j:Int)<8:=by omega
     have hj0:(0:Int)≤(j:Int):=by omega
     have hidx:=fun w=>HIX.out j h8 w
     have HNX:=Lib.hid (show Sh.nG LV (j+1)=Sh.nG LV j++Sh.lD (LV.getD j 0)from rfl)
     generalize LV.getD j 0=x at hidx HNX
     generalize hl2:Sh.nG LV (j+1)=l2 at HNX
     have HL2:=Lib.hid hl2;clear hl2
     generalize Sh.nG LV j=l at hown hle HNX
     have hws:=hbel.size
     go_wp2_with (at_builtin;refine wpList_append_own _ rfl _ _ 116 rfl w.heap.size 5 i0 (.int .u8 0) 1 1 Tryz.underlying116 hi hz0 hz1 hz2 rfl (by decide) _ _ _ rfl (hown.alloc _) ⟨wr.heap.size,0,none⟩ 4 4 [.int .u8 ((x:Int) / 16777216%256),.int .u8 ((x:Int) / 65536%256),.int .u8 ((x:Int) / 256%256),.int .u8 ((x:Int)%256)] rfl rfl ?c1 ?c2 ?c3 ?c4 ?c5 ?_)
     case c1=>
      intro j u hj
      match j,hj with
      |0,hj=>simp at hj;subst hj;simp[Addr.add]
      |1,hj=>simp at hj;subst hj;simp[Addr.add]
      |2,hj=>simp at hj;subst hj;simp[Addr.add]
      |3,hj=>simp at hj;subst hj;simp[Addr.add]
     case c2=>intro u hu;simp at hu;rcases hu with rfl|rfl|rfl|rfl<;>rfl
     case c3=>unfold maxLen;omega
     case c4=>omega
     case c5=>simp;omega
     ·intro v' w1 hown' hgrow _
      have hb1:Below w.heap.size w w1:=(hbel.alloc hws (.cells #[.int .u8 ((x:Int) / 16777216%256),.int .u8 ((x:Int) / 65536%256),.int .u8 ((x:Int) / 256%256),.int .u8 ((x:Int)%256)] 5)).grown hgrow (by simp;omega) (fun j e=>(hown.lt j e).1)
      rw[NT,← HNX.out]at hown'
      have e:l2.length=4*j+4:=by rw[HNX.out,aap,hle];rfl
      have HO:=Lib.hid (show w1.ownsRow w.heap.size 5 1 v' l2.length (ia l2)from by rw[e];exact hown')
      clear e
      have HB:=Lib.hid hb1
      clear hown' hgrow hb1 hown hbel hws
      go_wp2_with fail
      refine⟨⟨j+1,by omega,by go_num,by rw[HL2.out];exact HO.out,HB.out⟩,by simp only[intOf];omega⟩
    ·obtain rfl:j=8:=by omega
     have h8':¬((8:Nat):Int)<8:=by omega
     rw[← HOUT.out]at hown hle
     have kc:=Hu hown (by omega)
     have HB:=Lib.hid hbel
     clear hown hbel HOUT hle
     go_wp2_with fail
     go_ret
     exact⟨pM rfl,HB.out⟩
end Go.Proofs.YtbnonpbnhenkfaaGreatDoor
end
section
namespace Go.Proofs.YtbnonpbnhenkfaaGreatDoor
open Go.RowKit
namespace Mc
def qn(k:List UInt8):List UInt8:=(List.range 64).map fun i=>k.getD i 0
def mixed(k:List UInt8)(x:UInt8):List UInt8:=(List.range 64).map fun i=>k.getD i 0 ^^^ x
def key(k:List UInt8):List UInt8:=if 64<k.length then Sh.sum k else k
def sign(k s:List UInt8):List UInt8:=Sh.sum (mixed (key k) 92++Sh.sum (mixed (key k) 54++s))
def iX(k:List UInt8)(x:UInt8):Nat→List UInt8
 |0=>qn k
 |i+1=>(iX k x i).set i ((iX k x i).getD i 0 ^^^ x)
theorem uo(k:List UInt8)(x:UInt8):∀i,(iX k x i).length=64
 |0=>by simp[iX,qn]
 |i+1=>by rw[iX,aaY,uo k x i]
theorem Kh(k:List UInt8){j:Nat}(hj:j<64):(qn k).getD j 0=k.getD j 0:=by rw[aba,qn,aaT,List.getElem?_range hj];rfl
theorem CV(k:List UInt8)(x:UInt8):∀i,i≤64→∀j,j<64→(iX k x i).getD j 0=if j<i then k.getD j 0 ^^^ x else k.getD j 0
 |0,_,j,hj=>by rw[iX,Kh k hj,abg (by omega)]
 |i+1,hi,j,hj=>by
  have ih:=CV k x i (by omega)
  rw[iX]
  by_cases e:i=j
  ·subst e
   rw[abb (by omega),aba,adj (by rw[uo];omega),acK,ih i hj,abg (by omega)]
  ·rw[aba,List.getElem?_set_ne e,← aba,ih j hj]
   by_cases h:j<i
   ·rw[abb h,abb (by omega)]
   ·rw[abg h,abg (by omega)]
theorem MF(k:List UInt8)(x:UInt8):iX k x 64=mixed k x:=by
 apply List.ext_getElem
 ·rw[uo];simp[mixed]
 ·intro j h1 h2;have hj:j<64:=by rw[uo]at h1;exact h1
  have h:=CV k x 64 (aas _) j hj;rw[abb hj,aba,aay h1,acK]at h;rw[h];simp[mixed]
theorem yO(k:List UInt8)(x:UInt8):(mixed k x).length=64:=by simp[mixed]
theorem MQ(k:List UInt8):(key k).length≤64:=by
 unfold key;split
 ·show 32≤64;omega
 ·omega
end Mc
theorem Row.lay:∀(cs:List Value) (o:Nat) {x:World} {g:Nat} {l:List Value},Row x g l→o+cs.length≤l.length→Row (x.setCells g o cs) g (l.take o++cs++l.drop (o+cs.length))
 | [],o,x,g,l,h,_=>by
  rw[abe,abQ,abM,abD]
  exact h
 |v::cs,o,x,g,l,h,hl=>by
  simp only[aaL]at hl
  have h2:=Row.lay cs (o+1) (h.set o v (by omega)) (by rw[aaY];omega)
  have e:(l.set o v).take (o+1)++cs++(l.set o v).drop (o+1+cs.length)=l.take o++v::cs++l.drop (o+(v::cs).length):=by
   rw[adK,adj (by omega),List.take_set_of_le (aas _),List.drop_set_of_lt (by omega)]
   simp only[Option.toList_some,aaL,abd,aca,aci]
   rw[show o+1+cs.length=o+(cs.length+1)by omega]
  rw[e]at h2
  exact h2
theorem Ur(w:World)(ty:TypeId)(g:Nat)(s:ByteArray)(hs:s.size≤64)(ht:w.there g 0 64):
 (Builtin.copy_ #[116,9] ty #[.slice (some ⟨g,0,none⟩) 64 64,.string s]).run Tryz.prog w=.ok (goInt s.size) (w.setCells g 0 (cV s.data.toList)):=by
 have hu:=Tryz.underlying116
 obtain⟨i,hi,hz0,hz1,hz2⟩:=info_parts Tryz.w9
 have hlen:(cV s.data.toList).length=s.size:=by unfold cV;rw[aao];rfl
 have hst:=run_storeCells_cells (P:=Tryz.prog) g 0 (cV s.data.toList) 0 w (fun j hj=>by simpa using(ht j (by omega)).1) (fun j hj=>by simpa using(ht j (by omega)).2) (Bz _)
 have hmin:Nat.min s.size 64=s.size:=abU hs
 have htk:List.take s.size (List.map (fun b:UInt8=>Value.int IntKind.u8 (b.toNat:Int)) s.data.toList)=cV s.data.toList:=by
  unfold cV;exact aaQ (by rw[aao];exact aas _)
 simp[Builtin.copy_,run_underlying hu,Builtin.lenOf,Builtin.firstCells,sizeOf,typeInfo,hi,hmin]
 rw[htk,hst]
 simp[Result.andThen]
theorem U6{w:World}{ops:Array Oper}{rest:List Oper}{o:Oper}{a:Act}{Q:Exit→Act→World→Prop}(hgd:o.guard=none)(d x:Operand)
 (ho:o.op=.call {callee:=.builtin .copy,args:=#[d,x],argTypes:=#[116,9]}) (g:Nat) (s:ByteArray)
 (hd:a.eval d=.slice (some ⟨g,0,none⟩) 64 64) (hx:a.eval x=.string s) (hs:s.size≤64) (ht:w.there g 0 64)
 (h:wpList Tryz.prog ops Q rest (a.put o.dst (goInt s.size)) (w.setCells g 0 (cV s.data.toList))):wpList Tryz.prog ops Q (o::rest) a w:=by
 refine wpList_plain hgd fun K hK=>?_
 have hrun:=Ur w o.type g s hs ht
 unfold Oper.wp
 simp[execOp,ho,resolve,invoke,builtin,hd,hx,hrun,Result.andThen]
 exact hK _ _ h
theorem Oq(k:List UInt8)(h:k.length≤64):(List.replicate 64 (Value.int .u8 0)).take 0++cV k++(List.replicate 64 (Value.int .u8 0)).drop (0+(cV k).length)=cV (Mc.qn k):=by
 have hl:(cV k).length=k.length:=by unfold cV;rw[aao]
 rw[List.take_zero,aci,aav,hl];have hp:(Mc.qn k).length=64:=by simp[Mc.qn]
 apply acG;intro j;by_cases hj:j<64
 ·rw[qu (by rw[hp];exact hj),Mc.Kh k hj];by_cases e:j<k.length
  ·rw[abt (by rw[hl];exact e),qu e]
  ·rw[abf (by rw[hl];omega),abH,hl,List.getElem?_replicate,abb (by omega),aba,acT (Nat.le_of_not_lt e)];rfl
 ·rw[acT (by rw[aap,hl,aaO,abh];omega),acT (by unfold cV;rw[aao,hp];omega)]
theorem XL(l:List UInt8)(j:Nat)(x:UInt8):(cV l).set j (.int .u8 (x.toNat:Int))=cV (l.set j x):=by unfold cV;rw[List.map_set]
theorem YC(a:UInt8)(x:Nat)(hx:x<256):bits .xor .u8 (a.toNat:Int) (x:Int)=((a ^^^ UInt8.ofNat x).toNat:Int):=by
 rw[u8_xor_nat _ _ (acf a) hx];simp;rw[aco hx]
structure Xs(w x:World)(l:List UInt8):Prop where
 r:Row x w.heap.size (cV l)
 b:Below w.heap.size w x
theorem Hw(k:ByteArray)(x:Nat)(w:World)(hk:k.size≤64)(hx:x<256):
 Calls Tryz.prog 147 #[.string k,.int .u8 (x:Int)] w fun e w'=>e=.returned (.string ⟨(Mc.mixed k.data.toList (UInt8.ofNat x)).toArray⟩)∧Below w.heap.size w w':=by
 have HX:=Lib.hid (fun a=>YC a x hx)
 go_enter Tryz.func147,Tryz.ntmps147
 go_upto_region 2 with fail
 have hR:=Row.at (w:=w) (t:=310) (l:=List.replicate 64 (.int .u8 0)) (aB:=(List.replicate 64 (.int .u8 0)).toArray) rfl (by rfl)
 have cI:Below w.heap.size w (w.alloc (.cells (List.replicate 64 (.int .u8 0)).toArray 310)):=(Below.refl _ _).alloc (aas _) _
 have HTH:=Lib.hid hR.there
 have hR2:=Row.lay (cV k.data.toList) 0 hR (by unfold cV;rw[aao,abh];show 0+k.size≤64;omega)
 rw[Oq _ hk]at hR2
 have HS:=Lib.hid (Xs.mk hR2 (qT (cV k.data.toList) 0 (aas _) cI))
 clear hR hR2 cI
 simp only[List.replicate]at HTH HS
 generalize World.alloc _ (Obj.cells _ _)=x1 at HTH HS⊢
 go_wp2_with (refine U6 rfl (Operand.tmp 7) (Operand.tmp 8) rfl w.heap.size k rfl rfl hk HTH.out ?_)
 clear HTH
 generalize World.setCells x1 w.heap.size 0 (cV k.data.toList)=x2 at HS⊢
 go_loopw [10] (fun s10 wr=>∃i:Nat,i≤64∧s10=.int .i64 (i:Int)∧Xs w wr (Mc.iX k.data.toList (UInt8.ofNat x) i)) (fun s10 _=>64-(intOf s10).toNat)
 case atStart=>exact⟨0,by omega,rfl,HS.out⟩
 case round=>
  clear HS
  obtain⟨i,hi,rfl,hX⟩:=hrel
  have hl:=Mc.uo k.data.toList (UInt8.ofNat x) i
  by_cases h64:i<64
  ·have h64':(i:Int)<64:=by omega
   have hi0:(0:Int)≤(i:Int):=by omega
   obtain⟨c0,f0⟩:=hX.r i _ (qu (by rw[hl];exact h64))
   have hx0:=HX.out ((Mc.iX k.data.toList (UInt8.ofNat x) i).getD i 0)
   have hn:Xs w (wr.setCell ⟨w.heap.size,i,none⟩ (.int .u8 (((Mc.iX k.data.toList (UInt8.ofNat x) i).getD i 0 ^^^ UInt8.ofNat x).toNat:Int))) (Mc.iX k.data.toList (UInt8.ofNat x) (i+1)):=
    ⟨by rw[Mc.iX,← XL];exact hX.r.set i _ (by unfold cV;rw[aao,hl];exact h64),hX.b.setCell (p:=⟨w.heap.size,i,none⟩) (aas _) _⟩
   have HN:=Lib.hid hn
   generalize(Mc.iX k.data.toList (UInt8.ofNat x) i).getD i 0 ^^^ UInt8.ofNat x=d at hx0 HN
   generalize(Mc.iX k.data.toList (UInt8.ofNat x) i).getD i 0=c at hx0 c0
   clear hn hX hl
   go_wp2_with fail
   refine⟨⟨i+1,by omega,by go_num,HN.out⟩,by simp only[intOf];omega⟩
  ·obtain rfl:i=64:=by omega
   have h64':¬((64:Nat):Int)<64:=by omega
   rw[Mc.MF]at hX
   have kc:=uv (cap:=64) hX.r (Mc.yO k.data.toList (UInt8.ofNat x))
   have HB:=Lib.hid hX.b
   obtain⟨m,hm⟩:∃m,Mc.mixed k.data.toList (UInt8.ofNat x)=m:=⟨_,rfl⟩
   rw[hm]at kc
   have HM:=Lib.hid hm
   clear hX hl hm
   go_wp2_with fail
   go_ret
   exact⟨by rw[HM.out];rfl,HB.out⟩
namespace Mc
def jc(k s:ByteArray):ByteArray:=⟨(sign k.data.toList s.data.toList).toArray⟩
theorem qx(k s:ByteArray):(jc k s).size=32:=rfl
end Mc
theorem XT(k s:ByteArray)(w:World)(hL:Laid w)(hk:k.size≤281474976710656)(hs:s.size≤281474976710000):
 Calls Tryz.prog 66 #[.string k,.string s] w fun e w'=>e=.returned (.string (Mc.jc k s))∧Below w.heap.size w w':=by
 obtain⟨key,hkey⟩:∃q:ByteArray,⟨(Mc.key k.data.toList).toArray⟩=q:=⟨_,rfl⟩
 have hkd:key.data.toList=Mc.key k.data.toList:=by rw[← hkey]
 have hks:key.size≤64:=by have:=Mc.MQ k.data.toList;rw[← hkd]at this;exact this
 obtain⟨mo,hmo⟩:∃q:ByteArray,⟨(Mc.mixed key.data.toList 92).toArray⟩=q:=⟨_,rfl⟩
 obtain⟨mi,hmi⟩:∃q:ByteArray,⟨(Mc.mixed key.data.toList 54).toArray⟩=q:=⟨_,rfl⟩
 have smo:mo.size=64:=by rw[← hmo];exact Mc.yO _ _
 have smi:mi.size=64:=by rw[← hmi];exact Mc.yO _ _
 obtain⟨si,hsi⟩:∃q:ByteArray,⟨(Sh.sum (mi++s).data.toList).toArray⟩=q:=⟨_,rfl⟩
 have ssi:si.size=32:=by rw[← hsi];rfl
 have HR:=Lib.hid (show(⟨(Sh.sum (mo++si).data.toList).toArray⟩:ByteArray)=Mc.jc k s from by
  unfold Mc.jc Mc.sign
  rw[← hkd]
  congr 3
  simp only[ByteArray.toList_data_append,← hmo,← hsi,← hmi])
 have HMO:=Lib.hid (fun w=>show Calls Tryz.prog 147 #[.string key,.int .u8 92] w fun e w'=>e=.returned (.string mo)∧Below w.heap.size w w' from hmo▸Hw key 92 w hks (by omega))
 have HMI:=Lib.hid (fun w=>show Calls Tryz.prog 147 #[.string key,.int .u8 54] w fun e w'=>e=.returned (.string mi)∧Below w.heap.size w w' from hmi▸Hw key 54 w hks (by omega))
 have HS1:=Lib.hid (fun w (h:Laid w)=>show Calls Tryz.prog 146 #[.string (mi++s)] w fun e w'=>e=.returned (.string si)∧Below w.heap.size w w' from hsi▸zW (mi++s) w h (by rw[ByteArray.size_append];omega))
 have HS2:=Lib.hid (fun w (h:Laid w)=>show Calls Tryz.prog 146 #[.string (mo++si)] w fun e w'=>e=.returned (.string (Mc.jc k s))∧Below w.heap.size w w' from HR.out▸zW (mo++si) w h (by rw[ByteArray.size_append];omega))
 have hc1:¬(9223372036854775807<mi.size+s.size):=by omega
 have hc2:¬(9223372036854775807<mo.size+si.size):=by omega
 have HL:=Lib.hid hL
 have HB:=Lib.hid (Below.refl w.heap.size w)
 clear hL hmo hmi hsi HR hkd
 by_cases h64:64<k.size
 ·have h64':(64:Int)<(k.size:Int):=by omega
  have HK:=Lib.hid (fun w (h:Laid w)=>show Calls Tryz.prog 146 #[.string k] w fun e w'=>e=.returned (.string key)∧Below w.heap.size w w' from by
   have h2:=zW k w h hk
   have e:(⟨(Sh.sum k.data.toList).toArray⟩:ByteArray)=key:=by rw[← hkey];unfold Mc.key;rw[abb (show 64<k.data.toList.length from h64)]
   rw[e]at h2
   exact h2)
  clear hkey
  go_enter Tryz.func66,Tryz.ntmps66
  go_wp2_with (first
   |(go_at_call 146;(first|with_reducible refine(HK.out _ (HL.out.below HB.out (aas _))).mono ?_|with_reducible refine(HS1.out _ (HL.out.below HB.out (aas _))).mono ?_|with_reducible refine(HS2.out _ (HL.out.below HB.out (aas _))).mono ?_);rintro e u ⟨rfl,hbu⟩;have HBn:=Lib.hid (HB.out.trans (hbu.mono HB.out.size));clear HB hbu;have HB:=HBn;clear HBn)
   |(go_at_call 147;(first|with_reducible refine(HMO.out _).mono ?_|with_reducible refine(HMI.out _).mono ?_);rintro e u ⟨rfl,hbu⟩;have HBn:=Lib.hid (HB.out.trans (hbu.mono HB.out.size));clear HB hbu;have HB:=HBn;clear HBn))
  all_goals (go_ret;exact⟨rfl,HB.out⟩)
 ·have h64':¬(64:Int)<(k.size:Int):=by omega
  have e:key=k:=by rw[← hkey];unfold Mc.key;rw[abg (show¬64<k.data.toList.length from h64)]
  subst e
  clear hkey
  go_enter Tryz.func66,Tryz.ntmps66
  go_wp2_with (first
   |(go_at_call 146;(first|with_reducible refine(HS1.out _ (HL.out.below HB.out (aas _))).mono ?_|with_reducible refine(HS2.out _ (HL.out.below HB.out (aas _))).mono ?_);rintro e u ⟨rfl,hbu⟩;have HBn:=Lib.hid (HB.out.trans (hbu.mono HB.out.size));clear HB hbu;have HB:=HBn;clear HBn)
   |(go_at_call 147;(first|with_reducible refine(HMO.out _).mono ?_|with_reducible refine(HMI.out _).mono ?_);rintro e u ⟨rfl,hbu⟩;have HBn:=Lib.hid (HB.out.trans (hbu.mono HB.out.size));clear HB hbu;have HB:=HBn;clear HBn))
  all_goals (go_ret;exact⟨rfl,HB.out⟩)
end Go.Proofs.YtbnonpbnhenkfaaGreatDoor
end
namespace Go.Proofs.YtbnonpbnhenkfaaGreatDoor
section
open Go.RowKit
def an(n:UInt64):BA:=⟨(Wi.put n.toNat).toArray⟩
abbrev bz(t:BA):BA:=Wi.x7 t
def cr(v:V4):BA:=aG++an v.a++an v.b++an v.c++an v.d
def jK(s:BA)(p:bM):BA:=s++(bz p.k++bz p.v)
def fB(l:List bM):BA:=match gl l with
 |false=>aG
 |true=>l.foldl jK (an (av (l.length:Nat)))
def Term.n(t:Term):Int:=match t.no with
 |true=>((2*t.aZ.length+1:Nat):Int)
 |false=>((2*t.aZ.length:Nat):Int)
def fE(s:BA)(v:BA):BA:=s++bz v
def Term.put(t:Term):BA:=t.aZ.foldl fE (bz t.key++an (av t.n))
def jM(s:BA)(t:Term):BA:=s++t.put
def kH(l:List Term):BA:=match ig l with
 |false=>aG
 |true=>l.foldl jM (an (av (l.length:Nat)))
def Spec.put(x:Spec):BA:=match decide (x.check=0)with
 |false=>aG
 |true=>bz x.path++cr x.cy++an (av x.count)++an (av x.prio)++an (av x.cN)++kH x.cR
def Node.put(n:Node):BA:=bz n.name++cr n.cap++fB n.labels++an (match n.up with|true=>1|false=>0)
def lI(s:BA)(n:Node):BA:=s++n.put
def nk(s:BA)(x:Place):BA:=s++(an x.aM++bz x.node++cr x.v)
def aW.put(p:aW):BA:=p.places.foldl nk (p.nodes.foldl lI (an (av (p.nodes.length:Nat)))++an (av (p.places.length:Nat)))
def mM(s:BA)(e:aD):BA:=s++(bz e.path++cr e.bu++cr e.used)
def lY(t:List aD):BA:=t.foldl mM (an (av (t.length:Nat)))
def iu(s:BA)(n:cK):BA:=s++(an n.round++an n.id++an (av n.kind))
def Stream.put(x:Stream):BA:=x.l.foldl iu (an x.first++an (av (x.l.length:Nat)))
def ld(s:BA)(j:az):BA:=s++(an j.id++j.x.put++an (av j.left))
def State.put(s:State):BA:=s.aj.foldl ld (an s.round++an s.next++s.pool.put++lY s.tree++an (av (s.aj.length:Nat)))++s.events.put++s.cJ.put
def V4.same(x y:V4):Bool:=decide (x.a=y.a)&&(decide (x.b=y.b)&&(decide (x.c=y.c)&&decide (x.d=y.d)))
def Term.same(a b:Term):Bool:=match seq a.key b.key with
 |false=>false
 |true=>match a.no==b.no with
  |false=>false
  |true=>eQ seq a.aZ b.aZ
def Spec.same(a b:Spec):Bool:=match seq a.path b.path with
 |false=>false
 |true=>match V4.same a.cy b.cy with
  |false=>false
  |true=>match decide (a.count=b.count)with
   |false=>false
   |true=>match decide (a.prio=b.prio)with
    |false=>false
    |true=>match decide (a.cN=b.cN)with
     |false=>false
     |true=>eQ Term.same a.cR b.cR
structure fx where
 id:Bool
 n:Bool
 path:Bool
 v:Bool
 x:Bool
 labels:Bool
def fx.pv(f:fx):PV:=.agg [bo f.id,bo f.n,bo f.path,bo f.v,bo f.x,bo f.labels]
def fx.z:fx:=⟨false,false,false,false,false,false⟩
def pn:List (Int×fx):=[(1,⟨false,false,false,false,true,false⟩),(2,⟨true,false,false,false,false,false⟩),(3,⟨false,false,true,true,false,false⟩),(4,⟨true,false,false,false,false,false⟩),(5,⟨false,true,false,false,false,false⟩),(6,⟨false,true,false,false,false,false⟩),(7,⟨false,false,true,false,false,false⟩),(8,⟨false,false,true,false,false,false⟩),(9,⟨false,false,false,true,false,false⟩),(10,⟨false,false,true,true,false,true⟩),(11,⟨false,false,true,false,false,false⟩),(12,⟨false,false,true,false,false,false⟩),(13,fx.z)]
def known(k:Int):Option fx:=(pn.find? fun e=>decide (k=e.1)).map (·.2)
def Spec.bare(b:Bool)(x:Spec):Spec:=match b with|true=>x|false=>Spec.z
def aw.bare(o:aw)(f:fx):aw:=⟨o.kind,match f.id with|true=>o.id|false=>0,match f.n with|true=>o.n|false=>0,match f.path with|true=>o.path|false=>aG,match f.v with|true=>o.v|false=>V4.z,o.x.bare f.x,match f.labels with|true=>o.labels|false=>[]⟩
def aw.same(a b:aw):Bool:=match decide (a.id=b.id)with
 |false=>false
 |true=>match decide (a.n=b.n)with
  |false=>false
  |true=>match seq a.path b.path with
   |false=>false
   |true=>match V4.same a.v b.v with
    |false=>false
    |true=>match Spec.same a.x b.x with
     |false=>false
     |true=>eQ bM.same a.labels b.labels
def aw.right(o:aw):Bool:=match known o.kind with
 |none=>false
 |some f=>match o.same (o.bare f)with
  |false=>false
  |true=>match f.x&&!decide (o.x.check=0)with
   |true=>false
   |false=>match decide ((o.path.size:Int)≤98)with
    |false=>false
    |true=>gl o.labels
def aw.writes(o:aw):Bool:=within o.kind 1 3||within o.kind 9 13
def cat(b:Bool)(s t:BA):BA:=match b with|true=>s++t|false=>s
def aw.bytes(o:aw)(f:fx):BA:=cat f.labels (cat f.x (cat f.v (cat f.path (cat f.n (cat f.id (an (av o.kind)) (an o.id)) (an o.n)) (bz o.path)) (cr o.v)) (o.x.put)) (fB o.labels)
def aw.put(o:aw):BA:=match o.right with
 |false=>aG
 |true=>o.bytes ((known o.kind).getD fx.z)
def aP.z:aP:=⟨0,0,0,0,V4.z,V4.z,[],[]⟩
def aP.err(e:Int):aP:={aP.z with e:=e}
def status(s:State)(o:aw):aP:=match decide (o.id=0)||decide (s.next≤o.id)with
 |true=>.err 7
 |false=>match bK s.aj o.id with
  |(_,false)=>{aP.z with id:=o.id,state:=3}
  |(j,true)=>match j.runs with
   |true=>{aP.z with id:=o.id,state:=2,n:=av j.left,nodes:=s.pool.of o.id}
   |false=>{aP.z with id:=o.id,state:=1,n:=av (ky s.queue o.id)}
def uu(first frm:UInt64)(k:Nat)(n:cK)(p:List cK×UInt64):List cK×UInt64:=match decide (frm≤first+UInt64.ofNat k)with
 |false=>p
 |true=>match decide ((p.1.length:Int)<8)with
  |false=>p
  |true=>(p.1++[n],first+UInt64.ofNat k+1)
def pG(first frm:UInt64):List cK→Nat→List cK×UInt64→List cK×UInt64
 | [],_,p=>p
 |n::l,k,p=>pG first frm l (k+1) (uu first frm k n p)
def Stream.from(x:Stream)(frm:UInt64):List cK×UInt64:=pG x.first frm x.l 0 ([],if frm<x.first then x.first else frm)
def told(x:Stream)(frm:UInt64):aP:={aP.z with n:=(x.from frm).2,notes:=(x.from frm).1}
def yi(s:State)(o:aw):aP:=match !seq o.path aG&&!mw o.path o.path with
 |true=>.err 6
 |false=>match dt s.tree o.path with
  |(_,false)=>.err 7
  |(e,true)=>{aP.z with v:=e.bu,u:=e.used}
def Ap(s:State)(o:aw):aP:=match s.pool.find o.path with
 |(_,false)=>.err 7
 |(n,true)=>{aP.z with v:=n.cap,u:=(s.pool.free o.path).1,state:=match n.up with|true=>1|false=>0}
abbrev ph:=State×UInt64×Int
def cancel(s:State)(o:aw):ph:=((s.end_ o.id 4).1,o.id,(s.end_ o.id 4).2)
def root(s:State)(o:aw):ph:=({s with tree:=(eY s.tree o.path o.v).1},0,(eY s.tree o.path o.v).2)
def bu(s:State)(o:aw):ph:=match seq o.path aG with
 |true=>(s,0,6)
 |false=>root s o
def addNode(s:State)(o:aw):ph:=({s with pool:=(s.pool.add ⟨o.path,o.v,o.labels,false⟩).1},0,(s.pool.add ⟨o.path,o.v,o.labels,false⟩).2)
def met(p:aW)(name:BA):List UInt64:=(p.places.filter fun x=>seq x.node name).map Place.aM
def uG(l:List UInt64):List UInt64:=l.foldl (fun ks x=>if x∈ks then ks else ks++[x]) []
def gW(l:List UInt64):List UInt64:=l.mergeSort fun a b=>decide (a.toNat≤b.toNat)
def aW.fail(p:aW)(name:BA):aW×List UInt64×Int:=match decide ((p.turn name false).2=0)with
 |false=>((p.turn name false).1,[],(p.turn name false).2)
 |true=>((p.turn name false).1,gW (uG (met p name)),0)
def tj(s:State)(l:List UInt64):State:=l.foldl (fun s id=>(s.stop id 6).1) s
def rD(s:State)(o:aw):ph:=(tj {s with pool:=(s.pool.fail o.path).1} (s.pool.fail o.path).2.1,0,(s.pool.fail o.path).2.2)
def tf(s:State)(o:aw):ph:=({s with pool:=(s.pool.turn o.path true).1},0,(s.pool.turn o.path true).2)
def turns(s:State)(o:aw):ph:=match decide (o.kind=1)with
 |true=>s.ew o.x
 |false=>match decide (o.kind=2)with
  |true=>cancel s o
  |false=>match decide (o.kind=3)with
   |true=>bu s o
   |false=>match decide (o.kind=9)with
    |true=>root s o
    |false=>match decide (o.kind=10)with
     |true=>addNode s o
     |false=>match decide (o.kind=11)with
      |true=>rD s o
      |false=>tf s o
def qE(s:State)(o:aw):aP:=match decide (o.kind=4)with
 |true=>status s o
 |false=>match decide (o.kind=5)with
  |true=>told s.events o.n
  |false=>match decide (o.kind=6)with
   |true=>told s.cJ o.n
   |false=>match decide (o.kind=7)with
    |true=>yi s o
    |false=>Ap s o
def apply(s:State)(o:aw):State×aP:=match o.right with
 |false=>(s,.err 2)
 |true=>match within o.kind 4 8 with
  |true=>(s,qE s o)
  |false=>match decide (o.kind=13)with
   |true=>(s.tick,{aP.z with n:=s.tick.round})
   |false=>match turns s o with
    |(t,id,e)=>match decide (e=0)with
     |false=>(s,.err e)
     |true=>({t with cJ:=tell t.cJ ⟨t.round,id,o.kind⟩},{aP.z with id:=id})
def mU(s:BA)(n:BA):BA:=s++bz n
def aP.put(a:aP):BA:=a.notes.foldl iu (a.nodes.foldl mU (an (av a.e)++an a.id++an a.n++an (av a.state)++cr a.v++cr a.u++an (av (a.nodes.length:Nat)))++an (av (a.notes.length:Nat)))
structure aS where
 size:Int
 h0:BA
 s0:BA
 h1:BA
 s1:BA
 down:Bool
 b_:Int
 aQ:Int
abbrev aS.cells(d:aS):List PV:=[i64 d.size,st d.h0,st d.s0,st d.h1,st d.s1,bo d.down,i64 d.b_,i64 d.aQ]
def aS.pv(d:aS):PV:=.agg d.cells
def aS.used(d:aS):Nat:=d.h0.size+d.s0.size+(d.h1.size+d.s1.size)
def aS.read(d:aS)(f:Int):BA:=match decide (f=0)with
 |true=>d.h0++d.s0
 |false=>match decide (f=1)with
  |true=>d.h1++d.s1
  |false=>aG
def jH(k:Int)(s:BA):Nat:=min k.toNat s.size
def aS.gq(d:aS)(k:Int):aS:=⟨d.size,d.h0++d.s0.extract 0 (jH k d.s0),aG,d.h1++d.s1.extract 0 (jH k d.s1),aG,true,-1,d.aQ⟩
def aS.wj(d:aS)(b_ aQ:Int):aS:={d with b_:=max b_ (-1),aQ:=aQ}
def aS.new(n:Int):aS:=⟨n,aG,aG,aG,aG,false,-1,0⟩
def aS.gJ(d:aS)(f:Int)(g:BA×BA→BA×BA):aS:=match decide (f=0)with
 |true=>{d with h0:=(g (d.h0,d.s0)).1,s0:=(g (d.h0,d.s0)).2}
 |false=>{d with h1:=(g (d.h1,d.s1)).1,s1:=(g (d.h1,d.s1)).2}
def g_(f:Int):Bool:=decide (f=0)||decide (f=1)
def aS.ft(d:aS)(f:Int)(torn:Bool)(g:BA×BA→BA×BA):aS×Int:=match g_ f with
 |false=>(d,1)
 |true=>match d.down with
  |true=>(d,12)
  |false=>match decide (d.b_=0)with
   |true=>match torn with
    |true=>((d.gJ f g).gq d.aQ,12)
    |false=>(d.gq d.aQ,12)
   |false=>match decide (0<d.b_)with
    |true=>({d.gJ f g with b_:=d.b_-1},0)
    |false=>(d.gJ f g,0)
def aS.full(d:aS)(s:BA):Bool:=decide (d.size<(s.size:Int))||decide (d.size-(s.size:Int)<(d.used:Int))
def qW(s:BA)(x:BA×BA):BA×BA:=(x.1,x.2++s)
def ik(x:BA×BA):BA×BA:=match seq x.1 aG&&seq x.2 aG with
 |true=>x
 |false=>(x.1++x.2,aG)
def jo(n:Int)(x:BA×BA):Nat:=min n.toNat x.1.size
def sR(n:Int)(x:BA×BA):BA×BA:=(x.1.extract 0 (jo n x),x.2.extract 0 (min (n.toNat-jo n x) x.2.size))
def aS.write(d:aS)(f:Int)(s:BA):aS×Int:=match g_ f&&!d.down&&d.full s with
 |true=>(d,9)
 |false=>d.ft f true (qW s)
def aS.sync(d:aS)(f:Int):aS×Int:=d.ft f false ik
def aS.cut(d:aS)(f n:Int):aS×Int:=d.ft f false (sR n)
def qv(b:BA):BA:=⟨(Fr.put b.data.toList).toArray⟩
abbrev uA:BA:=⟨#[0]⟩
abbrev wt:BA:=⟨#[1]⟩
def fC(gen:UInt64)(s:State):BA:=qv (uA++an gen++s.put)
def fN(o:aw):BA:=match seq o.put aG with
 |true=>aG
 |false=>qv (wt++o.put)
structure aE where
 key:BA
 d:aS
 s:State
 file:Int
 gen:UInt64
abbrev aE.cells(t:aE):List PV:=[st t.key,i64 t.d.size,st t.d.h0,st t.d.s0,st t.d.h1,st t.d.s1,bo t.d.down,i64 t.d.b_,i64 t.d.aQ,pu t.s.round,pu t.s.next,sl Node.pv t.s.pool.nodes,sl Place.pv t.s.pool.places,sl aD.pv t.s.tree,sl az.pv t.s.aj,sl QE.pv t.s.queue,pu t.s.events.first,sl cK.pv t.s.events.l,pu t.s.cJ.first,sl cK.pv t.s.cJ.l,i64 t.file,pu t.gen]
def aE.pv(t:aE):PV:=.agg t.cells
def State.new:State:=⟨0,1,⟨[],[]⟩,[aD.z],[],[],⟨0,[]⟩,⟨0,[]⟩⟩
def aE.f(t:aE):Int:=match decide (t.file=1)with|true=>1|false=>0
def steps(d:aS):List (aS→aS×Int)→aS×Int
 | []=>(d,0)
 |g::l=>match g d with
  |(e,x)=>match decide (x=0)with
   |true=>steps e l
   |false=>(e,x)
def aE.z:aE:=⟨aG,⟨0,aG,aG,aG,aG,false,0,0⟩,⟨0,0,⟨[],[]⟩,[],[],[],⟨0,[]⟩,⟨0,[]⟩⟩,0,0⟩
def aE.new(key:BA)(size:Int):aE×Int:=match decide ((key.size:Int)<1)||decide ((64:Int)<key.size)||decide (size<1)||decide (1048576<size)with
 |true=>(aE.z,1)
 |false=>match steps (aS.new size) [fun d=>d.write 0 (fC 1 State.new),fun d=>d.sync 0]with
  |(d,e)=>match decide (e=0)with
   |false=>(aE.z,e)
   |true=>(⟨key,d,State.new,0,1⟩,0)
def aE.ka(t:aE):aE×Int:=match steps t.d [fun d=>d.cut (1-t.f) 0,fun d=>d.write (1-t.f) (fC (t.gen+1) t.s),fun d=>d.sync (1-t.f),fun d=>d.cut t.f 0]with
 |(d,e)=>match decide (e=0)with
  |false=>({t with d:=d},e)
  |true=>({t with d:=d,file:=1-t.f,gen:=t.gen+1},0)
def aE.nn(t:aE)(s:State)(a:aP)(r:BA):aE×aP:=match steps t.d [fun d=>d.write t.f r,fun d=>d.sync t.f]with
 |(d,e)=>match decide (e=0)with
  |false=>({t with d:=d},.err e)
  |true=>({t with d:=d,s:=s},a)
def aE.full(t:aE)(r:BA):Bool:=decide (t.d.size.tdiv 2<((t.d.read t.f).size:Int)+(r.size:Int))
def aE.do(t:aE)(o:aw):aE×aP:=match t.d.down with
 |true=>(t,.err 12)
 |false=>match decide ((apply t.s o).2.e=0)&&o.writes with
  |false=>(t,(apply t.s o).2)
  |true=>match t.full (fN o)with
   |false=>t.nn (apply t.s o).1 (apply t.s o).2 (fN o)
   |true=>match decide (t.ka.2=12)with
    |true=>(t.ka.1,.err 12)
    |false=>t.ka.1.nn (apply t.s o).1 (apply t.s o).2 (fN o)
structure bS where
 kind:Int
 n:UInt64
def bS.pv(c:bS):PV:=.agg [i64 c.kind,pu c.n]
theorem qX:Lay bS.pv 2:=⟨fun _=>⟨rfl,rfl⟩,fun _=>rfl,fun _ _ _=>rfl⟩
structure bD where
 aq:BA
 bn:List bS
 sig:BA
def bD.pv(t:bD):PV:=.agg [st t.aq,sl bS.pv t.bn,st t.sig]
def bD.z:bD:=⟨aG,[],aG⟩
def bS.put(c:bS):BA:=an (av c.kind)++an c.n
def bS.known(c:bS):Bool:=decide (c.kind=1)||decide (c.kind=2)
def pg(g:BA)(c:bS):BA:=Mc.jc g c.put
def bD.narrowed(t:bD)(l:List bS):bD:=⟨t.aq,t.bn++l,l.foldl pg t.sig⟩
def bD.new(key aq:BA):bD:=⟨aq,[],Mc.jc key aq⟩
def bD.narrow(t:bD)(c:bS):bD:=t.narrowed [c]
def bD.fits(t:bD):Bool:=match decide ((t.bn.length:Int)≤8)with
 |false=>false
 |true=>!t.bn.any fun c=>!c.known
def bD.check(key:BA)(t:bD):Bool:=match t.fits with
 |false=>false
 |true=>seq ((bD.new key t.aq).narrowed t.bn).sig t.sig
def bS.bars(right round:UInt64)(c:bS):Bool:=match decide (c.kind=1)&&!decide (right &&& ~~~ c.n=0)with
 |true=>true
 |false=>decide (c.kind=2)&&decide (c.n.toNat<round.toNat)
def bD.oP(t:bD)(right round:UInt64):Bool:=!t.bn.any fun c=>c.bars right round
def dT(s:BA)(c:bS):BA:=s++c.put
def bD.may(t:bD):Bool:=match cQ t.aq with
 |false=>false
 |true=>match t.fits with
  |false=>false
  |true=>decide ((t.sig.size:Int)=32)
def bD.bytes(t:bD):BA:=t.bn.foldl dT (bz t.aq++an (av (t.bn.length:Nat)))++t.sig
def bD.put(t:bD):BA:=match t.may with
 |false=>aG
 |true=>t.bytes
def o_(k:Int):UInt64:=match k with
 |1=>1
 |2=>1
 |3=>4
 |4=>2
 |5=>2
 |6=>2
 |7=>2
 |8=>2
 |_=>0
def dn(o:aw):UInt64×Bool:=match decide (o_ o.kind=0)with
 |true=>(0,false)
 |false=>(o_ o.kind,true)
def kr(t:bD)(o:aw):BA:=match seq t.put aG||seq o.put aG with
 |true=>aG
 |false=>t.put++o.put
def gM(key:BA)(t:bD)(o:aw)(round:UInt64):Int:=match t.check key with
 |false=>13
 |true=>match dn o with
  |(_,false)=>14
  |(r,true)=>match t.oP r round with
   |false=>14
   |true=>0
structure aJ where
 name:BA
 t:aE
def aJ.pv(n:aJ):PV:=.agg (st n.name::n.t.cells)
structure bV where
 kind:Int
 aq:BA
 key:BA
 n:Int
 aQ:Int
 o:aw
 bytes:BA
def bV.pv(e:bV):PV:=.agg [i64 e.kind,st e.aq,st e.key,i64 e.n,i64 e.aQ,i64 e.o.kind,pu e.o.id,pu e.o.n,st e.o.path,pu e.o.v.a,pu e.o.v.b,pu e.o.v.c,pu e.o.v.d,st e.o.x.path,pu e.o.x.cy.a,pu e.o.x.cy.b,pu e.o.x.cy.c,pu e.o.x.cy.d,i64 e.o.x.count,i64 e.o.x.prio,i64 e.o.x.cN,sl Term.pv e.o.x.cR,sl bM.pv e.o.labels,st e.bytes]
structure cw where
 aq:BA
 a:aP
def cw.pv(r:cw):PV:=.agg [st r.aq,i64 r.a.e,pu r.a.id,pu r.a.n,i64 r.a.state,pu r.a.v.a,pu r.a.v.b,pu r.a.v.c,pu r.a.v.d,pu r.a.u.a,pu r.a.u.b,pu r.a.u.c,pu r.a.u.d,sl st r.a.nodes,sl cK.pv r.a.notes]
def gN(c:List aJ)(name:BA):Int:=idx (fun n:aJ=>seq n.name name) c 0
def ic(c:List aJ)(name:BA):aE×Bool:=match c.find? (fun n=>seq n.name name)with
 |some n=>(n.t,true)
 |none=>(aE.z,false)
abbrev lX:=List aJ×List cw
def say(name:BA)(e:Int):List cw:=[⟨name,.err e⟩]
def gG(c:List aJ)(name:BA)(f:aE→aE×aP):lX:=match c.find? (fun n=>seq n.name name)with
 |none=>(c,say aG 16)
 |some n=>(c.set (gN c name).toNat ⟨n.name,(f n.t).1⟩,[⟨n.name,(f n.t).2⟩])
def j2(c:List aJ)(f:aE→aE×aP):lX:=(c.map fun n=>⟨n.name,(f n.t).1⟩,c.map fun n=>⟨n.name,(f n.t).2⟩)
def kS(c:List aJ)(name:BA):Nat:=c.findIdx fun n=>!dL n.name name
def nl(c:List aJ)(e:bV):lX:=match cQ e.aq with
 |false=>(c,say e.aq 6)
 |true=>match decide (0≤gN c e.aq)with
  |true=>(c,say e.aq 8)
  |false=>match decide (8≤(c.length:Int))with
   |true=>(c,say e.aq 9)
   |false=>match aE.new e.key e.n with
    |(t,no)=>match decide (no=0)with
     |false=>(c,say e.aq no)
     |true=>(c.take (kS c e.aq)++⟨e.aq,t⟩::c.drop (kS c e.aq),say e.aq 0)
def qb(c:List aJ)(e:bV):lX:=match decide (0≤gN c e.aq)&&!within e.o.kind 9 12 with
 |true=>(c,say e.aq 14)
 |false=>gG c e.aq fun t=>t.do e.o
def nf(c:List aJ):Option (bD×aw)→lX
 |none=>(c,say aG 2)
 |some (k,o)=>match ic c k.aq with
  |(_,false)=>(c,say aG 16)
  |(t,true)=>match k.check t.key with
   |false=>(c,say aG 13)
   |true=>match t.d.down with
    |true=>(c,say k.aq 12)
    |false=>match gM t.key k o t.s.round with
     |no=>match decide (no=0)with
      |false=>(c,say k.aq no)
      |true=>gG c k.aq fun t=>t.do o
def aw.z:aw:=⟨0,0,0,aG,V4.z,Spec.z,[]⟩
def gI:aw:={aw.z with kind:=13}
end
end Go.Proofs.YtbnonpbnhenkfaaGreatDoor
section
namespace Go.Proofs.YtbnonpbnhenkfaaGreatDoor
open Go.RowKit
structure Gv(w x:World)(s:ByteArray)(a:Int)(u:Nat)(n:Int)(o:Bool):Prop where
 cs:Row x w.heap.size [.string s]
 ca:Row x (w.heap.size+1) [.int .i64 a]
 cu:Row x (w.heap.size+1+1) [.int .u64 (u:Int)]
 cn:Row x (w.heap.size+1+1+1) [.int .i64 n]
 co:Row x (w.heap.size+1+1+1+1) [.bool o]
 b:Below w.heap.size w x
 lt:w.heap.size+1+1+1+1<x.heap.size
theorem Row.one{w:World}{b:Nat}{a0:Value}(h:Row w b [a0]):w.cell? ⟨b,0,none⟩=some a0∧w.frozen? ⟨b,0,none⟩=false:=h 0 _ rfl
namespace Gv
variable {w x y:World}{s:ByteArray}{a n:Int}{u:Nat}{o:Bool}
theorem below(h:Gv w x s a u n o)(hb:Below x.heap.size x y):Gv w y s a u n o:=
 have:=h.lt
 ⟨h.cs.below hb (by omega),h.ca.below hb (by omega),h.cu.below hb (by omega),h.cn.below hb (by omega),h.co.below hb (by omega),h.b.trans (hb.mono h.b.size),aaS h.lt hb.size⟩
theorem drew(h:Gv w x s a u n o):Gv w x.drew s a u n o:=⟨h.cs,h.ca,h.cu,h.cn,h.co,h.b.drew,h.lt⟩
theorem zV(h:Gv w x s a u n o)(v:Nat):Gv w (x.setCell ⟨w.heap.size+1+1,0,none⟩ (.int .u64 (v:Int))) s a v n o:=
 ⟨h.cs.other _ (by omega),h.ca.other _ (by omega),h.cu.set 0 _ (by simp),h.cn.other _ (by omega),h.co.other _ (by omega),h.b.setCell (p:=⟨w.heap.size+1+1,0,none⟩) (by show w.heap.size≤w.heap.size+1+1;omega) _,by simpa using h.lt⟩
theorem yR(h:Gv w x s a u n o)(v:Int):Gv w (x.setCell ⟨w.heap.size+1+1+1,0,none⟩ (.int .i64 v)) s a u v o:=
 ⟨h.cs.other _ (by omega),h.ca.other _ (by omega),h.cu.other _ (by omega),h.cn.set 0 _ (by simp),h.co.other _ (by omega),h.b.setCell (p:=⟨w.heap.size+1+1+1,0,none⟩) (by show w.heap.size≤w.heap.size+1+1+1;omega) _,by simpa using h.lt⟩
theorem G0(h:Gv w x s a u n o)(v:Bool):Gv w (x.setCell ⟨w.heap.size+1+1+1+1,0,none⟩ (.bool v)) s a u n v:=
 ⟨h.cs.other _ (by omega),h.ca.other _ (by omega),h.cu.other _ (by omega),h.cn.other _ (by omega),h.co.set 0 _ (by simp),h.b.setCell (p:=⟨w.heap.size+1+1+1+1,0,none⟩) (by show w.heap.size≤w.heap.size+1+1+1+1;omega) _,by simpa using h.lt⟩
theorem cells(h:Gv w x s a u n o):x.cell? ⟨w.heap.size,0,none⟩=some (.string s)∧x.cell? ⟨w.heap.size+1,0,none⟩=some (.int .i64 a)∧x.cell? ⟨w.heap.size+1+1,0,none⟩=some (.int .u64 (u:Int))∧x.cell? ⟨w.heap.size+1+1+1,0,none⟩=some (.int .i64 n)∧x.cell? ⟨w.heap.size+1+1+1+1,0,none⟩=some (.bool o)∧
 x.frozen? ⟨w.heap.size+1+1,0,none⟩=false∧x.frozen? ⟨w.heap.size+1+1+1,0,none⟩=false∧x.frozen? ⟨w.heap.size+1+1+1+1,0,none⟩=false:=
 ⟨h.cs.one.1,h.ca.one.1,h.cu.one.1,h.cn.one.1,h.co.one.1,h.cu.one.2,h.cn.one.2,h.co.one.2⟩
end Gv
theorem zm(w x:World)(s:ByteArray)(a:Int)(u:Nat)(o:Bool)(h:Gv w x s a u 0 o):
 CallsD Tryz.prog 310 #[.pointer (some ⟨w.heap.size+1+1+1,0,none⟩),.pointer (some ⟨w.heap.size+1+1,0,none⟩),.pointer (some ⟨w.heap.size,0,none⟩),.pointer (some ⟨w.heap.size+1,0,none⟩),.pointer (some ⟨w.heap.size+1+1+1+1,0,none⟩)] .returning x
  fun e u' x'=>u'=.returning∧(e=.returned (.tuple #[])∧Gv w x' s a 0 0 false):=by
 obtain⟨c0,c1,c2,c3,c4,f2,f3,f4⟩:=h.cells
 have HG:=Lib.hid h;clear h
 go_enter_d Tryz.func310,Tryz.ntmps310
 go_upto_region 0 with fail
 go_cut [5] (fun _ wx=>Gv w wx s a u 0 false)
 case first=>
  go_region
  all_goals (go_wp2_with fail;go_meet;exact(HG.out.drew).G0 false)
 case rest=>
  clear HG c0 c1 c2 c3 c4 f2 f3 f4
  obtain⟨c0,c1,c2,c3,c4,f2,f3,f4⟩:=hcut.cells
  have HG:=Lib.hid hcut;clear hcut
  go_wp2_with fail
  have hG:=(HG.out.zV 0).yR 0
  exact⟨rfl,_,results_none rfl _ _ _,rfl,hG⟩
theorem Qu{w w':World}{b0 b1 b2 b3:Nat}{a0 a1 a2 a3:Value}(hb:Below w.heap.size w w')(h:w.cell? ⟨b0,0,none⟩=some a0∧w.cell? ⟨b1,0,none⟩=some a1∧w.cell? ⟨b2,0,none⟩=some a2∧w.cell? ⟨b3,0,none⟩=some a3):
 w'.cell? ⟨b0,0,none⟩=some a0∧w'.cell? ⟨b1,0,none⟩=some a1∧w'.cell? ⟨b2,0,none⟩=some a2∧w'.cell? ⟨b3,0,none⟩=some a3:=
 ⟨(hb.cell (p:=⟨b0,0,none⟩) (World.block_lt_of_cell? w _ h.1)).trans h.1,(hb.cell (p:=⟨b1,0,none⟩) (World.block_lt_of_cell? w _ h.2.1)).trans h.2.1,(hb.cell (p:=⟨b2,0,none⟩) (World.block_lt_of_cell? w _ h.2.2.1)).trans h.2.2.1,(hb.cell (p:=⟨b3,0,none⟩) (World.block_lt_of_cell? w _ h.2.2.2)).trans h.2.2.2⟩
theorem Wn{w:World}{b0 b1 b2 b3 b:Nat}{a0 a1 a2 a3 v:Value}(h0:b≠b0)(h1:b≠b1)(h2:b≠b2)(h3:b≠b3)(h:w.cell? ⟨b0,0,none⟩=some a0∧w.cell? ⟨b1,0,none⟩=some a1∧w.cell? ⟨b2,0,none⟩=some a2∧w.cell? ⟨b3,0,none⟩=some a3):
 (w.setCell ⟨b,0,none⟩ v).cell? ⟨b0,0,none⟩=some a0∧(w.setCell ⟨b,0,none⟩ v).cell? ⟨b1,0,none⟩=some a1∧(w.setCell ⟨b,0,none⟩ v).cell? ⟨b2,0,none⟩=some a2∧(w.setCell ⟨b,0,none⟩ v).cell? ⟨b3,0,none⟩=some a3:=
 ⟨(World.cell?_setCell_other _ _ _ _ (by intro e;cases e;exact h0 rfl)).trans h.1,(World.cell?_setCell_other _ _ _ _ (by intro e;cases e;exact h1 rfl)).trans h.2.1,(World.cell?_setCell_other _ _ _ _ (by intro e;cases e;exact h2 rfl)).trans h.2.2.1,(World.cell?_setCell_other _ _ _ _ (by intro e;cases e;exact h3 rfl)).trans h.2.2.2⟩
theorem VR(w x:World)(s:ByteArray)(a n u:Nat)(o r:Bool)(h:Gv w x s a u n o)(hu:u<18446744073709551616)(hn:0<n)(han:a≤n)(hns:n≤s.size)(hr:((⟨(Wi.put u).toArray⟩:ByteArray).toList==(s.extract a n).toList)=r):
 CallsD Tryz.prog 310 #[.pointer (some ⟨w.heap.size+1+1+1,0,none⟩),.pointer (some ⟨w.heap.size+1+1,0,none⟩),.pointer (some ⟨w.heap.size,0,none⟩),.pointer (some ⟨w.heap.size+1,0,none⟩),.pointer (some ⟨w.heap.size+1+1+1+1,0,none⟩)] .returning x
  fun e u' x'=>u'=.returning∧(e=.returned (.tuple #[])∧Gv w x' s a (if r then u else 0) (if r then n else 0) r):=by
 obtain⟨c0,c1,c2,c3,c4,f2,f3,f4⟩:=h.cells
 have HG:=Lib.hid h;clear h
 have HP:=Lib.hid (fun w=>xU u w hu);clear hu
 obtain⟨q,hq⟩:∃q,(⟨(Wi.put u).toArray⟩:ByteArray)=q:=⟨_,rfl⟩
 rw[hq]at HP hr
 clear hq
 have hn':(0:Int)<(n:Int):=by omega
 have hn0:(0:Int)≤(n:Int):=by omega
 have ha':(0:Int)≤(a:Int):=by omega
 have han':(a:Int)≤(n:Int):=by omega
 have hns':(n:Int)≤(s.size:Int):=by omega
 have hnd:decide (0<n)=true:=by simpa using hn
 go_enter_d Tryz.func310,Tryz.ntmps310
 go_upto_region 0 with fail
 go_cut [5] (fun _ wx=>Gv w wx s a u n r)
 case first=>
  go_region_held3 (fun w'=>w'.cell? ⟨w.heap.size,0,none⟩=some (.string s)∧w'.cell? ⟨w.heap.size+1,0,none⟩=some (.int .i64 (a:Int))∧w'.cell? ⟨w.heap.size+1+1,0,none⟩=some (.int .u64 (u:Int))∧w'.cell? ⟨w.heap.size+1+1+1,0,none⟩=some (.int .i64 (n:Int))) (first|(exact Wn (by omega) (by omega) (by omega) (by omega) ⟨d0,d1,d2,d3⟩)|go_keep|(exact Qu hq (by first|assumption|(simp[go_sem, *];done))))
   ((first|(go_at_call 138;((with_reducible refine(HP.out _).mono ?_);rintro e y ⟨rfl,hq⟩);have hG:=(HG.out.drew).below hq;obtain⟨d0,d1,d2,d3,d4,g2,g3,g4⟩:=hG.cells)))
  all_goals (go_wp2_with fail;go_meet;exact hG.G0 r)
 case rest=>
  clear HG c0 c1 c2 c3 c4 f2 f3 f4
  obtain⟨c0,c1,c2,c3,c4,f2,f3,f4⟩:=hcut.cells
  have HG:=Lib.hid hcut;clear hcut
  cases r
  ·go_wp2_with fail
   have hG:=(HG.out.zV 0).yR 0
   exact⟨rfl,_,results_none rfl _ _ _,rfl,hG⟩
  ·go_wp2_with fail
   exact⟨rfl,_,results_none rfl _ _ _,rfl,HG.out⟩
end Go.Proofs.YtbnonpbnhenkfaaGreatDoor
end
section
namespace Go.Proofs.YtbnonpbnhenkfaaGreatDoor
open Go.RowKit
namespace Wi
def get(s:ByteArray)(a:Int):Nat×Int×Bool:=if a<0 then(0,0,false)else
 match kY (s.data.toList.drop a.toNat)with
 |none=>(0,0,false)
 |some (u,c)=>(u,a+(c:Int),true)
def nx(u x j:Nat):Nat:=u ||| (x%128*2^(7*j)%18446744073709551616)
theorem Dt(u x j:Nat)(hu:u<18446744073709551616):nx u x j<18446744073709551616:=by
 unfold nx;exact acE (n:=64) hu (acM _ (by decide))
theorem ze(j:Nat):2^(7*j)=128^j:=by rw[Nat.pow_mul]
theorem Gj(u b i:Nat)(h:u<2^i):u ||| (b*2^i)=u+b*2^i:=by
 rw[Nat.or_comm,ade,← Nat.two_pow_add_eq_or_of_lt h];omega
theorem Eu{j:Nat}(h:j≤8):128^j≤72057594037927936:=by
 have:=Nat.pow_le_pow_right (n:=128) (by omega) h;exact aaJ this (by decide)
theorem FJ{u x j:Nat}(hu:u<128^j)(hj:j≤9):nx u x j=(u+128^j*(x%128))%18446744073709551616:=by
 have hx:x%128<128:=acM _ (by omega);rcases Nat.lt_or_ge j 9 with h|h
 ·have hp:=Eu (show j≤8 by omega);have hm:x%128*128^j≤127*72057594037927936:=adm (by omega) hp;have h1:x%128*2^(7*j)%18446744073709551616=x%128*2^(7*j):=aco (by rw[ze];omega);unfold nx;rw[h1,Gj u (x%128) (7*j) (by rw[ze];exact hu),ze,ade (x%128) (128^j)];rw[ade]at hm;exact(aco (by omega)).symm
 ·obtain rfl:j=9:=by omega
  have e:(128:Nat)^9=9223372036854775808:=by decide
  have e2:(2:Nat)^(7*9)=9223372036854775808:=by decide
  rw[e]at hu⊢;have h2:x%128*9223372036854775808%18446744073709551616=x%2*2^63:=by
   rw[show(2:Nat)^63=9223372036854775808 from by decide];omega
  unfold nx;rw[e2,h2,Gj u (x%2) 63 (by rw[show(2:Nat)^63=9223372036854775808 from by decide];exact hu),show(2:Nat)^63=9223372036854775808 from by decide];omega
structure Scan(t:List UInt8)(j u:Nat):Prop where
 hi:∀b∈t.take j,128≤b.toNat
 lo:j≤9→u=low (t.take j)
 lt:u<18446744073709551616
theorem Scan.start(t:List UInt8):Scan t 0 0:=⟨by simp,fun _=>by simp[low],by decide⟩
theorem EA{t:List UInt8}{j:Nat}(h:j<t.length):t.take (j+1)=t.take j++[t[j]]:=by rw[List.take_succ_eq_append_getElem h]
theorem Scan.next{t:List UInt8}{j u:Nat}(h:Scan t j u)(hj:j<t.length)(h9:j≤9)(hb:128≤t[j].toNat):Scan t (j+1) (nx u t[j].toNat j):=by
 have hl:(t.take j).length=j:=by simp;omega
 refine⟨?_,?_,Dt _ _ _ h.lt⟩
 ·intro b hb';rw[EA hj]at hb';rcases aaN.1 hb' with hb'|hb'
  ·exact h.hi b hb'
  ·simp at hb';subst hb';exact hb
 ·intro h8;have hu:=Il (t.take j);rw[hl,← h.lo (by omega)]at hu;have hp:=Eu (show j≤8 by omega);rw[FJ hu (by omega),EA hj,aak,hl,← h.lo (by omega)];have hx:=acf t[j];rw[show t[j].toNat%128=t[j].toNat-128 by omega];have hm:128^j*(t[j].toNat-128)≤72057594037927936*127:=adm hp (by omega);exact aco (by omega)
theorem Scan.done{t:List UInt8}{j u:Nat}(h:Scan t j u)(hj:j<t.length)(h9:j≤9)(hb:t[j].toNat<128):
 kY t=if put (nx u t[j].toNat j)=t.take (j+1)then some (nx u t[j].toNat j,j+1)else none:=by
 have hl:(t.take j).length=j:=by simp;omega
 have hd:dec 10 t=some (low (t.take j)+128^j*t[j].toNat,j+1):=by
  have:=F9 (k:=10) (l:=t.take j) (t.drop j) h.hi (by omega)
  rw[abD,hl,aaX hj]at this
  obtain⟨m,hm⟩:∃m,10-j=m+1:=⟨9-j,by omega⟩
  rw[this,hm,dec,abb hb]
  simp;omega
 have hu:=Il (t.take j)
 rw[hl,← h.lo h9]at hu
 unfold kY
 rw[hd,← h.lo h9]
 simp only
 rw[FJ hu h9,show t[j].toNat%128=t[j].toNat by omega]
theorem Scan.never{t:List UInt8}{j u:Nat}(h:Scan t j u)(hj:j≤t.length)(he:j=10∨j=t.length∧j≤10):kY t=none:=by
 have hl:(t.take j).length=j:=by simp;omega
 have hd:dec 10 t=none:=by
  have:=F9 (k:=10) (l:=t.take j) (t.drop j) h.hi (by omega);rw[abD,hl]at this;rw[this];rcases he with rfl|⟨rfl,h10⟩
  ·rfl
  ·rw[abZ];cases 10-t.length<;>rfl
 unfold kY;rw[hd]
theorem NG(U x j:Nat)(hU:U<18446744073709551616)(hx:x<256):
 bits .or .u64 (U:Int) (IntKind.u64.wrap (IntKind.u64.wrap (bits .andNot .u8 (x:Int) 128)*2^(7*j)))=((nx U x j:Nat):Int):=by
 have h1:=u8_andNot_nat x 128 hx (by omega)
 have e:x &&& (255-128)=x%128:=Nat.and_two_pow_sub_one_eq_mod x 7
 rw[e]at h1
 rw[show((128:Nat):Int)=(128:Int)from rfl]at h1
 rw[h1]
 have h2:IntKind.u64.wrap ((x%128:Nat):Int)=((x%128:Nat):Int):=by rw[IntKind.wrap_u64];omega
 rw[h2]
 have h3:((x%128:Nat):Int)*2^(7*j)=((x%128*2^(7*j):Nat):Int):=by
  rw[Int.natCast_mul,acU];rfl
 rw[h3]
 have h4:IntKind.u64.wrap ((x%128*2^(7*j):Nat):Int)=((x%128*2^(7*j)%18446744073709551616:Nat):Int):=by rw[IntKind.wrap_u64];omega
 rw[h4,u64_or_nat _ _ hU (acM _ (by decide))]
 rfl
end Wi
end Go.Proofs.YtbnonpbnhenkfaaGreatDoor
end
namespace Go.Proofs.YtbnonpbnhenkfaaGreatDoor
section
open Go.RowKit
theorem Gv.new(w:World)(s:ByteArray)(a:Int):Gv w (((((w.alloc (.cells #[.string s] 9)).alloc (.cells #[.int .i64 a] 3)).alloc (.cells #[.int .u64 0] 30)).alloc (.cells #[.int .i64 0] 3)).alloc (.cells #[.bool false] 4)) s a 0 0 false:=
 ⟨Row.alloc (Row.alloc (Row.alloc (Row.alloc (Row.at rfl rfl) (by simp) _) (by simp<;>omega) _) (by simp<;>omega) _) (by simp<;>omega) _,
  Row.alloc (Row.alloc (Row.alloc (Row.at (by simp) rfl) (by simp) _) (by simp<;>omega) _) (by simp<;>omega) _,
  Row.alloc (Row.alloc (Row.at (by simp) rfl) (by simp) _) (by simp<;>omega) _,
  Row.alloc (Row.at (by simp) rfl) (by simp) _,Row.at (by simp) rfl,
  ((((((Below.refl _ _).alloc (aas _) _).alloc (by simp) _).alloc (by simp<;>omega) _).alloc (by simp<;>omega) _).alloc (by simp<;>omega) _),by simp⟩
theorem QG{s:ByteArray}{a p:Nat}(hap:a≤p)(hp:p<s.size):∃h:p-a<(s.data.toList.drop a).length,(s.data.toList.drop a)[p-a]=s[p]:=by
 have hl:s.data.toList.length=s.size:=by simp
 refine⟨by simp;omega,?_⟩;rw[List.getElem_drop];have:a+(p-a)=p:=by omega
 simp[this];rfl
theorem VN(s:ByteArray)(a n:Nat):(s.extract a n).toList=(s.data.toList.drop a).take (n-a):=by rw[Lib.toList_data,Lib.extract_data]
def Wi.val(r:Nat×Int×Bool):Value:=.tuple #[.int .u64 (r.1:Int),.int .i64 r.2.1,.bool r.2.2]
theorem TP(l:List UInt8):(⟨l.toArray⟩:ByteArray).toList=l:=by rw[Lib.toList_data]
theorem Cx{s:ByteArray}{a:Nat}(h:Wi.kY (s.data.toList.drop a)=none):Wi.get s a=(0,0,false):=by
 unfold Wi.get;rw[abg (by omega),abk,h]
theorem Db{s:ByteArray}{a c u:Nat}(h:Wi.kY (s.data.toList.drop a)=some (u,c)):Wi.get s a=(u,(a:Int)+(c:Int),true):=by
 unfold Wi.get;rw[abg (by omega),abk,h]
theorem RY{s:ByteArray}{a p V:Nat}{r:Bool}(hap:a≤p)(hd:Wi.kY (s.data.toList.drop a)=if Wi.put V=(s.data.toList.drop a).take (p-a+1)then some (V,p-a+1)else none)
 (hr:((⟨(Wi.put V).toArray⟩:ByteArray).toList==(s.extract a (p+1)).toList)=r):Wi.get s a=(if r then V else 0,if r then((p+1:Nat):Int)else 0,r):=by
 rw[TP,VN,show p+1-a=p-a+1 by omega]at hr
 by_cases h:Wi.put V=(s.data.toList.drop a).take (p-a+1)
 ·rw[abb h]at hd
  have:r=true:=by rw[← hr,h];simp
  subst this
  rw[Db hd]
  simp;omega
 ·rw[abg h]at hd
  have:r=false:=by rw[← hr];simpa using h
  subst this
  rw[Cx hd]
  simp
theorem UX(s:ByteArray)(a:Nat)(w:World)(hs:a<s.size)(hz:s.size≤9007199254740992):
 Calls Tryz.prog 262 #[.string s,.int .i64 (a:Int)] w fun e w'=>e=.returned (Wi.val (Wi.get s a))∧Below w.heap.size w w':=by
 have hmf:∀(fn:Fn) (first cap:Array Value) (w:World),(Instr.makeFunc fn first cap).run Tryz.prog w=.ok (.func fn first cap) w:=fun _ _ _ _=>rfl
 obtain⟨r,hr⟩:∃r,Wi.get s a=r:=⟨_,rfl⟩
 rw[hr]
 have HR:=Lib.hid hr;clear hr
 have ha1:¬((a:Int)<0):=by omega
 have ha2:(a:Int)<(s.size:Int):=by omega
 have ha3:¬((s.size:Int)≤(a:Int)):=by omega
 go_enter_defers Tryz.func262,Tryz.ntmps262
 have HG0:=Lib.hid (Gv.new w s a)
 go_wp2_with fail
 go_loopw [7] (fun v wr=>∃(p U:Nat),a≤p∧p≤s.size∧p≤a+10∧v=.int .i64 (p:Int)∧Gv w wr s a U 0 false∧Wi.Scan (s.data.toList.drop a) (p-a) U) (fun v _=>s.size-(intOf v).toNat)
 case atStart=>exact⟨a,0,by omega,by omega,by omega,rfl,HG0.out,by rw[acn];exact Wi.Scan.start _⟩
 case round=>
  clear HG0
  obtain⟨p,U,h1,h2,h3,rfl,hG,hS⟩:=hrel
  obtain⟨c0,c1,c2,c3,c4,f2,f3,f4⟩:=hG.cells
  have HG:=Lib.hid hG;clear hG hmf
  have HS:=Lib.hid hS;clear hS
  have hlen:(s.data.toList.drop a).length=s.size-a:=by simp
  have HL:=Lib.hid hlen;clear hlen
  by_cases hp:p<s.size∧p<a+10
  ·obtain⟨hp1,hp2⟩:=hp
   have hp1':(p:Int)<(s.size:Int):=by omega
   have hp2':(p:Int)<(a:Int)+10:=by omega
   have hp0:(0:Int)≤(p:Int):=by omega
   have hw1:IntKind.i64.wrap ((a:Int)+10)=(a:Int)+10:=by rw[IntKind.wrap_i64];omega
   obtain⟨hj,hje⟩:=QG h1 hp1
   obtain⟨x,hx⟩:∃x,s[p].toNat=x:=⟨_,rfl⟩
   have hx256:x<256:=by have:=acf s[p];omega
   have HOR:=Lib.hid (Wi.NG U x (p-a) HS.out.lt hx256)
   have hVlt:=Wi.Dt U x (p-a) HS.out.lt
   have HN:=Lib.hid (fun(hb:128≤(s.data.toList.drop a)[p-a].toNat)=>HS.out.next hj (by omega) hb)
   have HD:=Lib.hid (fun(hb:(s.data.toList.drop a)[p-a].toNat<128)=>HS.out.done hj (by omega) hb)
   rw[hje,hx]at HN HD
   have HX:=Lib.hid hx;clear hx hje hj
   generalize Wi.nx U x (p-a)=V at HOR HN HD hVlt
   have HV:=Lib.hid hVlt;clear hVlt
   go_upto_region 6 with fail
   go_cut [41]from 30 to 41 (fun _ wx=>Gv w wx s a V 0 false)
   case first=>
    go_region
    all_goals (go_wp2_with fail;go_meet;rw[HX.out,HOR.out];exact(HG.out.zV V).drew)
   case rest=>
    clear HOR HG c0 c1 c2 c3 c4 f2 f3 f4
    obtain⟨c0,c1,c2,c3,c4,f2,f3,f4⟩:=hcut.cells
    have HG:=Lib.hid hcut;clear hcut
    go_upto_region 7 with fail
    by_cases hb:x<128
    ·have hb1:(x:Int)<128:=by omega
     have hx:=HX.out
     have hd:=HD.out hb
     clear HD HN HX
     have HDD:=Lib.hid hd;clear hd
     have hb2:(s[p].toNat:Int)<128:=by omega
     clear hx
     go_wp2_with fail
     have hG:=HG.out.yR ((p:Int)+1)
     rw[show(p:Int)+1=((p+1:Nat):Int)from by omega]at hG⊢
     generalize World.setCell _ _ _=wz at hG⊢
     refine leaves_cons (f:=310) (args:=#[.pointer (some ⟨w.heap.size+1+1+1,0,none⟩),.pointer (some ⟨w.heap.size+1+1,0,none⟩),.pointer (some ⟨w.heap.size,0,none⟩),.pointer (some ⟨w.heap.size+1,0,none⟩),.pointer (some ⟨w.heap.size+1+1+1+1,0,none⟩)]) (by simp) (by simp[go_sem]) ?_
     obtain⟨rr,hrr⟩:∃rr,((⟨(Wi.put V).toArray⟩:ByteArray).toList==(s.extract a (p+1)).toList)=rr:=⟨_,rfl⟩
     have hget:=RY h1 HDD.out hrr
     rw[HR.out]at hget
     refine(VR w wz s a (p+1) V false rr hG HV.out (by omega) (by omega) (by omega) hrr).mono ?_
     rintro e u' x' ⟨rfl,rfl,hG'⟩
     obtain⟨_,_,d2,d3,d4,_,_,_⟩:=hG'.cells
     refine⟨Wi.val (if rr then V else 0,if rr then((p+1:Nat):Int)else 0,rr),?_,?_,hG'.b⟩
     ·clear hget hrr
      cases rr<;>simp[results,Tryz.results262,go_sem,d2,d3,d4,Wi.val]
     ·rw[hget]
    ·have hb1:¬((x:Int)<128):=by omega
     have hx:=HX.out
     have hd:=HN.out (by omega)
     clear HD HN HX
     have HDD:=Lib.hid hd;clear hd
     have hb2:¬((s[p].toNat:Int)<128):=by omega
     clear hx
     go_wp2_with fail
     go_roundw
     case rel=>exact⟨p+1,V,by omega,by omega,by omega,by go_num,HG.out,by rw[show p+1-a=p-a+1 by omega];exact HDD.out⟩
     case measure=>simp[intOf];omega
  ·have HZ:=Lib.hid (Cx (HS.out.never (by rw[HL.out];omega) (by rw[HL.out];omega)))
   clear HS HL
   by_cases hp1:p<s.size
   ·have hp1':(p:Int)<(s.size:Int):=by omega
    have hp2':¬((p:Int)<(a:Int)+10):=by omega
    have hw1:IntKind.i64.wrap ((a:Int)+10)=(a:Int)+10:=by rw[IntKind.wrap_i64];omega
    go_wp2_with fail
    refine leaves_cons (f:=310) (args:=#[.pointer (some ⟨w.heap.size+1+1+1,0,none⟩),.pointer (some ⟨w.heap.size+1+1,0,none⟩),.pointer (some ⟨w.heap.size,0,none⟩),.pointer (some ⟨w.heap.size+1,0,none⟩),.pointer (some ⟨w.heap.size+1+1+1+1,0,none⟩)]) (by simp) (by simp[go_sem])<|(zm w _ s a U false HG.out).mono ?_
    rintro e u' x' ⟨rfl,rfl,hG'⟩
    obtain⟨_,_,d2,d3,d4,_,_,_⟩:=hG'.cells
    refine⟨Wi.val (0,0,false),?_,?_,hG'.b⟩
    ·simp[results,Tryz.results262,go_sem,d2,d3,d4];try rfl
    ·rw[← HR.out,HZ.out]
   ·have hp1':¬((p:Int)<(s.size:Int)):=by omega
    go_wp2_with fail
    refine leaves_cons (f:=310) (args:=#[.pointer (some ⟨w.heap.size+1+1+1,0,none⟩),.pointer (some ⟨w.heap.size+1+1,0,none⟩),.pointer (some ⟨w.heap.size,0,none⟩),.pointer (some ⟨w.heap.size+1,0,none⟩),.pointer (some ⟨w.heap.size+1+1+1+1,0,none⟩)]) (by simp) (by simp[go_sem])<|(zm w _ s a U false HG.out).mono ?_
    rintro e u' x' ⟨rfl,rfl,hG'⟩
    obtain⟨_,_,d2,d3,d4,_,_,_⟩:=hG'.cells
    refine⟨Wi.val (0,0,false),?_,?_,hG'.b⟩
    ·simp[results,Tryz.results262,go_sem,d2,d3,d4];try rfl
    ·rw[← HR.out,HZ.out]
theorem xQ{s:ByteArray}{a:Int}(h:a<0∨(s.size:Int)≤a):Wi.get s a=(0,0,false):=by
 unfold Wi.get;by_cases h1:a<0
 ·rw[abb h1]
 ·rw[abg h1,aaR (by simp;omega)];rfl
theorem Yh(s:ByteArray)(a:Int)(w:World)(h:a<0∨(s.size:Int)≤a):
 Calls Tryz.prog 262 #[.string s,.int .i64 a] w fun e w'=>e=.returned (Wi.val (Wi.get s a))∧Below w.heap.size w w':=by
 have hmf:∀(fn:Fn) (first cap:Array Value) (w:World),(Instr.makeFunc fn first cap).run Tryz.prog w=.ok (.func fn first cap) w:=fun _ _ _ _=>rfl
 obtain⟨r,hr⟩:∃r,Wi.get s a=r:=⟨_,rfl⟩
 rw[hr]
 have hz:=xQ h
 rw[hr]at hz
 have HR:=Lib.hid hz;clear hz hr
 have HG0:=Lib.hid (Gv.new w s a)
 by_cases ha:a<0
 case' neg=>
  have ha2:¬(a<(s.size:Int)):=by omega
  have ha3:(s.size:Int)≤a:=by omega
 all_goals
  clear h
  go_enter_defers Tryz.func262,Tryz.ntmps262
  go_wp2_with fail
  refine leaves_cons (f:=310) (args:=#[.pointer (some ⟨w.heap.size+1+1+1,0,none⟩),.pointer (some ⟨w.heap.size+1+1,0,none⟩),.pointer (some ⟨w.heap.size,0,none⟩),.pointer (some ⟨w.heap.size+1,0,none⟩),.pointer (some ⟨w.heap.size+1+1+1+1,0,none⟩)]) (by simp) (by simp[go_sem])<|(zm w _ s a 0 false HG0.out).mono ?_
  rintro e u' x' ⟨rfl,rfl,hG'⟩
  obtain⟨_,_,d2,d3,d4,_,_,_⟩:=hG'.cells
  refine⟨Wi.val (0,0,false),?_,?_,hG'.b⟩
  ·simp[results,Tryz.results262,go_sem,d2,d3,d4];try rfl
  ·rw[HR.out]
theorem EP(s:ByteArray)(a:Int)(w:World)(hz:s.size≤9007199254740992):
 Calls Tryz.prog 262 #[.string s,.int .i64 a] w fun e w'=>e=.returned (Wi.val (Wi.get s a))∧Below w.heap.size w w':=by
 by_cases h:a<0∨(s.size:Int)≤a
 ·exact Yh s a w h
 ·obtain⟨n,rfl⟩:=ack (show 0≤a by omega)
  exact UX s n w (by omega) hz
end
end Go.Proofs.YtbnonpbnhenkfaaGreatDoor
section
namespace Go.Proofs.YtbnonpbnhenkfaaGreatDoor
open Go.RowKit
theorem tN{s:ByteArray}{a:Int}{n:Nat}{f:Int}(h:Wi.get s a=(n,f,true)):
 ∃a':Nat,a=(a':Int)∧f=((a'+(Wi.put n).length:Nat):Int)∧a'+(Wi.put n).length≤s.size∧n<18446744073709551616∧(s.data.toList.drop a').take (Wi.put n).length=Wi.put n:=by
 unfold Wi.get at h
 split at h
 ·simp at h
 ·rename_i h0
  obtain⟨a',rfl⟩:=ack (show 0≤a by omega)
  rw[abk]at h
  split at h
  ·simp at h
  ·rename_i u c hc
   obtain⟨e1,e2⟩:=acC h
   obtain⟨e2,_⟩:=acC e2
   subst e1;subst e2
   obtain⟨h1,h2,h3,h4⟩:=Wi.Ng hc
   subst h2
   refine⟨a',rfl,by omega,?_,h1,h4⟩
   have hl:=congrArg List.length h4
   rw[aax,aaO]at hl
   have:=(Wi.qJ u).1
   have e:s.data.toList.length=s.size:=by simp
   omega
theorem yN{s:ByteArray}{a:Int}{n:Nat}{f:Int}(h:Wi.get s a=(n,f,false)):n=0∧f=0:=by
 unfold Wi.get at h;split at h
 ·simp at h;omega
 ·split at h
  ·simp at h;omega
  ·simp at h
namespace Wi
def li(s:ByteArray)(a m:Int):ByteArray×Int×Bool:=
 if(get s a).2.2=true∧0≤m∧((get s a).1:Int)≤m∧((get s a).1:Int)≤(s.size:Int)-(get s a).2.1
 then(s.extract (get s a).2.1.toNat ((get s a).2.1.toNat+(get s a).1),(get s a).2.1+((get s a).1:Int),true)else(⟨#[]⟩,0,false)
def Zm(r:ByteArray×Int×Bool):Value:=.tuple #[.string r.1,.int .i64 r.2.1,.bool r.2.2]
end Wi
theorem Td(s:ByteArray)(a m:Int)(w:World)(hz:s.size≤9007199254740992):
 Calls Tryz.prog 261 #[.string s,.int .i64 a,.int .i64 m] w fun e w'=>e=.returned (Wi.Zm (Wi.li s a m))∧Below w.heap.size w w':=by
 have HGET:=fun w=>EP s a w hz
 obtain⟨R,hR⟩:∃R,Wi.li s a m=R:=⟨_,rfl⟩
 rw[hR]
 unfold Wi.li at hR
 obtain⟨r,hr⟩:∃r,Wi.get s a=r:=⟨_,rfl⟩
 rw[hr]at HGET hR
 obtain⟨n,f,ok⟩:=r
 unfold Wi.val at HGET
 simp only at HGET hR
 have HGET:=Lib.hid HGET
 cases ok
 case false=>
  obtain⟨rfl,rfl⟩:=yN hr
  have HRR:=Lib.hid (show(⟨#[]⟩,0,false)=R by rw[← hR,abg (by simp)])
  clear hR hr
  go_enter Tryz.func261,Tryz.ntmps261
  go_wp2_with fail
  refine(HGET.out _).mono ?_
  rintro e w1 ⟨rfl,hb⟩
  go_wp2_with fail
  go_ret3
  exact⟨by rw[← HRR.out];rfl,hb⟩
 case true=>
  obtain⟨a',rfl,rfl,hfs,hn,-⟩:=tN hr
  clear hr
  obtain⟨F,hF⟩:∃F,a'+(Wi.put n).length=F:=⟨_,rfl⟩
  rw[hF]at hfs HGET hR
  clear hF
  by_cases hm:m<0
  ·have HRR:=Lib.hid (show(⟨#[]⟩,0,false)=R by rw[← hR,abg (by omega)])
   clear hR hn
   go_enter Tryz.func261,Tryz.ntmps261
   go_wp2_with fail
   refine(HGET.out _).mono ?_
   rintro e w1 ⟨rfl,hb⟩
   go_wp2_with fail
   go_ret3
   exact⟨by rw[← HRR.out];rfl,hb⟩
  ·obtain⟨M,rfl⟩:=ack (show 0≤m by omega)
   obtain⟨K,hK⟩:∃K,min M (s.size-F)=K:=⟨_,rfl⟩
   have hMn:min (M:Int) ((s.size:Int)-(F:Int))=(K:Int):=by omega
   have hKs:K≤9007199254740992:=by omega
   have hKw:IntKind.u64.wrap (K:Int)=(K:Int):=by rw[IntKind.wrap_u64];omega
   have hm0:¬((M:Int)<0):=by omega
   by_cases hle:n≤K
   ·have hnw:IntKind.i64.wrap (n:Int)=(n:Int):=by rw[IntKind.wrap_i64];omega
    have HRR:=Lib.hid (show(s.extract F (F+n),((F+n:Nat):Int),true)=R by rw[← hR,abb ⟨rfl,by omega,by omega,by omega⟩];simp)
    have h1:¬((K:Int)<(n:Int)):=by omega
    have h2:(0:Int)≤(F:Int):=by omega
    have h3:(F:Int)≤((F+n:Nat):Int):=by omega
    have h4:((F+n:Nat):Int)≤(s.size:Int):=by omega
    have h5:(F:Int)+(n:Int)=((F+n:Nat):Int):=by omega
    have h6:(n:Int)≤9007199254740992:=by omega
    have h7:(0:Int)≤(n:Int):=by omega
    have hs0:(F:Int)≤(s.size:Int):=by omega
    generalize F+n=G at HRR h3 h4 h5
    clear hR hn hK hm hle
    go_enter Tryz.func261,Tryz.ntmps261
    go_wp2_with fail
    refine(HGET.out _).mono ?_
    rintro e w1 ⟨rfl,hb⟩
    go_wp2_with fail
    go_ret3
    exact⟨by rw[← HRR.out];rfl,hb⟩
   ·have HRR:=Lib.hid (show(⟨#[]⟩,0,false)=R by rw[← hR,abg (by omega)])
    have h1:(K:Int)<(n:Int):=by omega
    have hs0:(F:Int)≤(s.size:Int):=by omega
    clear hR hn hK hm hle
    go_enter Tryz.func261,Tryz.ntmps261
    go_wp2_with fail
    refine(HGET.out _).mono ?_
    rintro e w1 ⟨rfl,hb⟩
    go_wp2_with fail
    go_ret3
    exact⟨by rw[← HRR.out];rfl,hb⟩
end Go.Proofs.YtbnonpbnhenkfaaGreatDoor
end
namespace Go.Proofs.YtbnonpbnhenkfaaGreatDoor
section
open Go.RowKit
theorem XF{s:ByteArray}{A R:List UInt8}{n:Nat}(hn:n<18446744073709551616)(h:s.data.toList=A++(Wi.put n++R)):Wi.get s (A.length:Int)=(n,(A.length:Int)+((Wi.put n).length:Int),true):=by
 refine Db (a:=A.length) ?_;rw[h,List.drop_left];exact Wi.Wy hn R
theorem MS{s:ByteArray}{A B R:List UInt8}{t:ByteArray}(h:s.data.toList=A++(B++(t.data.toList++R))):s.extract (A.length+B.length) (A.length+B.length+t.size)=t:=by
 apply adi;apply adp.1;have e:t.data.toList.length=t.size:=by simp
 rw[Lib.extract_data,h,← abd,← aap,List.drop_left,show(A++B).length+t.size-(A++B).length=t.data.toList.length by omega,List.take_left]
theorem nV(a b:BA):(a++b).data.toList=a.data.toList++b.data.toList:=by simp
theorem iz(a:BA):a.data.toList.length=a.size:=by simp
theorem LA{a b:BA}(h:a.data.toList=b.data.toList):a=b:=adi (adp.1 h)
def At(s:BA)(i:Nat)(t:BA):Prop:=∃A R:List UInt8,s.data.toList=A++(t.data.toList++R)∧A.length=i
theorem At.l{s:BA}{i:Nat}{t u:BA}(h:At s i (t++u)):At s i t:=by
 obtain⟨A,R,h1,h2⟩:=h;exact⟨A,u.data.toList++R,by rw[h1,nV,abd],h2⟩
theorem At.r{s:BA}{i:Nat}{t u:BA}(h:At s i (t++u)):At s (i+t.size) u:=by
 obtain⟨A,R,h1,h2⟩:=h;exact⟨A++t.data.toList,R,by rw[h1,nV,abd,abd],by rw[aap,h2,iz]⟩
theorem At.le{s:BA}{i:Nat}{t:BA}(h:At s i t):i+t.size≤s.size:=by
 obtain⟨A,R,h1,h2⟩:=h;have:=congrArg List.length h1;rw[aap,aap,iz,iz]at this;omega
theorem At.zero(t u:BA):At (t++u) 0 t:=⟨[],u.data.toList,by rw[nV];rfl,rfl⟩
theorem At.behind(a t:BA):At (a++t) a.size t:=⟨a.data.toList,[],by rw[nV,abe],iz a⟩
theorem vE(n:UInt64):(an n).data.toList=Wi.put n.toNat:=rfl
theorem bL(n:UInt64):1≤(an n).size∧(an n).size≤10:=by
 have h:(an n).size=(Wi.put n.toNat).length:=by rw[← iz,vE]
 rw[h];exact Wi.qJ _
theorem d_(t:BA):(bz t).size≤t.size+10∧t.size+1≤(bz t).size:=by
 have h:=Wi.qJ t.size;have h2:(bz t).size=(Wi.put t.size).length+t.size:=by
  show((⟨(Wi.put t.size).toArray⟩:BA)++t).size=_
  rw[← iz,nV,aap,iz t]
 omega
theorem At.num{s:BA}{i:Nat}{n:UInt64}(h:At s i (an n)):Wi.get s (i:Int)=(n.toNat,((i+(an n).size:Nat):Int),true):=by
 obtain⟨A,R,h1,rfl⟩:=h;rw[vE]at h1;rw[XF (oz n) h1];have h:(an n).size=(Wi.put n.toNat).length:=by rw[← iz,vE]
 rw[h];rfl
theorem At.ext{s:BA}{i:Nat}{t:BA}(h:At s i t):s.extract i (i+t.size)=t:=by
 obtain⟨A,R,h1,rfl⟩:=h;have:=MS (s:=s) (A:=A) (B:=[]) (R:=R) (t:=t) (by rw[h1];rfl);simpa using this
theorem At.text{s:BA}{i:Nat}{t:BA}{m:Int}(h:At s i (bz t))(ht:t.size<18446744073709551616)(hm:(t.size:Int)≤m):Wi.li s (i:Int) m=(t,((i+(bz t).size:Nat):Int),true):=by
 have hn:At s i (an (UInt64.ofNat t.size))∧At s (i+(an (UInt64.ofNat t.size)).size) t:=by
  have e:bz t=an (UInt64.ofNat t.size)++t:=by
   show(⟨(Wi.put t.size).toArray⟩:BA)++t=(⟨(Wi.put (UInt64.ofNat t.size).toNat).toArray⟩:BA)++t
   rw[mG ht]
  rw[e]at h;exact⟨h.l,h.r⟩
 have e:(bz t).size=(an (UInt64.ofNat t.size)).size+t.size:=by
  show((⟨(Wi.put t.size).toArray⟩:BA)++t).size=_
  rw[← iz,nV,aap,iz t,← iz (an _),vE,mG ht]
 have h1:=hn.1.num;rw[mG ht]at h1;have hle:=hn.2.le;unfold Wi.li;rw[h1];dsimp only;rw[abb ⟨rfl,by omega,hm,by omega⟩,abk,hn.2.ext,e,← Int.natCast_add,abB]
theorem jg{α:Type}{f:BA→α→BA}{B:Nat}:∀{l:List α} {s:BA},(∀s,∀x∈l,(f s x).size≤s.size+B)→(l.foldl f s).size≤s.size+B*l.length
 | [],s,_=>by simp
 |x::l,s,h=>by
  have h1:=jg (f:=f) (B:=B) (l:=l) (s:=f s x) fun s y hy=>h s y (aaz _ hy)
  have h2:=h s x aaA
  rw[acj,aaL,Nat.mul_succ]
  omega
theorem aI(a b:BA):(a++b).size=a.size+b.size:=by rw[← iz,nV,aap,iz,iz]
theorem iC(v:V4):(cr v).size≤40:=by
 unfold cr;have:=bL v.a;have:=bL v.b;have:=bL v.c;have:=bL v.d;rw[aI,aI,aI,aI];show 0+_+_+_+_≤40
 omega
theorem A_{ι:Type}{M nx:Nat}{ρ:Nat→Nat}{I:Inv ι}{s s':AS}{q:ι}{U:List (Nat×PV)}{H:List (Nat×aA)}(hu:I.fm q=U)(hh:I.cX q=H)(h:dQ M nx ρ ⟨fun _=>U,I.dU,fun _=>H,I.aQ⟩ s q s'):dQ M nx ρ I s q s':=by
 subst hu hh;exact⟨h.fm,h.dU,h.cX,h.aQ,h.fix,h.low,h.inj⟩
theorem bA.at{M nx:Nat}{I:Inv Nat}{J:Nat→Prop}{s:AS}{i u q:Nat}{s':AS}{U:List (Nat×PV)}{H:List (Nat×aA)}(ρ:Nat→Nat)(hj:J (q+1))(h:s'.env i=some (i64 q))(hu:I.fm (q+1)=U)(hh:I.cX (q+1)=H)(hb:dQ M nx ρ ⟨fun _=>U,I.dU,fun _=>H,I.aQ⟩ s (q+1) ⟨ck (ck s'.env u (some (i64 (q+1:Nat)))) i (some (i64 (q+1:Nat))),s'.hp⟩):bA M nx I J s i u q s':=.is ρ hj h (A_ hu hh hb)
def Inv.of{σ:Type}(F:Nat→σ)(U:σ→List (Nat×PV))(dU:List Nat)(H:σ→List (Nat×aA))(aQ:List Nat):Inv Nat:=⟨fun q=>U (F q),dU,fun q=>H (F q),aQ⟩
theorem bR{σ:Type}{F:Nat→σ}{U:σ→List (Nat×PV)}{dU:List Nat}{H:σ→List (Nat×aA)}{aQ:List Nat}{s:AS}{i c q:Nat}{b:Bool}{v:σ}(h:F q=v):lC (Inv.of F U dU H aQ) s i c q b=lC (Inv.of (fun _=>v) U dU H aQ) s i c q b:=by
 subst h;rfl
theorem bA.of{M nx:Nat}{σ:Type}{F:Nat→σ}{U:σ→List (Nat×PV)}{dU:List Nat}{H:σ→List (Nat×aA)}{aQ:List Nat}{J:Nat→Prop}{s:AS}{i u q:Nat}{s':AS}{v:σ}(ρ:Nat→Nat)(hv:F (q+1)=v)(hj:J (q+1))(h:s'.env i=some (i64 q))(hb:dQ M nx ρ (Inv.of (fun _=>v) U dU H aQ) s (q+1) ⟨ck (ck s'.env u (some (i64 (q+1:Nat)))) i (some (i64 (q+1:Nat))),s'.hp⟩):bA M nx (Inv.of F U dU H aQ) J s i u q s':=.is ρ hj h (A_ (congrArg U hv) (congrArg H hv) hb)
theorem get_at{α:Type}{l:List α}{k:Nat}(h:k<l.length):∃x,l[k]? = some x:=⟨_,aay h⟩
theorem eC{α:Type}{l:List α}{q:Nat}{x:α}(h:l[q]? = some x):l.take (q+1)=l.take q++[x]:=by rw[adD,h];rfl
def sw(a b:Nat)(i:Nat):Nat:=match Nat.beq i a with|true=>b|false=>i
theorem JH{α:Type}(f:α→PV)(l:List α):(l.map f).length=l.length:=aao ..
theorem dS{α:Type}{f:α→PV}{k:Nat}(h:Lay f k)(l:List α)(x:α)(hl:l.length<67108864):mj (l.map f) [f x] k∧l.length=(l.map f).length:=
 ⟨⟨by rw[aao];exact hl,(h.rows l).k,h.rows [x]⟩,(aao ..).symm⟩
end
section
open Go.Shelf Go.RowKit
def SZ:Go.Shelf.Ren:=⟨fun|6=>274|8=>213|n=>n,fun|0=>0|3=>3|4=>4|22=>241|23=>243|25=>315|n=>n,fun n=>n⟩
theorem Rj:SlLaysH0.n8 Tryz.prog SZ:={
 mixed:=by kernel_rfl
 f6:=Exists.intro "slices.IndexFunc[[]demesne/word.span,demesne/word.span]" ⟨by kernel_rfl,Tryz.func274.trans (congrArg some (by kernel_rfl))⟩
 f8:=Exists.intro "slices.ContainsFunc[[]demesne/word.span,demesne/word.span]" ⟨by kernel_rfl,Tryz.func213.trans (congrArg some (by kernel_rfl))⟩
 t0:=Tryz.underlying0
 a0:=Tryz.isAgg0
 z0:=Tryz.sizeOf0
 v0:=Tryz.zeroValue0
 t3:=Tryz.underlying3
 a3:=Tryz.isAgg3
 z3:=Tryz.sizeOf3
 v3:=Tryz.zeroValue3
 t4:=Tryz.underlying4
 a4:=Tryz.isAgg4
 z4:=Tryz.sizeOf4
 v4:=Tryz.zeroValue4
 t22:=Tryz.underlying241
 a22:=Tryz.isAgg241
 z22:=Tryz.sizeOf241
 v22:=Tryz.zeroValue241
 t25:=Tryz.underlying315
 a25:=Tryz.isAgg315
 z25:=Tryz.sizeOf315
 v25:=Tryz.zeroValue315
 }
structure dP where
 k:Int
 n:Nat
instance:Inhabited dP:=⟨⟨0,0⟩⟩
def dP.cells(c:dP):List Value:=[.int .i64 c.k,.int .u64 (c.n:Int)]
def dP.val(c:dP):Value:=.agg c.cells.toArray
def uB(w:World)(b o:Nat)(c:dP):Prop:=w.cell? ⟨b,o,none⟩=some (.int .i64 c.k)∧w.cell? ⟨b,o+1,none⟩=some (.int .u64 (c.n:Int))
def kX(w:World)(v:Value)(l:List dP):Prop:=
 (v=.slice none 0 0∧l=[])∨(∃ad c,v=.slice (some ad) 0 c∧l=[])∨∃b off cap,v=.slice (some ⟨b,off,none⟩) l.length cap∧b<w.heap.size∧∀j (h:j<l.length),uB w b (off+j*2) l[j]
theorem kX.below{w w':World}{B:Nat}{v:Value}{l:List dP}(h:kX w v l)(hb:Below B w w')(hB:w.heap.size≤B):kX w' v l:=by
 rcases h with h|h|⟨b,off,cap,e,hlt,hc⟩
 ·exact .inl h
 ·exact .inr (.inl h)
 ·exact .inr (.inr ⟨b,off,cap,e,aaS hlt hb.size,fun j hj=>⟨(hb.cell (p:=⟨b,off+j*2,none⟩) (aaS hlt hB)).trans (hc j hj).1,(hb.cell (p:=⟨b,off+j*2+1,none⟩) (aaS hlt hB)).trans (hc j hj).2⟩⟩)
theorem kX.form{w:World}{v:Value}{l:List dP}(h:kX w v l):∃a cap,v=.slice a l.length cap:=by
 rcases h with⟨rfl,rfl⟩|⟨a,c,rfl,rfl⟩|⟨b,off,cap,rfl,_⟩
 ·exact⟨_,_,rfl⟩
 ·exact⟨_,_,rfl⟩
 ·exact⟨_,_,rfl⟩
theorem kX.nil(w:World):kX w (.slice none 0 0) []:=.inl ⟨rfl,rfl⟩
end
end Go.Proofs.YtbnonpbnhenkfaaGreatDoor
