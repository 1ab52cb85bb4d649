/- Part 6 of the proof; the last part says what is proved. -/
import Derived.Test.YtbnonpbnhenkfaaGreatDoorQ05
import Derived.Lib.OthersKept
import Derived.Laws.RangeAny
import Derived.Shelf.Strings.Split
import Derived.Shelf.Strings.OnBuilder
set_option linter.all false
set_option maxRecDepth 1000000
set_option maxHeartbeats 8000000
namespace Go.Proofs.YtbnonpbnhenkfaaGreatDoor
section
open Go.Shelf Go.RowKit
def mO(w:World)(g:Nat)(l:List eL):Prop:=∀j (h:j<l.length),w.cell? ⟨g,j*2,none⟩=some (.int .i32 l[j].lo)∧w.cell? ⟨g,j*2+1,none⟩=some (.int .i32 l[j].hi)
theorem mO.below{w x:World}{B g:Nat}{l:List eL}(h:mO w g l)(hb:Below B w x)(hg:g<B):mO x g l:=fun j hj=>
 ⟨(hb.cell (p:=⟨g,j*2,none⟩) hg).trans (h j hj).1,(hb.cell (p:=⟨g,j*2+1,none⟩) hg).trans (h j hj).2⟩
theorem Nn:∀args w,(callFunc 214 args).run Tryz.prog w=.ok (.enter 214 args) w:=by
 intro args w;exact enters_of Tryz.func214 (by kernel_rfl) rfl args w
theorem Vm(x:eL)(r:Int)(g:Nat)(w:World)(hr:w.cell? ⟨g,0,none⟩=some (.int .i32 r))(hg:g<w.heap.size):
 Calls Tryz.prog 214 #[x.val,.pointer (some ⟨g,0,none⟩)] w fun e w'=>e=.returned (.bool (Wd.qm r x))∧Below w.heap.size w w':=by
 obtain⟨lo,hi⟩:=x
 have HI:=Lib.hid (show Wd.qm r ⟨lo,hi⟩=(decide (lo≤r)&&decide (r≤hi))from rfl)
 generalize Wd.qm r ⟨lo,hi⟩=q at HI⊢
 unfold eL.val eL.cells
 go_enter Tryz.func214,Tryz.ntmps214
 go_upto_region 1 with fail
 have cI:Below w.heap.size w (w.alloc (.cells #[.int .i32 lo,.int .i32 hi] 243)):=(Below.refl _ _).alloc (aas _) _
 have c0:(w.alloc (.cells #[.int .i32 lo,.int .i32 hi] 243)).cell? ⟨w.heap.size,0,none⟩=some (.int .i32 lo):=by rw[World.cell?_alloc_mark];rfl
 have c1:(w.alloc (.cells #[.int .i32 lo,.int .i32 hi] 243)).cell? ⟨w.heap.size,1,none⟩=some (.int .i32 hi):=by rw[World.cell?_alloc_mark];rfl
 have hr':=(cI.cell (p:=⟨g,0,none⟩) hg).trans hr
 generalize w.alloc (.cells #[.int .i32 lo,.int .i32 hi] 243)=x at cI c0 c1 hr'⊢
 clear hr hg
 by_cases h1:lo≤r
 ·have hd1:decide (lo≤r)=true:=aaB h1
  by_cases h2:r≤hi
  ·have hd2:decide (r≤hi)=true:=aaB h2
   go_wp2_with fail
   go_ret
   exact⟨jj (by rw[HI.out];simp[h1,h2]),cI⟩
  ·have hd2:decide (r≤hi)=false:=aar h2
   go_wp2_with fail
   go_ret
   exact⟨jj (by rw[HI.out];simp[h1,h2]),cI⟩
 ·have hd1:decide (lo≤r)=false:=aar h1
  go_wp2_with fail
  go_ret
  exact⟨jj (by rw[HI.out];simp;omega),cI⟩
theorem Iv(r:Int)(g n:Nat)(l:List eL)(w:World)(hl:l.length=n)(hn:n≤100)(hs:mO w g l)(hg:g<w.heap.size):
 Calls Tryz.prog 149 #[.int .i32 r,.slice (some ⟨g,0,none⟩) n n] w fun e w'=>e=.returned (.bool (Wd.o6 r l))∧Below w.heap.size w w':=by
 have hmf:∀(fn:Fn) (first cap:Array Value) (w:World),(Instr.makeFunc fn first cap).run Tryz.prog w=.ok (.func fn first cap) w:=fun _ _ _ _=>rfl
 have HA:=Lib.hid (show Wd.o6 r l=l.any (Wd.qm r)from rfl)
 go_enter Tryz.func149,Tryz.ntmps149
 go_upto_region 1 with fail
 have cI:Below w.heap.size w (w.alloc (.cells #[.int .i32 r] 21)):=(Below.refl _ _).alloc (aas _) _
 have c0:(w.alloc (.cells #[.int .i32 r] 21)).cell? ⟨w.heap.size,0,none⟩=some (.int .i32 r):=by rw[World.cell?_alloc_mark];rfl
 have hlt:w.heap.size<(w.alloc (.cells #[.int .i32 r] 21)).heap.size:=by simp
 generalize w.alloc (.cells #[.int .i32 r] 21)=x at cI c0 hlt⊢
 have hs2:=hs.below cI hg
 have HC:=Lib.hid (AnyQ.slices_ContainsFunc Rj 2 Tryz.isAgg243 Tryz.sizeOf243 eL.cells (fun _=>rfl) (Wd.qm r) 214 #[.pointer (some ⟨w.heap.size,0,none⟩)] Nn g 0 n n l x
  (fun W y hb=>(Vm y r w.heap.size W ((hb.cell (p:=⟨w.heap.size,0,none⟩) hlt).trans c0) (aaS hlt hb.size)).mono fun e w' h=>⟨h.1,hb.trans (h.2.mono hb.size)⟩)
  (by omega) (by omega) (by have:=cI.size;omega)
  (fun j hj i u hu=>by
    have h:=hs2 j hj
    rw[adC l j hj]at hu
    rw[aav]
    match i,hu with
    |0,hu=>cases hu;exact h.1
    |1,hu=>cases hu;exact h.2
    |i+2,hu=>cases hu))
 rw[aaQ (by omega)]at HC
 have HB:=Lib.hid cI
 clear hs2 hs c0 cI
 generalize l.any (Wd.qm r)=q at HC HA
 go_wp2_with (go_at_call 213;refine HC.out.mono ?_;rintro e u ⟨rfl,hbu⟩)
 go_ret
 exact⟨jj HA.out.symm,HB.out.trans (hbu.mono HB.out.size)⟩
theorem Y4(s:ByteArray)(w:World)(hs:s.size<9223372036854775807):
 Calls Tryz.prog 215 #[.string s] w fun e w'=>e=.returned (.int .i64 (Lib.runeCount s))∧Below w.heap.size w w':=by
 go_enter Tryz.func215,Tryz.ntmps215
 go_wp2
 go_loopw [2] (fun n w'=>∃(pos b acc:Nat),w'=w.iter s pos∧n=.int .i64 acc∧acc+Lib.runeCountFrom s b pos=Lib.runeCount s∧s.size≤pos+b∧acc≤pos) (fun _ w'=>s.size-w'.iterPos w.heap.size)
 case atStart=>exact⟨0,s.size,0,rfl,rfl,by simp[Lib.runeCount],by omega,aas _⟩
 case round=>
  obtain⟨pos,b,acc,rfl,rfl,hc,hb,ha⟩:=hrel
  by_cases hp:pos<s.size
  ·have hnx:∀ty,(Instr.next (.pointer (some ⟨w.heap.size,0,none⟩)) true ty).run Tryz.prog (w.iter s pos)=_:=fun ty=>run_next_any w s pos ty hp
   have hwd:=Lib.decode_width_pos s pos hp
   go_wp2
   go_roundw
   case rel=>
    cases b with
    |zero=>omega
    |succ b=>
     refine⟨pos+(Utf8.decode s pos).2,b,acc+1,rfl,by go_num,?_,by omega,by omega⟩
     rw[← hc]
     simp[Lib.runeCountFrom,hp]
     omega
   case measure=>
    simp
    omega
  ·have hnx:∀ty,(Instr.next (.pointer (some ⟨w.heap.size,0,none⟩)) true ty).run Tryz.prog (w.iter s pos)=_:=fun ty=>run_next_end w s pos ty hp
   go_wp2
   go_ret
   rw[Lib.runeCountFrom_end s b pos hp,abM]at hc
   subst hc
   exact⟨rfl,(Below.refl _ _).alloc (aas _) _⟩
theorem WT(s:ByteArray)(w:World)(hs:s.size<9223372036854775807):
 Calls Tryz.prog 150 #[.string s] w fun e w'=>e=.returned (.int .i64 (Lib.runeCount s))∧Below w.heap.size w w':=by
 have H:=Lib.hid (fun y=>Y4 s y hs)
 go_enter Tryz.func150,Tryz.ntmps150
 go_wp2_with (go_at_call 215;refine(H.out _).mono ?_;rintro e u ⟨rfl,hbu⟩)
 go_ret
 exact⟨rfl,hbu⟩
structure Rr(w x:World)(s:ByteArray)(pos:Nat):Prop where
 it:x.heap[w.heap.size]? = some (.stringIter s pos)
 b:Below w.heap.size w x
theorem Rr.lt{w x:World}{s:ByteArray}{pos:Nat}(h:Rr w x s pos):w.heap.size<x.heap.size:=(aaP.1 h.it).1
theorem Rr.below{w x y:World}{s:ByteArray}{pos:Nat}(h:Rr w x s pos)(hb:Below x.heap.size x y):Rr w y s pos:=⟨(hb.block _ h.lt).trans h.it,h.b.trans (hb.mono h.b.size)⟩
theorem Rr.next{w x:World}{s:ByteArray}{pos:Nat}(h:Rr w x s pos)(q:Nat):Rr w (x.iterAt w.heap.size s q) s q:=⟨Lib.iterAt_heap _ _ _ _ _ h.it,Lib.below_iterAt h.b (aas _) s q⟩
theorem Rr.pos{w x:World}{s:ByteArray}{pos:Nat}(h:Rr w x s pos):x.iterPos w.heap.size=pos:=by simp[World.iterPos,h.it]
theorem Yj(s:ByteArray)(w:World)(hs:s.size<9223372036854775807)(hA:mO w 2 Wd.letters)(hB:mO w 3 Wd.marks)(lA:2<w.heap.size)(lB:3<w.heap.size):
 Calls Tryz.prog 68 #[.string s] w fun e w'=>e=.returned (.bool (Wd.right s))∧Below w.heap.size w w':=by
 have HAL:=Lib.hid (fun r y (hb:Below w.heap.size w y)=>Iv r 2 3 Wd.letters y rfl (by omega) (hA.below hb lA) (aaS lA hb.size))
 have HAM:=Lib.hid (fun r y (hb:Below w.heap.size w y)=>Iv r 3 2 Wd.marks y rfl (by omega) (hB.below hb lB) (aaS lB hb.size))
 have HCT:=Lib.hid (fun y=>WT s y hs)
 have HRG:=Lib.hid (show Wd.right s=(Wd.nD s s.size 0&&(decide (0<s.size)&&decide (Lib.runeCount s≤16)))from rfl)
 generalize Wd.right s=q at HRG⊢
 have hrc:=Lib.runeCount_le s
 generalize Lib.runeCount s=rc at HCT HRG hrc
 clear hA hB
 go_enter Tryz.func68,Tryz.ntmps68
 go_wp2_with fail
 go_loopw [4] (fun _ wr=>∃(pos f:Nat),Rr w wr s pos∧Wd.nD s s.size 0=Wd.nD s f pos∧s.size≤pos+f) (fun _ wr=>s.size-wr.iterPos w.heap.size)
 case atStart=>exact⟨0,s.size,⟨World.iter_heap w s 0,(Below.refl _ _).alloc (aas _) _⟩,rfl,by omega⟩
 case round=>
  obtain⟨pos,f,hR,hok,hf⟩:=hrel
  have hpos:=hR.pos
  by_cases hp:pos<s.size
  ·have hnx:∀ty,(Instr.next (.pointer (some ⟨w.heap.size,0,none⟩)) true ty).run Tryz.prog wr=_:=fun ty=>Lib.run_next_any_at wr w.heap.size s pos ty hR.it hp
   have hwd:=Lib.decode_width_pos s pos hp
   have hR2:=hR.next (pos+(Utf8.decode s pos).2)
   have hok2:Wd.nD s f pos=(if !(Wd.o6 ((Utf8.decode s pos).1:Int) Wd.letters)&&(decide (pos=0)||!(Wd.o6 ((Utf8.decode s pos).1:Int) Wd.marks))then false else Wd.nD s (f-1) (pos+(Utf8.decode s pos).2)):=by
    cases f with
    |zero=>omega
    |succ f=>rw[Wd.nD,abb hp];rfl
   generalize(Utf8.decode s pos).1=rn at hnx hok2
   generalize(Utf8.decode s pos).2=wd at hnx hok2 hR2 hwd
   obtain⟨np,hnp⟩:∃np,pos+wd=np:=⟨_,rfl⟩
   rw[hnp]at hok2 hR2
   simp only[hnp]at hnx
   have L1:=Lib.hid (HAL.out (rn:Int))
   have M1:=Lib.hid (HAM.out (rn:Int))
   generalize Wd.o6 (rn:Int) Wd.letters=bl at L1 hok2
   generalize Wd.o6 (rn:Int) Wd.marks=bm at M1 hok2
   have HR2:=Lib.hid hR2
   have HOK:=Lib.hid (hok.trans hok2)
   clear hok hok2 hR2 hR
   cases bl with
   |true=>
    go_wp2_with (first
     |(go_at_call 149;(with_reducible refine(L1.out _ HR2.out.b).mono ?_);rintro e y ⟨rfl,hby⟩))
    have h3:=HR2.out.below hby
    refine⟨⟨np,f-1,h3,by rw[HOK.out];simp,by omega⟩,by rw[h3.pos,hpos];omega⟩
   |false=>
    by_cases h0:pos=0
    ·subst h0
     go_wp2_with (first
      |(go_at_call 149;(with_reducible refine(L1.out _ HR2.out.b).mono ?_);rintro e y ⟨rfl,hby⟩))
     go_ret
     exact⟨jj (by rw[HRG.out,HOK.out];simp),(HR2.out.below hby).b⟩
    ·have h0':¬(pos:Int)=0:=by omega
     cases bm with
     |true=>
      go_wp2_with (first
       |(go_at_call 149;(with_reducible refine(L1.out _ HR2.out.b).mono ?_);rintro e y ⟨rfl,hby⟩;have HR3:=Lib.hid (HR2.out.below hby))
       |(go_at_call 149;(with_reducible refine(M1.out _ HR3.out.b).mono ?_);rintro e z ⟨rfl,hbz⟩))
      have h3:=HR3.out.below hbz
      refine⟨⟨np,f-1,h3,by rw[HOK.out];simp[h0],by omega⟩,by rw[h3.pos,hpos];omega⟩
     |false=>
      go_wp2_with (first
       |(go_at_call 149;(with_reducible refine(L1.out _ HR2.out.b).mono ?_);rintro e y ⟨rfl,hby⟩;have HR3:=Lib.hid (HR2.out.below hby))
       |(go_at_call 149;(with_reducible refine(M1.out _ HR3.out.b).mono ?_);rintro e z ⟨rfl,hbz⟩))
      go_ret
      exact⟨jj (by rw[HRG.out,HOK.out];simp),(HR3.out.below hbz).b⟩
  ·have hnx:∀ty,(Instr.next (.pointer (some ⟨w.heap.size,0,none⟩)) true ty).run Tryz.prog wr=_:=fun ty=>Lib.run_next_end_at wr w.heap.size s pos ty hR.it hp
   have hok2:Wd.nD s f pos=true:=by
    cases f with
    |zero=>rfl
    |succ f=>rw[Wd.nD,abg hp]
   have HB:=Lib.hid hR.b
   rw[hok,hok2]at HRG
   clear hok hok2 hR
   by_cases h0:0<s.size
   ·have hemp:s.toList.isEmpty=false:=by
     rw[ByteArray.toList_eq]
     have:0<s.data.toList.length:=h0
     cases hq:s.data.toList with
     |nil=>rw[hq]at this;simp at this
     |cons a l=>rfl
    go_wp2_with (go_at_call 150;(with_reducible refine(HCT.out _).mono ?_);rintro e y ⟨rfl,hby⟩)
    go_ret
    exact⟨jj (by rw[HRG.out];simp[h0];omega),HB.out.trans (hby.mono HB.out.size)⟩
   ·have hemp:s.toList.isEmpty=true:=by
     rw[ByteArray.toList_eq]
     have:s.data.toList.length=0:=by
      have h1:s.data.toList.length=s.size:=by simp
      omega
     rw[abz.1 this];rfl
    go_wp2_with fail
    go_ret
    exact⟨jj (by rw[HRG.out];simp[h0]),HB.out⟩
end
end Go.Proofs.YtbnonpbnhenkfaaGreatDoor
section
namespace Go.Proofs
open Go.Shelf
def Tryz.N_:Go.Shelf.Ren:=⟨fun|146=>238|221=>293|268=>346|138=>347|143=>348|195=>215|197=>379|218=>380|219=>381|260=>401|217=>402|225=>403|224=>404|267=>405|266=>420|314=>421|n=>n,fun|9=>9|31=>25|3=>3|4=>4|0=>0|105=>473|21=>21|5=>5|46=>304|119=>512|139=>515|138=>514|146=>455|51=>308|n=>n,fun|1=>6|3=>7|4=>8|n=>n⟩
theorem Tryz.Y0:Go.Proofs.Lays.n146 Tryz.prog Tryz.N_:={
 mixed:=by kernel_rfl
 f138:=Tryz.func347.trans (congrArg some (by kernel_rfl))
 f143:=Tryz.func348.trans (congrArg some (by kernel_rfl))
 f146:=Tryz.func238.trans (congrArg some (by kernel_rfl))
 f195:=Tryz.func215.trans (congrArg some (by kernel_rfl))
 f197:=Tryz.func379.trans (congrArg some (by kernel_rfl))
 f217:=Tryz.func402.trans (congrArg some (by kernel_rfl))
 f218:=Tryz.func380.trans (congrArg some (by kernel_rfl))
 f219:=Tryz.func381.trans (congrArg some (by kernel_rfl))
 f221:=Tryz.func293.trans (congrArg some (by kernel_rfl))
 f224:=Tryz.func404.trans (congrArg some (by kernel_rfl))
 f225:=Tryz.func403.trans (congrArg some (by kernel_rfl))
 f260:=Tryz.func401.trans (congrArg some (by kernel_rfl))
 f266:=Tryz.func420.trans (congrArg some (by kernel_rfl))
 f267:=Tryz.func405.trans (congrArg some (by kernel_rfl))
 f268:=Tryz.func346.trans (congrArg some (by kernel_rfl))
 f314:=Tryz.func421.trans (congrArg some (by kernel_rfl))
 t0:=Tryz.underlying0
 a0:=Tryz.isAgg0
 z0:=Tryz.sizeOf0
 v0:=Tryz.zeroValue0
 t3:=Tryz.underlying3
 a3:=Tryz.isAgg3
 z3:=Tryz.sizeOf3
 v3:=Tryz.zeroValue3
 t4:=Tryz.underlying4
 a4:=Tryz.isAgg4
 z4:=Tryz.sizeOf4
 v4:=Tryz.zeroValue4
 t5:=Tryz.underlying5
 a5:=Tryz.isAgg5
 z5:=Tryz.sizeOf5
 v5:=Tryz.zeroValue5
 t9:=Tryz.underlying9
 a9:=Tryz.isAgg9
 z9:=Tryz.sizeOf9
 v9:=Tryz.zeroValue9
 t21:=Tryz.underlying21
 a21:=Tryz.isAgg21
 z21:=Tryz.sizeOf21
 v21:=Tryz.zeroValue21
 t31:=Tryz.underlying25
 a31:=Tryz.isAgg25
 z31:=Tryz.sizeOf25
 v31:=Tryz.zeroValue25
 t46:=Tryz.underlying304
 a46:=Tryz.isAgg304
 z46:=Tryz.sizeOf304
 v46:=Tryz.zeroValue304
 t51:=Tryz.underlying308
 a51:=Tryz.isAgg308
 z51:=Tryz.sizeOf308
 v51:=Tryz.zeroValue308
 t105:=Tryz.underlying473
 a105:=Tryz.isAgg473
 z105:=Tryz.sizeOf473
 v105:=Tryz.zeroValue473
 t119:=Tryz.underlying512
 a119:=Tryz.isAgg512
 z119:=Tryz.sizeOf512
 t138:=Tryz.underlying514
 a138:=Tryz.isAgg514
 z138:=Tryz.sizeOf514
 v138:=Tryz.zeroValue514
 t139:=Tryz.underlying515
 a139:=Tryz.isAgg515
 z139:=Tryz.sizeOf515
 v139:=Tryz.zeroValue515
 t146:=Tryz.underlying455
 a146:=Tryz.isAgg455
 z146:=Tryz.sizeOf455
 v146:=Tryz.zeroValue455
 g1:=by kernel_rfl
 g3:=by kernel_rfl
 g4:=by kernel_rfl}
open Go.RowKit in
theorem Tryz.strings_Split(s sep:ByteArray)(m:Int)(w:World)(hs:s.size<4294967281)(hm:w.cell? ⟨6,0,none⟩=some (.int .i64 m))(h1:1≤sep.size):
 Calls Tryz.prog 238 #[.string s,.string sep] w fun e w'=>
  e=.returned (.slice (some ⟨w.heap.size,0,none⟩) (Lib.countB s sep+1) (Lib.countB s sep+1))∧w'=w.alloc (.cells ((Lib.splitB sep 0 (Lib.countB s sep) s).map Value.string).toArray 9):=Any.strings_Split Tryz.Y0 (by kernel_rfl) s sep m w hs hm h1
def Tryz.JL:Go.Shelf.Ren:=⟨fun|156=>171|165=>240|166=>241|169=>242|240=>294|241=>295|276=>349|277=>350|n=>n,fun|31=>25|9=>9|3=>3|4=>4|0=>0|20=>20|72=>341|76=>345|70=>339|37=>116|75=>344|127=>407|164=>441|5=>5|80=>228|n=>n,fun|n=>n⟩
theorem Tryz.XI:Go.Proofs.Lays.n156 Tryz.prog Tryz.JL:={
 mixed:=by kernel_rfl
 f156:=Tryz.func171.trans (congrArg some (by kernel_rfl))
 f165:=Tryz.func240.trans (congrArg some (by kernel_rfl))
 f166:=Tryz.func241.trans (congrArg some (by kernel_rfl))
 f169:=Tryz.func242.trans (congrArg some (by kernel_rfl))
 f240:=Tryz.func294.trans (congrArg some (by kernel_rfl))
 f241:=Tryz.func295.trans (congrArg some (by kernel_rfl))
 f276:=Tryz.func349.trans (congrArg some (by kernel_rfl))
 f277:=Tryz.func350.trans (congrArg some (by kernel_rfl))
 t0:=Tryz.underlying0
 a0:=Tryz.isAgg0
 z0:=Tryz.sizeOf0
 v0:=Tryz.zeroValue0
 t3:=Tryz.underlying3
 a3:=Tryz.isAgg3
 z3:=Tryz.sizeOf3
 v3:=Tryz.zeroValue3
 t4:=Tryz.underlying4
 a4:=Tryz.isAgg4
 z4:=Tryz.sizeOf4
 v4:=Tryz.zeroValue4
 t9:=Tryz.underlying9
 a9:=Tryz.isAgg9
 z9:=Tryz.sizeOf9
 v9:=Tryz.zeroValue9
 t20:=Tryz.underlying20
 a20:=Tryz.isAgg20
 z20:=Tryz.sizeOf20
 v20:=Tryz.zeroValue20
 t31:=Tryz.underlying25
 a31:=Tryz.isAgg25
 z31:=Tryz.sizeOf25
 v31:=Tryz.zeroValue25
 t37:=Tryz.underlying116
 a37:=Tryz.isAgg116
 z37:=Tryz.sizeOf116
 v37:=Tryz.zeroValue116
 t70:=Tryz.underlying339
 a70:=Tryz.isAgg339
 z70:=Tryz.sizeOf339
 v70:=Tryz.zeroValue339
 t72:=Tryz.underlying341
 a72:=Tryz.isAgg341
 z72:=Tryz.sizeOf341
 v72:=Tryz.zeroValue341
 t75:=Tryz.underlying344
 a75:=Tryz.isAgg344
 z75:=Tryz.sizeOf344
 v75:=Tryz.zeroValue344
 t76:=Tryz.underlying345
 a76:=Tryz.isAgg345
 z76:=Tryz.sizeOf345
 v76:=Tryz.zeroValue345
 t127:=Tryz.underlying407
 a127:=Tryz.isAgg407
 z127:=Tryz.sizeOf407
 v127:=Tryz.zeroValue407
 t164:=Tryz.underlying441
 a164:=Tryz.isAgg441
 z164:=Tryz.sizeOf441
 v164:=Tryz.zeroValue441}
theorem Tryz.RM:Builder.Extra Tryz.prog Tryz.JL:={
 sizeBuilder:=by kernel_rfl
 liesBuilder:=by kernel_rfl
 t5:=Tryz.underlying5
 a5:=Tryz.isAgg5
 z5:=Tryz.sizeOf5
 v5:=Tryz.zeroValue5
 infoByte:=by kernel_rfl
 cellsByte:=by kernel_rfl
 sizeByte:=by kernel_rfl
 neB5:=by decide}
open Go.RowKit in
theorem Tryz.strings_Join(bk o c:Nat)(xs:List ByteArray)(sep:ByteArray)(w:World)
 (hcells:∀(j:Nat) x,xs[j]? = some x→w.cell? ⟨bk,o+j,none⟩=some (.string x))
 (hbk:bk<w.heap.size) (hN:xs.length≤140737488355328) (hcap:xs.length≤c)
 (hlen:(Lib.join (xs.map (·.data.toList)) sep.data.toList).length≤140737488355328):
 Calls Tryz.prog 171 #[.slice (some ⟨bk,o,none⟩) xs.length c,.string sep] w fun e w'=>e=.returned (.string ⟨(Lib.join (xs.map (·.data.toList)) sep.data.toList).toArray⟩)∧Below w.heap.size w w':=Any.strings_Join Tryz.XI Tryz.RM bk o c xs sep w hcells hbk hN hcap hlen
end Go.Proofs
end
namespace Go.Proofs.YtbnonpbnhenkfaaGreatDoor
section
open Go.RowKit
theorem JV{f:FuncId}{fn:Func}{args:List PV}{r:PV}(hf:Tryz.prog.funcs[f]? = some fn)(hn:(fn.name== "runtime.NumGoroutine")=false)(hb:fn.body.isSome=true)(ha:oD args=true)(hr:pN r=true)
 (h:∀w,fU w→Calls Tryz.prog f (aZ args).toArray w fun e w'=>e=.returned (val r)∧Below w.heap.size w w'):PC f args (·=r):=by
 obtain⟨c,hc⟩:=adb.1 hb
 refine⟨enters_of hf hn hc,fun w Z vs hg _ hv=>?_⟩
 rw[qB args ha hv]
 refine(h w hg).mono ?_
 rintro e w' ⟨rfl,hbl⟩
 exact⟨r,_,rfl,rfl,xX r _ hr,hbl⟩
theorem fU.letters{w:World}(h:fU w):mO w 2 Wd.letters:=by
 have ht:=h.lL (2,Wd.letters.flatMap eL.cells) (by unfold gE;simp);intro j hj;have:j=0∨j=1∨j=2:=by have:j<3:=hj;omega
 rcases this with rfl|rfl|rfl
 ·exact⟨ht 0 _ rfl,ht 1 _ rfl⟩
 ·exact⟨ht 2 _ rfl,ht 3 _ rfl⟩
 ·exact⟨ht 4 _ rfl,ht 5 _ rfl⟩
theorem fU.marks{w:World}(h:fU w):mO w 3 Wd.marks:=by
 have ht:=h.lL (3,Wd.marks.flatMap eL.cells) (by unfold gE;simp);intro j hj;have:j=0∨j=1:=by have:j<2:=hj;omega
 rcases this with rfl|rfl
 ·exact⟨ht 0 _ rfl,ht 1 _ rfl⟩
 ·exact⟨ht 2 _ rfl,ht 3 _ rfl⟩
theorem mm(s:BA)(hs:s.size≤4294967280):PC 68 [st s] (·=bo (cQ s)):=by
 refine JV Tryz.func68 rfl rfl rfl rfl fun w hw=>?_
 have h1:=hw.lt (2,Wd.letters.flatMap eL.cells) (by unfold gE;simp);have h2:=hw.lt (3,Wd.marks.flatMap eL.cells) (by unfold gE;simp);exact Yj s w (by omega) hw.letters hw.marks h1 h2
theorem Ih{c:RC}:∀l:List BA,aC (l.map st) c (l.map Value.string)
 | []=>rfl
 |_::l=>⟨_,_,rfl,⟨rfl,rfl⟩,Ih l⟩
theorem Di{c:RC}:∀(l:List BA) {vs:List Value},aC (l.map st) c vs→vs=l.map Value.string
 | [],_,h=>h
 |_::l,_,⟨v,vs',e,r1,r2⟩=>by rw[e,r1.1,Di l r2];rfl
theorem yr:∀l:List BA,flat (l.map Value.string)=l.map Value.string
 | []=>rfl
 |x::l=>by show[Value.string x]++flat (l.map Value.string)=_;rw[yr l];rfl
theorem XS(s:BA)(hs:s.size<4294967281):PC 238 [st s,st iJ] (·=sl st (gy s)):=by
 refine⟨enters_of Tryz.func238 rfl rfl,fun w Z vs hg hz hv=>?_⟩;rw[qB [st s,st iJ] rfl hv];obtain⟨m,hm⟩:=hg.mx;refine(Tryz.strings_Split s iJ m w hs hm (by decide)).mono ?_;rintro e w' ⟨rfl,rfl⟩;have hlen:(gy s).length=Lib.countB s iJ+1:=Lib.splitB_all iJ (by decide) 0 _ s rfl;refine⟨sl st (gy s),_,rfl,rfl,⟨(gy s).map Value.string,Ih _,some ⟨w.heap.size,0,none⟩,Lib.countB s iJ+1,by rw[aao,hlen],by rw[aao,hlen];exact aas _,(fun e=>by cases e),.inr ⟨w.heap.size,0,1,rfl,fun x hx=>?_,fun i x hx=>⟨.inr ⟨aas _,by show w.heap.size<(w.heap.push _).size;rw[Array.size_push];exact abW _⟩,?_⟩⟩⟩,(Below.refl _ _).alloc (aas _) _⟩
 ·obtain⟨y,_,rfl⟩:=abc.1 hx;rfl
 ·rw[aav];exact JJ (w:=w) (e:=9) (cells:=((gy s).map Value.string).toArray) (by rw[yr];exact aaM) i x hx
theorem Ho(sep:List UInt8)(B:Nat):∀l:List (List UInt8),(∀x∈l,x.length≤B)→(Lib.join l sep).length≤l.length*(B+sep.length)
 | [],_=>aaF _
 | [x],h=>by
  rw[Lib.join_one]
  have:=h x aaA
  simp;omega
 |x::y::l,h=>by
  have ih:=Ho sep B (y::l) fun z hz=>h z (aaz _ hz)
  have hx:=h x aaA
  have e:Lib.join (x::y::l) sep=x++sep++Lib.join (y::l) sep:=by
   simp[Lib.join,List.intercalate,List.intersperse]
  rw[e,aap,aap]
  rw[show(x::y::l).length=(y::l).length+1 from rfl,acw,Nat.one_mul]
  omega
theorem W0(l:List BA)(h0:l≠[])(B:Nat)(hB:∀x∈l,x.size≤B)(hlen:l.length*(B+1)≤140737488355328)(hl:l.length≤67108864):PC 171 [sl st l,st iJ] (·=st (qw l)):=by
 refine⟨enters_of Tryz.func171 rfl rfl,fun w Z vs hg hz hv=>?_⟩;obtain⟨v,vs1,rfl,⟨us,r1,a,cap,rfl,hle,_,hc⟩,v2,vs2,rfl,r2,rfl⟩:=hv;obtain rfl:=Di l r1;rw[r2.1];rw[aao]at hle⊢;rcases hc with hc|⟨b,off,k,rfl,_,hcell⟩
 ·exact absurd (List.map_eq_nil_iff.1 hc) h0
 have hcells:∀(j:Nat) x,l[j]? = some x→w.cell? ⟨b,off+j,none⟩=some (.string x):=fun j x hx=>(hcell j _ (by rw[yr,aaT,hx];rfl)).2
 have hbw:b<w.heap.size:=by
  obtain⟨x,hx⟩:∃x,l[0]? = some x:=by cases l with|nil=>exact absurd rfl h0|cons x l=>exact⟨x,rfl⟩
  exact World.block_lt_of_cell? _ _ (hcells 0 x hx)
 refine(Tryz.strings_Join b off cap l iJ w hcells hbw (by omega) hle ?_).mono ?_
 ·refine aaJ (Ho [47] B _ fun x hx=>?_) (by rw[aao];exact hlen);obtain⟨y,hy,rfl⟩:=abc.1 hx;exact hB y hy
 ·rintro e w' ⟨rfl,hb⟩;exact⟨st (qw l),_,rfl,rfl,⟨rfl,rfl⟩,hb⟩
theorem Ae(sep:ByteArray):∀(k:Nat) (s:ByteArray),∀x∈Lib.splitB sep 0 k s,x.size≤s.size
 |0,s,x,h=>by rw[aaD.1 h];exact aas _
 |k+1,s,x,h=>by
  unfold Lib.splitB at h
  split at h
  ·rw[aaD.1 h];exact aas _
  ·rcases aaI.1 h with rfl|h
   ·rw[abY];omega
   ·have:=Ae sep k _ x h
    rw[abY]at this
    omega
theorem VI(s:BA):(gy s).length≤s.size+1:=by
 have h1:(gy s).length=Lib.countB s iJ+1:=Lib.splitB_all iJ (by decide) 0 _ s rfl;have:=Lib.countB_le iJ (by decide) s.size s (aas _);omega
theorem H6(s:BA):eU s=[]∨(eU s=gy s∧(gy s).length≤3):=by
 unfold eU;cases h:decide (3<((gy s).length:Int))with
 |true=>exact .inl rfl
 |false=>
  have:=aaw h;cases(gy s).any fun n=>!cQ n with
  |true=>exact .inl rfl
  |false=>exact .inr ⟨rfl,by omega⟩
theorem Kj(s:BA):(eU s).length≤3:=by
 rcases H6 s with h|⟨h,h2⟩
 ·rw[h];exact aaF _
 ·rw[h];exact h2
theorem MG(s:BA):∀x∈eU s,x.size≤s.size:=by
 rcases H6 s with h|⟨h,h2⟩
 ·rw[h];intro x hx;cases hx
 ·rw[h];exact Ae iJ _ s
theorem Pr(n:BA)(hn:n.size≤1000000):PC 239 [st n] (·=bo (!cQ n)):=al Tryz.func239<|af (mm n (by omega)) rfl<|ab
theorem Hc(s:BA)(hs:s.size≤1000000):PC 170 [st s] (·=sl st (eU s)):=by
 refine al Tryz.func170<|af (XS s (by omega)) rfl ?_;have hl:=VI s;have hm:((gy s).map st).length=(gy s).length:=aao ..;refine ae.two (fun h1=>?_) (fun h1=>?_)
 ·have e:eU s=[]:=by unfold eU;rw[hm]at h1;rw[h1]
  rw[e];exact ah<|ab
 ·rw[hm]at h1;refine af (zu cA.no (gy s) (fun n=>!cQ n) (by omega) fun x hx=>Pr x (aaJ (Ae iJ _ s x hx) hs)) rfl ?_;cases h2:(gy s).any fun n=>!cQ n with
  |true=>
   have e:eU s=[]:=by unfold eU;rw[h1,h2]
   rw[e];exact ah<|ab
  |false=>
   have e:eU s=gy s:=by unfold eU;rw[h1,h2]
   rw[e];exact aa<|ab
def oq(s:BA)(q:Nat):List BA:=(List.range q).map fun k=>qw ((eU s).take (k+1))
theorem AZ(s:BA)(hs:s.size≤1000000)(nx:Nat):LC 95 [st s] [] nx fun r d=>r=.aH nx 0 (gr s).length∧d=[(nx,some (.rows 1 ((gr s).map st) true none 9))]:=by
 refine eK (js:=[]) (bs:=[]) (args:=[st s]) Tryz.func95 rfl rfl rfl rfl trivial rfl<|af (Hc s hs) rfl ?_;have hp:=Kj s;refine iO.grow [(3,1,9)] ⟨rfl,trivial⟩<|mb (eU s).length (.of (oq s) (fun l=>[(3,.aH 6 0 l.length)]) [0,7] (fun l=>[(6,.rows 1 (l.map st) true none 9)]) []) (fun _=>True) trivial ?_ (fun k hk hj=>?_) (fun hj=>?_)
 ·exact bY rfl (ef.bP _)
 ·have hn:oq s (k+1)=oq s k++[qw ((eU s).take (k+1))]:=by unfold oq;rw[List.range_succ,aaC];rfl
  have hl':(oq s k).length=k:=by unfold oq;rw[aao,List.length_range]
  generalize hL:oq s k=L at hn hl';rw[bR hL];refine af (Hc s hs) rfl<|dH (k+1)<|ak.mk (ef.rows _).k<|ak.mk ⟨abE _,by rw[JH];exact abS.2 hk⟩ ?_;have hne:(eU s).take (k+1)≠[]:=by
   intro e;have:=congrArg List.length e;rw[aax,abQ]at this;omega
  have hcut:(((eU s).map st).drop 0).take (((k+1:Nat):Int).toNat-0)=((eU s).take (k+1)).map st:=by rw[acO,acB];rfl
  have h3:((eU s).take (k+1)).length≤3:=by rw[aax];omega
  have h4:=abx (s.size+1) h3;have hjoin:PC 171 [.sl false ((((eU s).map st).drop 0).take (((k+1:Nat):Int).toNat-0)),st iJ] (·=st (qw ((eU s).take (k+1)))):=by
   rw[hcut];exact W0 ((eU s).take (k+1)) hne s.size (fun x hx=>MG s x (aaV hx)) (by omega) (by omega)
  refine af hjoin rfl<|db.l (ak.mk (dS ef L (qw ((eU s).take (k+1))) (by omega)) ?_);exact bA.of (sw 6 18) hn trivial rfl<|gS ⟨⟨by rw[aap];rfl,rfl⟩,trivial⟩ ⟨⟨BB.aO (by rw[aaC];rfl) (ef.bP _),rfl⟩,trivial⟩
 ·have hh:gr s=oq s (eU s).length:=rfl;rw[hh];generalize hL:oq s (eU s).length=L;rw[bR hL];refine du<|dW.mk ⟨[(6,nx)],200,_,_,rfl,rfl,rfl,⟨dz.mk ⟨_,rfl,ef.bP L,.inl rfl⟩,trivial⟩,?_,rfl⟩;simp[fI,PV.wk,PV.rn,kJ,lk]
theorem uU(s:BA):(gr s).length≤3:=by
 unfold gr;rw[aao,List.length_range];exact Kj s
theorem vN(a b:BA)(hb:b.size≤1000000):PC 39 [st a,st b] (·=bo (mw a b)):=by
 refine al Tryz.func39<|a_.bB [] (n:=200) (AZ b hb _) rfl trivial ?_;have hl:=uU b;exact a_.by (n:=(gr b).length+100) (P3 (gr b) a (by omega)) (aN (cT (l:=gr b) rfl rfl ef.br rfl rfl) rfl)<|ab
def ux(ok:Nat→Bool)(n:Nat):Prop:=∀k,k<n→ok k=true
theorem K3(ok:Nat→Bool):∀(m k:Nat),(∀i,k≤i→i<k+m→ok i=true)→oX ok k m=true
 |0,_,_=>rfl
 |m+1,k,h=>by
  unfold oX
  rw[h k (aas _) (by omega)]
  exact K3 ok m (k+1) fun i h1 h2=>h i (by omega) (by omega)
theorem zC(ok:Nat→Bool):∀(m k i:Nat),k≤i→i<k+m→ok i=false→oX ok k m=false
 |0,k,i,h1,h2,_=>by omega
 |m+1,k,i,h1,h2,h3=>by
  unfold oX
  by_cases e:k=i
  ·subst e;rw[h3]
  ·cases ok k with
   |true=>exact zC ok m (k+1) i (by omega) (by omega) h3
   |false=>rfl
theorem wK{ok:Nat→Bool}{n:Nat}(h:ux ok n)(hn:ok n=true):ux ok (n+1):=fun k hk=>by
 by_cases e:k=n
 ·subst e;exact hn
 ·exact h k (by omega)
theorem Ll{ok:Nat→Bool}{n:Nat}(h:ux ok n):oX ok 0 n=true:=K3 ok n 0 fun i _ h2=>h i (by omega)
theorem rZ(l:List bM)(hl:l.length≤67108864)(hs:∀p∈l,p.k.size≤1000000∧p.v.size≤1000000):PC 117 [sl bM.pv l] (·=bo (gl l)):=by
 refine al Tryz.func117 ?_;have hm:(l.map bM.pv).length=l.length:=aao ..;refine cW l.length ⟨fun _=>[],[0,5,6],fun _=>[],[]⟩ (ux (oB l)) (fun k hk=>absurd hk (Nat.not_lt_zero k)) ?_ (fun k hk hj=>?_) (fun hj=>?_)
 ·exact bC
 ·obtain⟨x,hx⟩:=get_at hk;have⟨hx1,hx2⟩:=hs x (aau hx);have no:oB l k=false→gl l=false:=fun h=>by unfold gl;rw[zC (oB l) l.length 0 k (aaF _) (by omega) h]
  refine bx hx<|ay (mm x.k (by omega)) rfl ?_;cases h1:cQ x.k with
  |false=>
   rw[no (by unfold oB;rw[hx];dsimp only;rw[h1])];exact ar<|ah<|ab
  |true=>
  refine ay (mm x.v (by omega)) rfl ?_;cases h2:cQ x.v with
  |false=>
   rw[no (by unfold oB;rw[hx];dsimp only;rw[h1,h2])];exact ar<|ah<|ab
  |true=>
  cases k with
  |zero=>
   exact ae.f (by decide)<|ar<|aa<|bA.is id (wK hj (by unfold oB;rw[hx];dsimp only;rw[h1,h2])) rfl<|bC
  |succ j=>
   obtain⟨y,hy⟩:=get_at (l:=l) (k:=j) (by omega);refine ae.t (by omega)<|dH (j)<|bx hy<|ae.two (fun h3=>?_) (fun h3=>?_)
   ·rw[no (by unfold oB;rw[hx];dsimp only;rw[h1,h2,hy];dsimp only;rw[h3];rfl)];exact ar<|ah<|ab
   ·exact ar<|aa<|bA.is id (wK hj (by unfold oB;rw[hx];dsimp only;rw[h1,h2,hy];dsimp only;rw[h3];rfl)) rfl<|bC
 ·refine ae.is (decide ((l.length:Int)≤8)) (by rw[hm]) ?_;have e:gl l=decide ((l.length:Int)≤8):=by unfold gl;rw[Ll hj]
  rw[e];exact ab
theorem O4(t:Term)(hl:t.aZ.length≤67108864)(hs:t.key.size≤1000000∧∀v∈t.aZ,v.size≤1000000):PC 257 [t.pv] (·=bo t.right):=by
 refine al Tryz.func257 ?_;have hm:(t.aZ.map st).length=t.aZ.length:=aao ..;refine cW t.aZ.length ⟨fun _=>[],[1,6,7],fun _=>[],[0]⟩ (ux (o9 t.aZ)) (fun k hk=>absurd hk (Nat.not_lt_zero k)) ?_ (fun k hk hj=>?_) (fun hj=>?_)
 ·exact bC
 ·obtain⟨x,hx⟩:=get_at hk;have hx1:=hs.2 x (aau hx);have no:o9 t.aZ k=false→t.right=false:=fun h=>by unfold Term.right;rw[zC (o9 t.aZ) t.aZ.length 0 k (aaF _) (by omega) h]
  refine bx hx<|af (mm x (by omega)) rfl ?_;cases h1:cQ x with
  |false=>
   rw[no (by unfold o9;rw[hx];dsimp only;rw[h1])];exact ah<|ab
  |true=>
  cases k with
  |zero=>
   exact ae.f (by decide)<|aa<|bA.is id (wK hj (by unfold o9;rw[hx];dsimp only;rw[h1])) rfl<|bC
  |succ j=>
   obtain⟨y,hy⟩:=get_at (l:=t.aZ) (k:=j) (by omega);refine ae.t (by omega)<|dH (j)<|bx hy<|ae.two (fun h3=>?_) (fun h3=>?_)
   ·rw[no (by unfold o9;rw[hx];dsimp only;rw[h1,hy];dsimp only;rw[h3];rfl)];exact ah<|ab
   ·exact aa<|bA.is id (wK hj (by unfold o9;rw[hx];dsimp only;rw[h1,hy];dsimp only;rw[h3];rfl)) rfl<|bC
 ·refine af (mm t.key (by omega)) rfl ?_;have e:t.right=(match cQ t.key with|true=>decide ((t.aZ.length:Int)≤4)|false=>false):=by unfold Term.right;rw[Ll hj];cases cQ t.key<;>rfl
  rw[e];cases cQ t.key with
  |false=>exact ab
  |true=>
   exact ae.is (decide ((t.aZ.length:Int)≤4)) (by rw[hm])<|ab
def Term.Sz(t:Term):Prop:=t.aZ.length≤67108864∧t.key.size≤1000000∧∀v∈t.aZ,v.size≤1000000
theorem NL(t:Term)(h:t.Sz):PC 256 [t.pv] (·=bo (!t.right)):=al Tryz.func256<|af (O4 t h.1 h.2) rfl<|ab
theorem ya(l:List Term)(hl:l.length≤67108864)(hs:∀t∈l,t.Sz):PC 195 [sl Term.pv l] (·=bo (ig l)):=by
 refine al Tryz.func195 ?_;have hm:(l.map Term.pv).length=l.length:=aao ..;refine ae.two (fun h1=>?_) (fun h1=>?_)
 ·rw[hm]at h1;refine af (Ld cA.no l (fun t=>!t.right) hl fun t ht=>NL t (hs t ht)) rfl ?_;have e:ig l=!l.any fun t=>!t.right:=by unfold ig;rw[h1]
  rw[e];exact ab
 ·rw[hm]at h1;have e:ig l=false:=by unfold ig;rw[h1]
  rw[e];exact ab
theorem yw(n least most:Int):PC 194 [i64 n,i64 least,i64 most] (·=bo (within n least most)):=by
 refine al Tryz.func194 ?_;unfold within;refine ae.two (fun h1=>?_) (fun h1=>?_)
 ·rw[h1];exact ae.is _ rfl<|ab
 ·rw[h1];exact ab
def Spec.Sz(x:Spec):Prop:=x.path.size≤1000000∧x.cR.length≤67108864∧∀t∈x.cR,t.Sz
theorem tH(x:Spec)(h:x.Sz):PC 128 [x.pv] (·=i64 x.check):=by
 refine al Tryz.func128<|af (tC x) rfl ?_;unfold Spec.check;refine af (vN x.path x.path h.1) rfl ?_;cases mw x.path x.path with
 |false=>
  exact ah<|ab
 |true=>
 refine aa<|af (yw x.count 1 8) rfl ?_;cases within x.count 1 8 with
 |false=>
  exact ah<|ab
 |true=>
 refine af (yw x.prio 0 9) rfl ?_;cases within x.prio 0 9 with
 |false=>
  exact ah<|ab
 |true=>
 refine af (yw x.cN 1 100) rfl ?_;cases within x.cN 1 100 with
 |false=>
  exact ah<|ab
 |true=>
 refine aa<|af (ya x.cR h.2.1 h.2.2) rfl ?_;cases ig x.cR with
 |false=>
  exact ah<|ab
 |true=>
 refine aa ?_;rcases x.total with⟨v,_|_⟩
 ·exact ah<|ab
 ·exact aa<|ab
theorem Rd(l:List BA)(x:BA)(hl:l.length≤67108864):PC 471 [sl st l,st x] (·=i64 (idx (fun y=>seq x y) l 0)):=by
 refine al Tryz.func471<|cW l.length ⟨fun _=>[],[0,1,7],fun _=>[],[]⟩ (fun q=>idx (fun y=>seq x y) l 0=idx (fun y=>seq x y) (l.drop q) q) rfl ?_ (fun q hq hj=>?_) (fun hj=>?_)
 ·exact bC
 ·obtain⟨y,hy⟩:∃y,l[q]? = some y:=⟨_,aay hq⟩;have hd:=qa (fun y=>seq x y) hy;refine bx hy<|ae.is (seq x y) ?_ ?_
  ·rfl
  cases hpx:seq x y with
  |true=>
   rw[hpx]at hd;refine ah ?_;rw[hj,hd];exact ab
  |false=>
   rw[hpx]at hd;exact aa<|bA.is id (hj.trans hd) rfl<|bC
 ·rw[hj,aaR (aas _)];exact ab
theorem contains_of(l:List BA)(x:BA)(hl:l.length≤67108864):PC 470 [sl st l,st x] (·=bo (l.any fun y=>seq x y)):=al Tryz.func470<|af (Rd l x hl) rfl<|ae.is (l.any fun y=>seq x y) (pe (fun y=>seq x y) l 0)<|ab
theorem Xx(v:BA):PC 468 [.agg [],st v] (·=bo true):=al Tryz.func468<|ab
theorem PM(l:List BA)(v:BA)(hl:l.length≤67108864):PC 469 [sl st l,st v] (·=bo (l.any fun y=>seq v y)):=al Tryz.func469<|af (contains_of l v hl) rfl<|ab
theorem VW(x:Value)(w:World):(Go.method (Tryz.prog.types.size+Made.depth) 336 x "demesne/sel.holds").run Tryz.prog w=.ok (468,x) w:=by kernel_rfl
theorem OU(x:Value)(w:World):(Go.method (Tryz.prog.types.size+Made.depth) 337 x "demesne/sel.holds").run Tryz.prog w=.ok (469,x) w:=by kernel_rfl
def Term.Yg(t:Term):PV:=match t.aZ with
 | []=>.dq 336 (.agg [])
 |_=>.dq 337 (sl st t.aZ)
theorem OC(t:Term):PC 167 [t.pv] (·=t.Yg):=by
 refine al Tryz.func167 ?_;obtain⟨key,no,aZ⟩:=t;cases aZ with
 |nil=>
  exact ae.t rfl<|ah<|ab
 |cons v aZ=>
  exact ae.f (by simp;omega)<|aa<|ab
theorem Ou(t:Term)(labels:List bM)(hl:labels.length≤67108864)(hv:t.aZ.length≤67108864):PC 92 [t.pv,sl bM.pv labels] (·=bo (t.holds labels)):=by
 refine al Tryz.func92<|af (PK labels t.key hl) rfl ?_;unfold Term.holds;rcases qG labels t.key with⟨v,_|_⟩
 ·exact ae.is (false==t.no) (by simp)<|ar<|ab
 ·obtain⟨key,no,aZ⟩:=t;refine ay (OC ⟨key,no,aZ⟩) rfl ?_;cases aZ with
  |nil=>
   exact oh.is 468 VW<|ay (Xx v) rfl<|ae.is (true==no) (by simp)<|ar<|ab
  |cons x aZ=>
   exact oh.is 469 OU<|ay (PM (x::aZ) v hv) rfl<|ae.is (((x::aZ).any fun y=>seq v y)==no) (by simp)<|ar<|ab
theorem MW(t:Term)(labels:List bM)(hl:labels.length≤67108864)(hv:t.aZ.length≤67108864):PC 91 [t.pv,.ip [sl bM.pv labels] 0] (·=bo (!t.holds labels)):=al Tryz.func91<|af (Ou t labels hl hv) rfl<|ab
theorem Z3(l:List Term)(labels:List bM)(h:l.length≤67108864)(hl:labels.length≤67108864)(hv:∀t∈l,t.aZ.length≤67108864):PC 37 [sl Term.pv l,sl bM.pv labels] (·=bo (th l labels)):=al Tryz.func37<|af (Ld cA.one l (fun t=>!t.holds labels) h fun t ht=>MW t labels hl (hv t ht)) rfl<|ab
theorem NY(e:aD)(path:BA):PC 173 [e.pv,.ip [st path] 0] (·=bo (seq e.path path)):=al Tryz.func173<|ae.is _ rfl<|ab
theorem rH(t:List aD)(path:BA)(hl:t.length≤67108864):PC 96 [sl aD.pv t,st path] (·=i64 (eR t path)):=al Tryz.func96<|af (Q1 cA.one t (fun e=>seq e.path path) hl fun e _=>NY e path) rfl<|ab
theorem xP(t:List aD)(path:BA):(eR t path=-1∧dt t path=(aD.z,false))∨∃k:Nat,eR t path=(k:Int)∧t[k]? = some (dt t path).1∧(dt t path).2=true:=by
 unfold eR dt;rcases l9 (fun e:aD=>seq e.path path) t 0 with⟨h1,h2⟩|⟨m,x,h1,h2,h3⟩
 ·left;rw[h2];exact⟨h1,rfl⟩
 ·right;exact⟨m,h1.trans (by rw[aav]),by rw[h3];exact h2,by rw[h3]⟩
theorem Am(t:List aD)(path:BA)(hl:t.length≤67108864):PC 41 [sl aD.pv t,st path] (·=.aK [(dt t path).1.pv,bo (dt t path).2]):=by
 refine al Tryz.func41<|af (rH t path hl) rfl ?_;rcases xP t path with⟨h1,h2⟩|⟨m,h1,h2,h3⟩
 ·rw[h1];refine ae.t (by decide)<|ah ?_;rw[h2];exact ab
 ·rw[h1];refine ae.f (by omega)<|aa<|bx h2 ?_;rw[h3];exact ab
theorem Cz(path:BA)(hs:path.size≤1000000)(nx:Nat):LC 191 [st path] [] nx fun r d=>r=.aH nx 0 (gP path).length∧d=[(nx,some (.rows 1 ((gP path).map st) true none 9))]:=by
 refine eK (js:=[]) (bs:=[]) (args:=[st path]) Tryz.func191 rfl rfl rfl rfl trivial rfl<|a_.bB [] (n:=200) (AZ path hs _) rfl trivial ?_;have hl:=uU path;refine a_.bB [2] (n:=200) (Rl (gr path) 0 aG (aaF _) (by omega) 2 _ rfl) rfl ⟨rfl,trivial⟩ ?_;refine du<|dW.mk ⟨[(4,nx)],200,_,_,rfl,rfl,rfl,⟨dz.mk ⟨_,rfl,ef.bP (gP path),.inl rfl⟩,trivial⟩,?_,rfl⟩;simp[fI,PV.wk,PV.rn,kJ,lk,gP]
theorem EK(path:BA):1≤(gP path).length∧(gP path).length≤4:=by
 have:=uU path;unfold gP;rw[aaL];omega
theorem Bw(path:BA)(hs:path.size≤1000000):PC 121 [st path] (·=bo (named path)):=by
 refine al Tryz.func121 ?_;unfold named;refine ae.two (fun h1=>?_) (fun h1=>?_)
 ·rw[show seq path aG=true from h1];exact ab
 ·rw[show seq path aG=false from h1];exact af (vN path path hs) rfl<|ab
theorem zU(path:BA)(hs:path.size≤1000000):PC 122 [st path] (·=st (parent path)):=by
 refine al Tryz.func122<|a_.bB [] (n:=200) (Cz path hs _) rfl trivial ?_;obtain⟨h1,h2⟩:=EK path;refine bN.intro (((gP path).length:Int)-2) (wrap_i64 rfl (by omega)) ?_;refine bN.intro (((gP path).length-2:Nat):Int) (by split<;>omega)<|ak.mk ⟨by omega,by omega⟩ ?_;obtain⟨x,hx⟩:=get_at (l:=gP path) (k:=(gP path).length-2) (by omega);refine bx (i:=0+((gP path).length-2)) (by rw[aav];exact hx) ?_;rw[show parent path=x by unfold parent;rw[hx];rfl];exact ab
theorem Mk(v:V4)(e:aD):PC 179 [v.pv,e.pv] (·=.aK [(e.jd v).1.pv,i64 (e.jd v).2]):=by
 refine al Tryz.func179<|af (qK e.used v) rfl ?_;rcases hs:e.used.add v with⟨n,_|_⟩
 ·rw[show e.jd v=(e,5)by unfold aD.jd;rw[hs]];exact ah<|ab
 refine aa<|af (rI n e.bu) rfl ?_;cases hf:n.fits e.bu with
 |false=>
  rw[show e.jd v=(e,10)by unfold aD.jd;rw[hs];dsimp only;rw[hf]];exact ah<|ab
 |true=>
  rw[show e.jd v=({e with used:=n},0)by unfold aD.jd;rw[hs];dsimp only;rw[hf]];exact aa<|ab
theorem Zl(v:V4)(e:aD):PC 300 [v.pv,e.pv] (·=.aK [(e.lh v).1.pv,i64 (e.lh v).2]):=by
 refine al Tryz.func300<|af (vA e.used v) rfl ?_;rcases hs:e.used.sub v with⟨n,_|_⟩
 ·rw[show e.lh v=(e,15)by unfold aD.lh;rw[hs]];exact ah<|ab
 rw[show e.lh v=({e with used:=n},0)by unfold aD.lh;rw[hs]];exact aa<|ab
theorem RX(t:List aD)(p:BA)(hl:t.length≤67108864):PC 245 [st p,.ip [sl aD.pv t] 0] (·=bo (decide (eR t p<0))):=al Tryz.func245<|af (rH t p hl) rfl<|ae.is _ rfl<|ab
def lN(t:List aD)(act:aD→aD×Int)(l:List BA)(q:Nat):List aD:=(l.take q).foldl (fun out p=>out.set (eR t p).toNat (act (dt t p).1).1) t
theorem Ru{t:List aD}{act:aD→aD×Int}{l:List BA}{q:Nat}{p:BA}(h:l[q]? = some p):lN t act l (q+1)=(lN t act l q).set (eR t p).toNat (act (dt t p).1).1:=by
 unfold lN;rw[eC h,abw];rfl
theorem Iz(t:List aD)(act:aD→aD×Int)(l:List BA)(q:Nat):(lN t act l q).length=t.length:=by
 unfold lN;generalize l.take q=m;have:∀(m:List BA) (out:List aD),(m.foldl (fun out p=>out.set (eR t p).toNat (act (dt t p).1).1) out).length=out.length:=by
  intro m;induction m with
  |nil=>intro out;rfl
  |cons p m ih=>intro out;rw[acj,ih,aaY]
 exact this m t
theorem Hh{g:Nat}{w:V4}(act:aD→aD×Int)(ha:∀e:aD,PC g [w.pv,e.pv] (·=.aK [(act e).1.pv,i64 (act e).2]))(t:List aD)(path:BA)(hl:t.length≤67108864)(hs:path.size≤1000000):PC 178 [sl aD.pv t,st path,.mv g w.pv] (·=.aK [sl aD.pv (j8 t path act).1,i64 (j8 t path act).2]):=by
 refine al Tryz.func178<|af (Bw path hs) rfl ?_;cases hn:named path with
 |false=>
  rw[show j8 t path act=(t,6)by unfold j8;rw[hn]];exact ah<|ab
 |true=>
 refine aa<|a_.bB [] (n:=200) (Cz path hs _) rfl trivial ?_;obtain⟨ha1,ha2⟩:=EK path;generalize hA:gP path=A at ha1 ha2;refine a_.by (n:=A.length+100) (zu cA.one A (fun p=>decide (eR t p<0)) (by omega) fun p _=>RX t p hl) (aN (cT (l:=A) rfl rfl ef.br rfl rfl) (aN rfl rfl)) ?_;cases hc:A.any fun p=>decide (eR t p<0)with
 |true=>
  rw[show j8 t path act=(t,7)by unfold j8;rw[hn,hA,hc]];exact ah<|ab
 |false=>
 refine aa ?_;rw[show j8 t path act=mu t act A t by unfold j8;rw[hn,hA,hc]];refine a_.bB [] (n:=200) (MK t hl _) rfl trivial ?_;have hall:∀p∈A,decide (eR t p<0)=false:=fun p hp=>by simpa using adl.1 hc p hp
 refine cW A.length (.of (lN t act A) (fun _=>[]) [2,3,9,27,28] (fun l=>[(13,.rows 9 (l.map aD.pv) true none 130)]) [0,7]) (fun q=>mu t act A t=mu t act (A.drop q) (lN t act A q)) rfl ?_ (fun k hk hj=>?_) (fun hj=>?_)
 ·exact A0 ⟨⟨BB.aO rfl (gO.bP _),rfl⟩,trivial⟩ ⟨⟨_,rfl,BB.rn rfl rfl,rfl⟩,⟨_,rfl,BB.aO rfl (ef.bP _),rfl⟩,trivial⟩
 ·obtain⟨p,hx⟩:=get_at hk;have hn:=Ru (t:=t) (act:=act) hx;have hlen:=Iz t act A k;have hd:A.drop k=p::A.drop (k+1):=by
   obtain⟨hlt,rfl⟩:=aaq.1 hx;exact aaX hlt
  rw[hd]at hj;have hj':mu t act A t=match act (dt t p).1 with|(e,n)=>match decide (n=0)with|true=>mu t act (A.drop (k+1)) ((lN t act A k).set (eR t p).toNat e)|false=>(t,n):=hj
  generalize hL:lN t act A k=L at hn hlen hj';rw[bR hL];refine ak.mk ⟨by omega,by omega⟩ ?_;refine bx (i:=0+k) (by rw[aav];exact hx)<|af (rH t p hl) rfl ?_;have hp0:=aaw (hall p (aau hx));rcases xP t p with⟨h1,h2⟩|⟨m,h1,h2,h3⟩
  ·omega
  rw[h1]at hn hj'⊢;have hm:m<t.length:=(aaq.1 h2).1;refine bx h2<|af (ha (dt t p).1) rfl ?_;rcases he:act (dt t p).1 with⟨e,n⟩
  rw[he]at hn hj';refine ae.two (fun h4=>?_) (fun h4=>?_)
  ·have h4:decide (n=0)=true:=h4;dsimp only at hj';rw[h4]at hj';refine aa<|ak.mk ⟨by omega,by omega⟩ ?_;obtain⟨y,hy⟩:=get_at (l:=L) (k:=m) (by omega);refine bx (i:=0+m) (by rw[aav];exact hy) ?_;have hr:PV.c9 (L.map aD.pv) (0+m) (aD.pv e)=(L.set m e).map aD.pv:=by rw[aav];exact mg aD.pv L m e
   exact bA.of id hn (show mu t act A t=mu t act (A.drop (k+1)) (lN t act A (k+1))by rw[hj',hn]) rfl<|A0 ⟨⟨BB.aO (congrArg (fun r=>some (aA.rows 9 r true none _)) hr) (gO.bP _),rfl⟩,trivial⟩ ⟨⟨_,rfl,BB.rn rfl rfl,rfl⟩,⟨_,rfl,BB.aO rfl (ef.bP _),rfl⟩,trivial⟩
  ·have h4:decide (n=0)=false:=h4;dsimp only at hj';rw[h4]at hj';rw[hj'];exact ah<|ab
 ·rw[hj,abZ];have hlen:=Iz t act A A.length;generalize hL:lN t act A A.length=L at hlen;rw[bR hL];exact⟨L.length+100,_,_,.inl (aN (cT (l:=L) rfl rfl gO.br hlen.symm rfl) rfl),rfl⟩
theorem yL(t:List aD)(path:BA)(v:V4)(hl:t.length≤67108864)(hs:path.size≤1000000):PC 102 [sl aD.pv t,st path,v.pv] (·=.aK [sl aD.pv (iP t path v).1,i64 (iP t path v).2]):=al Tryz.func102<|af (Hh (aD.jd v) (Mk v) t path hl hs) rfl<|ab
theorem Ov(t:List aD)(path:BA)(v:V4)(hl:t.length≤67108864)(hs:path.size≤1000000):PC 247 [sl aD.pv t,st path,v.pv] (·=.aK [sl aD.pv (vl t path v).1,i64 (vl t path v).2]):=al Tryz.func247<|af (Hh (aD.lh v) (Zl v) t path hl hs) rfl<|ab
def lE(t:List aD)(q:Nat):List aD:=(t.take q).map (fun e=>{e with used:=V4.z})++t.drop q
theorem N'{t:List aD}{q:Nat}{e:aD}(h:t[q]? = some e):lE t (q+1)=(lE t q).set q {e with used:=V4.z}∧(lE t q)[q]? = some e:=by
 obtain⟨hlt,he⟩:=aaq.1 h;have hl:((t.take q).map (fun e:aD=>({e with used:=V4.z}:aD))).length=q:=by rw[aao,aax];omega
 unfold lE;rw[aaX hlt,he];refine⟨?_,?_⟩
 ·rw[eC h,aaC,List.set_append_right _ _ (by omega),hl,acn,abd];rfl
 ·rw[abf (by omega),hl,acn];rfl
theorem ER(t:List aD)(q:Nat)(h:q≤t.length):(lE t q).length=t.length:=by
 unfold lE;rw[aap,aao,aax,aaO];omega
theorem UU(t:List aD)(path:BA)(v:V4)(hl:t.length≤67108864)(hs:path.size≤1000000):PC 100 [sl aD.pv t,st path,v.pv] (·=bo (oN t path v)):=by
 refine al Tryz.func100<|a_.bB [] (n:=200) (sa t hl _) rfl trivial<|cW t.length (.of (lE t) (fun _=>[]) [1,5,7,14] (fun l=>[(3,.rows 9 (l.map aD.pv) true none 130)]) [0]) (fun _=>True) trivial ?_ (fun k hk hj=>?_) (fun hj=>?_)
 ·exact bY rfl (gO.bP _)
 ·obtain⟨e,hx⟩:=get_at hk;obtain⟨hn,hy⟩:=N' hx;have hlen:=ER t k (by omega);generalize hL:lE t k=L at hn hy hlen;rw[bR hL];refine ak.mk ⟨by omega,by omega⟩ ?_;refine bx (i:=0+k) (by rw[aav];exact hy) ?_;have hr:PV.c9 (L.map aD.pv) (0+k) (aD.pv {e with used:=V4.z})=(L.set k {e with used:=V4.z}).map aD.pv:=by rw[aav];exact mg aD.pv L k _
  exact bA.of id hn trivial rfl<|dv ⟨⟨BB.aO (congrArg (fun r=>some (aA.rows 9 r true none _)) hr) (gO.bP _),rfl⟩,trivial⟩
 ·have e:lE t t.length=t.map fun e=>{e with used:=V4.z}:=by unfold lE;rw[aaM,abZ,abe]
  have hlen:(lE t t.length).length=t.length:=ER t _ (aas _);unfold oN;rw[← e];generalize hL:lE t t.length=L at hlen;rw[bR hL];exact a_.by (n:=L.length+100) (yL L path v (by omega) hs) (aN (cT (l:=L) rfl rfl gO.br hlen.symm rfl) (aN rfl (aN rfl rfl)))<|ae.is (decide ((iP L path v).2=0)) rfl<|ab
theorem Hl(e:aD)(path:BA):PC 390 [e.pv,.ip [st path] 0] (·=bo (!dL e.path path)):=al Tryz.func390<|ae.is (dL e.path path) rfl<|ab
theorem tl{α:Type}(p:α→Bool):∀(l:List α) (i:Nat),(idx p l i=-1∧l.findIdx p=l.length)∨(∃m:Nat,idx p l i=((i+m:Nat):Int)∧l.findIdx p=m∧m<l.length)
 | [],_=>.inl ⟨rfl,rfl⟩
 |x::l,i=>by
  unfold idx
  rw[List.findIdx_cons]
  cases p x with
  |true=>exact .inr ⟨0,rfl,rfl,adN _⟩
  |false=>
   rcases tl p l (i+1)with⟨h1,h2⟩|⟨m,h1,h2,h3⟩
   ·exact .inl ⟨h1,by simp[h2]⟩
   ·exact .inr ⟨m+1,by show idx p l (i+1:Nat)=_;rw[h1];congr 1;omega,by simp[h2],ada h3⟩
theorem Qg(t:List aD)(path:BA)(bu:V4)(hl:t.length≤60000000)(hs:path.size≤1000000):PC 371 [sl aD.pv t,st path,bu.pv] (·=.aK [sl aD.pv (eY t path bu).1,i64 (eY t path bu).2]):=by
 refine al Tryz.func371<|af (rH t path (by omega)) rfl<|af (Bw path hs) rfl ?_;cases hn:named path with
 |false=>
  rw[show eY t path bu=(t,6)by unfold eY;rw[hn]];exact ah<|ab
 |true=>
 refine aa ?_;have hml:(t.map aD.pv).length=t.length:=aao ..;refine ae.two (fun h1=>?_) (fun h1=>?_)
 ·have h1:seq path aG=true:=h1;have hpar:(!seq path aG&&decide (eR t (parent path)<0))=false:=by rw[h1];rfl
  refine aa ?_;rcases xP t path with⟨h2,h3⟩|⟨m,h2,h3,h4⟩
  ·rw[h2];refine ae.t (by decide)<|ae.two (fun h5=>?_) (fun h5=>?_)
   ·rw[hml]at h5;rw[show eY t path bu=(t,9)by unfold eY;rw[hn,hpar,h2];dsimp only;rw[aaB (by decide)];dsimp only;rw[h5]];exact ah<|ab
   rw[hml]at h5;rw[show eY t path bu=(t.take (mV t path)++⟨path,bu,V4.z⟩::t.drop (mV t path),0)by unfold eY;rw[hn,hpar,h2];dsimp only;rw[aaB (by decide)];dsimp only;rw[h5]];refine aa<|ae.f (by decide)<|ar<|aa<|a_.bB [] (n:=200) (sa t (by omega) _) rfl trivial<|ae.f (by decide)<|aa<|af (yZ cA.one t (fun e=>!dL e.path path) (by omega) fun e _=>Hl e path) rfl ?_;have hlen:∀i,i≤t.length→t.length+1=(t.take i++(⟨path,bu,V4.z⟩:aD)::t.drop i).length:=fun i hi=>by rw[aap,aaL,aax,aaO];omega
   rcases tl (fun e:aD=>!dL e.path path) t 0 with⟨h6,h7⟩|⟨m,h6,h7,h8⟩
   ·have h6:idx (fun e:aD=>!dL e.path path) t 0=-1:=h6;rw[h6,show mV t path=t.length from h7];refine ae.t (by decide)<|ah ?_;have hins:∀nx,Nat.beq nx 44=false→LC 391 [.aH 44 0 t.length,i64 ((t.map aD.pv).length:Nat),.sl false [aD.pv ⟨path,bu,V4.z⟩]] [(44,.rows 9 (t.map aD.pv) true none 130)] nx fun r d=>r=.aH nx 0 (t.length+1)∧d=[(nx,some (.rows 9 ((t.take t.length++⟨path,bu,V4.z⟩::t.drop t.length).map aD.pv) true none 130)),(44,none)]:=by
     rw[hml];exact wu t t.length ⟨path,bu,V4.z⟩ (aas _) (by omega) 44
    exact a_.bB [44] (n:=200) (hins _ rfl) rfl ⟨rfl,trivial⟩<|⟨(t.take t.length++(⟨path,bu,V4.z⟩:aD)::t.drop t.length).length+100,_,_,.inl (aN (cT (l:=t.take t.length++⟨path,bu,V4.z⟩::t.drop t.length) rfl rfl gO.br (hlen t.length (aas _)) rfl) rfl),rfl⟩
   ·have h6:idx (fun e:aD=>!dL e.path path) t 0=(m:Int):=h6.trans (by rw[aav]);rw[h6,show mV t path=m from h7];refine ae.f (by omega)<|aa<|a_.bB [44] (n:=200) (wu t m ⟨path,bu,V4.z⟩ (by omega) (by omega) 44 _ rfl) rfl ⟨rfl,trivial⟩ ?_;exact⟨(t.take m++(⟨path,bu,V4.z⟩:aD)::t.drop m).length+100,_,_,.inl (aN (cT (l:=t.take m++⟨path,bu,V4.z⟩::t.drop m) rfl rfl gO.br (hlen m (by omega)) rfl) rfl),rfl⟩
  ·rw[h2];have hm:m<t.length:=(aaq.1 h3).1;refine ae.f (by omega)<|aa<|ae.t (by omega)<|bx h3<|ay (rI (dt t path).1.used bu) rfl ?_;cases hf:(dt t path).1.used.fits bu with
   |false=>
    rw[show eY t path bu=(t,10)by unfold eY;rw[hn,hpar,h2];dsimp only;rw[aar (by omega)];dsimp only;rw[hf]];exact ar<|ah<|ab
   |true=>
    rw[show eY t path bu=(t.set m {(dt t path).1 with bu:=bu},0)by unfold eY;rw[hn,hpar,h2];dsimp only;rw[aar (by omega)];dsimp only;rw[hf];rfl];refine ar<|aa<|a_.bB [] (n:=200) (sa t (by omega) _) rfl trivial<|ae.t (by omega)<|ah<|ak.mk ⟨by omega,by omega⟩ ?_;refine bx (i:=0+m) (by rw[aav];exact h3) ?_;have hr:PV.c9 (t.map aD.pv) (0+m) (aD.pv {(dt t path).1 with bu:=bu})=(t.set m {(dt t path).1 with bu:=bu}).map aD.pv:=by rw[aav];exact mg aD.pv t m _
    exact⟨(t.set m {(dt t path).1 with bu:=bu}).length+100,_,_,.inl (aN (cT (l:=t.set m {(dt t path).1 with bu:=bu}) rfl hr gO.br (aaY ..).symm rfl) rfl),rfl⟩
 ·have h1:seq path aG=false:=h1;refine af (zU path hs) rfl<|af (rH t (parent path) (by omega)) rfl<|ae.two (fun h0=>?_) (fun h0=>?_)
  ·rw[show eY t path bu=(t,7)by unfold eY;rw[hn,h1,h0];rfl];exact ah<|ab
  have hpar:(!seq path aG&&decide (eR t (parent path)<0))=false:=by rw[h0];exact adF _
  refine aa ?_;rcases xP t path with⟨h2,h3⟩|⟨m,h2,h3,h4⟩
  ·rw[h2];refine ae.t (by decide)<|ae.two (fun h5=>?_) (fun h5=>?_)
   ·rw[hml]at h5;rw[show eY t path bu=(t,9)by unfold eY;rw[hn,hpar,h2];dsimp only;rw[aaB (by decide)];dsimp only;rw[h5]];exact ah<|ab
   rw[hml]at h5;rw[show eY t path bu=(t.take (mV t path)++⟨path,bu,V4.z⟩::t.drop (mV t path),0)by unfold eY;rw[hn,hpar,h2];dsimp only;rw[aaB (by decide)];dsimp only;rw[h5]];refine aa<|ae.f (by decide)<|ar<|aa<|a_.bB [] (n:=200) (sa t (by omega) _) rfl trivial<|ae.f (by decide)<|aa<|af (yZ cA.one t (fun e=>!dL e.path path) (by omega) fun e _=>Hl e path) rfl ?_;have hlen:∀i,i≤t.length→t.length+1=(t.take i++(⟨path,bu,V4.z⟩:aD)::t.drop i).length:=fun i hi=>by rw[aap,aaL,aax,aaO];omega
   rcases tl (fun e:aD=>!dL e.path path) t 0 with⟨h6,h7⟩|⟨m,h6,h7,h8⟩
   ·have h6:idx (fun e:aD=>!dL e.path path) t 0=-1:=h6;rw[h6,show mV t path=t.length from h7];refine ae.t (by decide)<|ah ?_;have hins:∀nx,Nat.beq nx 44=false→LC 391 [.aH 44 0 t.length,i64 ((t.map aD.pv).length:Nat),.sl false [aD.pv ⟨path,bu,V4.z⟩]] [(44,.rows 9 (t.map aD.pv) true none 130)] nx fun r d=>r=.aH nx 0 (t.length+1)∧d=[(nx,some (.rows 9 ((t.take t.length++⟨path,bu,V4.z⟩::t.drop t.length).map aD.pv) true none 130)),(44,none)]:=by
     rw[hml];exact wu t t.length ⟨path,bu,V4.z⟩ (aas _) (by omega) 44
    exact a_.bB [44] (n:=200) (hins _ rfl) rfl ⟨rfl,trivial⟩<|⟨(t.take t.length++(⟨path,bu,V4.z⟩:aD)::t.drop t.length).length+100,_,_,.inl (aN (cT (l:=t.take t.length++⟨path,bu,V4.z⟩::t.drop t.length) rfl rfl gO.br (hlen t.length (aas _)) rfl) rfl),rfl⟩
   ·have h6:idx (fun e:aD=>!dL e.path path) t 0=(m:Int):=h6.trans (by rw[aav]);rw[h6,show mV t path=m from h7];refine ae.f (by omega)<|aa<|a_.bB [44] (n:=200) (wu t m ⟨path,bu,V4.z⟩ (by omega) (by omega) 44 _ rfl) rfl ⟨rfl,trivial⟩ ?_;exact⟨(t.take m++(⟨path,bu,V4.z⟩:aD)::t.drop m).length+100,_,_,.inl (aN (cT (l:=t.take m++⟨path,bu,V4.z⟩::t.drop m) rfl rfl gO.br (hlen m (by omega)) rfl) rfl),rfl⟩
  ·rw[h2];have hm:m<t.length:=(aaq.1 h3).1;refine ae.f (by omega)<|aa<|ae.t (by omega)<|bx h3<|ay (rI (dt t path).1.used bu) rfl ?_;cases hf:(dt t path).1.used.fits bu with
   |false=>
    rw[show eY t path bu=(t,10)by unfold eY;rw[hn,hpar,h2];dsimp only;rw[aar (by omega)];dsimp only;rw[hf]];exact ar<|ah<|ab
   |true=>
    rw[show eY t path bu=(t.set m {(dt t path).1 with bu:=bu},0)by unfold eY;rw[hn,hpar,h2];dsimp only;rw[aar (by omega)];dsimp only;rw[hf];rfl];refine ar<|aa<|a_.bB [] (n:=200) (sa t (by omega) _) rfl trivial<|ae.t (by omega)<|ah<|ak.mk ⟨by omega,by omega⟩ ?_;refine bx (i:=0+m) (by rw[aav];exact h3) ?_;have hr:PV.c9 (t.map aD.pv) (0+m) (aD.pv {(dt t path).1 with bu:=bu})=(t.set m {(dt t path).1 with bu:=bu}).map aD.pv:=by rw[aav];exact mg aD.pv t m _
    exact⟨(t.set m {(dt t path).1 with bu:=bu}).length+100,_,_,.inl (aN (cT (l:=t.set m {(dt t path).1 with bu:=bu}) rfl hr gO.br (aaY ..).symm rfl) rfl),rfl⟩
theorem S7(n:Node)(name:BA):PC 189 [n.pv,.ip [st name] 0] (·=bo (seq n.name name)):=al Tryz.func189<|ae.is _ rfl<|ab
theorem vp(p:aW)(name:BA)(hl:p.nodes.length≤67108864):PC 119 [p.pv,st name] (·=i64 (p.at name)):=al Tryz.func119<|af (I7 cA.one p.nodes (fun n=>seq n.name name) hl fun n _=>S7 n name) rfl<|ab
theorem Cl(p:aW)(name:BA)(hl:p.nodes.length≤67108864):PC 187 [p.pv,st name] (·=.aK [(p.find name).1.pv,bo (p.find name).2]):=by
 refine al Tryz.func187<|af (vp p name hl) rfl ?_;unfold aW.find;rcases l9 (fun n:Node=>seq n.name name) p.nodes 0 with⟨h1,h2⟩|⟨m,x,h1,h2,h3⟩
 ·have h1:p.at name=-1:=h1;refine ae.t (by rw[h1];decide)<|ah ?_;rw[h2];exact ab
 ·have h1:p.at name=(m:Int):=h1.trans (by rw[aav]);rw[h1];refine ae.f (by omega)<|aa<|bx h2 ?_;rw[h3];exact ab
theorem WU(p:aW):PC 98 [p.pv] (·=p.bare.pv):=al Tryz.func98<|ab
def oO(p:aW)(name:BA)(q:Nat):V4×Bool:=(p.places.take q).foldl (nO name) ((p.find name).1.cap,(p.find name).2)
theorem Tb{p:aW}{name:BA}{q:Nat}{x:Place}(h:p.places[q]? = some x):oO p name (q+1)=nO name (oO p name q) x:=by
 unfold oO;rw[eC h,abw];rfl
theorem we(p:aW)(name:BA)(hl:p.nodes.length≤67108864)(hp:p.places.length≤67108864):PC 116 [p.pv,st name] (·=v2 (p.free name)):=by
 refine al Tryz.func116<|af (Cl p name hl) rfl<|cW p.places.length (.of (oO p name) (fun r=>[(7,bo r.2)]) [1,4,8,20,21] (fun r=>[(14,.rows 4 [r.1.pv] true none 32)]) [1]) (fun _=>True) trivial ?_ (fun k hk hj=>?_) (fun hj=>?_)
 ·exact bC
 ·obtain⟨x,hx⟩:=get_at hk;have hn:=Tb (name:=name) hx;rcases hf:oO p name k with⟨v,_|_⟩
  ·rw[hf]at hn;rw[bR hf];exact bx hx<|aa<|bA.of id hn trivial rfl<|bC
  ·rw[hf]at hn;rw[bR hf];refine bx hx<|ae.two (fun h1=>?_) (fun h1=>?_)
   ·refine ah<|af (vA v x.v) rfl<|bA.of id hn trivial rfl ?_;unfold nO;rw[h1];exact bC
   ·refine aa<|bA.of id hn trivial rfl ?_;unfold nO;rw[h1];exact bC
 ·unfold aW.free;have hh:p.places.foldl (nO name) ((p.find name).1.cap,(p.find name).2)=oO p name p.places.length:=by unfold oO;rw[aaM]
  rw[hh];rcases hf:oO p name p.places.length with⟨v,_|_⟩
  ·rw[bR hf];exact ah<|ab
  ·rw[bR hf];exact aa<|ab
theorem Ze(p:aW)(name:BA)(v:V4)(hl:p.nodes.length≤67108864)(hp:p.places.length≤67108864):PC 427 [p.pv,st name,v.pv] (·=i64 (p.room name v)):=by
 refine al Tryz.func427<|af (Cl p name hl) rfl<|af (we p name hl hp) rfl ?_;unfold aW.room;rcases p.find name with⟨⟨nm,cap,lb,up⟩,_|_⟩
 ·exact ah<|ab
 refine aa ?_;cases up with
 |false=>
  exact ah<|ab
 |true=>
 refine aa ?_;rcases p.free name with⟨f,_|_⟩
 ·exact ah<|ab
 refine af (rI v f) rfl ?_;cases v.fits f with
 |false=>
  exact ah<|ab
 |true=>
  exact aa<|ab
theorem ZD(x:Place)(aM:UInt64):PC 302 [x.pv,.ip [pu aM] 0] (·=bo (!decide (x.aM=aM))):=al Tryz.func302<|ae.is (decide (x.aM=aM)) (jP x.aM aM)<|ab
theorem Zg(x:Place)(aM:UInt64):PC 355 [x.pv,.ip [.fn 302 [.ip [pu aM] 0]] 0] (·=bo (decide (x.aM=aM))):=al Tryz.func355<|af (ZD x aM) rfl<|⟨200,_,_,.inl rfl,congrArg (fun b=>bo b) (Bool.not_not _)⟩
theorem pV{α:Type}(f:α→PV)(l:List α)(r:List PV):PV.sub (l.map f++r) 0 l.length=l.map f:=by rw[vy,List.take_left' (aao ..)]
theorem M4(l:List Place)(aM:UInt64)(hl:l.length≤67108864):PC 301 [sl Place.pv l,.fn 302 [.ip [pu aM] 0]] (·=sl Place.pv (l.filter fun x=>!decide (x.aM=aM))):=al Tryz.func301<|a_.bB [] (n:=200) (Gu l hl _) rfl trivial<|a_.bB [3] (n:=200) (PI l (fun x=>decide (x.aM=aM)) hl (fun x _=>Zg x aM) 3 _ rfl) rfl ⟨rfl,trivial⟩<|⟨(l.filter fun x=>!decide (x.aM=aM)).length+100,_,_,.inl (aN (nZ rfl (pV Place.pv _ _) (by rw[aap,aao];omega) nC.br rfl) rfl),rfl⟩
theorem Ko(p:aW)(aM:UInt64)(hl:p.places.length≤67108864):PC 248 [p.pv,pu aM] (·=(p.drop aM).pv):=al Tryz.func248<|ay (M4 p.places aM hl) rfl<|ar<|ab
theorem JF(p:aW)(name:BA)(up:Bool)(hl:p.nodes.length≤67108864):PC 395 [p.pv,st name,bo up] (·=.aK [(p.turn name up).1.pv,i64 (p.turn name up).2]):=by
 refine al Tryz.func395<|af (vp p name hl) rfl ?_;rcases l9 (fun n:Node=>seq n.name name) p.nodes 0 with⟨h1,h2⟩|⟨m,x,h1,h2,h3⟩
 ·have h1:p.at name=-1:=h1;have ht:p.turn name up=(p,7):=by unfold aW.turn;rw[h1];rfl
  rw[ht,h1];exact ae.t (by decide)<|ah<|ab
 have h1:p.at name=(m:Int):=h1.trans (by rw[aav]);have hf:p.find name=(x,true):=by unfold aW.find;rw[h3]
 have hm:m<p.nodes.length:=(aaq.1 h2).1;rw[h1];refine ae.f (by omega)<|aa<|bx h2<|ae.two (fun hu=>?_) (fun hu=>?_)
 ·have ht:p.turn name up=(p,15):=by unfold aW.turn;rw[h1,hf,aar (by omega)];dsimp only;rw[hu]
  rw[ht];exact ah<|ab
 ·have ht:p.turn name up=(⟨p.nodes.set m {x with up:=up},p.places⟩,0):=by unfold aW.turn;rw[h1,hf,aar (by omega)];dsimp only;rw[hu];rfl
  rw[ht];refine aa<|a_.bB [] (n:=200) (yp p.nodes hl _) rfl trivial<|ak.mk ⟨by omega,by omega⟩ ?_;refine bx (i:=0+m) (by rw[aav];exact h2) ?_;have hr:PV.c9 (p.nodes.map Node.pv) (0+m) (Node.pv {x with up:=up})=(p.nodes.set m {x with up:=up}).map Node.pv:=by rw[aav];exact mg Node.pv p.nodes m _
  exact⟨(p.nodes.set m {x with up:=up}).length+100,_,_,.inl (aN (iw (aN (cT (l:=p.nodes.set m {x with up:=up}) rfl hr qN.br (aaY ..).symm rfl) rfl)) rfl),rfl⟩
theorem ON(p:aW)(name:BA)(hl:p.nodes.length≤67108864):PC 374 [p.pv,st name] (·=.aK [(p.turn name true).1.pv,i64 (p.turn name true).2]):=al Tryz.func374<|af (JF p name true hl) rfl<|ab
def mn(p:aW)(aM:UInt64)(q:Nat):List BA:=((p.places.take q).filter fun x=>decide (x.aM=aM)).map Place.node
theorem SS{p:aW}{aM:UInt64}{q:Nat}{x:Place}(h:p.places[q]? = some x):mn p aM (q+1)=match decide (x.aM=aM)with|true=>mn p aM q++[x.node]|false=>mn p aM q:=by
 unfold mn;rw[eC h,acv,aaC,acL,List.filter_nil];cases decide (x.aM=aM)
 ·exact abe _
 ·rfl
theorem Ve(p:aW)(aM:UInt64)(q:Nat):(mn p aM q).length≤q:=by
 unfold mn;rw[aao];exact aaJ (abp ..) (by rw[aax];omega)
theorem O0(p:aW)(aM:UInt64)(hp:p.places.length≤67108864):PC 40 [p.pv,pu aM] (·=sl st (p.of aM)):=by
 refine al Tryz.func40<|iO.grow [(5,1,9)] ⟨rfl,trivial⟩<|mb p.places.length (.of (mn p aM) (fun l=>[(5,.aH 7 0 l.length)]) [1,9,10] (fun l=>[(7,.rows 1 (l.map st) true none 9)]) []) (fun _=>True) trivial ?_ (fun k hk hj=>?_) (fun hj=>?_)
 ·exact bY rfl (ef.bP _)
 ·obtain⟨x,hx⟩:=get_at hk;have hn:=SS (aM:=aM) hx;have hl:=Ve p aM k;generalize hL:mn p aM k=L at hn hl;rw[bR hL];refine bx hx<|ae.is (decide (x.aM=aM)) (jP x.aM aM) ?_;cases hd:decide (x.aM=aM)with
  |true=>
   rw[hd]at hn;refine ah<|db.l (ak.mk (dS ef L x.node (by omega)) ?_);exact bA.of (sw 7 21) hn trivial rfl<|gS ⟨⟨by rw[aap];rfl,rfl⟩,trivial⟩ ⟨⟨BB.aO (by rw[aaC];rfl) (ef.bP _),rfl⟩,trivial⟩
  |false=>
   rw[hd]at hn;exact aa<|bA.of id hn trivial rfl<|bY rfl (ef.bP _)
 ·have hh:p.of aM=mn p aM p.places.length:=by unfold aW.of mn;rw[aaM]
  rw[hh];generalize hL:mn p aM p.places.length=L;rw[bR hL];exact⟨L.length+100,_,_,.inl (aN (cT (l:=L) rfl rfl ef.br rfl rfl) rfl),rfl⟩
def lW(p:aW)(q:Nat):List Slot:=(p.nodes.take q).filterMap (mK p)
theorem Vg{p:aW}{q:Nat}{n:Node}(h:p.nodes[q]? = some n):lW p (q+1)=match mK p n with|some s=>lW p q++[s]|none=>lW p q:=by
 unfold lW;rw[eC h,List.filterMap_append,List.filterMap_cons,List.filterMap_nil];cases mK p n
 ·exact abe _
 ·rfl
theorem Ql(p:aW)(q:Nat):(lW p q).length≤q:=by
 unfold lW;exact aaJ (List.length_filterMap_le ..) (by rw[aax];omega)
theorem Yz(p:aW)(hl:p.nodes.length≤67108864)(hp:p.places.length≤67108864):PC 176 [p.pv] (·=sl Slot.pv p.jE):=by
 refine al Tryz.func176<|iO.grow [(3,6,351)] ⟨rfl,trivial⟩<|mb p.nodes.length (.of (lW p) (fun l=>[(3,.aH 7 0 l.length)]) [1,9,10] (fun l=>[(7,.rows 6 (l.map Slot.pv) true none 351)]) [0]) (fun _=>True) trivial ?_ (fun k hk hj=>?_) (fun hj=>?_)
 ·exact bY rfl (kV.bP _)
 ·obtain⟨x,hx⟩:=get_at hk;have hn:=Vg hx;have hl':=Ql p k;generalize hL:lW p k=L at hn hl';rw[bR hL];refine bx hx<|af (we p x.name hl hp) rfl ?_;obtain⟨nm,cap,lb,up⟩:=x;unfold mK at hn;rcases hf:p.free nm with⟨v,_|_⟩
  ·rw[hf]at hn;exact aa<|bA.of id hn trivial rfl<|bY rfl (kV.bP _)
  ·rw[hf]at hn;cases up with
   |false=>
    exact aa<|bA.of id hn trivial rfl<|bY rfl (kV.bP _)
   |true=>
    refine ah<|db.l (ak.mk (dS kV L ⟨nm,v,lb⟩ (by omega)) ?_);exact bA.of (sw 7 36) hn trivial rfl<|gS ⟨⟨by rw[aap];rfl,rfl⟩,trivial⟩ ⟨⟨BB.aO (by rw[aaC];rfl) (kV.bP _),rfl⟩,trivial⟩
 ·have hh:p.jE=lW p p.nodes.length:=by unfold aW.jE lW;rw[aaM]
  rw[hh];generalize hL:lW p p.nodes.length=L;rw[bR hL];exact⟨L.length+100,_,_,.inl (aN (cT (l:=L) rfl rfl kV.br rfl rfl) rfl),rfl⟩
def iA(p:aW)(aM:UInt64)(v:V4)(nodes:List BA)(q:Nat):List Place:=p.places++(nodes.take q).map fun n=>⟨aM,n,v⟩
theorem S6(p:aW)(aM:UInt64)(nodes:List BA)(v:V4)(hl:p.nodes.length≤67108864)(hp:p.places.length+nodes.length≤60000000):PC 413 [p.pv,pu aM,sl st nodes,v.pv] (·=.aK [(p.lay aM nodes v).1.pv,i64 (p.lay aM nodes v).2]):=by
 refine al Tryz.func413<|dy.bB [] (n:=200) (Gu p.places (by omega) _) rfl trivial<|ar<|cW nodes.length (.of (iA p aM v nodes) (fun _=>[]) [1,4,7,8,9,10,20,21] (fun l=>[(10,.rows 2 [.agg [sl Node.pv p.nodes,.aH 8 0 l.length]] true none 66),(8,.rows 6 (l.map Place.pv) true none 99)]) [0,1,2]) (fun q=>iH aM v nodes p=iH aM v (nodes.drop q) ⟨p.nodes,iA p aM v nodes q⟩) ?_ ?_ (fun k hk hj=>?_) (fun hj=>?_)
 ·unfold iA;simp
 ·have h0:iA p aM v nodes 0=p.places:=by unfold iA;simp
  exact A_ (U:=[]) (H:=[(10,.rows 2 [.agg [sl Node.pv p.nodes,.aH 8 0 p.places.length]] true none 66),(8,.rows 6 (p.places.map Place.pv) true none 99)]) rfl (by unfold Inv.of;dsimp only;rw[h0])<|dv ⟨⟨BB.rn rfl rfl,rfl⟩,⟨BB.aO rfl (nC.bP _),rfl⟩,trivial⟩
 ·obtain⟨x,hx⟩:=get_at hk;have hn:iA p aM v nodes (k+1)=iA p aM v nodes k++[⟨aM,x,v⟩]:=by unfold iA;rw[eC hx,aaC,abd];rfl
  have hlen:(iA p aM v nodes k).length≤p.places.length+nodes.length:=by unfold iA;rw[aap,aao,aax];omega
  have hd:nodes.drop k=x::nodes.drop (k+1):=by
   obtain⟨hlt,rfl⟩:=aaq.1 hx;exact aaX hlt
  rw[hd]at hj;have hj':iH aM v nodes p=match decide (aW.room ⟨p.nodes,iA p aM v nodes k⟩ x v=0)with|true=>iH aM v (nodes.drop (k+1)) ⟨p.nodes,iA p aM v nodes k++[⟨aM,x,v⟩]⟩|false=>(⟨p.nodes,iA p aM v nodes k⟩,aW.room ⟨p.nodes,iA p aM v nodes k⟩ x v):=hj
  rw[← hn]at hj';generalize hL:iA p aM v nodes k=L at hn hlen hj';rw[bR hL];refine bx hx<|a_.by (n:=L.length+100) (Ze ⟨p.nodes,L⟩ x v hl (show L.length≤_ by omega)) (aN (iw (aN rfl (aN (cT (l:=L) rfl rfl nC.br rfl rfl) rfl))) rfl) ?_;refine ae.two (fun h1=>?_) (fun h1=>?_)
  ·rw[h1]at hj';refine aa<|db.l (ak.mk (dS nC L ⟨aM,x,v⟩ (by omega)) ?_);exact bA.of (sw 8 33) hn hj' rfl<|dv ⟨⟨BB.rn (by rw[aap];rfl) rfl,rfl⟩,⟨BB.aO (by rw[aaC];rfl) (nC.bP _),rfl⟩,trivial⟩
  ·rw[h1]at hj';have he:p.lay aM nodes v=(p,aW.room ⟨p.nodes,L⟩ x v):=by unfold aW.lay;rw[hj'];dsimp only;rw[h1]
   rw[he];exact ah<|ab
 ·have he:p.lay aM nodes v=(⟨p.nodes,iA p aM v nodes nodes.length⟩,0):=by unfold aW.lay;rw[hj,abZ];rfl
  rw[he];generalize hL:iA p aM v nodes nodes.length=L;rw[bR hL];exact⟨L.length+100,_,_,.inl (aN (iw (aN rfl (aN (cT (l:=L) rfl rfl nC.br rfl rfl) rfl))) rfl),rfl⟩
def Node.Sz(n:Node):Prop:=n.name.size≤1000000∧n.labels.length≤67108864∧∀p∈n.labels,p.k.size≤1000000∧p.v.size≤1000000
theorem RJ(o n:Node):PC 392 [o.pv,.ip n.pv.cells 0] (·=bo (!dL o.name n.name)):=al Tryz.func392<|ae.is (dL o.name n.name) rfl<|ab
theorem U2(p:aW)(n:Node)(hl:p.nodes.length≤60000000)(hn:n.Sz):PC 372 [p.pv,n.pv] (·=.aK [(p.add n).1.pv,i64 (p.add n).2]):=by
 refine al Tryz.func372<|af (mm n.name (by have:=hn.1;omega)) rfl ?_;cases h1:cQ n.name with
 |false=>
  rw[show p.add n=(p,6)by unfold aW.add;rw[h1]];exact ah<|ab
 |true=>
 refine aa<|af (rZ n.labels hn.2.1 hn.2.2) rfl ?_;cases h2:gl n.labels with
 |false=>
  rw[show p.add n=(p,2)by unfold aW.add;rw[h1,h2]];exact ah<|ab
 |true=>
 refine aa<|af (vp p n.name (by omega)) rfl<|ae.two (fun h3=>?_) (fun h3=>?_)
 ·rw[show p.add n=(p,8)by unfold aW.add;rw[h1,h2,h3]];exact ah<|ab
 refine aa ?_;have hml:(p.nodes.map Node.pv).length=p.nodes.length:=aao ..;refine ae.two (fun h4=>?_) (fun h4=>?_)
 ·rw[hml]at h4;rw[show p.add n=(p,9)by unfold aW.add;rw[h1,h2,h3,h4]];exact ah<|ab
 rw[hml]at h4;rw[show p.add n=(⟨p.nodes.take (pf p.nodes n.name)++{n with up:=true}::p.nodes.drop (pf p.nodes n.name),p.places⟩,0)by unfold aW.add;rw[h1,h2,h3,h4]];refine aa<|af (I7 cA.one p.nodes (fun o=>!dL o.name n.name) (by omega) fun o _=>RJ o {n with up:=true}) rfl ?_;have hlen:∀i,i≤p.nodes.length→p.nodes.length+1=(p.nodes.take i++({n with up:=true}:Node)::p.nodes.drop i).length:=fun i hi=>by rw[aap,aaL,aax,aaO];omega
 rcases tl (fun o:Node=>!dL o.name n.name) p.nodes 0 with⟨h6,h7⟩|⟨m,h6,h7,h8⟩
 ·have h6:idx (fun o:Node=>!dL o.name n.name) p.nodes 0=-1:=h6;rw[h6,show pf p.nodes n.name=p.nodes.length from h7];refine ae.t (by decide)<|ah ?_;have hins:∀nx,Nat.beq nx 40=false→LC 393 [.aH 40 0 p.nodes.length,i64 ((p.nodes.map Node.pv).length:Nat),.sl false [Node.pv {n with up:=true}]] [(40,.rows 7 (p.nodes.map Node.pv) true none 124)] nx fun r d=>r=.aH nx 0 (p.nodes.length+1)∧d=[(nx,some (.rows 7 ((p.nodes.take p.nodes.length++{n with up:=true}::p.nodes.drop p.nodes.length).map Node.pv) true none 124)),(40,none)]:=by
   rw[hml];exact LG p.nodes p.nodes.length {n with up:=true} (aas _) (by omega) 40
  refine dy.bB [] (n:=200) (yp p.nodes (by omega) _) rfl trivial<|dy.bB [40] (n:=200) (hins _ rfl) rfl ⟨rfl,trivial⟩ ?_;exact ar<|⟨(p.nodes.take p.nodes.length++({n with up:=true}:Node)::p.nodes.drop p.nodes.length).length+100,_,_,.inl (aN (iw (aN (cT (l:=p.nodes.take p.nodes.length++{n with up:=true}::p.nodes.drop p.nodes.length) rfl rfl qN.br (hlen _ (aas _)) rfl) rfl)) rfl),rfl⟩
 ·have h6:idx (fun o:Node=>!dL o.name n.name) p.nodes 0=(m:Int):=h6.trans (by rw[aav]);rw[h6,show pf p.nodes n.name=m from h7];refine ae.f (by omega)<|aa<|dy.bB [] (n:=200) (yp p.nodes (by omega) _) rfl trivial<|dy.bB [36] (n:=200) (LG p.nodes m {n with up:=true} (by omega) (by omega) 36 _ rfl) rfl ⟨rfl,trivial⟩ ?_;exact ar<|⟨(p.nodes.take m++({n with up:=true}:Node)::p.nodes.drop m).length+100,_,_,.inl (aN (iw (aN (cT (l:=p.nodes.take m++{n with up:=true}::p.nodes.drop m) rfl rfl qN.br (hlen m (by omega)) rfl) rfl)) rfl),rfl⟩
theorem Er(a:UInt64):PC 186 [pu a] (·=bo false):=al Tryz.func186<|ae.t rfl<|ab
theorem D9(a:Int):PC 185 [i64 a] (·=bo false):=al Tryz.func185<|ae.t rfl<|ab
theorem uC(a b:UInt64):PC 111 [pu a,pu b] (·=i64 (iI a b)):=by
 refine al Tryz.func111<|af (Er a) rfl<|af (Er b) rfl<|aa<|aa ?_;unfold iI;refine ae.two (fun h=>?_) (fun h=>?_)
 ·rw[abb (eg h)];exact ah<|ab
 rw[abg (jn h)];refine aa<|ae.two (fun h=>?_) (fun h=>?_)
 ·rw[abb (eg h)];exact ah<|ab
 rw[abg (jn h)];exact aa<|ab
def qV(a b:Int):Int:=if a<b then -1 else if b<a then 1 else 0
theorem Nz(a b:Int):PC 110 [i64 a,i64 b] (·=i64 (qV a b)):=by
 refine al Tryz.func110<|af (D9 a) rfl<|af (D9 b) rfl<|aa<|aa ?_;unfold qV;refine ae.two (fun h=>?_) (fun h=>?_)
 ·rw[abb (aat h)];exact ah<|ab
 rw[abg (aaw h)];refine aa<|ae.two (fun h=>?_) (fun h=>?_)
 ·rw[abb (aat h)];exact ah<|ab
 rw[abg (aaw h)];exact aa<|ab
theorem Rx(a b:Int):PC 109 [.sl false [i64 a,i64 b]] (·=i64 (if a=0 then b else a)):=by
 refine al Tryz.func109<|cv.roll 3<|cH<|ah<|dC.intro (i64 a) rfl (by decide)<|ae.two (fun h=>?_) (fun h=>?_)
 ·rw[abb (aat h)];refine aa<|da 1<|cH<|ah<|dC.intro (i64 b) rfl (by decide)<|ae.two (fun h2=>?_) (fun h2=>?_)
  ·have h2:b=0:=aat h2;subst h2;exact aa<|da 2<|ao<|aa<|ab
  ·exact ah<|ab
 ·rw[abg (aaw h)];exact ah<|ab
theorem PN(x y:V4):PC 352 [.sl false x.cells,.sl false y.cells] (·=i64 (x.order y)):=by
 refine al Tryz.func352<|cv.roll 5<|cH<|ah<|dC.intro (pu x.a) rfl (by decide)<|ao<|aa<|dC.intro (pu y.a) rfl (by decide)<|af (uC x.a y.a) rfl<|ae.two (fun h0=>?_) (fun h0=>?_)
 ·refine aa<|da 1<|cH<|ah<|dC.intro (pu x.b) rfl (by decide)<|ao<|aa<|dC.intro (pu y.b) rfl (by decide)<|af (uC x.b y.b) rfl<|ae.two (fun h1=>?_) (fun h1=>?_)
  ·refine aa<|da 2<|cH<|ah<|dC.intro (pu x.c) rfl (by decide)<|ao<|aa<|dC.intro (pu y.c) rfl (by decide)<|af (uC x.c y.c) rfl<|ae.two (fun h2=>?_) (fun h2=>?_)
   ·refine aa<|da 3<|cH<|ah<|dC.intro (pu x.d) rfl (by decide)<|ao<|aa<|dC.intro (pu y.d) rfl (by decide)<|af (uC x.d y.d) rfl<|ae.two (fun h3=>?_) (fun h3=>?_)
    ·refine aa<|da 4 ?_;rw[show x.order y=0 by unfold V4.order;rw[abb (aat h0),abb (aat h1),abb (aat h2)];exact aat h3];exact ao<|aa<|ao<|aa<|ab
    ·rw[show x.order y=iI x.d y.d by unfold V4.order;rw[abb (aat h0),abb (aat h1),abb (aat h2)]];exact ah<|ab
   ·rw[show x.order y=iI x.c y.c by unfold V4.order;rw[abb (aat h0),abb (aat h1),abg (aaw h2)]];exact ah<|ab
  ·rw[show x.order y=iI x.b y.b by unfold V4.order;rw[abb (aat h0),abg (aaw h1)]];exact ah<|ab
 ·rw[show x.order y=iI x.a y.a by unfold V4.order;rw[abg (aaw h0)]];exact ah<|ab
theorem W6(x y:V4):PC 299 [x.pv,y.pv] (·=i64 (x.order y)):=al Tryz.func299<|ay (PN x y) rfl<|ar<|ab
theorem O_(s:Slot)(x:List Term)(h:x.length≤67108864)(hl:s.labels.length≤67108864)(hv:∀t∈x,t.aZ.length≤67108864):PC 298 [s.pv,.ip [sl Term.pv x] 0] (·=bo (!th x s.labels)):=al Tryz.func298<|af (Z3 x s.labels h hl hv) rfl<|ab
theorem ZZ(l:List Slot)(x:List Term):(l.filter fun s=>!(!th x s.labels))=fitting l x:=by
 unfold fitting;congr 1;funext s;exact Bool.not_not _
theorem Qs(l:List Slot)(x:List Term)(hn:l.length≤67108864)(h:x.length≤67108864)(hl:∀s∈l,s.labels.length≤67108864)(hv:∀t∈x,t.aZ.length≤67108864)(nx:Nat):LC 243 [sl Slot.pv l,sl Term.pv x] [] nx fun r d=>r=.aH nx 0 (fitting l x).length∧d=[(nx,some (.rows 6 ((fitting l x).map Slot.pv++List.replicate (l.length-(fitting l x).length) (gm 351)) true none 351))]:=by
 refine eK (js:=[]) (bs:=[]) (args:=[sl Slot.pv l,sl Term.pv x]) Tryz.func243 rfl rfl rfl rfl trivial rfl<|a_.bB [] (n:=200) (Vd l hn _) rfl trivial ?_;have hdf:=ZO l (fun s=>!th x s.labels) hn (fun s hs=>O_ s x h (hl s hs) hv) 3;rw[ZZ]at hdf;refine a_.bB [3] (n:=200) (hdf _ rfl) rfl ⟨rfl,trivial⟩ ?_;have hclo:cE ((fitting l x).map Slot.pv++List.replicate (l.length-(fitting l x).length) (gm 351)):=by
  intro r hr;rcases aaN.1 hr with hr|hr
  ·exact kV.bP _ r hr
  ·rw[abK hr];rfl
 refine du<|dW.mk ⟨[(5,nx)],200,_,_,rfl,rfl,rfl,⟨dz.mk ⟨_,rfl,hclo,.inl rfl⟩,trivial⟩,?_,rfl⟩;simp[fI,PV.wk,PV.rn,kJ,lk]
theorem CJ(d:V4):∀(l:List Slot) (s:Slot) (k:Nat) (r:oA),iE d (l++[s]) k r=pP d (k+l.length) s (iE d l k r)
 | [],_,_,_=>rfl
 |x::l,s,k,r=>by
  show iE d (l++[s]) (k+1) _=pP d (k+(l.length+1)) s (iE d l (k+1) _)
  rw[CJ d l s (k+1)]
  congr 1;omega
def pD(l:List Slot)(d:V4)(q:Nat):oA:=iE d (l.take q) 0 ⟨0,V4.z,false⟩
theorem X'{l:List Slot}{d:V4}{q:Nat}{s:Slot}(h:l[q]? = some s):pD l d (q+1)=pP d q s (pD l d q):=by
 have hlt:=(aaq.1 h).1;unfold pD;rw[eC h,CJ,aav,aax,abU (by omega)]
theorem Uy(l:List Slot)(d:V4)(hl:l.length≤67108864):PC 244 [sl Slot.pv l,d.pv] (·=.aK [i64 ((eB l d).at_:Nat),(eB l d).left.pv,bo (eB l d).ok]):=by
 refine al Tryz.func244<|cW l.length (.of (pD l d) (fun r=>[(4,i64 (r.at_:Nat)),(6,bo r.ok)]) [0,3,5,11] (fun r=>[(2,.rows 4 [r.left.pv] true none 32)]) [0]) (fun _=>True) trivial ?_ (fun k hk hj=>?_) (fun hj=>?_)
 ·exact bC
 ·obtain⟨x,hx⟩:=get_at hk;have hn:=X' (d:=d) hx;rcases hr:pD l d k with⟨a,w,ok⟩
  rw[hr]at hn;unfold pP at hn;rw[bR hr];refine bx hx<|ay (vA x.free d) rfl ?_;rcases hs:x.free.sub d with⟨v,_|_⟩
  ·rw[hs]at hn;exact ar<|aa<|bA.of id hn trivial rfl<|bC
  ·rw[hs]at hn;dsimp only at hn;refine ar ?_;cases ok with
   |false=>
    exact ah<|ar<|bA.of id hn trivial rfl<|bC
   |true=>
    dsimp only at hn;refine af (W6 v w) rfl<|ae.two (fun h1=>?_) (fun h1=>?_)
    ·rw[h1]at hn;exact ah<|ar<|bA.of id hn trivial rfl<|bC
    ·rw[h1]at hn;exact aa<|bA.of id hn trivial rfl<|bC
 ·have hh:eB l d=pD l d l.length:=by unfold eB pD;rw[aaM]
  rw[hh];generalize hL:pD l d l.length=L;rw[bR hL];exact ar<|ab
theorem wg{α:Type}(f:α→PV){l:List α}{r:List PV}{i:Nat}{x:α}(h:l[i]? = some x):PV.nth (l.map f++r) i=some (f x):=by
 induction l generalizing i with
 |nil=>cases h
 |cons a l ih=>
  cases i with
  |zero=>cases h;rfl
  |succ i=>exact ih (by simpa using h)
theorem Cd{α:Type}(f:α→PV):∀(l:List α) (r:List PV) (i:Nat) (x:α),i<l.length→PV.c9 (l.map f++r) i (f x)=(l.set i x).map f++r
 | [],_,i,_,h=>by cases h
 |a::l,r,0,x,_=>rfl
 |a::l,r,i+1,x,h=>by
  show f a::PV.c9 (l.map f++r) i (f x)=f a::((l.set i x).map f++r)
  rw[Cd f l r i x (Nat.lt_of_succ_lt_succ h)]
def tw(d:V4)(p:List Slot×List BA):List Slot×List BA:=(p.1.set (eB p.1 d).at_ {(p.1[(eB p.1 d).at_]?).getD Slot.z with free:=(eB p.1 d).left},p.2++[((p.1[(eB p.1 d).at_]?).getD Slot.z).node])
def nh(d:V4)(l:List Slot):Nat→List Slot×List BA
 |0=>(l,[])
 |q+1=>tw d (nh d l q)
theorem Kz(d:V4)(l:List Slot):∀q,(nh d l q).1.length=l.length∧(nh d l q).2.length=q
 |0=>⟨rfl,rfl⟩
 |q+1=>by
  obtain⟨h1,h2⟩:=Kz d l q
  exact⟨by show(List.set _ _ _).length=_;rw[aaY];exact h1,by show(_++[_]).length=_;rw[aap,h2];rfl⟩
theorem ZX(d:V4)(n:Nat)(p:List Slot×List BA):j4 d (n+1) p.1 p.2=match(eB p.1 d).ok with|false=>([],false)|true=>j4 d n (tw d p).1 (tw d p).2:=rfl
theorem Oo{d:V4}{l:List Slot}(h:(eB l d).ok=true):∃s,l[(eB l d).at_]? = some s:=by
 have key:∀(l:List Slot) (k:Nat) (r:oA),(iE d l k r).ok=true→iE d l k r=r∨∃i s,l[i]? = some s∧(iE d l k r).at_=k+i:=by
  intro l;induction l with
  |nil=>intro k r _;exact .inl rfl
  |cons s l ih=>
   intro k r h;unfold iE at h⊢;rcases ih (k+1) _ h with e|⟨i,s',h1,h2⟩
   ·rw[e];unfold pP;rcases s.free.sub d with⟨v,_|_⟩
    ·exact .inl rfl
    ·dsimp only;cases r.ok with
     |false=>exact .inr ⟨0,s,rfl,rfl⟩
     |true=>
      dsimp only;cases decide (v.order r.left<0)with
      |true=>exact .inr ⟨0,s,rfl,rfl⟩
      |false=>exact .inl rfl
   ·exact .inr ⟨i+1,s',h1,by rw[h2];omega⟩
 unfold eB at h⊢;rcases key l 0 _ h with e|⟨i,s,h1,h2⟩
 ·rw[e]at h;cases h
 ·rw[h2,aav];exact⟨s,h1⟩
theorem Vy(l:List Slot)(x:List Term)(d:V4)(count:Int)(hn:l.length≤67108864)(h:x.length≤67108864)(hl:∀s∈l,s.labels.length≤67108864)(hv:∀t∈x,t.aZ.length≤67108864)(hc:-9000000000000000000≤count):PC 175 [sl Slot.pv l,sl Term.pv x,d.pv,i64 count] (·=.aK [sl st (iQ l x d count).1,bo (iQ l x d count).2]):=by
 refine al Tryz.func175<|ae.two (fun h1=>?_) (fun h1=>?_)
 ·rw[show iQ l x d count=([],false)by unfold iQ;rw[h1]];exact ah<|ab
 rw[show iQ l x d count=j4 d (max count 0).toNat (fitting l x) []by unfold iQ;rw[h1]];have h1:=aaw h1;refine aa<|a_.bB [] (n:=200) (Qs l x hn h hl hv _) rfl trivial ?_;obtain⟨N,hN,hN8⟩:∃N:Nat,(max count 0).toNat=N∧N≤8:=⟨_,rfl,by omega⟩;have hlen0:(fitting l x).length≤l.length:=abp ..;generalize hz:List.replicate (l.length-(fitting l x).length) (gm 351)=zs;have hzc:cE zs:=by subst hz;intro r hr;rw[abK hr];rfl
 generalize hF:fitting l x=F at hlen0;refine bN.intro ((N:Nat):Int) (by show(if 0>count then 0 else count)=_;split<;>omega) ?_;rw[hN];have hclo:∀L:List Slot,cE (L.map Slot.pv++zs):=fun L r hr=>(aaN.1 hr).elim (kV.bP L r) (hzc r)
 refine iO.grow [(10,1,9)] ⟨rfl,trivial⟩<|mb N (.of (nh d F) (fun p=>[(10,.aH 13 0 p.2.length)]) [0,6,8,9,20] (fun p=>[(7,.rows 6 (p.1.map Slot.pv++zs) true none 351),(13,.rows 1 (p.2.map st) true none 9)]) [0]) (fun q=>j4 d N F []=j4 d (N-q) (nh d F q).1 (nh d F q).2) rfl ?_ (fun k hk hj=>?_) (fun hj=>?_)
 ·exact dv ⟨⟨BB.aO rfl (hclo F),rfl⟩,⟨BB.aO rfl (ef.bP _),rfl⟩,trivial⟩
 ·obtain⟨hL1,hL2⟩:=Kz d F k;have hn:nh d F (k+1)=tw d (nh d F k):=rfl;rw[show N-k=(N-(k+1))+1 by omega,ZX]at hj;rcases hL:nh d F k with⟨L,out⟩
  rw[hL]at hn hj hL1 hL2;dsimp only at hj hL1 hL2;rw[bR hL];refine a_.by (n:=L.length+100) (Uy L d (by omega)) (aN (nZ (l:=L) rfl (by rw[← hL1];exact pV Slot.pv L zs) (show F.length≤(L.map Slot.pv++zs).length by rw[aap,aao];omega) kV.br rfl) (aN rfl rfl)) ?_;cases hok:(eB L d).ok with
  |false=>
   rw[hok]at hj;rw[hj];exact ah<|ab
  |true=>
   rw[hok]at hj;dsimp only at hj;rw[← hn]at hj;refine aa ?_;obtain⟨s,hs⟩:=Oo hok;unfold tw at hn;dsimp only at hn;have hlt:=(aaq.1 hs).1;generalize(eB L d).at_=a at hs hlt hn⊢;generalize(eB L d).left=w at hn⊢;rw[hs]at hn;simp only[acK]at hn;refine ak.mk ⟨by omega,by omega⟩ ?_;refine dC.intro s.pv (by rw[abk,abk,aav];exact wg Slot.pv hs) (by omega)<|db.l (ak.mk (dS ef out s.node (by omega)) ?_);refine ak.mk ⟨by omega,by omega⟩ ?_;refine dC.intro s.pv (by rw[abk,abk,aav];exact wg Slot.pv hs) (by omega) ?_;have hr:PV.c9 (L.map Slot.pv++zs) (0+a) (Slot.pv {s with free:=w})=(L.set a {s with free:=w}).map Slot.pv++zs:=by rw[aav];exact Cd Slot.pv L zs a _ hlt
   exact bA.of (sw 13 35) hn hj rfl<|gS ⟨⟨by rw[aap];rfl,rfl⟩,trivial⟩ ⟨⟨BB.aO (congrArg (fun r=>some (aA.rows 6 r true none _)) hr) (hclo _),rfl⟩,⟨BB.aO (by rw[aaC];rfl) (ef.bP _),rfl⟩,trivial⟩
 ·rw[acn]at hj;rcases hL:nh d F N with⟨L,out⟩
  rw[hL]at hj;rw[bR hL,hj];exact⟨out.length+100,_,_,.inl (aN (cT (l:=out) rfl rfl ef.br rfl rfl) (aN rfl rfl)),rfl⟩
theorem Mw(j:az)(id:UInt64):PC 115 [j.pv,.ip [pu id] 0] (·=bo (decide (j.id=id))):=al Tryz.func115<|ae.is (decide (j.id=id)) (jP j.id id)<|ab
theorem uJ(s:State)(id:UInt64)(hl:s.aj.length≤67108864):PC 50 [s.pv,pu id] (·=i64 (fW s.aj id)):=al Tryz.func50<|af (vP cA.one s.aj (fun j=>decide (j.id=id)) hl fun j _=>Mw j id) rfl<|ab
theorem jW(l:List az)(id:UInt64):(fW l id=-1∧bK l id=(az.z,false))∨∃k:Nat,fW l id=(k:Int)∧l[k]? = some (bK l id).1∧(bK l id).2=true:=by
 unfold fW bK;rcases l9 (fun j:az=>decide (j.id=id)) l 0 with⟨h1,h2⟩|⟨m,x,h1,h2,h3⟩
 ·left;rw[h2];exact⟨h1,rfl⟩
 ·right;exact⟨m,h1.trans (by rw[aav]),by rw[h3];exact h2,by rw[h3]⟩
theorem sr(s:State)(id:UInt64)(hl:s.aj.length≤67108864):PC 21 [s.pv,pu id] (·=.aK [(bK s.aj id).1.pv,bo (bK s.aj id).2]):=by
 refine al Tryz.func21<|af (uJ s id hl) rfl ?_;rcases jW s.aj id with⟨h1,h2⟩|⟨m,h1,h2,h3⟩
 ·refine ae.t (by rw[h1];decide)<|ah ?_;rw[h2];exact ab
 ·rw[h1];refine ae.f (by omega)<|aa<|bx h2 ?_;rw[h3];exact ab
theorem XX{X:List Nat}{α:Type}{f:α→PV}{hp:Nat→Option aA}{j k:Nat}{wr:Bool}{cp:Option Nat}{e:TypeId}{l:List α}{rs:List PV}(hj:hp j=some (.rows k rs wr cp e)){n lo len:Nat}(hrs:PV.sub rs lo len=l.map f)(hle:lo+len≤rs.length)(hf:∀x n hp,br [] (n+40) hp (f x)=some (f x,[]))(hX:cf j X=false):
 br X (l.length+(n+42)) hp (.aH j lo len)=some (.sl false (l.map f),[j]):=by
 have h:=tv (hp:=hp) (fun x n=>hf x n hp) l n
 rw[show l.length+(n+42)=(l.length+(n+40+1))+1 by omega]
 unfold br
 simp only[hX,hj,hrs,h,Nat.ble_eq_true_of_le hle]
theorem zT(n:UInt64):IntKind.u64.wrap ((n.toNat:Nat)+1)=(((n+1).toNat:Nat):Int):=by
 have:=n.toNat_lt;rw[adM];show((n.toNat:Int)+1)%18446744073709551616=(((n.toNat+1)%18446744073709551616:Nat):Int)
 omega
theorem oM(x:Stream)(n:cK)(hl:x.l.length≤60000000):PC 252 [x.pv,n.pv] (·=(tell x n).pv):=by
 refine al Tryz.func252<|ay (TG x.l) rfl<|ak.mk ⟨(dS nz x.l n (by omega)).1,fun h=>(by cases h)⟩ ?_;refine ar ?_;have hml:(x.l.map cK.pv).length+[n.pv].length=x.l.length+1:=by rw[aao];rfl
 refine ae.two (fun h1=>?_) (fun h1=>?_)
 ·have h1:decide (32<((x.l.length+1:Nat):Int))=true:=by rw[← hml];exact h1
  rw[show tell x n=⟨x.first+1,(x.l++[n]).drop 1⟩by unfold tell;rw[h1]];refine ah<|ak.mk ⟨by decide,(show(1:Int)≤(((x.l.map cK.pv).length+[n.pv].length:Nat):Int)by rw[hml];omega)⟩ ?_;refine ax (zT x.first) ?_;have hmap:x.l.map cK.pv++[n.pv]=(x.l++[n]).map cK.pv:=by rw[aaC];rfl
  have hln:((x.l++[n]).map cK.pv).length=x.l.length+1:=by rw[aao,aap];rfl
  have hrs:PV.sub (x.l.map cK.pv++[n.pv]) (0+(1:Int).toNat) ((x.l.map cK.pv).length+[n.pv].length-(1:Int).toNat)=((x.l++[n]).drop 1).map cK.pv:=by
   rw[hml,hmap,sub_eq,adr];exact aaQ (by rw[aaO,hln];exact aas _)
  exact⟨((x.l++[n]).drop 1).length+100,_,_,.inl (aN (iw (aN rfl (aN (XX (l:=(x.l++[n]).drop 1) rfl hrs (show 0+1+((x.l.map cK.pv).length+[n.pv].length-1)≤(x.l.map cK.pv++[n.pv]).length by rw[hml,hmap,hln];omega) nz.br rfl) rfl))) rfl),rfl⟩
 ·have h1:decide (32<((x.l.length+1:Nat):Int))=false:=by rw[← hml];exact h1
  rw[show tell x n=⟨x.first,x.l++[n]⟩by unfold tell;rw[h1]];exact aa<|⟨(x.l++[n]).length+100,_,_,.inl (aN (iw (aN rfl (aN (cT (l:=x.l++[n]) rfl (show x.l.map cK.pv++[n.pv]=_ by rw[aaC];rfl) nz.br (hml.trans (by rw[aap];rfl)) rfl) rfl))) rfl),rfl⟩
theorem sO(s:State)(id:UInt64)(k:Int)(hl:s.events.l.length≤60000000):PC 183 [s.pv,pu id,i64 k] (·=(s.fT id k).pv):=al Tryz.func183<|af (oM s.events ⟨s.round,id,k⟩ hl) rfl<|ab
theorem IB(s:State)(k:Nat)(j j0:az)(hl:s.aj.length≤60000000)(hk:s.aj[k]? = some j0):PC 182 [s.pv,i64 k,j.pv] (·=(s.with k j).pv):=by
 refine al Tryz.func182<|a_.bB [] (n:=200) (q_ s.aj (by omega) _) rfl trivial ?_;have hlt:=(aaq.1 hk).1;refine ak.mk ⟨by omega,by omega⟩ ?_;refine bx (i:=0+k) (by rw[aav];exact hk) ?_;have hr:PV.c9 (s.aj.map az.pv) (0+k) (az.pv j)=(s.aj.set k j).map az.pv:=by rw[aav];exact mg az.pv s.aj k j
 exact⟨(s.aj.set k j).length+100,_,_,.inl (aN (iw (aN rfl (aN rfl (aN rfl (aN rfl (aN rfl (aN (cT (l:=s.aj.set k j) rfl hr gv.br (aaY ..).symm rfl) rfl))))))) rfl),rfl⟩
theorem H9(s:State)(j:az)(ht:s.tree.length≤60000000)(hp:s.pool.places.length≤60000000)(hj:j.x.path.size≤1000000):PC 180 [s.pv,j.pv] (·=(s.cP j).pv):=by
 refine al Tryz.func180<|af (tC j.x) rfl ?_;rcases htot:j.x.total with⟨v,_|_⟩
 ·rw[show s.cP j={s with pool:=s.pool.drop j.id} by unfold State.cP;rw[htot]];exact aa<|af (Ko s.pool j.id (by omega)) rfl<|ab
 ·rw[show s.cP j={s with tree:=(vl s.tree j.x.path v).1,pool:=s.pool.drop j.id} by unfold State.cP;rw[htot]];exact ah<|af (Ov s.tree j.x.path v (by omega) hj) rfl<|af (Ko s.pool j.id (by omega)) rfl<|ab
theorem jJ{a b:BA}:seq a b=true↔a=b:=by
 unfold seq;constructor
 ·intro h;have h:=eq_of_beq h;cases a;cases b;exact congrArg _ (abN h)
 ·rintro rfl;exact beq_self_eq_true _
theorem L3(a:BA):seq a a=true:=jJ.2 rfl
abbrev sE(l:List az):Prop:=(l.map az.id).Nodup
theorem ud{l:List az}{id:UInt64}(h:(bK l id).2=true):(bK l id).1∈l∧(bK l id).1.id=id:=by
 unfold bK at h⊢;split at h
 ·rename_i j e;have h1:=acs e;exact⟨aaW e,aat h1⟩
 ·cases h
theorem Ca{α:Type}{l:List α}(h:l.Nodup){i j:Nat}{a:α}(hi:l[i]? = some a)(hj:l[j]? = some a):i=j:=by
 obtain⟨h1,h2⟩:=aaq.1 hi;obtain⟨h3,h4⟩:=aaq.1 hj;have hp:=acX.1 h;rcases adk i j with h5|h5|h5
 ·exact absurd (h2.trans h4.symm) (hp i j h1 h3 h5)
 ·exact h5
 ·exact absurd (h4.trans h2.symm) (hp j i h3 h1 h5)
theorem n9{l:List az}(h:sE l){x y:az}(hx:x∈l)(hy:y∈l)(e:x.id=y.id):x=y:=by
 obtain⟨i,hi⟩:=abJ hx;obtain⟨j,hj⟩:=abJ hy;have:=Ca (l:=l.map az.id) h (i:=i) (j:=j) (a:=x.id) (by rw[aaT,hi];rfl) (by rw[aaT,hj,e];rfl);subst this;rw[hi]at hj;exact abl hj
theorem zd{l:List az}(h:sE l){j:az}(hj:j∈l):bK l j.id=(j,true):=by
 unfold bK;cases e:l.find? (fun x=>decide (x.id=j.id))with
 |none=>
  have:=List.find?_eq_none.1 e j hj;simp at this
 |some x=>
  have h1:=acs e;rw[n9 h (aaW e) hj (aat h1)]
theorem vM(l:List az)(id:UInt64):(fW l id<0∧(bK l id).2=false)∨∃k:Nat,fW l id=k∧l[k]? = some (bK l id).1∧(bK l id).2=true:=by
 unfold fW bK;rcases l9 (fun j:az=>decide (j.id=id)) l 0 with⟨h1,h2⟩|⟨m,x,h1,h2,h3⟩
 ·left;have h1:idx (fun j:az=>decide (j.id=id)) l 0=-1:=h1;rw[h1,h2];exact⟨by decide,rfl⟩
 ·right;exact⟨m,h1.trans (by rw[aav]),by rw[h3];exact h2,by rw[h3]⟩
theorem Au{l:List az}(h:sE l){k:Nat}{j j':az}(hk:l[k]? = some j)(hid:j'.id=j.id){x:az}:x∈l.set k j'↔x=j'∨(x∈l∧x.id≠j.id):=by
 obtain⟨hlt,hj⟩:=aaq.1 hk;constructor
 ·intro hx;obtain⟨i,hi⟩:=abJ hx;rw[acd]at hi;split at hi
  ·rename_i e;subst e;cases hi;exact .inl rfl
  ·rename_i e;refine .inr ⟨aau hi,fun he=>e ?_⟩;exact Ca (l:=l.map az.id) h (a:=j.id) (by rw[aaT,hk];rfl) (by rw[aaT,hi,← he];rfl)
 ·rintro(rfl|⟨hx,hne⟩)
  ·exact acA.2 ⟨k,by rw[adj hlt]⟩
  ·obtain⟨i,hi⟩:=abJ hx;refine acA.2 ⟨i,?_⟩;rw[acd];split
   ·rename_i e;subst e;rw[hk]at hi;cases hi;exact absurd rfl hne
   ·exact hi
theorem uD{β:Type}(f:az→β){l:List az}{k:Nat}{j j':az}(hk:l[k]? = some j)(h:f j'=f j):(l.set k j').map f=l.map f:=by
 obtain⟨hlt,hj⟩:=aaq.1 hk;apply acG;intro i;rw[aaT,aaT,acd];split
 ·rename_i e;subst e;rw[hk];simp[h]
 ·rfl
theorem QE.sV{a b:QE}:a.ahead b=true↔b.prio<a.prio∨(a.prio=b.prio∧a.id.toNat<b.id.toNat):=by unfold QE.ahead;simp
theorem QE.E7{a b c:QE}(h1:a.ahead b=true)(h2:b.ahead c=true):a.ahead c=true:=by rw[QE.sV]at *;omega
theorem QE.W_{a b:QE}(h:a.id≠b.id)(h1:a.ahead b=false):b.ahead a=true:=by
 have h1:¬(a.ahead b=true):=by rw[h1];exact acm
 rw[QE.sV]at*
 have:a.id.toNat≠b.id.toNat:=fun e=>h (acZ.1 e)
 omega
abbrev lU(q:List QE):Prop:=q.Pairwise fun a b=>a.ahead b=true
theorem KA{α:Type}(p:α→Bool):∀(l:List α) (i:Nat),(decide (0≤idx p l i)=false)→∀x∈l,p x=false:=by
 intro l i h x hx;rw[pe]at h;have:=adl.1 h x hx;simpa using this
theorem HY{q:List QE}{e x:QE}:x∈kW q e↔x=e∨x∈q:=by
 unfold kW;rw[aaN,aaI];constructor
 ·rintro(h|h|h)
  ·exact .inr (aaV h)
  ·exact .inl h
  ·exact .inr (aby h)
 ·rintro(h|h)
  ·exact .inr (.inl h)
  ·rw[← abD (gU e q) q,aaN]at h;rcases h with h|h
   ·exact .inl h
   ·exact .inr (.inr h)
theorem Su{e:QE}{q:List QE}:∀x∈q.take (gU e q),e.ahead x=false:=by
 intro x hx;obtain⟨i,hi⟩:=abJ hx;rw[abT]at hi;split at hi
 ·rename_i hlt;obtain⟨hl,rfl⟩:=aaq.1 hi;have:=List.not_of_lt_findIdx (p:=fun x=>e.ahead x) hlt;simpa using this
 ·cases hi
theorem LY{e:QE}{q:List QE}(h:lU q):∀x∈q.drop (gU e q),e.ahead x=true:=by
 intro x hx;have hp:(q.drop (gU e q)).Pairwise fun a b=>a.ahead b=true:=h.sublist (List.drop_sublist _ _)
 cases hq:q.drop (gU e q)with
 |nil=>rw[hq]at hx;cases hx
 |cons y l=>
  have hlt:gU e q<q.length:=by
   have:=congrArg List.length hq;rw[aaO,aaL]at this;omega
  have hy:e.ahead y=true:=by
   have h1:=List.findIdx_getElem (p:=fun x=>e.ahead x) (xs:=q) (w:=hlt);rw[aaX hlt]at hq;cases hq;exact h1
  rw[hq]at hx hp;rcases aaI.1 hx with rfl|hx
  ·exact hy
  ·exact QE.E7 hy ((List.pairwise_cons.1 hp).1 x hx)
theorem FR{q:List QE}{e:QE}(h:lU q)(hn:∀x∈q,x.id≠e.id):lU (kW q e):=by
 unfold kW;refine List.pairwise_append.2 ⟨h.sublist (List.take_sublist _ _),List.pairwise_cons.2 ⟨LY h,h.sublist (List.drop_sublist _ _)⟩,fun a ha b hb=>?_⟩;have h1:a.ahead e=true:=QE.W_ (fun e'=>hn a (aaV ha) e'.symm) (Su a ha);rcases aaI.1 hb with rfl|hb
 ·exact h1
 ·exact QE.E7 h1 (LY h b hb)
theorem XU{q:List QE}{e:QE}{m:Nat}(hml:m≤q.length)(h:∀x∈q.take m,e.ahead x=false):(kW q e).take m=q.take m:=by
 have hm:m≤gU e q:=by
  by_cases hlt:gU e q<m
  ·exfalso;have hl:gU e q<q.length:=by omega
   have h1:=List.findIdx_getElem (p:=fun x=>e.ahead x) (xs:=q) (w:=hl);have h2:=h q[gU e q] (acA.2 ⟨gU e q,by rw[abT,abb hlt,aay hl]⟩);have h1:e.ahead q[gU e q]=true:=h1;rw[h2]at h1;cases h1
  ·omega
 have hle:=zF e q;unfold kW;rw[abP (by rw[aax];omega),List.take_take,abU hm]
theorem Bq(q:List QE)(e:QE):(fv q e).1=q∨((fv q e).1=kW q e∧∀x∈q,x.id≠e.id):=by
 unfold fv;cases e.oR with
 |true=>exact .inl rfl
 |false=>
  dsimp only;cases h:decide (0≤ky q e.id)with
  |true=>exact .inl rfl
  |false=>
   dsimp only;cases decide (32≤(q.length:Int))with
   |true=>exact .inl rfl
   |false=>
    refine .inr ⟨rfl,fun x hx he=>?_⟩;have:=KA _ q 0 h x hx;exact absurd (aaB he) (by rw[this];exact acm)
theorem zw(q:List QE)(id:UInt64):((fJ q id).1=q∧∀x∈q,x.id≠id)∨∃(k:Nat) (x:QE),(fJ q id).1=q.eraseIdx k∧q[k]? = some x∧x.id=id:=by
 unfold fJ ky;rcases l9 (fun e:QE=>decide (e.id=id)) q 0 with⟨h1,h2⟩|⟨m,x,h1,h2,h3⟩
 ·have h1:idx (fun e:QE=>decide (e.id=id)) q 0=-1:=h1;rw[h1];refine .inl ⟨rfl,fun x hx he=>?_⟩;exact absurd (aaB he) (by simpa using List.find?_eq_none.1 h2 x hx)
 ·have h1:idx (fun e:QE=>decide (e.id=id)) q 0=(m:Int):=h1.trans (by rw[aav]);rw[h1];have h4:=acs h3;refine .inr ⟨m,x,?_,h2,aat h4⟩;rw[aar (by omega)];rfl
theorem mem_erase{α:Type}{l:List α}{k:Nat}{x:α}(h:x∈l.eraseIdx k):x∈l:=(acu _ _).subset h
structure dF(s:State):Prop where
 ids:sE s.aj
 low:∀j∈s.aj,j.id.toNat<s.next.toNat
 i7:∀j∈s.aj,0≤j.x.count
 len:s.aj.length≤32
 iM:lU s.queue
 jy:∀e∈s.queue,∃j∈s.aj,j.id=e.id∧j.runs=false∧j.x.prio=e.prio
 ma:(s.pool.nodes.map Node.name).Nodup
structure Frame(s t:State):Prop where
 nodes:t.pool.nodes=s.pool.nodes
 tree:t.tree.map (fun e=>(e.path,e.bu))=s.tree.map (fun e=>(e.path,e.bu))
 aj:t.aj.map (fun j=>(j.id,j.x))=s.aj.map (fun j=>(j.id,j.x))
 next:t.next=s.next
theorem Frame.refl(s:State):Frame s s:=⟨rfl,rfl,rfl,rfl⟩
theorem Frame.trans{s t u:State}(h1:Frame s t)(h2:Frame t u):Frame s u:=⟨h2.nodes.trans h1.nodes,h2.tree.trans h1.tree,h2.aj.trans h1.aj,h2.next.trans h1.next⟩
theorem DC(t:List aD)(act:aD→aD×Int)(ha:∀e,(act e).1.path=e.path∧(act e).1.bu=e.bu):∀(l:List BA) (out:List aD),(∀p∈l,decide (eR t p<0)=false)→out.map (fun e=>(e.path,e.bu))=t.map (fun e=>(e.path,e.bu))→(mu t act l out).1.map (fun e=>(e.path,e.bu))=t.map (fun e=>(e.path,e.bu))
 | [],out,_,h=>h
 |p::l,out,hp,h=>by
  unfold mu
  have hpp:=hp p aaA
  rcases ha':act (dt t p).1 with⟨e,n⟩
  dsimp only
  cases decide (n=0)with
  |false=>rfl
  |true=>
   refine DC t act ha l _ (fun p hp'=>hp p (aaz _ hp')) ?_
   rw[← h]
   have he:=ha (dt t p).1
   rw[ha']at he
   dsimp only at he
   unfold eR dt at*
   rcases l9 (fun e:aD=>seq e.path p) t 0 with⟨h1,h2⟩|⟨m,x,h1,h2,h3⟩
   ·have h1:idx (fun e:aD=>seq e.path p) t 0=-1:=h1
    rw[h1]at hpp;cases hpp
   ·have h1:idx (fun e:aD=>seq e.path p) t 0=(m:Int):=h1.trans (by rw[aav])
    rw[h1]
    rw[h3]at he
    dsimp only at he
    apply acG
    intro i
    rw[aaT,aaT,abk,acd]
    split
    ·rename_i e';subst e'
     have hx:(out.map (fun e=>(e.path,e.bu)))[m]? = some (x.path,x.bu):=by rw[h,aaT,h2];rfl
     rw[aaT]at hx
     cases ho:out[m]? with
     |none=>rw[ho]at hx;cases hx
     |some y=>
      rw[ho]at hx
      rw[abb (aaq.1 ho).1]
      simp only[ach]at hx⊢
      rw[hx,he.1,he.2]
    ·rfl
theorem wZ(t:List aD)(path:BA)(act:aD→aD×Int)(ha:∀e,(act e).1.path=e.path∧(act e).1.bu=e.bu):(j8 t path act).1.map (fun e=>(e.path,e.bu))=t.map (fun e=>(e.path,e.bu)):=by
 unfold j8;cases named path with
 |false=>rfl
 |true=>
  dsimp only;cases h:(gP path).any fun p=>decide (eR t p<0)with
  |true=>rfl
  |false=>exact DC t act ha _ _ (fun p hp=>by simpa using adl.1 h p hp) rfl
theorem DO(v:V4)(e:aD):(aD.jd v e).1.path=e.path∧(aD.jd v e).1.bu=e.bu:=by
 unfold aD.jd;rcases e.used.add v with⟨n,_|_⟩
 ·exact⟨rfl,rfl⟩
 ·dsimp only;cases n.fits e.bu<;>exact⟨rfl,rfl⟩
theorem J0(v:V4)(e:aD):(aD.lh v e).1.path=e.path∧(aD.lh v e).1.bu=e.bu:=by
 unfold aD.lh;rcases e.used.sub v with⟨n,_|_⟩<;>exact⟨rfl,rfl⟩
theorem p8(s:State)(j:az):Frame s (s.cP j)∧(s.cP j).aj=s.aj∧(s.cP j).queue=s.queue:=by
 unfold State.cP;rcases j.x.total with⟨v,_|_⟩
 ·exact⟨⟨rfl,rfl,rfl,rfl⟩,rfl,rfl⟩
 ·exact⟨⟨rfl,wZ _ _ _ (J0 v),rfl,rfl⟩,rfl,rfl⟩
structure Step(p:Int)(m:Nat)(s t:State):Prop where
 inv:dF t
 frame:Frame s t
 head:t.queue.take m=s.queue.take m
 size:s.queue.length≤t.queue.length
 tail:∀e∈t.queue,e∈s.queue∨e.prio<p
 aQ:∀j∈s.aj,(j.runs=false∨p≤j.x.prio)→j∈t.aj
theorem Step.refl{p:Int}{m:Nat}{s:State}(h:dF s):Step p m s s:=⟨h,.refl s,rfl,aas _,fun _ h=>.inl h,fun _ h _=>h⟩
theorem Step.trans{p:Int}{m:Nat}{s t u:State}(h1:Step p m s t)(h2:Step p m t u):Step p m s u:=
 ⟨h2.inv,h1.frame.trans h2.frame,h2.head.trans h1.head,aaJ h1.size h2.size,fun e he=>(h2.tail e he).elim (h1.tail e) .inr,fun j hj hp=>h2.aQ j (h1.aQ j hj hp) hp⟩
theorem Fx{s:State}(h:dF s){p:Int}{m:Nat}(hm:m≤s.queue.length)(hq:∀e∈s.queue.take m,p≤e.prio)(id:UInt64)(k:Int)(hp:∀j∈s.aj,j.id=id→j.x.prio<p):Step p m s (s.stop id k).1:=by
 unfold State.stop;rcases vM s.aj id with⟨h1,h2⟩|⟨n,h1,h2,h3⟩
 ·rw[aaB h1];exact .refl h
 rw[aar (by omega)];dsimp only;obtain⟨hj,hid⟩:=ud h3;generalize hjj:(bK s.aj id).1=j at*
 cases hr:j.runs with
 |false=>exact .refl h
 |true=>
  dsimp only;obtain⟨hf,hfj,hfq⟩:=p8 s j;rw[hfq,h1,abk];have hjobs:((({s.cP j with queue:=(fv s.queue ⟨id,j.x.prio⟩).1}:State).with n {j with runs:=false,left:=0}).fT id k).aj=s.aj.set n {j with runs:=false,left:=0}:=by
   show(s.cP j).aj.set n _=_
   rw[hfj]
  have hset:=fun x=>Au (x:=x) (j':={j with runs:=false,left:=0}) h.ids h2 rfl
  have hkeep:∀x∈s.aj,(x.runs=false∨p≤x.x.prio)→x∈s.aj.set n {j with runs:=false,left:=0}:=by
   intro x hx hxp;refine(hset x).2 (.inr ⟨hx,fun e=>?_⟩);have:=n9 h.ids hx hj e;subst this;rcases hxp with hxp|hxp
   ·rw[hr]at hxp;cases hxp
   ·have:=hp x hx hid;omega
  have hmap:(s.aj.set n {j with runs:=false,left:=0}).map (fun j=>(j.id,j.x))=s.aj.map (fun j=>(j.id,j.x)):=uD _ h2 rfl;have hmapid:(s.aj.set n {j with runs:=false,left:=0}).map az.id=s.aj.map az.id:=uD _ h2 rfl;have hframe:Frame s ((({s.cP j with queue:=(fv s.queue ⟨id,j.x.prio⟩).1}:State).with n {j with runs:=false,left:=0}).fT id k):=
   ⟨hf.nodes,hf.tree,by rw[hjobs];exact hmap,hf.next⟩
  have hpr:j.x.prio<p:=hp j hj hid;have hwai:∀e∈s.queue,∃x∈s.aj.set n {j with runs:=false,left:=0},x.id=e.id∧x.runs=false∧x.x.prio=e.prio:=by
   intro e he;obtain⟨x,hx,a,b,c⟩:=h.jy e he;exact⟨x,hkeep x hx (.inl b),a,b,c⟩
  have base:∀q,lU q→(∀e∈q,e∈s.queue∨e=⟨id,j.x.prio⟩)→q.take m=s.queue.take m→s.queue.length≤q.length→∀t:State,t.aj=s.aj.set n {j with runs:=false,left:=0}→t.queue=q→Frame s t→Step p m s t:=by
   intro q hs1 hs2 hs3 hs4 t t1 t2 t3;have hlen:(s.aj.set n {j with runs:=false,left:=0}).length=s.aj.length:=aaY ..;refine⟨⟨by show(t.aj.map az.id).Nodup;rw[t1,hmapid];exact h.ids,?_,?_,by rw[t1,hlen];exact h.len,t2▸hs1,?_,by rw[t3.nodes];exact h.ma⟩,t3,by rw[t2];exact hs3,by rw[t2];exact hs4,?_,by rw[t1];exact hkeep⟩
   ·intro x hx;rw[t1]at hx;rw[t3.next];rcases(hset x).1 hx with rfl|hx
    ·exact h.low j hj
    ·exact h.low x hx.1
   ·intro x hx;rw[t1]at hx;rcases(hset x).1 hx with rfl|hx
    ·exact h.i7 j hj
    ·exact h.i7 x hx.1
   ·intro e he;rw[t2]at he;rw[t1];rcases hs2 e he with he|rfl
    ·exact hwai e he
    ·exact⟨_,(hset _).2 (.inl rfl),hid,rfl,rfl⟩
   ·intro e he;rw[t2]at he;rcases hs2 e he with he|rfl
    ·exact .inl he
    ·exact .inr hpr
  rcases Bq s.queue ⟨id,j.x.prio⟩with hq1|⟨hq1,hq2⟩
  ·exact base s.queue h.iM (fun e he=>.inl he) rfl (aas _) _ hjobs hq1 hframe
  ·refine base _ (FR h.iM hq2) (fun e he=>(HY.1 he).symm) (XU hm fun x hx=>?_) (by rw[BW];omega) _ hjobs hq1 hframe;cases ha:QE.ahead ⟨id,j.x.prio⟩ x with
   |false=>rfl
   |true=>
    have h5:=hq x hx;have:=QE.sV.1 ha;dsimp only at this;omega
theorem JZ:∀{s:State} (l:List UInt64),dF s→∀{p:Int} {m:Nat},m≤s.queue.length→(∀e∈s.queue.take m,p≤e.prio)→(∀id∈l,∀j∈s.aj,j.id=id→j.x.prio<p)→Step p m s (c8 s l)
 |s,[],h,_,_,_,_,_=>.refl h
 |s,id::l,h,p,m,hm,hq,hp=>by
  have h1:=Fx h hm hq id 5 (hp id aaA)
  refine h1.trans (JZ l h1.inv (aaJ hm h1.size) (by rw[h1.head];exact hq) fun i hi j hj hji=>?_)
  have hmem:(j.id,j.x)∈s.aj.map (fun j=>(j.id,j.x)):=by rw[← h1.frame.aj];exact abC (f:=fun j:az=>(j.id,j.x)) hj
  obtain⟨j',hj',e⟩:=abc.1 hmem
  injection e with e1 e2
  rw[← e2]
  exact hp i (aaz _ hi) j' hj' (e1.trans hji)
theorem uR{α:Type}{L:List α}{i j:Nat}{x:α}(h:x∈swp L i j):x∈L:=by
 unfold swp at h;split at h
 ·rename_i a b ha hb;rcases abr h with h|rfl
  ·rcases abr h with h|rfl
   ·exact h
   ·exact aau hb
  ·exact aau ha
 ·exact h
section
variable {α:Type}{lt:α→α→Bool}
theorem DS(a:Nat):∀(j:Nat) {L:List α} {x:α},x∈gx lt a j L→x∈L
 |0,_,_,h=>h
 |j+1,L,x,h=>by
  unfold gx at h
  split at h
  ·exact h
  ·split at h
   ·exact h
   ·exact uR (DS a j h)
theorem Gf(a:Nat):∀(m i:Nat) {L:List α} {x:α},x∈mL lt a m i L→x∈L
 |0,_,_,_,h=>h
 |m+1,i,_,_,h=>DS a i (Gf a m (i+1) h)
theorem sd{a b:Nat}{L:List α}{x:α}(h:x∈ir lt a b L):x∈L:=Gf _ _ _ h
theorem vr:∀(n a b:Nat) {L:List α} {x:α},x∈gu n a b L→x∈L
 |0,_,_,_,_,h=>h
 |n+1,a,b,_,_,h=>uR (vr n (a+1) (b+1) h)
theorem Aq:∀(f i j m:Nat) {L:List α} {x:α},x∈kl f i j m L→x∈L
 |0,_,_,_,_,_,h=>h
 |f+1,i,j,m,L,x,h=>by
  unfold kl at h
  split at h
  ·exact vr _ _ _ h
  ·split at h
   ·exact vr _ _ _ (Aq f _ _ _ h)
   ·exact vr _ _ _ (Aq f _ _ _ h)
theorem QB{a m b:Nat}{L:List α}{x:α}(h:x∈ie a m b L):x∈L:=Aq _ _ _ _ h
theorem JT:∀(n k:Nat) {L:List α} {x:α},x∈j_ n k L→x∈L
 |0,_,_,_,h=>h
 |n+1,k,_,_,h=>uR (JT n (k+1) h)
theorem Ec:∀(n k:Nat) {L:List α} {x:α},x∈kz n k L→x∈L
 |0,_,_,_,h=>h
 |n+1,k,_,_,h=>uR (Ec n (k-1) h)
theorem B_:∀(f a m b:Nat) {L:List α} {x:α},x∈eF lt f a m b L→x∈L
 |0,_,_,_,_,_,h=>h
 |f+1,a,m,b,L,x,h=>by
  unfold eF at h
  split at h
  ·exact JT _ _ h
  ·split at h
   ·exact Ec _ _ h
   ·dsimp only at h
    have k1:∀{s e:Nat} {c d:Bool} {x:α},x∈(match c,d with|true,true=>ie s m e L|_,_=>L)→x∈L:=by
     intro s e c d x h
     split at h
     ·exact QB h
     ·exact h
    have k2:∀{s e:Nat} {c d:Bool} {M:List α} {x:α},x∈(match c,d with|true,true=>eF lt f a s e M|_,_=>M)→x∈M:=by
     intro s e c d M x h
     split at h
     ·exact B_ f _ _ _ h
     ·exact h
    have k3:∀{s e:Nat} {c d:Bool} {M:List α} {x:α},x∈(match c,d with|true,true=>eF lt f s e b M|_,_=>M)→x∈M:=by
     intro s e c d M x h
     split at h
     ·exact B_ f _ _ _ h
     ·exact h
    exact k1 (k2 (k3 h))
theorem Py{L:List α}{x:α}(h:x∈ij lt L):x∈L:=by
 unfold ij at h;split at h
 ·exact sd h
 ·split at h
  ·exact sd (sd h)
  ·exact sd (sd (B_ _ _ _ _ h))
end
theorem Ox{s:State}{id i:UInt64}(h:i∈lower s id):∃o∈s.aj,o.id=i∧o.runs=true∧o.x.prio<(bK s.aj id).1.x.prio:=by
 unfold lower at h;split at h
 ·cases h
 ·obtain⟨o,ho,e⟩:=abc.1 h;have:=acq.1 (Py ho);have h2:=this.2;unfold kf at h2;split at h2
  ·cases h2
  ·rename_i hr;exact⟨o,this.1,e,hr,aat h2⟩
theorem J4{tr:List UInt64→List BA×Bool}{all:List UInt64}:∀{m n:Nat} {l:List UInt64} {nodes:List BA},mB tr all m n=some (l,nodes)→(∀i∈l,i∈all)∧tr l=(nodes,true)
 |0,_,_,_,h=>by cases h
 |m+1,n,l,nodes,h=>by
  unfold mB at h
  split at h
  ·rename_i e
   cases h
   exact⟨fun i hi=>aaV hi,e⟩
  ·exact J4 h
theorem xS{tr:List UInt64→List BA×Bool}:∀(m k:Nat) {l:List UInt64} {nodes:List BA},tr l=(nodes,true)→(∀i∈(fZ tr m k l nodes).1,i∈l)∧tr (fZ tr m k l nodes).1=((fZ tr m k l nodes).2,true)
 |0,_,_,_,h=>⟨fun _ h=>h,h⟩
 |m+1,k,l,nodes,h=>by
  unfold fZ
  split
  ·exact⟨fun _ h=>h,h⟩
  ·split
   ·rename_i e
    have:=xS m k e
    exact⟨fun i hi=>mem_erase (this.1 i hi),this.2⟩
   ·exact xS m (k+1) h
theorem BH{s:State}{id:UInt64}(h:(dw s id).ok=true):(∀i∈(dw s id).l,i∈lower s id)∧fits (c8 s (dw s id).l) id=((dw s id).nodes,true):=by
 unfold dw at h⊢;dsimp only at h⊢;split at h
 ·cases h
 ·rename_i l nodes e;obtain⟨h1,h2⟩:=J4 e;obtain⟨h3,h4⟩:=xS (tr:=fun l=>fits (c8 s l) id) l.length 0 h2;exact⟨fun i hi=>h1 i (h3 i hi),h4⟩
theorem Q5{s t:State}(h:Frame s t)(id:UInt64):(bK t.aj id).2=(bK s.aj id).2∧(bK t.aj id).1.x=(bK s.aj id).1.x:=by
 have key:∀l:List az,(l.map (fun j=>(j.id,j.x))).find? (fun q=>decide (q.1=id))=(l.find? (fun j=>decide (j.id=id))).map (fun j=>(j.id,j.x)):=by
  intro l;rw[List.find?_map];rfl
 have h1:=key t.aj;rw[h.aj,key s.aj]at h1;unfold bK;cases e1:s.aj.find? (fun j=>decide (j.id=id))with
 |none=>
  rw[e1]at h1;cases e2:t.aj.find? (fun j=>decide (j.id=id))with
  |none=>exact⟨rfl,rfl⟩
  |some y=>rw[e2]at h1;cases h1
 |some x=>
  rw[e1]at h1;cases e2:t.aj.find? (fun j=>decide (j.id=id))with
  |none=>rw[e2]at h1;cases h1
  |some y=>
   rw[e2]at h1;simp only[ach,adI,Prod.mk.injEq]at h1;exact⟨rfl,h1.2.symm⟩
theorem W8{s t:State}(h:Frame s t){id:UInt64}(hw:(waits t id).2=(waits s id).2):j1 t id=j1 s id:=by
 have hx:(waits t id).1.x=(waits s id).1.x:=by
  obtain⟨h1,h2⟩:=Q5 h id;unfold waits;rw[h1];cases(bK s.aj id).2<;>exact h2
 have ht:∀path v,oN t.tree path v=oN s.tree path v:=by
  intro path v;have e:∀l:List aD,l.map (fun e=>{e with used:=V4.z})=(l.map (fun e=>(e.path,e.bu))).map (fun q=>(⟨q.1,q.2,V4.z⟩:aD)):=by
   intro l;rw[abX];rfl
  unfold oN;rw[e,e,h.tree]
 have hb:t.pool.bare=s.pool.bare:=by unfold aW.bare;rw[h.nodes]
 unfold j1 asked;rw[hw,hb];dsimp only;rw[hx];simp only[ht]
theorem Dq{l:State}(h:sE l.aj){j:az}(hj:j∈l.aj)(hr:j.runs=false):waits l j.id=(j,true):=by
 unfold waits;rw[zd h hj];simp[hr]
theorem EQ(d:V4):∀(l:List Slot) (k:Nat) (r:oA),(iE d l k r).ok=true→iE d l k r=r∨∃i s,l[i]? = some s∧(iE d l k r).at_=k+i∧s.free.sub d=((iE d l k r).left,true)
 | [],_,r,_=>.inl rfl
 |s::l,k,r,h=>by
  unfold iE at h⊢
  rcases EQ d l (k+1) _ h with e|⟨i,s',h1,h2,h3⟩
  ·rw[e]
   unfold pP
   rcases hs:s.free.sub d with⟨v,_|_⟩
   ·exact .inl rfl
   ·dsimp only
    cases hr:r.ok with
    |false=>exact .inr ⟨0,s,rfl,rfl,hs⟩
    |true=>
     dsimp only
     cases decide (v.order r.left<0)with
     |true=>exact .inr ⟨0,s,rfl,rfl,hs⟩
     |false=>exact .inl rfl
  ·exact .inr ⟨i+1,s',h1,by rw[h2];omega,h3⟩
theorem MR{d:V4}{l:List Slot}(h:(eB l d).ok=true):∃s,l[(eB l d).at_]? = some s∧s.free.sub d=((eB l d).left,true):=by
 unfold eB at h⊢;rcases EQ d l 0 _ h with e|⟨i,s,h1,h2,h3⟩
 ·rw[e]at h;cases h
 ·rw[h2,aav];exact⟨s,h1,h3⟩
structure yu(l:List Slot)(q:aW):Prop where
 nd:(l.map Slot.node).Nodup
 h:∀s∈l,(q.find s.node).2=true∧(q.find s.node).1.up=true∧q.free s.node=(s.free,true)
theorem Vj{p:aW}{n:BA}{v:V4}:p.free n=(v,true)↔p.places.foldl (nO n) ((p.find n).1.cap,(p.find n).2)=(v,true):=by
 unfold aW.free;split
 ·rename_i w e;rw[e]
 ·rename_i w e;rw[e];constructor<;>intro h<;>injection h with _ h<;>cases h
theorem IF{q:aW}{n m:BA}{v w:V4}{aM:UInt64}(h:q.free m=(w,true)):aW.free ⟨q.nodes,q.places++[⟨aM,n,v⟩]⟩ m=(match seq n m with|true=>(match w.sub v with|(x,true)=>(x,true)|(_,false)=>(V4.z,false))|false=>(w,true)):=by
 have h:=Vj.1 h;have hf:aW.find ⟨q.nodes,q.places++[⟨aM,n,v⟩]⟩ m=q.find m:=rfl;unfold aW.free;rw[hf];dsimp only;rw[abw,h];show(match nO m (w,true) ⟨aM,n,v⟩with|(v,true)=>(v,true)|(_,false)=>(V4.z,false))=_
 unfold nO;dsimp only;cases seq n m<;>rfl
theorem E_{d:V4}(aM:UInt64):∀(n:Nat) (l:List Slot) (out:List BA) (q:aW),(j4 d n l out).2=true→yu l q→∃ns,(j4 d n l out).1=out++ns∧ns.length=n∧(iH aM d ns q).2=0
 |0,l,out,q,_,_=>⟨[],(abe _).symm,rfl,rfl⟩
 |n+1,l,out,q,h,ht=>by
  unfold j4 at h⊢
  cases hb:(eB l d).ok with
  |false=>rw[hb]at h;cases h
  |true=>
   rw[hb]at h
   dsimp only at h⊢
   obtain⟨s,h1,h2⟩:=MR hb
   generalize(eB l d).at_=k at h h1⊢
   generalize(eB l d).left=left at h h2⊢
   rw[h1]at h⊢
   simp only[acK]at h⊢
   obtain⟨t1,t2,t3⟩:=ht.h s (aau h1)
   obtain⟨hk,hs⟩:=aaq.1 h1
   have hroom:q.room s.node d=0:=by
    unfold aW.room
    rw[t1,t2,t3]
    dsimp only
    unfold V4.fits
    rw[h2]
   have hmap:(l.set k {s with free:=left}).map Slot.node=l.map Slot.node:=by
    rw[List.map_set]
    apply acG
    intro i
    rw[acd]
    split
    ·rename_i e;subst e
     rw[abb (by rw[aao];exact hk),aaT,h1];rfl
    ·rfl
   have htells:yu (l.set k {s with free:=left}) ⟨q.nodes,q.places++[⟨aM,s.node,d⟩]⟩:=by
    refine⟨by rw[hmap];exact ht.nd,fun x hx=>?_⟩
    have hf:∀m,aW.find ⟨q.nodes,q.places++[⟨aM,s.node,d⟩]⟩ m=q.find m:=fun _=>rfl
    rw[hf]
    obtain⟨i,hi⟩:=abJ hx
    rw[acd]at hi
    split at hi
    ·rename_i e;subst e
     cases hi
     refine⟨t1,t2,?_⟩
     dsimp only
     rw[IF t3,L3,h2]
    ·rename_i e
     obtain⟨x1,x2,x3⟩:=ht.h x (aau hi)
     refine⟨x1,x2,?_⟩
     rw[IF x3]
     cases hsq:seq s.node x.node with
     |false=>rfl
     |true=>
      exfalso
      have hsq:=jJ.1 hsq
      exact e (Ca (l:=l.map Slot.node) ht.nd (a:=s.node) (by rw[aaT,h1];rfl) (by rw[aaT,hi,hsq];rfl))
   obtain⟨ns,e1,e2,e3⟩:=E_ aM n _ _ _ h htells
   refine⟨s.node::ns,by rw[e1,abd];rfl,by rw[aaL,e2],?_⟩
   unfold iH
   rw[hroom]
   exact e3
theorem Dk:∀{l:List Node} {p:aW},((l.filterMap (mK p)).map Slot.node).Sublist (l.map Node.name)
 | [],_=>.slnil
 |n::l,p=>by
  rw[List.filterMap_cons]
  have ih:=Dk (l:=l) (p:=p)
  cases e:mK p n with
  |none=>exact ih.cons _
  |some s=>
   have hs:s.node=n.name:=by
    unfold mK at e
    split at e
    ·cases e
    ·split at e
     ·cases e
     ·cases e;rfl
   rw[aaZ,aaZ,hs]
   exact ih.cons_cons _
theorem MO{l:List Node}(h:(l.map Node.name).Nodup){n:Node}(hn:n∈l):l.find? (fun x=>seq x.name n.name)=some n:=by
 induction l with
 |nil=>cases hn
 |cons a l ih=>
  have h:=adg.1 h;rw[List.find?_cons];rcases aaI.1 hn with rfl|hn
  ·rw[L3]
  ·cases e:seq a.name n.name with
   |true=>exact absurd (jJ.1 e▸abC (f:=Node.name) hn) h.1
   |false=>exact ih h.2 hn
theorem V'{p:aW}(h:(p.nodes.map Node.name).Nodup)(x:List Term):yu (fitting p.jE x) p:=by
 constructor
 ·unfold fitting aW.jE;exact(h.sublist Dk).sublist (List.Sublist.map _ List.filter_sublist)
 ·intro s hs;unfold fitting aW.jE at hs;obtain⟨n,hn,e⟩:=adh.1 (acq.1 hs).1;unfold mK at e;split at e
  ·cases e
  ·rename_i hf;split at e
   ·cases e
   ·rename_i hu;cases e;dsimp only;have hfind:p.find n.name=(n,true):=by unfold aW.find;rw[MO h hn]
    refine⟨by rw[hfind],by rw[hfind];exact hu,?_⟩;rcases hpf:p.free n.name with⟨v,b⟩
    rw[hpf]at hf;dsimp only at hf⊢;rw[hf]
theorem PD{s:State}(h:dF s){id:UInt64}{nodes:List BA}(hf:fits s id=(nodes,true)):∃(k:Nat) (j:az) (t:List aD) (p:aW),s.aj[k]? = some j∧j∈s.aj∧j.id=id∧j.runs=false∧t.map (fun e=>(e.path,e.bu))=s.tree.map (fun e=>(e.path,e.bu))∧p.nodes=s.pool.nodes∧
 s.begin id nodes=((({s with tree:=t,pool:=p,queue:=(fJ s.queue id).1}:State).with k {j with runs:=true,left:=j.x.cN}).fT id 2,0):=by
 unfold fits asked waits at hf
 cases h2:(bK s.aj id).2 with
 |false=>rw[h2]at hf;cases hf
 |true=>
 rw[h2]at hf
 dsimp only at hf
 obtain⟨hj,hid⟩:=ud h2
 rcases vM s.aj id with⟨h1,h3⟩|⟨k,h1,h3,_⟩
 ·rw[h3]at h2;cases h2
 unfold State.begin
 rw[h1,aar (by omega)]
 dsimp only
 generalize(bK s.aj id).1=j at*
 cases hr:j.runs with
 |true=>rw[hr]at hf;cases hf
 |false=>
 rw[hr]at hf
 dsimp only[Bool.not_false]at hf⊢
 rcases htot:j.x.total with⟨v,_|_⟩
 ·rw[htot]at hf;cases hf
 rw[htot]at hf
 dsimp only at hf
 cases hp:(iQ s.pool.jE j.x.cR j.x.cy j.x.count).2 with
 |false=>rw[hp]at hf;cases hf
 |true=>
 rw[hp]at hf
 dsimp only at hf
 cases hc:decide ((iP s.tree j.x.path v).2=0)with
 |false=>rw[hc]at hf;cases hf
 |true=>
 rw[hc]at hf
 injection hf with hf _
 have hlay:(iH id j.x.cy nodes s.pool).2=0∧(nodes.length:Int)=j.x.count:=by
  unfold iQ at hp hf
  split at hp
  ·cases hp
  ·rename_i e
   rw[e]at hf
   dsimp only at hf
   obtain⟨ns,e1,e2,e3⟩:=E_ id _ _ _ _ hp (V' h.ma j.x.cR)
   rw[e1,aci]at hf
   subst hf
   refine⟨e3,?_⟩
   have:=h.i7 j hj
   rw[e2];omega
 rw[aaB hlay.2]
 dsimp only
 rcases ht:iP s.tree j.x.path v with⟨t,e⟩
 rw[ht]at hc
 dsimp only at hc⊢
 rw[hc]
 dsimp only
 rcases hl:s.pool.lay id nodes j.x.cy with⟨p,e'⟩
 have hl2:p.nodes=s.pool.nodes∧e'=0:=by
  unfold aW.lay at hl
  rw[aaB hlay.1]at hl
  dsimp only at hl
  have:=hlay.1
  rw[hl]at this
  refine⟨?_,this⟩
  have key:∀(ns:List BA) (q:aW),(iH id j.x.cy ns q).1.nodes=q.nodes:=by
   intro ns
   induction ns with
   |nil=>intro q;rfl
   |cons n ns ih=>
    intro q
    unfold iH
    split
    ·exact ih _
    ·rfl
  have:=key nodes s.pool
  rw[hl]at this;exact this
 rw[hl2.2]
 refine⟨k,j,t,p,h3,hj,hid,hr,?_,hl2.1,?_⟩
 ·have:=wZ s.tree j.x.path (aD.jd v) (DO v)
  unfold iP at ht
  rw[ht]at this;exact this
 ·rw[abk];rfl
theorem QE.CQ(a:QE):a.ahead a=false:=by
 cases h:a.ahead a with
 |false=>rfl
 |true=>have:=QE.sV.1 h;omega
theorem Xi{s:State}(h:dF s){x y:QE}(hx:x∈s.queue)(hy:y∈s.queue)(e:x.id=y.id):x=y:=by
 obtain⟨j,hj,a1,a2,a3⟩:=h.jy x hx;obtain⟨k,hk,b1,b2,b3⟩:=h.jy y hy;have:=n9 h.ids hj hk (a1.trans (e.trans b1.symm));subst this;cases x;cases y;dsimp only at*
 subst e;rw[← a3,← b3]
theorem vI{s:State}(h:dF s){m n:Nat}{x y:QE}(hx:s.queue[m]? = some x)(hy:s.queue[n]? = some y)(e:x.id=y.id):m=n:=by
 have hxy:=Xi h (aau hx) (aau hy) e;subst hxy;obtain⟨h1,h2⟩:=aaq.1 hx;obtain⟨h3,h4⟩:=aaq.1 hy;have hp:=acX.1 h.iM;rcases adk m n with hmn|hmn|hmn
 ·have:=hp m n h1 h3 hmn;rw[h2,h4,QE.CQ]at this;cases this
 ·exact hmn
 ·have:=hp n m h3 h1 hmn;rw[h2,h4,QE.CQ]at this;cases this
theorem aac{s:State}(h:dF s){m:Nat}{e:QE}(he:s.queue[m]? = some e):(fJ s.queue e.id).1=s.queue.eraseIdx m:=by
 rcases zw s.queue e.id with⟨_,h2⟩|⟨k,x,h1,h2,h3⟩
 ·exact absurd rfl (h2 e (aau he))
 ·rw[h1,vI h h2 he h3]
structure IW(s u:State)(m:Nat)(e:QE):Prop where
 inv:dF u
 frame:Frame s u
 queue:u.queue=s.queue.eraseIdx m
 aQ:∀j∈s.aj,j.id≠e.id→j∈u.aj
 runs:∃j∈u.aj,j.id=e.id∧j.runs=true∧j.x.prio=e.prio
theorem NN{s:State}(h:dF s){m:Nat}{e:QE}(he:s.queue[m]? = some e){nodes:List BA}(hf:fits s e.id=(nodes,true)):(s.begin e.id nodes).2=0∧IW s (s.begin e.id nodes).1 m e:=by
 obtain⟨k,j,t,p,hk,hj,hid,hr,ht,hp,hb⟩:=PD h hf;rw[hb];refine ar ?_;have hem:=aau he;have hpr:j.x.prio=e.prio:=by
  obtain⟨j',hj',a1,a2,a3⟩:=h.jy e hem;rw[← n9 h.ids hj' hj (a1.trans hid.symm)];exact a3
 have hset:=fun x=>Au (x:=x) (j':={j with runs:=true,left:=j.x.cN}) h.ids hk rfl
 have hkeep:∀x∈s.aj,x.id≠e.id→x∈s.aj.set k {j with runs:=true,left:=j.x.cN}:=fun x hx hne=>(hset x).2 (.inr ⟨hx,by rw[hid];exact hne⟩)
 have hmap:(s.aj.set k {j with runs:=true,left:=j.x.cN}).map (fun j=>(j.id,j.x))=s.aj.map (fun j=>(j.id,j.x)):=uD _ hk rfl;have hmapid:(s.aj.set k {j with runs:=true,left:=j.x.cN}).map az.id=s.aj.map az.id:=uD _ hk rfl;have hlen:(s.aj.set k {j with runs:=true,left:=j.x.cN}).length=s.aj.length:=aaY ..;have hq:=aac h he;show IW s {s with tree:=t,pool:=p,queue:=(fJ s.queue e.id).1,aj:=s.aj.set k {j with runs:=true,left:=j.x.cN},events:=_} m e
 rw[hq];refine⟨⟨by show(List.map az.id (s.aj.set k _)).Nodup;rw[hmapid];exact h.ids,?_,?_,by show(s.aj.set k _).length≤32;rw[hlen];exact h.len,h.iM.sublist (acu _ _),?_,by show(p.nodes.map _).Nodup;rw[hp];exact h.ma⟩,⟨hp,ht,hmap,rfl⟩,rfl,hkeep,⟨_,(hset _).2 (.inl rfl),hid,rfl,hpr⟩⟩
 ·intro x hx;rcases(hset x).1 hx with rfl|hx
  ·exact h.low j hj
  ·exact h.low x hx.1
 ·intro x hx;rcases(hset x).1 hx with rfl|hx
  ·exact h.i7 j hj
  ·exact h.i7 x hx.1
 ·intro y hy;obtain⟨i,hi,hyi⟩:=acJ.1 hy;obtain⟨x,hx,a1,a2,a3⟩:=h.jy y (aau hyi);exact⟨x,hkeep x hx (fun e'=>hi (vI h hyi he (a1.symm.trans e'))),a1,a2,a3⟩
theorem zy{s:State}:∀{l:List QE} {k:Nat},(mr s l k).ok=true→∃i e,l[i]? = some e∧(mr s l k).id=e.id∧(mr s l k).at_=k+i∧∀x∈l.take i,j1 s x.id=false
 | [],_,h=>by cases h
 |x::l,k,h=>by
  unfold mr at h⊢
  cases hc:j1 s x.id with
  |true=>exact⟨0,x,rfl,rfl,rfl,fun _ h=>by cases h⟩
  |false=>
   rw[hc]at h
   obtain⟨i,e,h1,h2,h3,h4⟩:=zy h
   refine⟨i+1,e,h1,h2,by dsimp only;rw[h3];omega,fun y hy=>?_⟩
   rw[abV]at hy
   rcases aaI.1 hy with rfl|hy
   ·exact hc
   ·exact h4 y hy
theorem KL{s:State}:∀{l:List QE} {k m:Nat},m≤l.length→(∀e∈l.take m,j1 s e.id=false)→mr s l k=mr s (l.drop m) (k+m)
 |_,_,0,_,_=>rfl
 | [],_,m+1,h,_=>by cases h
 |x::l,k,m+1,h,hc=>by
  rw[ady,show k+(m+1)=(k+1)+m by omega,← KL (Nat.le_of_succ_le_succ h) fun e he=>hc e (by rw[abV];exact aaz _ he)]
  conv=>lhs;unfold mr
  rw[hc x (by rw[abV];exact aaA)]
def nQ(s:State):Prop:=(cM s 0).ok=true→(dw s (cM s 0).id).ok=false
theorem XZ{s:State}{m:Nat}(h:m≤s.queue.length)(hc:∀e∈s.queue.take m,j1 s e.id=false):cM s 0=cM s m:=by
 unfold cM;rw[acO,KL h hc,aav]
structure zx(B:List UInt64)(t:fq):Prop where
 inv:dF t.s
 P1:t.at_≤t.s.queue.length
 I4:∀e∈t.s.queue.take t.at_,j1 t.s e.id=false
 Hs:B.Nodup
 run:∀b∈B,∃j∈t.s.aj,j.id=b∧j.runs=true∧∀e∈t.s.queue.drop t.at_,e.prio≤j.x.prio
theorem Eg{q:List QE}(h:lU q){m n:Nat}{x y:QE}(hx:q[m]? = some x)(hy:q[n]? = some y)(hmn:m≤n):y.prio≤x.prio:=by
 obtain⟨h1,rfl⟩:=aaq.1 hx;obtain⟨h3,rfl⟩:=aaq.1 hy;rcases Nat.lt_or_eq_of_le hmn with hlt|rfl
 ·have:=QE.sV.1 (acX.1 h m n h1 h3 hlt);omega
 ·exact Int.le_refl _
theorem FI{α:Type}{l:List α}{m:Nat}{x:α}(h:x∈l.take m):∃i,i<m∧l[i]? = some x:=by
 obtain⟨i,hi⟩:=abJ h;rw[abT]at hi;split at hi
 ·exact⟨i,by assumption,hi⟩
 ·cases hi
theorem V7{α:Type}{l:List α}{m:Nat}{x:α}(h:x∈l.drop m):∃i,m≤i∧l[i]? = some x:=by
 obtain⟨i,hi⟩:=abJ h;rw[abH]at hi;exact⟨m+i,abj _ _,hi⟩
theorem SD{α:Type}{l l':List α}{m i:Nat}(h:l.take m=l'.take m)(hi:i<m):l[i]? = l'[i]?:=by
 have:=congrArg (·[i]?) h;simpa[abT,hi]using this
theorem OP{B:List UInt64}{t:fq}(h:zx B t):(t.next=(t,false)∧nQ t.s)∨∃u b,t.next=(u,true)∧zx (b::B) u:=by
 have hsk:=XZ h.P1 h.I4;unfold fq.next;cases hn:(cM t.s t.at_).ok with
 |false=>
  refine .inl ⟨rfl,fun h1=>?_⟩;rw[hsk,hn]at h1;cases h1
 |true=>
 dsimp only;cases hv:(dw t.s (cM t.s t.at_).id).ok with
 |false=>exact .inl ⟨rfl,fun _=>by rw[hsk];exact hv⟩
 |true=>
 dsimp only;obtain⟨i,e,h1,h2,h3,h4⟩:=zy (s:=t.s) (l:=t.s.queue.drop t.at_) (k:=t.at_) hn;have h2:(cM t.s t.at_).id=e.id:=h2;have h3:(cM t.s t.at_).at_=t.at_+i:=h3;rw[h2]at hv⊢;rw[h3];rw[abH]at h1;generalize hm:t.at_+i=m at h1 h3⊢;have hml:m<t.s.queue.length:=(aaq.1 h1).1;have he:=aau h1;obtain⟨je,hje,a1,a2,a3⟩:=h.inv.jy e he;obtain⟨v1,v2⟩:=BH hv;have hstep:Step e.prio (m+1) t.s (c8 t.s (dw t.s e.id).l):=by
  refine JZ _ h.inv hml (fun x hx=>?_) fun id hid j hj hji=>?_
  ·obtain⟨n,hn,hx⟩:=FI hx;exact Eg h.inv.iM hx h1 (by omega)
  ·obtain⟨o,ho,b1,b2,b3⟩:=Ox (v1 id hid);rw[n9 h.inv.ids hj ho (hji.trans b1.symm)];rw[← a1,zd h.inv.ids hje,a3]at b3;exact b3
 generalize hs1:c8 t.s (dw t.s e.id).l=s1 at hstep v2⊢;have hq1:s1.queue[m]? = some e:=(SD hstep.head (abW m)).trans h1;obtain⟨cI,hb⟩:=NN hstep.inv hq1 v2;rcases hbe:s1.begin e.id (dw t.s e.id).nodes with⟨u,er⟩
 rw[hbe]at cI hb;dsimp only at cI hb⊢;rw[cI];refine .inr ⟨_,e.id,rfl,?_⟩;have hframe:=hstep.frame.trans hb.frame;have hlen1:=hstep.size;have hdrop:u.queue.drop m=s1.queue.drop (m+1):=by
  rw[hb.queue,acH];exact List.drop_left' (by rw[aax];omega)
 have htake:u.queue.take m=t.s.queue.take m:=by
  rw[hb.queue,acH,List.take_left' (by rw[aax];omega)];have:=congrArg (List.take m) hstep.head;rwa [List.take_take,List.take_take,abU (acD m)]at this
 have htail:∀y∈u.queue.drop m,y.prio≤e.prio:=by
  intro y hy;rw[hdrop]at hy;obtain⟨n,hn,hy⟩:=V7 hy;exact Eg hstep.inv.iM hq1 hy (by omega)
 refine⟨hb.inv,?_,?_,adg.2 ⟨fun hB=>?_,h.Hs⟩,?_⟩
 ·show m≤u.queue.length
  rw[hb.queue,acW,abb (by omega)];omega
 ·show∀x∈u.queue.take m,j1 u x.id=false
  rw[htake];intro x hx;obtain⟨n,hn,hxn⟩:=FI hx;have hcold:j1 t.s x.id=false:=by
   by_cases hna:n<t.at_
   ·exact h.I4 x (acA.2 ⟨n,by rw[abT,abb hna];exact hxn⟩)
   ·exact h4 x (acA.2 ⟨n-t.at_,by rw[abT,abb (by omega),abH,show t.at_+(n-t.at_)=n by omega];exact hxn⟩)
  rw[← hcold];refine W8 hframe ?_;obtain⟨jx,hjx,b1,b2,b3⟩:=h.inv.jy x (aau hxn);have hne:jx.id≠e.id:=fun e'=>by
   have:=vI h.inv hxn h1 (b1.symm.trans e');omega
  have hju:jx∈u.aj:=hb.aQ jx (hstep.aQ jx hjx (.inl b2)) hne;rw[← b1,Dq h.inv.ids hjx b2,Dq hb.inv.ids hju b2]
 ·obtain⟨j,hj,c1,c2,_⟩:=h.run e.id hB;have:=n9 h.inv.ids hj hje (c1.trans a1.symm);subst this;rw[a2]at c2;cases c2
 ·intro b hbm;rcases aaI.1 hbm with rfl|hbm
  ·obtain⟨j,hj,c1,c2,c3⟩:=hb.runs;exact⟨j,hj,c1,c2,fun y hy=>by rw[c3];exact htail y hy⟩
  ·obtain⟨j,hj,c1,c2,c3⟩:=h.run b hbm;have hep:e.prio≤j.x.prio:=c3 e (acA.2 ⟨i,by rw[abH,hm];exact h1⟩);have hne:j.id≠e.id:=fun e'=>by
    have:=n9 h.inv.ids hj hje (e'.trans a1.symm);subst this;rw[a2]at c2;cases c2
   exact⟨j,hb.aQ j (hstep.aQ j hj (.inr hep)) hne,c1,c2,fun y hy=>Int.le_trans (htail y hy) hep⟩
theorem He{α:Type}[DecidableEq α]:∀{B l:List α},B.Nodup→(∀b∈B,b∈l)→B.length≤l.length
 | [],_,_,_=>aaF _
 |b::B,l,h,hs=>by
  obtain⟨l1,l2,rfl⟩:=List.append_of_mem (hs b aaA)
  have hn:=adg.1 h
  have:=He (B:=B) (l:=l1++l2) hn.2 fun x hx=>by
   have h1:=hs x (aaz _ hx)
   rw[aaN,aaI]at h1
   rw[aaN]
   rcases h1 with h1|rfl|h1
   ·exact .inl h1
   ·exact absurd hx hn.1
   ·exact .inr h1
  rw[aap]at this
  rw[aaL,aap,aaL];omega
theorem DB:∀(n:Nat) {B:List UInt64} {t:fq},zx B t→33≤n+B.length→dF (kP n t).s∧nQ (kP n t).s
 |0,B,t,h,hl=>by
  have h1:B.length≤(t.s.aj.map az.id).length:=He h.Hs fun b hb=>by
   obtain⟨j,hj,e,_⟩:=h.run b hb
   exact e▸abC hj
  rw[aao]at h1
  have:=h.inv.len
  omega
 |n+1,B,t,h,hl=>by
  unfold kP
  rcases OP h with⟨e,ht⟩|⟨u,b,e,hu⟩
  ·rw[e];exact⟨h.inv,ht⟩
  ·rw[e]
   exact DB n hu (by rw[aaL];omega)
theorem Nw{s:State}(h:dF s):dF s.place∧nQ s.place:=
 DB 128 (B:=[]) (t:=⟨s,0⟩) ⟨h,aaF _,fun _ h=>(by cases h),acY,fun _ h=>(by cases h)⟩ (by decide)
theorem FL{s:State}(h:dF s)(id:UInt64)(k:Int):dF (s.end_ id k).1:=by
 unfold State.end_;rcases vM s.aj id with⟨h1,h2⟩|⟨n,h1,h2,h3⟩
 ·rw[aaB h1];exact h
 rw[aar (by omega)];dsimp only;obtain⟨hj,hid⟩:=ud h3;generalize(bK s.aj id).1=j at*
 rw[h1,abk];have hsub:(s.aj.eraseIdx n).Sublist s.aj:=acu _ _;have hkeep:∀x∈s.aj,x.id≠id→x∈s.aj.eraseIdx n:=by
  intro x hx hne;obtain⟨i,hi⟩:=abJ hx;refine acJ.2 ⟨i,fun e=>?_,hi⟩;subst e;rw[h2]at hi;cases hi;exact hne hid
 have base:∀t:State,t.aj=s.aj.eraseIdx n→t.next=s.next→t.pool.nodes=s.pool.nodes→lU t.queue→(∀e∈t.queue,e∈s.queue∧e.id≠id)→dF t:=by
  intro t t1 t2 t3 t4 t5;refine⟨?_,?_,?_,?_,t4,?_,by rw[t3];exact h.ma⟩
  ·show(t.aj.map az.id).Nodup
   rw[t1];exact h.ids.sublist (hsub.map _)
  ·intro x hx;rw[t1]at hx;rw[t2];exact h.low x (hsub.subset hx)
  ·intro x hx;rw[t1]at hx;exact h.i7 x (hsub.subset hx)
  ·rw[t1];exact aaJ hsub.length_le h.len
  ·intro e he;obtain⟨hq,hne⟩:=t5 e he;obtain⟨x,hx,a,b,c⟩:=h.jy e hq;exact⟨x,by rw[t1];exact hkeep x hx (by rw[a];exact hne),a,b,c⟩
 cases hr:j.runs with
 |true=>
  dsimp only;obtain⟨hf,hfj,hfq⟩:=p8 s j;refine base _ (by show(s.cP j).aj.eraseIdx n=_;rw[hfj]) hf.next hf.nodes (by show lU (s.cP j).queue;rw[hfq];exact h.iM) fun e he=>?_
  have he:e∈s.queue:=by have he:e∈(s.cP j).queue:=he;rwa [hfq]at he
  refine⟨he,fun e'=>?_⟩;obtain⟨x,hx,a,b,c⟩:=h.jy e he;have:=n9 h.ids hx hj (a.trans (e'.trans hid.symm));subst this;rw[hr]at b;cases b
 |false=>
  dsimp only;rcases zw s.queue id with⟨q1,q2⟩|⟨m,y,q1,q2,q3⟩
  ·exact base _ rfl rfl rfl (by show lU (fJ s.queue id).1;rw[q1];exact h.iM) fun e he=>by
    have he:e∈(fJ s.queue id).1:=he;rw[q1]at he;exact⟨he,q2 e he⟩
  ·refine base _ rfl rfl rfl (by show lU (fJ s.queue id).1;rw[q1];exact h.iM.sublist (acu _ _)) fun e he=>?_
   have he:e∈(fJ s.queue id).1:=he;rw[q1]at he;refine⟨mem_erase he,fun e'=>?_⟩;obtain⟨i,hi,hei⟩:=acJ.1 he;exact hi (vI h hei q2 (e'.trans q3.symm))
theorem aad{s:State}(h:dF s)(id:UInt64):dF (gj s id):=by
 unfold gj;rcases vM s.aj id with⟨h1,h2⟩|⟨n,h1,h2,h3⟩
 ·rw[aaB h1];exact h
 rw[aar (by omega)];dsimp only;obtain⟨hj,hid⟩:=ud h3;generalize(bK s.aj id).1=j at*
 rw[h1,abk];have hset:=fun x=>Au (x:=x) (j':={j with left:=j.left-1}) h.ids h2 rfl
 have key:dF {s with aj:=s.aj.set n {j with left:=j.left-1}}:=by
  refine⟨by show(List.map az.id (s.aj.set n _)).Nodup;rw[uD (j':={j with left:=j.left-1}) az.id h2 rfl];exact h.ids,?_,?_,by show(s.aj.set n _).length≤32;rw[aaY];exact h.len,h.iM,?_,h.ma⟩
  ·intro x hx;rcases(hset x).1 hx with rfl|hx
   ·exact h.low j hj
   ·exact h.low x hx.1
  ·intro x hx;rcases(hset x).1 hx with rfl|hx
   ·exact h.i7 j hj
   ·exact h.i7 x hx.1
  ·intro e he;obtain⟨x,hx,a,b,c⟩:=h.jy e he;by_cases hxj:x.id=j.id
   ·have:=n9 h.ids hx hj hxj;subst this;exact⟨_,(hset _).2 (.inl rfl),a,b,c⟩
   ·exact⟨x,(hset x).2 (.inr ⟨hx,hxj⟩),a,b,c⟩
 split
 ·exact FL key id 3
 ·exact key
theorem dF.same{s t:State}(h:dF s)(hj:t.aj=s.aj)(hn:t.next=s.next)(hq:t.queue=s.queue)(hp:t.pool.nodes=s.pool.nodes):dF t:=
 ⟨by rw[hj];exact h.ids,by rw[hj,hn];exact h.low,by rw[hj];exact h.i7,by rw[hj];exact h.len,by rw[hq];exact h.iM,by rw[hq,hj];exact h.jy,by rw[hp];exact h.ma⟩
theorem Q4{s:State}(h:dF s):dF s.count:=by
 unfold State.count;have:dF {s with round:=s.round+1}:=h.same rfl rfl rfl rfl;generalize running s=l;generalize({s with round:=s.round+1}:State)=t at this;induction l generalizing t with
 |nil=>exact this
 |cons i l ih=>exact ih _ (aad this i)
theorem Jm{s:State}(h:dF s):dF s.tick∧nQ s.tick:=Nw (Q4 h)
theorem QZ{s:State}(h:dF s)(id:UInt64)(k:Int):dF (s.stop id k).1:=by
 refine(Fx (p:=(bK s.aj id).1.x.prio+1) (m:=0) h (aaF _) (fun e he=>by cases he) id k fun j hj e=>?_).inv;rw[← e,zd h.ids hj];dsimp only;omega
theorem C'{k:Int}:∀{l:List UInt64} {s:State},dF s→dF (l.foldl (fun s id=>(s.stop id k).1) s)
 | [],_,h=>h
 |i::l,_,h=>C' (l:=l) (QZ h i k)
theorem DH{x:Spec}(h:x.check=0):0≤x.count:=by
 unfold Spec.check within at h;cases h1:decide (1≤x.count)with
 |true=>have:=aat h1;omega
 |false=>
  rw[h1]at h;generalize mw x.path x.path=b at h;cases b<;>(dsimp only at h;exact absurd h (by decide))
theorem QH{s:State}(h:dF s)(x:Spec):dF (s.ew x).1:=by
 unfold State.ew;cases hc:decide (x.check=0)with
 |false=>exact h
 |true=>
 dsimp only;cases there s.tree x.path with
 |false=>exact h
 |true=>
 dsimp only;cases hl:decide (32≤(s.aj.length:Int))with
 |true=>exact h
 |false=>
 dsimp only;cases hn:decide (s.next=18446744073709551615)with
 |true=>exact h
 |false=>
 dsimp only;cases hq:decide ((fv s.queue ⟨s.next,x.prio⟩).2=0)with
 |false=>exact h
 |true=>
 dsimp only;have hcc:=DH (aat hc);have hl:=aaw hl;have hn:=aaw hn;have hn1:s.next.toNat+1<18446744073709551616:=by
  have h1:=s.next.toNat_lt;have h2:s.next.toNat≠18446744073709551615:=fun e=>hn (acZ.1 (by rw[e];rfl))
  omega
 have hnx:(s.next+1).toNat=s.next.toNat+1:=by
  rw[adM];show(s.next.toNat+1)%18446744073709551616=_
  omega
 have hnew:∀j∈s.aj,j.id≠s.next:=fun j hj e=>by have:=h.low j hj;rw[e]at this;omega
 show dF {s with queue:=(fv s.queue ⟨s.next,x.prio⟩).1,aj:=s.aj++[⟨s.next,x,false,0⟩],next:=s.next+1,events:=_}
 refine⟨?_,?_,?_,?_,?_,?_,h.ma⟩
 ·show((s.aj++[_]).map az.id).Nodup
  rw[aaC,List.nodup_append];refine⟨h.ids,adg.2 ⟨fun h=>(by cases h),acY⟩,fun a ha b hb=>?_⟩;obtain⟨j,hj,rfl⟩:=abc.1 ha;rw[aaZ,List.map_nil,aaD]at hb;subst hb;exact hnew j hj
 ·intro j hj;show j.id.toNat<(s.next+1).toNat
  rw[hnx];rcases aaN.1 hj with hj|hj
  ·have:=h.low j hj;omega
  ·rw[aaD.1 hj];dsimp only;omega
 ·intro j hj;rcases aaN.1 hj with hj|hj
  ·exact h.i7 j hj
  ·rw[aaD.1 hj];exact hcc
 ·show(s.aj++[_]).length≤32
  rw[aap,abo];omega
 ·show lU (fv s.queue ⟨s.next,x.prio⟩).1
  rcases Bq s.queue ⟨s.next,x.prio⟩with e|⟨e,hne⟩
  ·rw[e];exact h.iM
  ·rw[e];exact FR h.iM hne
 ·intro e he;have old:e∈s.queue→∃j∈s.aj++[⟨s.next,x,false,0⟩],j.id=e.id∧j.runs=false∧j.x.prio=e.prio:=fun he=>by
   obtain⟨j,hj,a⟩:=h.jy e he;exact⟨j,abR _ hj,a⟩
  have he:e∈(fv s.queue ⟨s.next,x.prio⟩).1:=he;rcases Bq s.queue ⟨s.next,x.prio⟩with e'|⟨e',_⟩
  ·rw[e']at he;exact old he
  ·rw[e']at he;rcases HY.1 he with rfl|he
   ·exact⟨_,acr _ (aaD.2 rfl),rfl,rfl,rfl⟩
   ·exact old he
theorem Fb(p:aW)(name:BA)(up:Bool):(p.turn name up).1.nodes.map Node.name=p.nodes.map Node.name:=by
 unfold aW.turn;cases hlt:decide (p.at name<0)with
 |true=>rfl
 |false=>
  dsimp only;cases(p.find name).1.up==up with
  |true=>rfl
  |false=>
   dsimp only;unfold aW.at aW.find at*
   rcases l9 (fun n:Node=>seq n.name name) p.nodes 0 with⟨h1,h2⟩|⟨m,x,h1,h2,h3⟩
   ·have h1:idx (fun n:Node=>seq n.name name) p.nodes 0=-1:=h1;rw[h1]at hlt;cases hlt
   ·have h1:idx (fun n:Node=>seq n.name name) p.nodes 0=(m:Int):=h1.trans (by rw[aav]);rw[h1,h3,abk];dsimp only;apply acG;intro i;rw[aaT,aaT,acd];split
    ·rename_i e;subst e;rw[abb (aaq.1 h2).1,h2];rfl
    ·rfl
theorem Sy{p:aW}(h:(p.nodes.map Node.name).Nodup)(n:Node):((p.add n).1.nodes.map Node.name).Nodup:=by
 unfold aW.add;cases cQ n.name with
 |false=>exact h
 |true=>
 dsimp only;cases gl n.labels with
 |false=>exact h
 |true=>
 dsimp only;cases hp:decide (0≤p.at n.name)with
 |true=>exact h
 |false=>
 dsimp only;cases decide (16≤(p.nodes.length:Int))with
 |true=>exact h
 |false=>
 dsimp only;have hn:∀x∈p.nodes,seq x.name n.name=false:=KA _ p.nodes 0 hp;have hperm:(p.nodes.take (pf p.nodes n.name)++{n with up:=true}::p.nodes.drop (pf p.nodes n.name)).Perm ({n with up:=true}::p.nodes):=by
  refine List.perm_middle.trans ?_;rw[abD]
 refine(hperm.map Node.name).nodup_iff.2 ?_;rw[aaZ,adg];refine⟨fun hm=>?_,h⟩;obtain⟨x,hx,e⟩:=abc.1 hm;have:=hn x hx;rw[jJ.2 e]at this;cases this
end
end Go.Proofs.YtbnonpbnhenkfaaGreatDoor
