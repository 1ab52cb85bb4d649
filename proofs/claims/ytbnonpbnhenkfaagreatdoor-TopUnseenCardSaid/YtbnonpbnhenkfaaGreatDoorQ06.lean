/- Part 6 of the proof; the last part says what is proved. -/
import Derived.Test.YtbnonpbnhenkfaaGreatDoorQ05
import Derived.Lib.OthersKept
import Derived.Laws.RangeAny
import Derived.Shelf.Strings.Split
import Derived.Shelf.Strings.OnBuilder
set_option linter.all false
set_option maxRecDepth 1000000
set_option maxHeartbeats 8000000
namespace Go.Proofs.YtbnonpbnhenkfaaGreatDoor
section
open Go.Shelf Go.RowKit Go.Proofs.Tryz
def rG(w:World)(g:Nat)(l:List gO):Prop:=∀j (h:j<l.length),w.cell? ⟨g,j*2,none⟩=some (.int .i32 l[j].lo)/\w.cell? ⟨g,j*2+1,none⟩=some (.int .i32 l[j].hi)
theorem rG.below{w x:World}{B g:Nat}{l:List gO}(h:rG w g l)(hb:Below B w x)(a:g<B):rG x g l:=λj b=>
 ⟨(hb.cell (p:=⟨g,j*2,none⟩) a).trans (h j b).1,(hb.cell (p:=⟨g,j*2+1,none⟩) a).trans (h j b).2⟩
def adS:∀args w,(callFunc 214 args).run prog w=.ok (.enter 214 args) w:=by
 intro args w;exact enters_of func214 (by kernel_rfl) rr args w
def aiq(x:gO)(r:Int)(g:Nat)(w:World)(f:w.cell? ⟨g,0,none⟩=some (.int .i32 r))(h:g<w.heap.size):
 Calls prog 214 #[x.val,.pointer (some ⟨g,0,none⟩)] w λe w'=>e=.returned (.bool (Wd.wh r x))/\Below w.heap.size w w':=by
 obtain⟨lo,hi⟩:=x
 have a:=Lib.hid (show Wd.wh r ⟨lo,hi⟩=(decide (lo<=r)&&decide (r<=hi))from rr)
 generalize Wd.wh r ⟨lo,hi⟩=q at a⊢
 unfold gO.val gO.cells
 go_enter func214,ntmps214
 go_upto_region 1 with fail
 have dU:Below w.heap.size w (w.alloc (.cells #[.int .i32 lo,.int .i32 hi] 243)):=(Below.refl _ _).alloc (j2 _) _
 have c0:(w.alloc (.cells #[.int .i32 lo,.int .i32 hi] 243)).cell? ⟨w.heap.size,0,none⟩=some (.int .i32 lo):=by rw[World.cell?_alloc_mark];rfl
 have c1:(w.alloc (.cells #[.int .i32 lo,.int .i32 hi] 243)).cell? ⟨w.heap.size,1,none⟩=some (.int .i32 hi):=by rw[World.cell?_alloc_mark];rfl
 have b:=(dU.cell (p:=⟨g,0,none⟩) h).trans f
 generalize w.alloc (.cells #[.int .i32 lo,.int .i32 hi] 243)=x at dU c0 c1 b⊢
 clear f h
 by_cases h1:lo<=r
 ·have c:decide (lo<=r)=true:=l9 h1
  by_cases h2:r<=hi
  ·have d:decide (r<=hi)=true:=l9 h2
   go_wp2_with fail
   go_ret
   exact⟨lK (by rw[a.out];simp[h1,h2]),dU⟩
  ·have d:decide (r<=hi)=false:=j1 h2
   go_wp2_with fail
   go_ret
   exact⟨lK (by rw[a.out];simp[h1,h2]),dU⟩
 ·have c:decide (lo<=r)=false:=j1 h1
  go_wp2_with fail
  go_ret
  exact⟨lK (by rw[a.out];simp;omega),dU⟩
def Pg(r:Int)(g n:Nat)(l:List gO)(w:World)(v:l.length=n)(z:n<=100)(f:rG w g l)(s:g<w.heap.size):
 Calls prog 149 #[.int .i32 r,.slice (some ⟨g,0,none⟩) n n] w λe w'=>e=.returned (.bool (Wd.vo r l))/\Below w.heap.size w w':=by
 have t:∀(fn:Fn) (first cap:Array Value) (w:World),(Instr.makeFunc fn first cap).run prog w=.ok (.func fn first cap) w:=λ_ _ _ _=>rfl
 have o:=Lib.hid (show Wd.vo r l=l.any (Wd.wh r)from rr)
 go_enter func149,ntmps149
 go_upto_region 1 with fail
 have dU:Below w.heap.size w (w.alloc (.cells #[.int .i32 r] 21)):=(Below.refl _ _).alloc (j2 _) _
 have c0:(w.alloc (.cells #[.int .i32 r] 21)).cell? ⟨w.heap.size,0,none⟩=some (.int .i32 r):=by rw[World.cell?_alloc_mark];rfl
 have b:w.heap.size<(w.alloc (.cells #[.int .i32 r] 21)).heap.size:=by simp
 generalize w.alloc (.cells #[.int .i32 r] 21)=x at dU c0 b⊢
 have c:=f.below dU s
 have HC:=Lib.hid (AnyQ.slices_ContainsFunc ahP 2 isAgg243 sizeOf243 gO.cells (λ_=>rfl) (Wd.wh r) 214 #[.pointer (some ⟨w.heap.size,0,none⟩)] adS g 0 n n l x
  (λW y hb=>(aiq y r w.heap.size W ((hb.cell (p:=⟨w.heap.size,0,none⟩) b).trans c0) (u9 b hb.size)).mono λe w' h=>⟨h.1,hb.trans (h.2.mono hb.size)⟩)
  om om (by have:=dU.size;omega)
  (λj k i u a=>by
    have h:=c j k
    rw[getElem!_pos l j k]at a
    rw[j7]
    match i,a with
    |0,a=>cases a;exact h.1
    |1,a=>cases a;exact h.2
    |i+2,a=>cases a))
 rw[u5 om]at HC
 have m:=Lib.hid dU
 clear c f c0 dU
 generalize l.any (Wd.wh r)=q at HC o
 go_wp2_with (go_at_call 213;refine HC.out.mono ?_;rintro e u ⟨rfl,d⟩)
 go_ret
 exact⟨lK o.out.symm,m.out.trans (d.mono m.out.size)⟩
theorem aiW(s:ByteArray)(w:World)(hs:s.size<9223372036854775807):
 Calls prog 215 #[.string s] w λe w'=>e=.returned (.int .i64 (Lib.runeCount s))/\Below w.heap.size w w':=by
 go_enter func215,ntmps215
 go_wp2
 go_loopw [2] (λn w'=>∃(dH b acc:Nat),w'=w.iter s dH/\n=.int .i64 acc/\acc+Lib.runeCountFrom s b dH=Lib.runeCount s/\s.size<=dH+b/\acc<=dH) (λ_ w'=>s.size-w'.iterPos w.heap.size)
 case atStart=>exact⟨0,s.size,0,rr,rr,by simp[Lib.runeCount],om,j2 _⟩
 case round=>
  obtain⟨dH,b,acc,rfl,rfl,hc,hb,ha⟩:=hrel
  by_cases hp:dH<s.size
  ·have hnx:∀ty,(Instr.next (.pointer (some ⟨w.heap.size,0,none⟩)) true ty).run prog (w.iter s dH)=_:=λty=>run_next_any w s dH ty hp
   have hwd:=Lib.decode_width_pos s dH hp
   go_wp2
   go_roundw
   case rel=>
    cases b with
    |zero=>omega
    |succ b=>
     refine⟨dH+(Utf8.decode s dH).2,b,acc+1,rr,by go_num,?_,om,om⟩
     rw[<-hc]
     simp[Lib.runeCountFrom,hp]
     omega
   case measure=>
    simp
    omega
  ·have hnx:∀ty,(Instr.next (.pointer (some ⟨w.heap.size,0,none⟩)) true ty).run prog (w.iter s dH)=_:=λty=>run_next_end w s dH ty hp
   go_wp2
   go_ret
   rw[Lib.runeCountFrom_end s b dH hp,D0]at hc
   subst hc
   exact⟨rr,(Below.refl _ _).alloc (j2 _) _⟩
def abv(s:ByteArray)(w:World)(b:s.size<9223372036854775807):
 Calls prog 150 #[.string s] w λe w'=>e=.returned (.int .i64 (Lib.runeCount s))/\Below w.heap.size w w':=by
 have H:=Lib.hid (λy=>aiW s y b)
 go_enter func150,ntmps150
 go_wp2_with (go_at_call 215;refine(H.out _).mono ?_;rintro e u ⟨rfl,a⟩)
 go_ret
 exact⟨rr,a⟩
structure Rr(w x:World)(s:ByteArray)(dH:Nat):Prop where
 it:x.heap[w.heap.size]? = some (.stringIter s dH)
 b:Below w.heap.size w x
def Rr.lt{w x:World}{s:ByteArray}{dH:Nat}(h:Rr w x s dH):w.heap.size<x.heap.size:=(u7.1 h.it).1
theorem Rr.below{w x y:World}{s:ByteArray}{dH:Nat}(h:Rr w x s dH)(hb:Below x.heap.size x y):Rr w y s dH:=⟨(hb.block _ h.lt).trans h.it,h.b.trans (hb.mono h.b.size)⟩
theorem Rr.next{w x:World}{s:ByteArray}{dH:Nat}(h:Rr w x s dH)(q:Nat):Rr w (x.iterAt w.heap.size s q) s q:=⟨Lib.iterAt_heap _ _ _ _ _ h.it,Lib.below_iterAt h.b (j2 _) s q⟩
def Rr.dH{w x:World}{s:ByteArray}{dH:Nat}(h:Rr w x s dH):x.iterPos w.heap.size=dH:=by simp[World.iterPos,h.it]
theorem aiB(s:ByteArray)(w:World)(hs:s.size<9223372036854775807)(hA:rG w 2 Wd.letters)(hB:rG w 3 Wd.pC)(lA:2<w.heap.size)(lB:3<w.heap.size):
 Calls prog 68 #[.string s] w λe w'=>e=.returned (.bool (Wd.right s))/\Below w.heap.size w w':=by
 have HAL:=Lib.hid (λr y (hb:Below w.heap.size w y)=>Pg r 2 3 Wd.letters y rr om (hA.below hb lA) (u9 lA hb.size))
 have HAM:=Lib.hid (λr y (hb:Below w.heap.size w y)=>Pg r 3 2 Wd.pC y rr om (hB.below hb lB) (u9 lB hb.size))
 have HCT:=Lib.hid (λy=>abv s y hs)
 have HRG:=Lib.hid (show Wd.right s=(Wd.sr s s.size 0&&(decide (0<s.size)&&decide (Lib.runeCount s<=16)))from rr)
 generalize Wd.right s=q at HRG⊢
 have hrc:=Lib.runeCount_le s
 generalize Lib.runeCount s=rc at HCT HRG hrc
 clear hA hB
 go_enter func68,ntmps68
 go_wp2_with fail
 go_loopw [4] (λ_ wr=>∃(dH f:Nat),Rr w wr s dH/\Wd.sr s s.size 0=Wd.sr s f dH/\s.size<=dH+f) (λ_ wr=>s.size-wr.iterPos w.heap.size)
 case atStart=>exact⟨0,s.size,⟨World.iter_heap w s 0,(Below.refl _ _).alloc (j2 _) _⟩,rr,om⟩
 case round=>
  obtain⟨dH,f,hR,hok,hf⟩:=hrel
  have hpos:=hR.dH
  by_cases hp:dH<s.size
  ·have hnx:∀ty,(Instr.next (.pointer (some ⟨w.heap.size,0,none⟩)) true ty).run prog wr=_:=λty=>Lib.run_next_any_at wr w.heap.size s dH ty hR.it hp
   have hwd:=Lib.decode_width_pos s dH hp
   have hR2:=hR.next (dH+(Utf8.decode s dH).2)
   have hok2:Wd.sr s f dH=(if !(Wd.vo ((Utf8.decode s dH).1:Int) Wd.letters)&&(decide (dH=0)||!(Wd.vo ((Utf8.decode s dH).1:Int) Wd.pC))then false else Wd.sr s (f-1) (dH+(Utf8.decode s dH).2)):=by
    cases f with
    |zero=>omega
    |succ f=>rw[Wd.sr,z7 hp];rfl
   generalize(Utf8.decode s dH).1=rn at hnx hok2
   generalize(Utf8.decode s dH).2=wd at hnx hok2 hR2 hwd
   obtain⟨np,hnp⟩:∃np,dH+wd=np:=⟨_,rfl⟩
   rw[hnp]at hok2 hR2
   simp only[hnp]at hnx
   have L1:=Lib.hid (HAL.out (rn:Int))
   have M1:=Lib.hid (HAM.out (rn:Int))
   generalize Wd.vo (rn:Int) Wd.letters=bl at L1 hok2
   generalize Wd.vo (rn:Int) Wd.pC=bm at M1 hok2
   have HR2:=Lib.hid hR2
   have HOK:=Lib.hid (hok.trans hok2)
   clear hok hok2 hR2 hR
   cases bl
   case true=>
    go_wp2_with (first
     |(go_at_call 149;(with_reducible refine(L1.out _ HR2.out.b).mono ?_);rintro e y ⟨rfl,hby⟩))
    have h3:=HR2.out.below hby
    refine⟨⟨np,f-1,h3,by rw[HOK.out];simp,om⟩,by rw[h3.dH,hpos];omega⟩
   by_cases h0:dH=0
   ·subst h0
    go_wp2_with (first
     |(go_at_call 149;(with_reducible refine(L1.out _ HR2.out.b).mono ?_);rintro e y ⟨rfl,hby⟩))
    go_ret
    exact⟨lK (by rw[HRG.out,HOK.out];simp),(HR2.out.below hby).b⟩
   ·have h0':¬(dH:Int)=0:=om
    cases bm
    case true=>
     go_wp2_with (first
      |(go_at_call 149;(with_reducible refine(L1.out _ HR2.out.b).mono ?_);rintro e y ⟨rfl,hby⟩;have HR3:=Lib.hid (HR2.out.below hby))
      |(go_at_call 149;(with_reducible refine(M1.out _ HR3.out.b).mono ?_);rintro e z ⟨rfl,hbz⟩))
     have h3:=HR3.out.below hbz
     refine⟨⟨np,f-1,h3,by rw[HOK.out];simp[h0],om⟩,by rw[h3.dH,hpos];omega⟩
    go_wp2_with (first
     |(go_at_call 149;(with_reducible refine(L1.out _ HR2.out.b).mono ?_);rintro e y ⟨rfl,hby⟩;have HR3:=Lib.hid (HR2.out.below hby))
     |(go_at_call 149;(with_reducible refine(M1.out _ HR3.out.b).mono ?_);rintro e z ⟨rfl,hbz⟩))
    go_ret
    exact⟨lK (by rw[HRG.out,HOK.out];simp),(HR3.out.below hbz).b⟩
  ·have hnx:∀ty,(Instr.next (.pointer (some ⟨w.heap.size,0,none⟩)) true ty).run prog wr=_:=λty=>Lib.run_next_end_at wr w.heap.size s dH ty hR.it hp
   have hok2:Wd.sr s f dH=true:=by
    cases f with
    |zero=>rfl
    |succ f=>rw[Wd.sr,y8 hp]
   have HB:=Lib.hid hR.b
   rw[hok,hok2]at HRG
   clear hok hok2 hR
   by_cases h0:0<s.size
   ·have hemp:s.toList.isEmpty=false:=by
     rw[ByteArray.toList_eq]
     have:0<s.data.toList.length:=h0
     cases hq:s.data.toList with
     |nil=>rw[hq]at this;simp at this
     |cons a l=>rfl
    go_wp2_with (go_at_call 150;(with_reducible refine(HCT.out _).mono ?_);rintro e y ⟨rfl,hby⟩)
    go_ret
    exact⟨lK (by rw[HRG.out];simp[h0];omega),HB.out.trans (hby.mono HB.out.size)⟩
   ·have hemp:s.toList.isEmpty=true:=by
     rw[ByteArray.toList_eq]
     have:s.data.toList.length=0:=by
      have h1:s.data.toList.length=s.size:=by simp
      omega
     rw[B5.1 this];rfl
    go_wp2_with fail
    go_ret
    exact⟨lK (by rw[HRG.out];simp[h0]),HB.out⟩
end
end Go.Proofs.YtbnonpbnhenkfaaGreatDoor
section
namespace Go.Proofs
open Go.Shelf
def Tryz.ana:Go.Shelf.Ren:=⟨fun|146=>238|221=>293|268=>346|138=>347|143=>348|195=>215|197=>379|218=>380|219=>381|260=>401|217=>402|225=>403|224=>404|267=>405|266=>420|314=>421|n=>n,fun|9=>9|31=>25|3=>3|4=>4|0=>0|105=>473|21=>21|5=>5|46=>304|119=>512|139=>515|138=>514|146=>455|51=>308|n=>n,fun|1=>6|3=>7|4=>8|n=>n⟩
def Tryz.ZA:Go.Proofs.Lays.n146 Tryz.prog Tryz.ana:={
 mixed:=by kernel_rfl
 f138:=Tryz.func347.trans (congrArg some (by kernel_rfl))
 f143:=Tryz.func348.trans (congrArg some (by kernel_rfl))
 f146:=Tryz.func238.trans (congrArg some (by kernel_rfl))
 f195:=Tryz.func215.trans (congrArg some (by kernel_rfl))
 f197:=Tryz.func379.trans (congrArg some (by kernel_rfl))
 f217:=Tryz.func402.trans (congrArg some (by kernel_rfl))
 f218:=Tryz.func380.trans (congrArg some (by kernel_rfl))
 f219:=Tryz.func381.trans (congrArg some (by kernel_rfl))
 f221:=Tryz.func293.trans (congrArg some (by kernel_rfl))
 f224:=Tryz.func404.trans (congrArg some (by kernel_rfl))
 f225:=Tryz.func403.trans (congrArg some (by kernel_rfl))
 f260:=Tryz.func401.trans (congrArg some (by kernel_rfl))
 f266:=Tryz.func420.trans (congrArg some (by kernel_rfl))
 f267:=Tryz.func405.trans (congrArg some (by kernel_rfl))
 f268:=Tryz.func346.trans (congrArg some (by kernel_rfl))
 f314:=Tryz.func421.trans (congrArg some (by kernel_rfl))
 t0:=Tryz.underlying0
 a0:=Tryz.isAgg0
 z0:=Tryz.sizeOf0
 v0:=Tryz.zeroValue0
 t3:=Tryz.underlying3
 a3:=Tryz.isAgg3
 z3:=Tryz.sizeOf3
 v3:=Tryz.zeroValue3
 t4:=Tryz.underlying4
 a4:=Tryz.isAgg4
 z4:=Tryz.sizeOf4
 v4:=Tryz.zeroValue4
 t5:=Tryz.underlying5
 a5:=Tryz.isAgg5
 z5:=Tryz.sizeOf5
 v5:=Tryz.zeroValue5
 t9:=Tryz.underlying9
 a9:=Tryz.isAgg9
 z9:=Tryz.sizeOf9
 v9:=Tryz.zeroValue9
 t21:=Tryz.underlying21
 a21:=Tryz.isAgg21
 z21:=Tryz.sizeOf21
 v21:=Tryz.zeroValue21
 t31:=Tryz.underlying25
 a31:=Tryz.isAgg25
 z31:=Tryz.sizeOf25
 v31:=Tryz.zeroValue25
 t46:=Tryz.underlying304
 a46:=Tryz.isAgg304
 z46:=Tryz.sizeOf304
 v46:=Tryz.zeroValue304
 t51:=Tryz.underlying308
 a51:=Tryz.isAgg308
 z51:=Tryz.sizeOf308
 v51:=Tryz.zeroValue308
 t105:=Tryz.underlying473
 a105:=Tryz.isAgg473
 z105:=Tryz.sizeOf473
 v105:=Tryz.zeroValue473
 t119:=Tryz.underlying512
 a119:=Tryz.isAgg512
 z119:=Tryz.sizeOf512
 t138:=Tryz.underlying514
 a138:=Tryz.isAgg514
 z138:=Tryz.sizeOf514
 v138:=Tryz.zeroValue514
 t139:=Tryz.underlying515
 a139:=Tryz.isAgg515
 z139:=Tryz.sizeOf515
 v139:=Tryz.zeroValue515
 t146:=Tryz.underlying455
 a146:=Tryz.isAgg455
 z146:=Tryz.sizeOf455
 v146:=Tryz.zeroValue455
 g1:=by kernel_rfl
 g3:=by kernel_rfl
 g4:=by kernel_rfl}
open Go.RowKit in
def Tryz.strings_Split(s eW:ByteArray)(m:Int)(w:World)(a:s.size<4294967281)(b:w.cell? ⟨6,0,none⟩=some (.int .i64 m))(h1:1<=eW.size):
 Calls Tryz.prog 238 #[.string s,.string eW] w λe w'=>
  e=.returned (.slice (some ⟨w.heap.size,0,none⟩) (Lib.countB s eW+1) (Lib.countB s eW+1))/\w'=w.alloc (.cells ((Lib.splitB eW 0 (Lib.countB s eW) s).map Value.string).toArray 9):=Any.strings_Split Tryz.ZA (by kernel_rfl) s eW m w a b h1
def Tryz.VL:Go.Shelf.Ren:=⟨fun|156=>171|165=>240|166=>241|169=>242|240=>294|241=>295|276=>349|277=>350|n=>n,fun|31=>25|9=>9|3=>3|4=>4|0=>0|20=>20|72=>341|76=>345|70=>339|37=>116|75=>344|127=>407|164=>441|5=>5|80=>228|n=>n,fun|n=>n⟩
def Tryz.alL:Go.Proofs.Lays.n156 Tryz.prog Tryz.VL:={
 mixed:=by kernel_rfl
 f156:=Tryz.func171.trans (congrArg some (by kernel_rfl))
 f165:=Tryz.func240.trans (congrArg some (by kernel_rfl))
 f166:=Tryz.func241.trans (congrArg some (by kernel_rfl))
 f169:=Tryz.func242.trans (congrArg some (by kernel_rfl))
 f240:=Tryz.func294.trans (congrArg some (by kernel_rfl))
 f241:=Tryz.func295.trans (congrArg some (by kernel_rfl))
 f276:=Tryz.func349.trans (congrArg some (by kernel_rfl))
 f277:=Tryz.func350.trans (congrArg some (by kernel_rfl))
 t0:=Tryz.underlying0
 a0:=Tryz.isAgg0
 z0:=Tryz.sizeOf0
 v0:=Tryz.zeroValue0
 t3:=Tryz.underlying3
 a3:=Tryz.isAgg3
 z3:=Tryz.sizeOf3
 v3:=Tryz.zeroValue3
 t4:=Tryz.underlying4
 a4:=Tryz.isAgg4
 z4:=Tryz.sizeOf4
 v4:=Tryz.zeroValue4
 t9:=Tryz.underlying9
 a9:=Tryz.isAgg9
 z9:=Tryz.sizeOf9
 v9:=Tryz.zeroValue9
 t20:=Tryz.underlying20
 a20:=Tryz.isAgg20
 z20:=Tryz.sizeOf20
 v20:=Tryz.zeroValue20
 t31:=Tryz.underlying25
 a31:=Tryz.isAgg25
 z31:=Tryz.sizeOf25
 v31:=Tryz.zeroValue25
 t37:=Tryz.underlying116
 a37:=Tryz.isAgg116
 z37:=Tryz.sizeOf116
 v37:=Tryz.zeroValue116
 t70:=Tryz.underlying339
 a70:=Tryz.isAgg339
 z70:=Tryz.sizeOf339
 v70:=Tryz.zeroValue339
 t72:=Tryz.underlying341
 a72:=Tryz.isAgg341
 z72:=Tryz.sizeOf341
 v72:=Tryz.zeroValue341
 t75:=Tryz.underlying344
 a75:=Tryz.isAgg344
 z75:=Tryz.sizeOf344
 v75:=Tryz.zeroValue344
 t76:=Tryz.underlying345
 a76:=Tryz.isAgg345
 z76:=Tryz.sizeOf345
 v76:=Tryz.zeroValue345
 t127:=Tryz.underlying407
 a127:=Tryz.isAgg407
 z127:=Tryz.sizeOf407
 v127:=Tryz.zeroValue407
 t164:=Tryz.underlying441
 a164:=Tryz.isAgg441
 z164:=Tryz.sizeOf441
 v164:=Tryz.zeroValue441}
def Tryz.ajj:Builder.Extra Tryz.prog Tryz.VL:={
 sizeBuilder:=by kernel_rfl
 liesBuilder:=by kernel_rfl
 t5:=Tryz.underlying5
 a5:=Tryz.isAgg5
 z5:=Tryz.sizeOf5
 v5:=Tryz.zeroValue5
 infoByte:=by kernel_rfl
 cellsByte:=by kernel_rfl
 sizeByte:=by kernel_rfl
 neB5:=by decide}
open Go.RowKit in
def Tryz.strings_Join(f o c:Nat)(xs:List ByteArray)(eW:ByteArray)(w:World)
 (a:∀(j:Nat) x,xs[j]? = some x->w.cell? ⟨f,o+j,none⟩=some (.string x))
 (g:f<w.heap.size) (h:xs.length<=140737488355328) (b:xs.length<=c)
 (d:(Lib.join (xs.map (·.data.toList)) eW.data.toList).length<=140737488355328):
 Calls Tryz.prog 171 #[.slice (some ⟨f,o,none⟩) xs.length c,.string eW] w λe w'=>e=.returned (.string ⟨(Lib.join (xs.map (·.data.toList)) eW.data.toList).toArray⟩)/\Below w.heap.size w w':=Any.strings_Join Tryz.alL Tryz.ajj f o c xs eW w a g h b d
end Go.Proofs
end
namespace Go.Proofs.YtbnonpbnhenkfaaGreatDoor
section
open Go.RowKit Go.Proofs.Tryz
def Yq{f:FuncId}{fn:Func}{args:List PV}{r:PV}(a:prog.funcs[f]? = some fn)(b:(fn.name== "runtime.NumGoroutine")=false)(hb:fn.body.isSome=true)(d:sM args=true)(j:vO r=true)
 (h:∀w,jz w->Calls prog f (bJ args).toArray w λe w'=>e=.returned (val r)/\Below w.heap.size w w'):PC f args (·=r):=by
 obtain⟨c,g⟩:=K3.1 hb
 refine⟨enters_of a b g,λw Z vs i _ hv=>?_⟩
 rw[xq args d hv]
 refine(h w i).mono ?_
 grind [JI]
def jz.letters{w:World}(h:jz w):rG w 2 Wd.letters:=by
 have a:=h.qh (2,Wd.letters.flatMap gO.cells) (by grind [jY]);intro j b;have:j=0\/j=1\/j=2:=by have:j<3:=b;omega
 rcases this with rfl|rfl|rfl
 ·exact⟨a 0 _ rr,a 1 _ rr⟩
 ·exact⟨a 2 _ rr,a 3 _ rr⟩
 ·exact⟨a 4 _ rr,a 5 _ rr⟩
def jz.pC{w:World}(h:jz w):rG w 3 Wd.pC:=by
 have a:=h.qh (3,Wd.pC.flatMap gO.cells) (by grind [jY]);intro j b;have:j=0\/j=1:=by have:j<2:=b;omega
 rcases this with rfl|rfl
 ·exact⟨a 0 _ rr,a 1 _ rr⟩
 ·exact⟨a 2 _ rr,a 3 _ rr⟩
def qO(s:BA)(b:s.size<=4294967280):PC 68 [st s] (·=bo (d_ s)):=by
 refine Yq func68 rr rr rr rr λw a=>?_
 have h1:=a.lt (2,Wd.letters.flatMap gO.cells) (by grind [jY]);have h2:=a.lt (3,Wd.pC.flatMap gO.cells) (by grind [jY]);exact aiB s w om a.letters a.pC h1 h2
def MU{c:RC}:∀l:List BA,aM (l.map st) c (l.map Value.string)
 | []=>rfl
 |_::l=>⟨_,_,rr,⟨rr,rr⟩,MU l⟩
def ML{c:RC}:∀(l:List BA) {vs:List Value},aM (l.map st) c vs->vs=l.map Value.string
 | [],_,h=>h
 |_::l,_,⟨v,a,e,r1,r2⟩=>by rw[e,r1.1,ML l r2];rfl
theorem Gu:∀l:List BA,bV (l.map Value.string)=l.map Value.string
 | []=>rfl
 |x::l=>by show[Value.string x]++bV (l.map Value.string)=_;rw[Gu l];rfl
def ajq(s:BA)(c:s.size<4294967281):PC 238 [st s,st iG] (·=sl st (jE s)):=by
 refine⟨enters_of func238 rr rr,λw Z vs d g hv=>?_⟩;rw[xq [st s,st iG] rr hv];obtain⟨m,f⟩:=d.mx;refine(strings_Split s iG m w c f (by decide)).mono ?_;rintro e w' ⟨rfl,rfl⟩;have a:(jE s).length=Lib.countB s iG+1:=Lib.splitB_all iG (by decide) 0 _ s rr;refine⟨sl st (jE s),_,rr,rr,⟨(jE s).map Value.string,MU _,some ⟨w.heap.size,0,none⟩,Lib.countB s iG+1,by simp_all,by simp_all,(λe=>by cases e),.inr ⟨w.heap.size,0,1,rr,λx b=>?_,λi x b=>⟨.inr ⟨j2 _,by simp_all⟩,?_⟩⟩⟩,(Below.refl _ _).alloc (j2 _) _⟩
 ·obtain⟨y,_,rfl⟩:=y9.1 b;rfl
 grind [Wa,jE,Gu]
def Oh(eW:List UInt8)(B:Nat):∀l:List (List UInt8),(∀x∈l,x.length<=B)->(Lib.join l eW).length<=l.length*(B+eW.length)
 | [],_=>j9 _
 | [x],h=>by
  grind [Lib.join_one]
 |x::y::l,h=>by
  have b:=Oh eW B (y::l) λz a=>h z (j3 _ a)
  grind [Lib.join,List.intercalate,List.intersperse,Nat.add_mul]
def adV(l:List BA)(h0:l≠[])(B:Nat)(p:∀x∈l,x.size<=B)(i:l.length*(B+1)<=140737488355328)(q:l.length<=67108864):PC 171 [sl st l,st iG] (·=st (lR l)):=by
 refine⟨enters_of func171 rr rr,λw Z vs r s hv=>?_⟩;obtain⟨v,n,rfl,⟨us,r1,a,cap,rfl,f,_,m⟩,v2,o,rfl,r2,rfl⟩:=hv;obtain rfl:=ML l r1;rw[r2.1];rw[c8]at f⊢;rcases m with m|⟨b,off,k,rfl,_,d⟩
 ·simp_all
 have c:∀(j:Nat) x,l[j]? = some x->w.cell? ⟨b,off+j,none⟩=some (.string x):=λj x g=>(d j _ (by grind [Gu])).2
 have h:b<w.heap.size:=by
  obtain⟨x,g⟩:∃x,l[0]? = some x:=by cases l<;>simp_all
  exact World.block_lt_of_cell? _ _ (c 0 x g)
 refine(strings_Join b off cap l iG w c h om f ?_).mono ?_
 ·refine r8 (Oh [47] B _ λx g=>?_) (by simp_all);obtain⟨y,t,rfl⟩:=y9.1 g;simp_all
 ·rintro e w' ⟨rfl,hb⟩;exact⟨st (lR l),_,rr,rr,⟨rr,rr⟩,hb⟩
def KD(eW:ByteArray):∀(k:Nat) (s:ByteArray),∀x∈Lib.splitB eW 0 k s,x.size<=s.size
 |0,s,x,h=>by rw[o6.1 h];omega
 |k+1,s,x,h=>by
  unfold Lib.splitB at h
  split at h
  ·simp_all
  ·rcases p9.1 h with rfl|h
   ·grind [ByteArray.size_extract]
   ·have:=KD eW k _ x h
    grind [ByteArray.size_extract]
def YO(s:BA):(jE s).length<=s.size+1:=by
 have h1:(jE s).length=Lib.countB s iG+1:=Lib.splitB_all iG (by decide) 0 _ s rr;have:=Lib.countB_le iG (by decide) s.size s (j2 _);omega
theorem T_(s:BA):ez s=[]\/(ez s=jE s/\(jE s).length<=3):=by grind [ez]
theorem Yy(s:BA):(ez s).length<=3:=by grind [T_]
def aaT(s:BA):∀x∈ez s,x.size<=s.size:=by
 rcases T_ s with h|⟨h,h2⟩
 ·simp_all
 ·rw[h];exact KD iG _ s
def ag8(n:BA)(a:n.size<=1000000):PC 239 [st n] (·=bo (!d_ n)):=aw func239<|ak (qO n om) rfl<|ah
def Qp(s:BA)(a:s.size<=1000000):PC 170 [st s] (·=sl st (ez s)):=by
 refine aw func170<|ak (ajq s om) rr ?_;have d:=YO s;have b:((jE s).map st).length=(jE s).length:=c8 ..;refine aj.aN (λh1=>?_) (λh1=>?_)
 ·have e:ez s=[]:=by grind [ez]
  rw[e];exact an<|ah
 ·rw[b]at h1;refine ak (Fv dx.no (jE s) (λn=>!d_ n) om λx c=>ag8 x (r8 (KD iG _ s x c) a)) rr ?_;cases h2:(jE s).any λn=>!d_ n
  case true=>
   have e:ez s=[]:=by grind [ez]
   rw[e];exact an<|ah
  have e:ez s=jE s:=by grind [ez]
  rw[e];exact ab<|ah
def tg(s:BA)(q:Nat):List BA:=(List.range q).map λk=>lR ((ez s).take (k+1))
def Ia(s:BA)(f:s.size<=1000000)(nx:Nat):LC 95 [st s] [] nx λr d=>r=.aS nx 0 (jC s).length/\d=[(nx,some (.rows 1 ((jC s).map st) true none 9))]:=by
 refine fX (js:=[]) (bs:=[]) (args:=[st s]) func95 rr rr rr rr trivial rfl<|ak (Qp s f) rr ?_;have hp:=Yy s;refine lY.k_ [(3,1,9)] ⟨rr,trivial⟩<|Af ⟨⟨rr,rr,rr⟩,⟨rr,rr,rr⟩,rr,rr,rr⟩ (ez s).length om (.of (tg s) (λl=>[(3,.aS 6 0 l.length)]) [0,7] (λl=>[(6,.rows 1 (l.map st) true none 9)]) []) (λ_=>True) rr (by show some _=_;simp_all) (λ_=>rfl) ⟨rr,rr,rr,rr,rr⟩ rr trivial ?_ (λk n h=>?_) (λh=>?_)
 ·exact cS rr (gC.cf _)
 ·have g:tg s (k+1)=tg s k++[lR ((ez s).take (k+1))]:=by grind [tg,List.range_succ]
  have b:(tg s k).length=k:=by grind [tg]
  generalize c:tg s k=L at g b;rw[cE c];refine ak (Qp s f) rfl<|jg (k+1)<|aq.mk (gC.rows _).k<|aq.mk ⟨C7 _,by grind⟩ ?_;have e:(ez s).take (k+1)≠[]:=by
   grind [List.length_nil]
  have hcut:(((ez s).map st).drop 0).take (((k+1:Nat):Int).toNat-0)=((ez s).take (k+1)).map st:=by simp_all
  have i:((ez s).take (k+1)).length<=3:=by grind
  have o:=B8 (s.size+1) i;have a:PC 171 [.sl false ((((ez s).map st).drop 0).take (((k+1:Nat):Int).toNat-0)),st iG] (·=st (lR ((ez s).take (k+1)))):=by
   rw[hcut];exact adV ((ez s).take (k+1)) e s.size (λx j=>aaT s x (u6 j)) om om
  refine ak a rfl<|dS.l (aq.mk (eE gC L (lR ((ez s).take (k+1))) om) ?_);exact ck.of (sw 6 18) g trivial rfl<|jn ⟨⟨by rw[i6];rfl,rr⟩,trivial⟩ ⟨⟨BB.br (by rw[l6];rfl) (gC.cf _),rr⟩,trivial⟩
 ·have m:jC s=tg s (ez s).length:=rfl;rw[m];generalize c:tg s (ez s).length=L;rw[cE c];refine ey<|fw.mk ⟨[(6,nx)],200,_,_,rr,rr,rr,⟨fk.mk ⟨_,rr,gC.cf L,.inl rr⟩,trivial⟩,?_,rr⟩;simp_all [jy,PV.wk,PV.rn,oK,lk]
theorem CY(s:BA):(jC s).length<=3:=by grind [jC,Yy]
def AK(a b:BA)(hb:b.size<=1000000):PC 39 [st a,st b] (·=bo (pg a b)):=by
 refine aw func39<|bu.bH [] (n:=200) (Ia b hb _) rr trivial ?_;have c:=CY b;exact bu.by (n:=(jC b).length+100) (ajF (jC b) a om) (a_ (dC (l:=jC b) rr rr gC.bL rr rr) rr)<|ah
def zB(ok:Nat->Bool)(n:Nat):Prop:=∀k,k<n->ok k=true
def Qe(ok:Nat->Bool):∀(m k:Nat),(∀i,k<=i->i<k+m->ok i=true)->uJ ok k m=true
 |0,_,_=>rfl
 |m+1,k,h=>by
  unfold uJ
  rw[h k (j2 _) om]
  exact Qe ok m (k+1) λi h1 h2=>h i om om
def ES(ok:Nat->Bool):∀(m k i:Nat),k<=i->i<k+m->ok i=false->uJ ok k m=false
 |0,k,i,h1,h2,_=>om
 |m+1,k,i,h1,h2,a=>by
  unfold uJ
  by_cases e:k=i
  ·simp_all
  ·cases ok k
   case true=>exact ES ok m (k+1) i om om a
   rfl
def B_{ok:Nat->Bool}{n:Nat}(h:zB ok n)(a:ok n=true):zB ok (n+1):=λk b=>by
 by_cases e:k=n
 ·simp_all
 ·exact h k om
theorem Mi{ok:Nat->Bool}{n:Nat}(h:zB ok n):uJ ok 0 n=true:=Qe ok n 0 λi _ h2=>h i om
def xz(l:List cC)(q:l.length<=67108864)(d:∀p∈l,p.k.size<=1000000/\p.v.size<=1000000):PC 117 [sl cC.pv l] (·=bo (iy l)):=by
 refine aw func117 ?_;have g:(l.map cC.pv).length=l.length:=c8 ..;refine iC ⟨⟨rr,rr,rr⟩,⟨rr,rr,rr⟩,rr,rr,rr⟩ l.length om ⟨λ_=>[],[0,5,6],λ_=>[],[]⟩ (zB (tc l)) rr (by show some _=_;simp_all) (λ_=>rfl) ⟨rr,rr,rr,rr,rr⟩ rr (λk a=>absurd a (Nat.not_lt_zero k)) ?_ (λk a b=>?_) (λb=>?_)
 ·exact bP
 ·obtain⟨x,c⟩:=cw a;have⟨i,m⟩:=d x (i7 c);have no:tc l k=false->iy l=false:=λh=>by unfold iy;rw[ES (tc l) l.length 0 k (j9 _) om h]
  refine bG c<|aJ (qO x.k om) rr ?_;cases h1:d_ x.k with
  |false=>
   rw[no (by grind [tc])];exact az<|an<|ah
  |true=>
  refine aJ (qO x.v om) rr ?_;cases h2:d_ x.v with
  |false=>
   rw[no (by grind [tc])];exact az<|an<|ah
  |true=>
  cases k with
  |zero=>
   exact aj.f (by decide)<|az<|ab<|ck.is id (B_ b (by grind [tc])) rfl<|bP
  |succ j=>
   obtain⟨y,n⟩:=cw (l:=l) (k:=j) om;refine aj.t om<|jg (j)<|bG n<|aj.aN (λo=>?_) (λo=>?_)
   ·rw[no (by grind [tc])];exact az<|an<|ah
   ·exact az<|ab<|ck.is id (B_ b (by grind [tc])) rfl<|bP
 ·refine aj.is (decide ((l.length:Int)<=8)) (by rw[g]) ?_;have e:iy l=decide ((l.length:Int)<=8):=by grind [iy,Mi]
  rw[e];exact ah
def amy(t:bX)(o:t.bJ.length<=67108864)(d:t.key.size<=1000000/\∀v∈t.bJ,v.size<=1000000):PC 257 [t.pv] (·=bo t.right):=by
 refine aw func257 ?_;have g:(t.bJ.map st).length=t.bJ.length:=c8 ..;refine iC ⟨⟨rr,rr,rr⟩,⟨rr,rr,rr⟩,rr,rr,rr⟩ t.bJ.length om ⟨λ_=>[],[1,6,7],λ_=>[],[0]⟩ (zB (uD t.bJ)) rr (by show some _=_;simp_all) (λ_=>rfl) ⟨rr,rr,rr,rr,rr⟩ rr (λk a=>absurd a (Nat.not_lt_zero k)) ?_ (λk a b=>?_) (λb=>?_)
 ·exact bP
 ·obtain⟨x,c⟩:=cw a;have i:=d.2 x (i7 c);have no:uD t.bJ k=false->t.right=false:=λh=>by unfold bX.right;rw[ES (uD t.bJ) t.bJ.length 0 k (j9 _) om h]
  refine bG c<|ak (qO x om) rr ?_;cases h1:d_ x with
  |false=>
   rw[no (by grind [uD])];exact an<|ah
  |true=>
  cases k with
  |zero=>
   exact aj.f (by decide)<|ab<|ck.is id (B_ b (by grind [uD])) rfl<|bP
  |succ j=>
   obtain⟨y,m⟩:=cw (l:=t.bJ) (k:=j) om;refine aj.t om<|jg (j)<|bG m<|aj.aN (λn=>?_) (λn=>?_)
   ·rw[no (by grind [uD])];exact an<|ah
   ·exact ab<|ck.is id (B_ b (by grind [uD])) rfl<|bP
 ·refine ak (qO t.key om) rr ?_;have e:t.right=(match d_ t.key with|true=>decide ((t.bJ.length:Int)<=4)|false=>false):=by grind [bX.right,Mi]
  rw[e];cases d_ t.key
  ·exact ah
  exact aj.is (decide ((t.bJ.length:Int)<=4)) (by rw[g])<|ah
def bX.Sz(t:bX):Prop:=t.bJ.length<=67108864/\t.key.size<=1000000/\∀v∈t.bJ,v.size<=1000000
def adq(t:bX)(h:t.Sz):PC 256 [t.pv] (·=bo (!t.right)):=aw func256<|ak (amy t h.1 h.2) rfl<|ah
def Jr(l:List bX)(b:l.length<=67108864)(c:∀t∈l,t.Sz):PC 195 [sl bX.pv l] (·=bo (mD l)):=by
 refine aw func195 ?_;have a:(l.map bX.pv).length=l.length:=c8 ..;refine aj.aN (λh1=>?_) (λh1=>?_)
 ·rw[a]at h1;refine ak (QY dx.no l (λt=>!t.right) b λt d=>adq t (c t d)) rr ?_;have e:mD l=!l.any λt=>!t.right:=by grind [mD]
  rw[e];exact ah
 ·rw[a]at h1;have e:mD l=false:=by grind [mD]
  rw[e];exact ah
def Jn(n least most:Int):PC 194 [i64 n,i64 least,i64 most] (·=bo (fJ n least most)):=by
 refine aw func194 ?_;unfold fJ;refine aj.aN (λh1=>?_) (λh1=>?_)
 ·rw[h1];exact aj.is _ rfl<|ah
 ·rw[h1];exact ah
def bM.Sz(x:bM):Prop:=x.aa.size<=1000000/\x.dv.length<=67108864/\∀t∈x.dv,t.Sz
def Av(x:bM)(h:x.Sz):PC 128 [x.pv] (·=i64 x.check):=by
 refine aw func128<|ak (zt x) rr ?_;unfold bM.check;refine ak (AK x.aa x.aa h.1) rr ?_;cases pg x.aa x.aa
 ·exact an<|ah
 refine ab<|ak (Jn x.count 1 8) rr ?_;cases fJ x.count 1 8
 ·exact an<|ah
 refine ak (Jn x.bC 0 9) rr ?_;cases fJ x.bC 0 9
 ·exact an<|ah
 refine ak (Jn x.dF 1 100) rr ?_;cases fJ x.dF 1 100
 ·exact an<|ah
 refine ab<|ak (Jr x.dv h.2.1 h.2.2) rr ?_;cases mD x.dv
 ·exact an<|ah
 refine ab ?_;rcases x.total with⟨v,_|_⟩
 ·exact an<|ah
 ·exact ab<|ah
def ajJ(l:List BA)(x:BA)(e:l.length<=67108864):PC 471 [sl st l,st x] (·=i64 (cJ (λy=>seq x y) l 0)):=by
 refine aw func471<|iV l.length ⟨λ_=>[],[0,1,7],λ_=>[],[]⟩ (λq=>cJ (λy=>seq x y) l 0=cJ (λy=>seq x y) (l.drop q) q) rr ?_ (λq hq b=>?_) (λb=>?_)
 ·exact bP
 ·obtain⟨y,d⟩:∃y,l[q]? = some y:=⟨_,j8 hq⟩;have c:=vP (λy=>seq x y) d;refine bG d<|aj.is (seq x y) ?_ ?_
  ·rfl
  cases a:seq x y
  case true=>
   rw[a]at c;refine an ?_;rw[b,c];exact ah
  rw[a]at c;exact ab<|ck.is id (b.trans c) rfl<|bP
 ·rw[b,r9 (j2 _)];exact ah
def alA(l:List BA)(x:BA)(a:l.length<=67108864):PC 470 [sl st l,st x] (·=bo (l.any λy=>seq x y)):=aw func470<|ak (ajJ l x a) rfl<|aj.is (l.any λy=>seq x y) (vp (λy=>seq x y) l 0)<|ah
def abc(v:BA):PC 468 [.agg [],st v] (·=bo true):=aw func468<|ah
def aaA(l:List BA)(v:BA)(a:l.length<=67108864):PC 469 [sl st l,st v] (·=bo (l.any λy=>seq v y)):=aw func469<|ak (alA l v a) rfl<|ah
def ae8(x:Value)(w:World):(Go.method (prog.types.size+Made.depth) 336 x "demesne/sel.holds").run prog w=.ok (468,x) w:=by kernel_rfl
def Zu(x:Value)(w:World):(Go.method (prog.types.size+Made.depth) 337 x "demesne/sel.holds").run prog w=.ok (469,x) w:=by kernel_rfl
def bX.ajO(t:bX):PV:=match t.bJ with
 | []=>.fm 336 (.agg [])
 |_=>.fm 337 (sl st t.bJ)
def adK(t:bX):PC 167 [t.pv] (·=t.ajO):=by
 refine aw func167 ?_;obtain⟨key,no,bJ⟩:=t;cases bJ with
 |nil=>
  exact aj.t rfl<|an<|ah
 |cons v bJ=>
  exact aj.f (by simp;omega)<|ab<|ah
def ajM(t:bX)(ao:List cC)(a:ao.length<=67108864)(hv:t.bJ.length<=67108864):PC 92 [t.pv,sl cC.pv ao] (·=bo (t.holds ao)):=by
 refine aw func92<|ak (aaW ao t.key a) rr ?_;unfold bX.holds;rcases yv ao t.key with⟨v,_|_⟩
 ·exact aj.is (false==t.no) (by simp)<|az<|ah
 ·obtain⟨key,no,bJ⟩:=t;refine aJ (adK ⟨key,no,bJ⟩) rr ?_;cases bJ with
  |nil=>
   exact tE.is 468 ae8<|aJ (abc v) rfl<|aj.is (true==no) (by simp)<|az<|ah
  |cons x bJ=>
   exact tE.is 469 Zu<|aJ (aaA (x::bJ) v hv) rfl<|aj.is (((x::bJ).any λy=>seq v y)==no) (by simp)<|az<|ah
def abg(t:bX)(ao:List cC)(a:ao.length<=67108864)(hv:t.bJ.length<=67108864):PC 91 [t.pv,.ip [sl cC.pv ao] 0] (·=bo (!t.holds ao)):=aw func91<|ak (ajM t ao a hv) rfl<|ah
def YA(l:List bX)(ao:List cC)(h:l.length<=67108864)(a:ao.length<=67108864)(hv:∀t∈l,t.bJ.length<=67108864):PC 37 [sl bX.pv l,sl cC.pv ao] (·=bo (qX l ao)):=aw func37<|ak (QY dx.one l (λt=>!t.holds ao) h λt b=>abg t ao a (hv t b)) rfl<|ah
def acU(e:aB)(aa:BA):PC 173 [e.pv,.ip [st aa] 0] (·=bo (seq e.aa aa)):=aw func173<|aj.is _ rfl<|ah
def wX(t:List aB)(aa:BA)(a:t.length<=67108864):PC 96 [sl aB.pv t,st aa] (·=i64 (fu t aa)):=aw func96<|ak (adk dx.one t (λe=>seq e.aa aa) a λe _=>acU e aa) rfl<|ah
def Bi(t:List aB)(aa:BA):(fu t aa=-1/\cO t aa=(aB.z,false))\/∃k:Nat,fu t aa=(k:Int)/\t[k]? = some (cO t aa).1/\(cO t aa).2=true:=by
 unfold fu cO;rcases kV (λe:aB=>seq e.aa aa) t 0 with⟨h1,h2⟩|⟨m,x,h1,h2,a⟩
 ·grind
 grind
def Eg(t:List aB)(aa:BA)(a:t.length<=67108864):PC 41 [sl aB.pv t,st aa] (·=.aU [(cO t aa).1.pv,bo (cO t aa).2]):=by
 refine aw func41<|ak (wX t aa a) rr ?_;rcases Bi t aa with⟨h1,h2⟩|⟨m,h1,h2,b⟩
 ·rw[h1];refine aj.t (by decide)<|an ?_;rw[h2];exact ah
 ·rw[h1];refine aj.f om<|ab<|bG h2 ?_;rw[b];exact ah
def MA(aa:BA)(a:aa.size<=1000000)(nx:Nat):LC 191 [st aa] [] nx λr d=>r=.aS nx 0 (gT aa).length/\d=[(nx,some (.rows 1 ((gT aa).map st) true none 9))]:=by
 refine fX (js:=[]) (bs:=[]) (args:=[st aa]) func191 rr rr rr rr trivial rfl<|bu.bH [] (n:=200) (Ia aa a _) rr trivial ?_;have b:=CY aa;refine bu.bH [2] (n:=200) (am7 (jC aa) 0 aA (j9 _) om 2 _ rr) rr ⟨rr,trivial⟩<|ey<|fw.mk ⟨[(4,nx)],200,_,_,rr,rr,rr,⟨fk.mk ⟨_,rr,gC.cf (gT aa),.inl rr⟩,trivial⟩,?_,rr⟩;simp_all [jy,PV.wk,PV.rn,oK,lk,gT]
def Nb(aa:BA):1<=(gT aa).length/\(gT aa).length<=4:=by grind [CY,gT]
def JV(aa:BA)(a:aa.size<=1000000):PC 121 [st aa] (·=bo (named aa)):=by
 refine aw func121 ?_;unfold named;refine aj.aN (λh1=>?_) (λh1=>?_)
 ·rw[show seq aa aA=true from h1];exact ah
 ·rw[show seq aa aA=false from h1];exact ak (AK aa aa a) rfl<|ah
def Hn(aa:BA)(a:aa.size<=1000000):PC 122 [st aa] (·=st (jv aa)):=by
 refine aw func122<|bu.bH [] (n:=200) (MA aa a _) rr trivial ?_;obtain⟨h1,h2⟩:=Nb aa;refine cj.intro (((gT aa).length:Int)-2) (wrap_i64 rr om)<|cj.intro (((gT aa).length-2:Nat):Int) om<|aq.mk ⟨om,om⟩ ?_;obtain⟨x,b⟩:=cw (l:=gT aa) (k:=(gT aa).length-2) om;refine bG (i:=0+((gT aa).length-2)) (by rw[j7];exact b) ?_;rw[show jv aa=x by grind [jv]];exact ah
def agJ(v:V4)(e:aB):PC 179 [v.pv,e.pv] (·=.aU [(e.jP v).1.pv,i64 (e.jP v).2]):=by
 refine aw func179<|ak (uX e.b_ v) rr ?_;rcases a:e.b_.add v with⟨n,_|_⟩
 ·rw[show e.jP v=(e,5)by grind [aB.jP]];exact an<|ah
 refine ab<|ak (uY n e.bI) rr ?_;cases b:n.db e.bI
 ·rw[show e.jP v=(e,10)by grind [aB.jP]];exact an<|ah
 rw[show e.jP v=({e with b_:=n},0)by grind [aB.jP]];exact ab<|ah
def ajP(v:V4)(e:aB):PC 300 [v.pv,e.pv] (·=.aU [(e.nn v).1.pv,i64 (e.nn v).2]):=by
 refine aw func300<|ak (Ct e.b_ v) rr ?_;rcases a:e.b_.sub v with⟨n,_|_⟩
 ·rw[show e.nn v=(e,15)by grind [aB.nn]];exact an<|ah
 rw[show e.nn v=({e with b_:=n},0)by grind [aB.nn]];exact ab<|ah
def aoD(t:List aB)(p:BA)(a:t.length<=67108864):PC 245 [st p,.ip [sl aB.pv t] 0] (·=bo (decide (fu t p<0))):=aw func245<|ak (wX t p a) rfl<|aj.is _ rfl<|ah
def qi(t:List aB)(act:aB->aB×Int)(l:List BA)(q:Nat):List aB:=(l.take q).foldl (λout p=>out.set (fu t p).toNat (act (cO t p).1).1) t
def Z_{t:List aB}{act:aB->aB×Int}{l:List BA}{q:Nat}{p:BA}(h:l[q]? = some p):qi t act l (q+1)=(qi t act l q).set (fu t p).toNat (act (cO t p).1).1:=by simp_all [qi,fW]
def Tj(t:List aB)(act:aB->aB×Int)(l:List BA)(q:Nat):(qi t act l q).length=t.length:=by
 unfold qi;generalize l.take q=m;have:∀(m:List BA) (out:List aB),(m.foldl (λout p=>out.set (fu t p).toNat (act (cO t p).1).1) out).length=out.length:=by
  intro m;induction m<;>simp_all
 simp_all
def M_{g:Nat}{w:V4}(act:aB->aB×Int)(z:∀e:aB,PC g [w.pv,e.pv] (·=.aU [(act e).1.pv,i64 (act e).2]))(t:List aB)(aa:BA)(j:t.length<=67108864)(x:aa.size<=1000000):PC 178 [sl aB.pv t,st aa,.mv g w.pv] (·=.aU [sl aB.pv (jJ t aa act).1,i64 (jJ t aa act).2]):=by
 refine aw func178<|ak (JV aa x) rr ?_;cases d:named aa
 ·rw[show jJ t aa act=(t,6)by grind [jJ]];exact an<|ah
 refine ab<|bu.bH [] (n:=200) (MA aa x _) rr trivial ?_;obtain⟨o,s⟩:=Nb aa;generalize H:gT aa=A at o s;refine bu.by (n:=A.length+100) (Fv dx.one A (λp=>decide (fu t p<0)) om λp _=>aoD t p j) (a_ (dC (l:=A) rr rr gC.bL rr rr) (a_ rr rr)) ?_;cases I:A.any λp=>decide (fu t p<0)
 case true=>
  rw[show jJ t aa act=(t,7)by grind [jJ]];exact an<|ah
 refine ab ?_;rw[show jJ t aa act=mF t act A t by grind [jJ]];refine bu.bH [] (n:=200) (amM t j _) rr trivial ?_;have f:∀p∈A,decide (fu t p<0)=false:=λp hp=>by simp_all
 refine iV A.length (.of (qi t act A) (λ_=>[]) [2,3,9,27,28] (λl=>[(13,.rows 9 (l.map aB.pv) true none 130)]) [0,7]) (λq=>mF t act A t=mF t act (A.drop q) (qi t act A q)) rr ?_ (λk B h=>?_) (λh=>?_)
 ·exact Cu ⟨⟨BB.br rr (iF.cf _),rr⟩,trivial⟩ ⟨⟨_,rr,BB.rn rr rr,rr⟩,⟨_,rr,BB.br rr (gC.cf _),rr⟩,trivial⟩
 ·obtain⟨p,u⟩:=cw B;have d:=Z_ (t:=t) (act:=act) u;have b:=Tj t act A k;have C:A.drop k=p::A.drop (k+1):=by
   grind [List.drop_eq_getElem_cons]
  rw[C]at h;have a:mF t act A t=match act (cO t p).1 with|(e,n)=>match decide (n=0)with|true=>mF t act (A.drop (k+1)) ((qi t act A k).set (fu t p).toNat e)|false=>(t,n):=h
  generalize v:qi t act A k=L at d b a;rw[cE v];refine aq.mk ⟨om,om⟩ ?_;refine bG (i:=0+k) (by rw[j7];exact u)<|ak (wX t p j) rr ?_;have D:=j4 (f p (i7 u));rcases Bi t p with⟨h1,h2⟩|⟨m,h1,h2,J⟩
  ·omega
  rw[h1]at d a⊢;have K:m<t.length:=(c9.1 h2).1;refine bG h2<|ak (z (cO t p).1) rr ?_;rcases E:act (cO t p).1 with⟨e,n⟩
  rw[E]at d a;refine aj.aN (λc=>?_) (λc=>?_)
  ·have c:decide (n=0)=true:=c;dsimp only at a;rw[c]at a;refine ab<|aq.mk ⟨om,om⟩ ?_;obtain⟨y,F⟩:=cw (l:=L) (k:=m) om;refine bG (i:=0+m) (by rw[j7];exact F) ?_;have G:PV.eO (L.map aB.pv) (0+m) (aB.pv e)=(L.set m e).map aB.pv:=by grind [qA]
   exact ck.of id d (show mF t act A t=mF t act (A.drop (k+1)) (qi t act A (k+1))by rw[a,d]) rfl<|Cu ⟨⟨BB.br (congrArg (λr=>some (aI.rows 9 r true none _)) G) (iF.cf _),rr⟩,trivial⟩ ⟨⟨_,rr,BB.rn rr rr,rr⟩,⟨_,rr,BB.br rr (gC.cf _),rr⟩,trivial⟩
  ·have c:decide (n=0)=false:=c;dsimp only at a;rw[c]at a;rw[a];exact an<|ah
 ·rw[h,F7];have b:=Tj t act A A.length;generalize v:qi t act A A.length=L at b;rw[cE v];exact⟨L.length+100,_,_,.inl (a_ (dC (l:=L) rr rr iF.bL b.symm rr) rr),rr⟩
def EV(t:List aB)(aa:BA)(v:V4)(a:t.length<=67108864)(b:aa.size<=1000000):PC 102 [sl aB.pv t,st aa,v.pv] (·=.aU [sl aB.pv (jw t aa v).1,i64 (jw t aa v).2]):=aw func102<|ak (M_ (aB.jP v) (agJ v) t aa a b) rfl<|ah
def afG(t:List aB)(aa:BA)(v:V4)(a:t.length<=67108864)(b:aa.size<=1000000):PC 247 [sl aB.pv t,st aa,v.pv] (·=.aU [sl aB.pv (wo t aa v).1,i64 (wo t aa v).2]):=aw func247<|ak (M_ (aB.nn v) (ajP v) t aa a b) rfl<|ah
def pG(t:List aB)(q:Nat):List aB:=(t.take q).map (λe=>{e with b_:=V4.z})++t.drop q
def af5{t:List aB}{q:Nat}{e:aB}(h:t[q]? = some e):pG t (q+1)=(pG t q).set q {e with b_:=V4.z}/\(pG t q)[q]? = some e:=by grind [List.length_map,pG,List.drop_eq_getElem_cons]
def Oy(t:List aB)(q:Nat)(h:q<=t.length):(pG t q).length=t.length:=by grind [pG]
def adv(t:List aB)(aa:BA)(v:V4)(f:t.length<=67108864)(g:aa.size<=1000000):PC 100 [sl aB.pv t,st aa,v.pv] (·=bo (uv t aa v)):=by
 refine aw func100<|bu.bH [] (n:=200) (Ao t f _) rr trivial<|iV t.length (.of (pG t) (λ_=>[]) [1,5,7,14] (λl=>[(3,.rows 9 (l.map aB.pv) true none 130)]) [0]) (λ_=>True) trivial ?_ (λk h j=>?_) (λj=>?_)
 ·exact cS rr (iF.cf _)
 ·obtain⟨e,m⟩:=cw h;obtain⟨c,d⟩:=af5 m;have a:=Oy t k om;generalize b:pG t k=L at c d a;rw[cE b];refine aq.mk ⟨om,om⟩ ?_;refine bG (i:=0+k) (by rw[j7];exact d) ?_;have o:PV.eO (L.map aB.pv) (0+k) (aB.pv {e with b_:=V4.z})=(L.set k {e with b_:=V4.z}).map aB.pv:=by grind [qA]
  exact ck.of id c trivial rfl<|eB ⟨⟨BB.br (congrArg (λr=>some (aI.rows 9 r true none _)) o) (iF.cf _),rr⟩,trivial⟩
 ·have e:pG t t.length=t.map λe=>{e with b_:=V4.z}:=by grind [pG]
  have a:(pG t t.length).length=t.length:=Oy t _ (j2 _);unfold uv;rw[<-e];generalize b:pG t t.length=L at a;rw[cE b];exact bu.by (n:=L.length+100) (EV L aa v om g) (a_ (dC (l:=L) rr rr iF.bL a.symm rr) (a_ rr (a_ rr rr)))<|aj.is (decide ((jw L aa v).2=0)) rfl<|ah
def N_(e:aB)(aa:BA):PC 390 [e.pv,.ip [st aa] 0] (·=bo (!dG e.aa aa)):=aw func390<|aj.is (dG e.aa aa) rfl<|ah
def zA{α:Type}(p:α->Bool):∀(l:List α) (i:Nat),(cJ p l i=-1/\l.findIdx p=l.length)\/(∃m:Nat,cJ p l i=((i+m:Nat):Int)/\l.findIdx p=m/\m<l.length)
 | [],_=>.inl ⟨rr,rr⟩
 |x::l,i=>by
  unfold cJ
  rw[List.findIdx_cons]
  cases p x
  case true=>grind
  rcases zA p l (i+1)with⟨h1,h2⟩|⟨m,h1,h2,a⟩
  ·simp_all
  grind
def ahW(t:List aB)(aa:BA)(bI:V4)(y:t.length<=60000000)(q:aa.size<=1000000):PC 371 [sl aB.pv t,st aa,bI.pv] (·=.aU [sl aB.pv (gg t aa bI).1,i64 (gg t aa bI).2]):=by
 refine aw func371<|ak (wX t aa om) rfl<|ak (JV aa q) rr ?_;cases s:named aa
 ·rw[show gg t aa bI=(t,6)by grind [gg]];exact an<|ah
 refine ab ?_;have h:(t.map aB.pv).length=t.length:=c8 ..;refine aj.aN (λh1=>?_) (λh1=>?_)
 ·have h1:seq aa aA=true:=h1;have c:(!seq aa aA&&decide (fu t (jv aa)<0))=false:=by rw[h1];rfl
  refine ab ?_;rcases Bi t aa with⟨h2,j⟩|⟨m,h2,j,u⟩
  ·rw[h2];refine aj.t (by decide)<|aj.aN (λk=>?_) (λk=>?_)
   ·rw[h]at k;rw[show gg t aa bI=(t,9)by grind [gg]];exact an<|ah
   rw[h]at k;rw[show gg t aa bI=(t.take (mr t aa)++⟨aa,bI,V4.z⟩::t.drop (mr t aa),0)by grind [gg]];refine ab<|aj.f (by decide)<|az<|ab<|bu.bH [] (n:=200) (Ao t om _) rr trivial<|aj.f (by decide)<|ab<|ak (G_ dx.one t (λe=>!dG e.aa aa) om λe _=>N_ e aa) rr ?_;have a:∀i,i<=t.length->t.length+1=(t.take i++(⟨aa,bI,V4.z⟩:aB)::t.drop i).length:=λi hi=>by grind
   rcases zA (λe:aB=>!dG e.aa aa) t 0 with⟨b,o⟩|⟨m,b,o,v⟩
   ·have b:cJ (λe:aB=>!dG e.aa aa) t 0=-1:=b;rw[b,show mr t aa=t.length from o];refine aj.t (by decide)<|an ?_;have g:∀nx,Nat.beq nx 44=false->LC 391 [.aS 44 0 t.length,i64 ((t.map aB.pv).length:Nat),.sl false [aB.pv ⟨aa,bI,V4.z⟩]] [(44,.rows 9 (t.map aB.pv) true none 130)] nx λr d=>r=.aS nx 0 (t.length+1)/\d=[(nx,some (.rows 9 ((t.take t.length++⟨aa,bI,V4.z⟩::t.drop t.length).map aB.pv) true none 130)),(44,none)]:=by
     grind [En]
    exact bu.bH [44] (n:=200) (g _ rr) rr ⟨rr,trivial⟩<|⟨(t.take t.length++(⟨aa,bI,V4.z⟩:aB)::t.drop t.length).length+100,_,_,.inl (a_ (dC (l:=t.take t.length++⟨aa,bI,V4.z⟩::t.drop t.length) rr rr iF.bL (a t.length (j2 _)) rr) rr),rr⟩
   ·have b:cJ (λe:aB=>!dG e.aa aa) t 0=(m:Int):=b.trans om;rw[b,show mr t aa=m from o];exact aj.f om<|ab<|bu.bH [44] (n:=200) (En t m ⟨aa,bI,V4.z⟩ om om 44 _ rr) rr ⟨rr,trivial⟩<|⟨(t.take m++(⟨aa,bI,V4.z⟩:aB)::t.drop m).length+100,_,_,.inl (a_ (dC (l:=t.take m++⟨aa,bI,V4.z⟩::t.drop m) rr rr iF.bL (a m om) rr) rr),rr⟩
  ·rw[h2];have w:m<t.length:=(c9.1 j).1;refine aj.f om<|ab<|aj.t om<|bG j<|aJ (uY (cO t aa).1.b_ bI) rr ?_;cases x:(cO t aa).1.b_.db bI
   ·rw[show gg t aa bI=(t,10)by simp_all [gg,j1]];exact az<|an<|ah
   rw[show gg t aa bI=(t.set m {(cO t aa).1 with bI:=bI},0)by simp_all [gg,j1]];refine az<|ab<|bu.bH [] (n:=200) (Ao t om _) rr trivial<|aj.t om<|an<|aq.mk ⟨om,om⟩ ?_;refine bG (i:=0+m) (by rw[j7];exact j) ?_;have p:PV.eO (t.map aB.pv) (0+m) (aB.pv {(cO t aa).1 with bI:=bI})=(t.set m {(cO t aa).1 with bI:=bI}).map aB.pv:=by grind [qA]
   exact⟨(t.set m {(cO t aa).1 with bI:=bI}).length+100,_,_,.inl (a_ (dC (l:=t.set m {(cO t aa).1 with bI:=bI}) rr p iF.bL (x9 ..).symm rr) rr),rr⟩
 ·have h1:seq aa aA=false:=h1;refine ak (Hn aa q) rfl<|ak (wX t (jv aa) om) rfl<|aj.aN (λh0=>?_) (λh0=>?_)
  ·rw[show gg t aa bI=(t,7)by grind [gg]];exact an<|ah
  have c:(!seq aa aA&&decide (fu t (jv aa)<0))=false:=by simp_all
  refine ab ?_;rcases Bi t aa with⟨h2,j⟩|⟨m,h2,j,u⟩
  ·rw[h2];refine aj.t (by decide)<|aj.aN (λk=>?_) (λk=>?_)
   ·rw[h]at k;rw[show gg t aa bI=(t,9)by unfold gg;rw[s,c,h2];simp_all];exact an<|ah
   rw[h]at k;rw[show gg t aa bI=(t.take (mr t aa)++⟨aa,bI,V4.z⟩::t.drop (mr t aa),0)by unfold gg;rw[s,c,h2];grind];refine ab<|aj.f (by decide)<|az<|ab<|bu.bH [] (n:=200) (Ao t om _) rr trivial<|aj.f (by decide)<|ab<|ak (G_ dx.one t (λe=>!dG e.aa aa) om λe _=>N_ e aa) rr ?_;have a:∀i,i<=t.length->t.length+1=(t.take i++(⟨aa,bI,V4.z⟩:aB)::t.drop i).length:=λi hi=>by grind
   rcases zA (λe:aB=>!dG e.aa aa) t 0 with⟨b,o⟩|⟨m,b,o,v⟩
   ·have b:cJ (λe:aB=>!dG e.aa aa) t 0=-1:=b;rw[b,show mr t aa=t.length from o];refine aj.t (by decide)<|an ?_;have g:∀nx,Nat.beq nx 44=false->LC 391 [.aS 44 0 t.length,i64 ((t.map aB.pv).length:Nat),.sl false [aB.pv ⟨aa,bI,V4.z⟩]] [(44,.rows 9 (t.map aB.pv) true none 130)] nx λr d=>r=.aS nx 0 (t.length+1)/\d=[(nx,some (.rows 9 ((t.take t.length++⟨aa,bI,V4.z⟩::t.drop t.length).map aB.pv) true none 130)),(44,none)]:=by
     grind [En]
    exact bu.bH [44] (n:=200) (g _ rr) rr ⟨rr,trivial⟩<|⟨(t.take t.length++(⟨aa,bI,V4.z⟩:aB)::t.drop t.length).length+100,_,_,.inl (a_ (dC (l:=t.take t.length++⟨aa,bI,V4.z⟩::t.drop t.length) rr rr iF.bL (a t.length (j2 _)) rr) rr),rr⟩
   ·have b:cJ (λe:aB=>!dG e.aa aa) t 0=(m:Int):=b.trans om;rw[b,show mr t aa=m from o];exact aj.f om<|ab<|bu.bH [44] (n:=200) (En t m ⟨aa,bI,V4.z⟩ om om 44 _ rr) rr ⟨rr,trivial⟩<|⟨(t.take m++(⟨aa,bI,V4.z⟩:aB)::t.drop m).length+100,_,_,.inl (a_ (dC (l:=t.take m++⟨aa,bI,V4.z⟩::t.drop m) rr rr iF.bL (a m om) rr) rr),rr⟩
  ·rw[h2];have w:m<t.length:=(c9.1 j).1;refine aj.f om<|ab<|aj.t om<|bG j<|aJ (uY (cO t aa).1.b_ bI) rr ?_;cases x:(cO t aa).1.b_.db bI
   ·rw[show gg t aa bI=(t,10)by simp_all [gg,j1]];exact az<|an<|ah
   rw[show gg t aa bI=(t.set m {(cO t aa).1 with bI:=bI},0)by simp_all [gg,j1]];refine az<|ab<|bu.bH [] (n:=200) (Ao t om _) rr trivial<|aj.t om<|an<|aq.mk ⟨om,om⟩ ?_;refine bG (i:=0+m) (by rw[j7];exact j) ?_;have p:PV.eO (t.map aB.pv) (0+m) (aB.pv {(cO t aa).1 with bI:=bI})=(t.set m {(cO t aa).1 with bI:=bI}).map aB.pv:=by grind [qA]
   exact⟨(t.set m {(cO t aa).1 with bI:=bI}).length+100,_,_,.inl (a_ (dC (l:=t.set m {(cO t aa).1 with bI:=bI}) rr p iF.bL (x9 ..).symm rr) rr),rr⟩
def amJ(n:bR)(name:BA):PC 189 [n.pv,.ip [st name] 0] (·=bo (seq n.name name)):=aw func189<|aj.is _ rfl<|ah
def Cr(p:bf)(name:BA)(a:p.al.length<=67108864):PC 119 [p.pv,st name] (·=i64 (p.at name)):=aw func119<|ak (SI dx.one p.al (λn=>seq n.name name) a λn _=>amJ n name) rfl<|ah
def JT(p:bf)(name:BA)(a:p.al.length<=67108864):PC 187 [p.pv,st name] (·=.aU [(p.find name).1.pv,bo (p.find name).2]):=by
 refine aw func187<|ak (Cr p name a) rr ?_;unfold bf.find;rcases kV (λn:bR=>seq n.name name) p.al 0 with⟨h1,h2⟩|⟨m,x,h1,h2,b⟩
 ·have h1:p.at name=-1:=h1;refine aj.t (by rw[h1];decide)<|an ?_;rw[h2];exact ah
 ·have h1:p.at name=(m:Int):=h1.trans (by rw[j7]);rw[h1];refine aj.f om<|ab<|bG h2 ?_;rw[b];exact ah
def aeX(p:bf):PC 98 [p.pv] (·=p.bare.pv):=aw func98<|ah
def tV(p:bf)(name:BA)(q:Nat):V4×Bool:=(p.places.take q).foldl (kv name) ((p.find name).1.cap,(p.find name).2)
def anA{p:bf}{name:BA}{q:Nat}{x:dt}(h:p.places[q]? = some x):tV p name (q+1)=kv name (tV p name q) x:=by
 unfold tV;rw[fW h,G6];rfl
def Cx(p:bf)(name:BA)(d:p.al.length<=67108864)(hp:p.places.length<=67108864):PC 116 [p.pv,st name] (·=v2 (p.free name)):=by
 refine aw func116<|ak (JT p name d) rfl<|iV p.places.length (.of (tV p name) (λr=>[(7,bo r.2)]) [1,4,8,20,21] (λr=>[(14,.rows 4 [r.1.pv] true none 32)]) [1]) (λ_=>True) trivial ?_ (λk e f=>?_) (λf=>?_)
 ·exact bP
 ·obtain⟨x,c⟩:=cw e;have b:=anA (name:=name) c;rcases a:tV p name k with⟨v,_|_⟩
  ·rw[a]at b;rw[cE a];exact bG c<|ab<|ck.of id b trivial rfl<|bP
  ·rw[a]at b;rw[cE a];refine bG c<|aj.aN (λh1=>?_) (λh1=>?_)
   ·refine an<|ak (Ct v x.v) rfl<|ck.of id b trivial rr ?_;unfold kv;rw[h1];exact bP
   ·refine ab<|ck.of id b trivial rr ?_;unfold kv;rw[h1];exact bP
 ·unfold bf.free;have g:p.places.foldl (kv name) ((p.find name).1.cap,(p.find name).2)=tV p name p.places.length:=by unfold tV;rw[s9]
  rw[g];rcases a:tV p name p.places.length with⟨v,_|_⟩
  ·rw[cE a];exact an<|ah
  ·rw[cE a];exact ab<|ah
def am6(p:bf)(name:BA)(v:V4)(a:p.al.length<=67108864)(hp:p.places.length<=67108864):PC 427 [p.pv,st name,v.pv] (·=i64 (p.room name v)):=by
 refine aw func427<|ak (JT p name a) rfl<|ak (Cx p name a hp) rr ?_;unfold bf.room;rcases p.find name with⟨⟨b,cap,lb,up⟩,_|_⟩
 ·exact an<|ah
 refine ab ?_;cases up
 ·exact an<|ah
 refine ab ?_;rcases p.free name with⟨f,_|_⟩
 ·exact an<|ah
 refine ak (uY v f) rr ?_;cases v.db f
 ·exact an<|ah
 exact ab<|ah
def aa2(x:dt)(aZ:UInt64):PC 302 [x.pv,.ip [pu aZ] 0] (·=bo (!decide (x.aZ=aZ))):=aw func302<|aj.is (decide (x.aZ=aZ)) (qG x.aZ aZ)<|ah
def afK(x:dt)(aZ:UInt64):PC 355 [x.pv,.ip [.fn 302 [.ip [pu aZ] 0]] 0] (·=bo (decide (x.aZ=aZ))):=aw func355<|ak (aa2 x aZ) rfl<|⟨200,_,_,.inl rr,congrArg (λb=>bo b) (Bool.not_not _)⟩
theorem vS{α:Type}(f:α->PV)(l:List α)(r:List PV):PV.sub (l.map f++r) 0 l.length=l.map f:=by rw[Dc,List.take_left' (c8 ..)]
def ahm(l:List dt)(aZ:UInt64)(a:l.length<=67108864):PC 301 [sl dt.pv l,.fn 302 [.ip [pu aZ] 0]] (·=sl dt.pv (l.filter λx=>!decide (x.aZ=aZ))):=aw func301<|bu.bH [] (n:=200) (Wy l a _) rr trivial<|bu.bH [3] (n:=200) (agf l (λx=>decide (x.aZ=aZ)) a (λx _=>afK x aZ) 3 _ rr) rr ⟨rr,trivial⟩<|⟨(l.filter λx=>!decide (x.aZ=aZ)).length+100,_,_,.inl (a_ (tT rr (vS dt.pv _ _) (by rw[i6,c8];omega) nE.bL rr) rr),rr⟩
def Tc(p:bf)(aZ:UInt64)(a:p.places.length<=67108864):PC 248 [p.pv,pu aZ] (·=(p.drop aZ).pv):=aw func248<|aJ (ahm p.places aZ a) rfl<|az<|ah
def Tk(p:bf)(name:BA)(up:Bool)(c:p.al.length<=67108864):PC 395 [p.pv,st name,bo up] (·=.aU [(p.turn name up).1.pv,i64 (p.turn name up).2]):=by
 refine aw func395<|ak (Cr p name c) rr ?_;rcases kV (λn:bR=>seq n.name name) p.al 0 with⟨h1,h2⟩|⟨m,x,h1,h2,e⟩
 ·have h1:p.at name=-1:=h1;have a:p.turn name up=(p,7):=by unfold bf.turn;rw[h1];rfl
  rw[a,h1];exact aj.t (by decide)<|an<|ah
 have h1:p.at name=(m:Int):=h1.trans (by rw[j7]);have d:p.find name=(x,true):=by unfold bf.find;rw[e]
 have h:m<p.al.length:=(c9.1 h2).1;rw[h1];refine aj.f om<|ab<|bG h2<|aj.aN (λb=>?_) (λb=>?_)
 ·have a:p.turn name up=(p,15):=by unfold bf.turn;rw[h1,d,j1 om];dsimp only;rw[b]
  rw[a];exact an<|ah
 ·have a:p.turn name up=(⟨p.al.set m {x with up:=up},p.places⟩,0):=by unfold bf.turn;rw[h1,d,j1 om];dsimp only;rw[b];rfl
  rw[a];refine ab<|bu.bH [] (n:=200) (Gz p.al c _) rr trivial<|aq.mk ⟨om,om⟩ ?_;refine bG (i:=0+m) (by rw[j7];exact h2) ?_;have g:PV.eO (p.al.map bR.pv) (0+m) (bR.pv {x with up:=up})=(p.al.set m {x with up:=up}).map bR.pv:=by rw[j7];exact qA bR.pv p.al m _
  exact⟨(p.al.set m {x with up:=up}).length+100,_,_,.inl (a_ (ke (a_ (dC (l:=p.al.set m {x with up:=up}) rr g rZ.bL (x9 ..).symm rr) rr)) rr),rr⟩
def ahI(p:bf)(name:BA)(a:p.al.length<=67108864):PC 374 [p.pv,st name] (·=.aU [(p.turn name true).1.pv,i64 (p.turn name true).2]):=aw func374<|ak (Tk p name true a) rfl<|ah
def qE(p:bf)(aZ:UInt64)(q:Nat):List BA:=((p.places.take q).filter λx=>decide (x.aZ=aZ)).map dt.node
def ak3{p:bf}{aZ:UInt64}{q:Nat}{x:dt}(h:p.places[q]? = some x):qE p aZ (q+1)=match decide (x.aZ=aZ)with|true=>qE p aZ q++[x.node]|false=>qE p aZ q:=by
 unfold qE;rw[fW h,D6,l6,I9,J6];cases decide (x.aZ=aZ)
 ·exact A2 _
 ·rfl
def ahG(p:bf)(aZ:UInt64)(q:Nat):(qE p aZ q).length<=q:=by
 unfold qE;rw[c8];exact r8 (C6 ..) (by rw[l8];omega)
def NZ(p:bf)(aZ:UInt64)(hp:p.places.length<=67108864):PC 40 [p.pv,pu aZ] (·=sl st (p.of aZ)):=by
 refine aw func40<|lY.k_ [(5,1,9)] ⟨rr,trivial⟩<|vu p.places.length (.of (qE p aZ) (λl=>[(5,.aS 7 0 l.length)]) [1,9,10] (λl=>[(7,.rows 1 (l.map st) true none 9)]) []) (λ_=>True) trivial ?_ (λk e f=>?_) (λf=>?_)
 ·exact cS rr (gC.cf _)
 ·obtain⟨x,c⟩:=cw e;have a:=ak3 (aZ:=aZ) c;have g:=ahG p aZ k;generalize b:qE p aZ k=L at a g;rw[cE b];refine bG c<|aj.is (decide (x.aZ=aZ)) (qG x.aZ aZ) ?_;cases d:decide (x.aZ=aZ)
  case true=>
   rw[d]at a;refine an<|dS.l (aq.mk (eE gC L x.node om) ?_);exact ck.of (sw 7 21) a trivial rfl<|jn ⟨⟨by rw[i6];rfl,rr⟩,trivial⟩ ⟨⟨BB.br (by rw[l6];rfl) (gC.cf _),rr⟩,trivial⟩
  rw[d]at a;exact ab<|ck.of id a trivial rfl<|cS rr (gC.cf _)
 ·have h:p.of aZ=qE p aZ p.places.length:=by unfold bf.of qE;rw[s9]
  rw[h];generalize b:qE p aZ p.places.length=L;rw[cE b];exact⟨L.length+100,_,_,.inl (a_ (dC (l:=L) rr rr gC.bL rr rr) rr),rr⟩
def qZ(p:bf)(q:Nat):List dc:=(p.al.take q).filterMap (qL p)
def ZZ{p:bf}{q:Nat}{n:bR}(h:p.al[q]? = some n):qZ p (q+1)=match qL p n with|some s=>qZ p q++[s]|none=>qZ p q:=by
 unfold qZ;rw[fW h,List.filterMap_append,List.filterMap_cons,List.filterMap_nil];cases qL p n
 ·exact A2 _
 ·rfl
def ai3(p:bf)(q:Nat):(qZ p q).length<=q:=by
 unfold qZ;exact r8 (List.length_filterMap_le ..) (by rw[l8];omega)
def aiT(p:bf)(g:p.al.length<=67108864)(hp:p.places.length<=67108864):PC 176 [p.pv] (·=sl dc.pv p.mw):=by
 refine aw func176<|lY.k_ [(3,6,351)] ⟨rr,trivial⟩<|vu p.al.length (.of (qZ p) (λl=>[(3,.aS 7 0 l.length)]) [1,9,10] (λl=>[(7,.rows 6 (l.map dc.pv) true none 351)]) [0]) (λ_=>True) trivial ?_ (λk h i=>?_) (λi=>?_)
 ·exact cS rr (p_.cf _)
 ·obtain⟨x,d⟩:=cw h;have a:=ZZ d;have b:=ai3 p k;generalize c:qZ p k=L at a b;rw[cE c];refine bG d<|ak (Cx p x.name g hp) rr ?_;obtain⟨f,cap,lb,up⟩:=x;unfold qL at a;rcases e:p.free f with⟨v,_|_⟩
  ·rw[e]at a;exact ab<|ck.of id a trivial rfl<|cS rr (p_.cf _)
  ·rw[e]at a;cases up
   ·exact ab<|ck.of id a trivial rfl<|cS rr (p_.cf _)
   refine an<|dS.l (aq.mk (eE p_ L ⟨f,v,lb⟩ om) ?_);exact ck.of (sw 7 36) a trivial rfl<|jn ⟨⟨by rw[i6];rfl,rr⟩,trivial⟩ ⟨⟨BB.br (by rw[l6];rfl) (p_.cf _),rr⟩,trivial⟩
 ·have j:p.mw=qZ p p.al.length:=by unfold bf.mw qZ;rw[s9]
  rw[j];generalize c:qZ p p.al.length=L;rw[cE c];exact⟨L.length+100,_,_,.inl (a_ (dC (l:=L) rr rr p_.bL rr rr) rr),rr⟩
def lJ(p:bf)(aZ:UInt64)(v:V4)(al:List BA)(q:Nat):List dt:=p.places++(al.take q).map λn=>⟨aZ,n,v⟩
def adB(p:bf)(aZ:UInt64)(al:List BA)(v:V4)(i:p.al.length<=67108864)(hp:p.places.length+al.length<=60000000):PC 413 [p.pv,pu aZ,sl st al,v.pv] (·=.aU [(p.gB aZ al v).1.pv,i64 (p.gB aZ al v).2]):=by
 refine aw func413<|fi.bH [] (n:=200) (Wy p.places om _) rr trivial<|az<|iV al.length (.of (lJ p aZ v al) (λ_=>[]) [1,4,7,8,9,10,20,21] (λl=>[(10,.rows 2 [.agg [sl bR.pv p.al,.aS 8 0 l.length]] true none 66),(8,.rows 6 (l.map dt.pv) true none 99)]) [0,1,2]) (λq=>iS aZ v al p=iS aZ v (al.drop q) ⟨p.al,lJ p aZ v al q⟩) ?_ ?_ (λk j c=>?_) (λc=>?_)
 ·unfold lJ;simp
 ·have h0:lJ p aZ v al 0=p.places:=by unfold lJ;simp
  exact Lh (U:=[]) (H:=[(10,.rows 2 [.agg [sl bR.pv p.al,.aS 8 0 p.places.length]] true none 66),(8,.rows 6 (p.places.map dt.pv) true none 99)]) rr (by unfold dM.of;dsimp only;rw[h0])<|eB ⟨⟨BB.rn rr rr,rr⟩,⟨BB.br rr (nE.cf _),rr⟩,trivial⟩
 ·obtain⟨x,d⟩:=cw j;have e:lJ p aZ v al (k+1)=lJ p aZ v al k++[⟨aZ,x,v⟩]:=by unfold lJ;rw[fW d,l6,A7];rfl
  have b:(lJ p aZ v al k).length<=p.places.length+al.length:=by unfold lJ;rw[i6,c8,l8];omega
  have m:al.drop k=x::al.drop (k+1):=by
   obtain⟨f,rfl⟩:=c9.1 d;exact o8 f
  rw[m]at c;have a:iS aZ v al p=match decide (bf.room ⟨p.al,lJ p aZ v al k⟩ x v=0)with|true=>iS aZ v (al.drop (k+1)) ⟨p.al,lJ p aZ v al k++[⟨aZ,x,v⟩]⟩|false=>(⟨p.al,lJ p aZ v al k⟩,bf.room ⟨p.al,lJ p aZ v al k⟩ x v):=c
  rw[<-e]at a;generalize g:lJ p aZ v al k=L at e b a;rw[cE g];refine bG d<|bu.by (n:=L.length+100) (am6 ⟨p.al,L⟩ x v i (show L.length<=_ by omega)) (a_ (ke (a_ rr (a_ (dC (l:=L) rr rr nE.bL rr rr) rr))) rr)<|aj.aN (λh1=>?_) (λh1=>?_)
  ·rw[h1]at a;refine ab<|dS.l (aq.mk (eE nE L ⟨aZ,x,v⟩ om) ?_);exact ck.of (sw 8 33) e a rfl<|eB ⟨⟨BB.rn (by rw[i6];rfl) rr,rr⟩,⟨BB.br (by rw[l6];rfl) (nE.cf _),rr⟩,trivial⟩
  ·rw[h1]at a;have h:p.gB aZ al v=(p,bf.room ⟨p.al,L⟩ x v):=by unfold bf.gB;rw[a];dsimp only;rw[h1]
   rw[h];exact an<|ah
 ·have h:p.gB aZ al v=(⟨p.al,lJ p aZ v al al.length⟩,0):=by unfold bf.gB;rw[c,F7];rfl
  rw[h];generalize g:lJ p aZ v al al.length=L;rw[cE g];exact⟨L.length+100,_,_,.inl (a_ (ke (a_ rr (a_ (dC (l:=L) rr rr nE.bL rr rr) rr))) rr),rr⟩
def bR.Sz(n:bR):Prop:=n.name.size<=1000000/\n.ao.length<=67108864/\∀p∈n.ao,p.k.size<=1000000/\p.v.size<=1000000
def amO(o n:bR):PC 392 [o.pv,.ip n.pv.cells 0] (·=bo (!dG o.name n.name)):=aw func392<|aj.is (dG o.name n.name) rfl<|ah
def aaM(p:bf)(n:bR)(q:p.al.length<=60000000)(g:n.Sz):PC 372 [p.pv,n.pv] (·=.aU [(p.add n).1.pv,i64 (p.add n).2]):=by
 refine aw func372<|ak (qO n.name (by have:=g.1;omega)) rr ?_;cases h1:d_ n.name
 ·rw[show p.add n=(p,6)by grind [bf.add]];exact an<|ah
 refine ab<|ak (xz n.ao g.2.1 g.2.2) rr ?_;cases h2:iy n.ao
 ·rw[show p.add n=(p,2)by grind [bf.add]];exact an<|ah
 refine ab<|ak (Cr p n.name om) rfl<|aj.aN (λk=>?_) (λk=>?_)
 ·rw[show p.add n=(p,8)by grind [bf.add]];exact an<|ah
 refine ab ?_;have c:(p.al.map bR.pv).length=p.al.length:=c8 ..;refine aj.aN (λh=>?_) (λh=>?_)
 ·rw[c]at h;rw[show p.add n=(p,9)by grind [bf.add]];exact an<|ah
 rw[c]at h;rw[show p.add n=(⟨p.al.take (uh p.al n.name)++{n with up:=true}::p.al.drop (uh p.al n.name),p.places⟩,0)by grind [bf.add]];refine ab<|ak (SI dx.one p.al (λo=>!dG o.name n.name) om λo _=>amO o {n with up:=true}) rr ?_;have a:∀i,i<=p.al.length->p.al.length+1=(p.al.take i++({n with up:=true}:bR)::p.al.drop i).length:=λi hi=>by grind
 rcases zA (λo:bR=>!dG o.name n.name) p.al 0 with⟨b,j⟩|⟨m,b,j,s⟩
 ·have b:cJ (λo:bR=>!dG o.name n.name) p.al 0=-1:=b;rw[b,show uh p.al n.name=p.al.length from j];refine aj.t (by decide)<|an ?_;have e:∀nx,Nat.beq nx 40=false->LC 393 [.aS 40 0 p.al.length,i64 ((p.al.map bR.pv).length:Nat),.sl false [bR.pv {n with up:=true}]] [(40,.rows 7 (p.al.map bR.pv) true none 124)] nx λr d=>r=.aS nx 0 (p.al.length+1)/\d=[(nx,some (.rows 7 ((p.al.take p.al.length++{n with up:=true}::p.al.drop p.al.length).map bR.pv) true none 124)),(40,none)]:=by
   grind [Qd]
  exact fi.bH [] (n:=200) (Gz p.al om _) rr trivial<|fi.bH [40] (n:=200) (e _ rr) rr ⟨rr,trivial⟩<|az<|⟨(p.al.take p.al.length++({n with up:=true}:bR)::p.al.drop p.al.length).length+100,_,_,.inl (a_ (ke (a_ (dC (l:=p.al.take p.al.length++{n with up:=true}::p.al.drop p.al.length) rr rr rZ.bL (a _ (j2 _)) rr) rr)) rr),rr⟩
 ·have b:cJ (λo:bR=>!dG o.name n.name) p.al 0=(m:Int):=b.trans om;rw[b,show uh p.al n.name=m from j];exact aj.f om<|ab<|fi.bH [] (n:=200) (Gz p.al om _) rr trivial<|fi.bH [36] (n:=200) (Qd p.al m {n with up:=true} om om 36 _ rr) rr ⟨rr,trivial⟩<|az<|⟨(p.al.take m++({n with up:=true}:bR)::p.al.drop m).length+100,_,_,.inl (a_ (ke (a_ (dC (l:=p.al.take m++{n with up:=true}::p.al.drop m) rr rr rZ.bL (a m om) rr) rr)) rr),rr⟩
def Mu(a:UInt64):PC 186 [pu a] (·=bo false):=aw func186<|aj.t rfl<|ah
def Xu(a:Int):PC 185 [i64 a] (·=bo false):=aw func185<|aj.t rfl<|ah
def zx(a b:UInt64):PC 111 [pu a,pu b] (·=i64 (mz a b)):=by
 refine aw func111<|ak (Mu a) rfl<|ak (Mu b) rfl<|ab<|ab ?_;unfold mz;refine aj.aN (λh=>?_) (λh=>?_)
 ·rw[z7 (fE h)];exact an<|ah
 rw[y8 (jN h)];refine ab<|aj.aN (λh=>?_) (λh=>?_)
 ·rw[z7 (fE h)];exact an<|ah
 rw[y8 (jN h)];exact ab<|ah
def xe(a b:Int):Int:=if a<b then -1 else if b<a then 1 else 0
def ZV(a b:Int):PC 110 [i64 a,i64 b] (·=i64 (xe a b)):=by
 refine aw func110<|ak (Xu a) rfl<|ak (Xu b) rfl<|ab<|ab ?_;unfold xe;refine aj.aN (λh=>?_) (λh=>?_)
 ·rw[z7 (j5 h)];exact an<|ah
 rw[y8 (j4 h)];refine ab<|aj.aN (λh=>?_) (λh=>?_)
 ·rw[z7 (j5 h)];exact an<|ah
 rw[y8 (j4 h)];exact ab<|ah
def aow(a b:Int):PC 109 [.sl false [i64 a,i64 b]] (·=i64 (if a=0 then b else a)):=by
 refine aw func109<|cV.nI 3<|dQ<|an<|fF.intro (i64 a) rr (by decide)<|aj.aN (λh=>?_) (λh=>?_)
 ·rw[z7 (j5 h)];refine ab<|eL 1<|dQ<|an<|fF.intro (i64 b) rr (by decide)<|aj.aN (λh2=>?_) (λh2=>?_)
  ·have h2:b=0:=j5 h2;subst h2;exact ab<|eL 2<|aE<|ab<|ah
  ·exact an<|ah
 ·rw[y8 (j4 h)];exact an<|ah
def anS(x y:V4):PC 352 [.sl false x.cells,.sl false y.cells] (·=i64 (x.mQ y)):=by
 refine aw func352<|cV.nI 5<|dQ<|an<|fF.intro (pu x.a) rr (by decide)<|aE<|ab<|fF.intro (pu y.a) rr (by decide)<|ak (zx x.a y.a) rfl<|aj.aN (λh0=>?_) (λh0=>?_)
 ·refine ab<|eL 1<|dQ<|an<|fF.intro (pu x.b) rr (by decide)<|aE<|ab<|fF.intro (pu y.b) rr (by decide)<|ak (zx x.b y.b) rfl<|aj.aN (λh1=>?_) (λh1=>?_)
  ·refine ab<|eL 2<|dQ<|an<|fF.intro (pu x.c) rr (by decide)<|aE<|ab<|fF.intro (pu y.c) rr (by decide)<|ak (zx x.c y.c) rfl<|aj.aN (λh2=>?_) (λh2=>?_)
   ·refine ab<|eL 3<|dQ<|an<|fF.intro (pu x.d) rr (by decide)<|aE<|ab<|fF.intro (pu y.d) rr (by decide)<|ak (zx x.d y.d) rfl<|aj.aN (λe=>?_) (λe=>?_)
    ·refine ab<|eL 4 ?_;rw[show x.mQ y=0 by unfold V4.mQ;rw[z7 (j5 h0),z7 (j5 h1),z7 (j5 h2)];exact j5 e];exact aE<|ab<|aE<|ab<|ah
    ·rw[show x.mQ y=mz x.d y.d by unfold V4.mQ;rw[z7 (j5 h0),z7 (j5 h1),z7 (j5 h2)]];exact an<|ah
   ·rw[show x.mQ y=mz x.c y.c by unfold V4.mQ;rw[z7 (j5 h0),z7 (j5 h1),y8 (j4 h2)]];exact an<|ah
  ·rw[show x.mQ y=mz x.b y.b by unfold V4.mQ;rw[z7 (j5 h0),y8 (j4 h1)]];exact an<|ah
 ·rw[show x.mQ y=mz x.a y.a by unfold V4.mQ;rw[y8 (j4 h0)]];exact an<|ah
def aoy(x y:V4):PC 299 [x.pv,y.pv] (·=i64 (x.mQ y)):=aw func299<|aJ (anS x y) rfl<|az<|ah
def alJ(s:dc)(x:List bX)(h:x.length<=67108864)(a:s.ao.length<=67108864)(hv:∀t∈x,t.bJ.length<=67108864):PC 298 [s.pv,.ip [sl bX.pv x] 0] (·=bo (!qX x s.ao)):=aw func298<|ak (YA x s.ao h a hv) rfl<|ah
def adm(l:List dc)(x:List bX):(l.filter λs=>!(!qX x s.ao))=mT l x:=by
 unfold mT;congr 1;funext s;exact Bool.not_not _
def ada(l:List dc)(x:List bX)(e:l.length<=67108864)(h:x.length<=67108864)(f:∀s∈l,s.ao.length<=67108864)(hv:∀t∈x,t.bJ.length<=67108864)(nx:Nat):LC 243 [sl dc.pv l,sl bX.pv x] [] nx λr d=>r=.aS nx 0 (mT l x).length/\d=[(nx,some (.rows 6 ((mT l x).map dc.pv++List.replicate (l.length-(mT l x).length) (kq 351)) true none 351))]:=by
 refine fX (js:=[]) (bs:=[]) (args:=[sl dc.pv l,sl bX.pv x]) func243 rr rr rr rr trivial rfl<|bu.bH [] (n:=200) (agt l e _) rr trivial ?_;have a:=ad3 l (λs=>!qX x s.ao) e (λs g=>alJ s x h (f s g) hv) 3;rw[adm]at a;refine bu.bH [3] (n:=200) (a _ rr) rr ⟨rr,trivial⟩ ?_;have b:dP ((mT l x).map dc.pv++List.replicate (l.length-(mT l x).length) (kq 351)):=by
  intro r c;rcases s8.1 c with c|c
  ·exact p_.cf _ r c
  ·rw[D5 c];rfl
 refine ey<|fw.mk ⟨[(5,nx)],200,_,_,rr,rr,rr,⟨fk.mk ⟨_,rr,b,.inl rr⟩,trivial⟩,?_,rr⟩;simp[jy,PV.wk,PV.rn,oK,lk]
def QT(d:V4):∀(l:List dc) (s:dc) (k:Nat) (r:tu),mu d (l++[s]) k r=wD d (k+l.length) s (mu d l k r)
 | [],_,_,_=>rfl
 |x::l,s,k,r=>by
  show mu d (l++[s]) (k+1) _=wD d (k+(l.length+1)) s (mu d l (k+1) _)
  rw[QT d l s (k+1)]
  congr 1;omega
def uG(l:List dc)(d:V4)(q:Nat):tu:=mu d (l.take q) 0 ⟨0,V4.z,false⟩
def aox{l:List dc}{d:V4}{q:Nat}{s:dc}(h:l[q]? = some s):uG l d (q+1)=wD d q s (uG l d q):=by
 have a:=(c9.1 h).1;unfold uG;rw[fW h,QT,j7,l8,E9 om]
def ahK(l:List dc)(d:V4)(m:l.length<=67108864):PC 244 [sl dc.pv l,d.pv] (·=.aU [i64 ((gl l d).cm:Nat),(gl l d).left.pv,bo (gl l d).ok]):=by
 refine aw func244<|iV l.length (.of (uG l d) (λr=>[(4,i64 (r.cm:Nat)),(6,bo r.ok)]) [0,3,5,11] (λr=>[(2,.rows 4 [r.left.pv] true none 32)]) [0]) (λ_=>True) trivial ?_ (λk g h=>?_) (λh=>?_)
 ·exact bP
 ·obtain⟨x,c⟩:=cw g;have b:=aox (d:=d) c;rcases e:uG l d k with⟨a,w,ok⟩
  rw[e]at b;unfold wD at b;rw[cE e];refine bG c<|aJ (Ct x.free d) rr ?_;rcases f:x.free.sub d with⟨v,_|_⟩
  ·rw[f]at b;exact az<|ab<|ck.of id b trivial rfl<|bP
  ·rw[f]at b;dsimp only at b;refine az ?_;cases ok
   ·exact an<|az<|ck.of id b trivial rfl<|bP
   dsimp only at b;refine ak (aoy v w) rfl<|aj.aN (λh1=>?_) (λh1=>?_)
   ·rw[h1]at b;exact an<|az<|ck.of id b trivial rfl<|bP
   ·rw[h1]at b;exact ab<|ck.of id b trivial rfl<|bP
 ·have i:gl l d=uG l d l.length:=by unfold gl uG;rw[s9]
  rw[i];generalize j:uG l d l.length=L;rw[cE j];exact az<|ah
def DH{α:Type}(f:α->PV){l:List α}{r:List PV}{i:Nat}{x:α}(h:l[i]? = some x):PV.cR (l.map f++r) i=some (f x):=by
 induction l generalizing i with
 |nil=>cases h
 |cons a l ih=>
  cases i with
  |zero=>cases h;rfl
  |succ i=>exact ih (by simpa using h)
def FN{α:Type}(f:α->PV):∀(l:List α) (r:List PV) (i:Nat) (x:α),i<l.length->PV.eO (l.map f++r) i (f x)=(l.set i x).map f++r
 | [],_,i,_,h=>by cases h
 |a::l,r,0,x,_=>rfl
 |a::l,r,i+1,x,h=>by
  show f a::PV.eO (l.map f++r) i (f x)=f a::((l.set i x).map f++r)
  rw[FN f l r i x (Nat.lt_of_succ_lt_succ h)]
def yF(d:V4)(p:List dc×List BA):List dc×List BA:=(p.1.set (gl p.1 d).cm {(p.1[(gl p.1 d).cm]?).getD dc.z with free:=(gl p.1 d).left},p.2++[((p.1[(gl p.1 d).cm]?).getD dc.z).node])
def rO(d:V4)(l:List dc):Nat->List dc×List BA
 |0=>(l,[])
 |q+1=>yF d (rO d l q)
def QG(d:V4)(l:List dc):∀q,(rO d l q).1.length=l.length/\(rO d l q).2.length=q
 |0=>⟨rr,rr⟩
 |q+1=>by
  obtain⟨h1,h2⟩:=QG d l q
  exact⟨by show(List.set _ _ _).length=_;rw[x9];exact h1,by show(_++[_]).length=_;rw[i6,h2];rfl⟩
def akB(d:V4)(n:Nat)(p:List dc×List BA):mX d (n+1) p.1 p.2=match(gl p.1 d).ok with|false=>([],false)|true=>mX d n (yF d p).1 (yF d p).2:=rfl
def agv{d:V4}{l:List dc}(h:(gl l d).ok=true):∃s,l[(gl l d).cm]? = some s:=by
 have key:∀(l:List dc) (k:Nat) (r:tu),(mu d l k r).ok=true->mu d l k r=r\/∃i s,l[i]? = some s/\(mu d l k r).cm=k+i:=by
  intro l;induction l with
  |nil=>intro k r _;exact .inl rr
  |cons s l a=>
   intro k r h;unfold mu at h⊢;rcases a (k+1) _ h with e|⟨i,s',h1,h2⟩
   ·rw[e];unfold wD;rcases s.free.sub d with⟨v,_|_⟩
    ·exact .inl rr
    ·dsimp only;cases r.ok
     ·exact .inr ⟨0,s,rr,rr⟩
     dsimp only;cases decide (v.mQ r.left<0)
     case true=>exact .inr ⟨0,s,rr,rr⟩
     exact .inl rr
   ·exact .inr ⟨i+1,s',h1,by rw[h2];omega⟩
 unfold gl at h⊢;rcases key l 0 _ h with e|⟨i,s,h1,h2⟩
 ·rw[e]at h;cases h
 ·rw[h2,j7];exact⟨s,h1⟩
def aie(l:List dc)(x:List bX)(d:V4)(count:Int)(c:l.length<=67108864)(h:x.length<=67108864)(z:∀s∈l,s.ao.length<=67108864)(hv:∀t∈x,t.bJ.length<=67108864)(D:-9000000000000000000<=count):PC 175 [sl dc.pv l,sl bX.pv x,d.pv,i64 count] (·=.aU [sl st (li l x d count).1,bo (li l x d count).2]):=by
 refine aw func175<|aj.aN (λh1=>?_) (λh1=>?_)
 ·rw[show li l x d count=([],false)by unfold li;rw[h1]];exact an<|ah
 rw[show li l x d count=mX d (max count 0).toNat (mT l x) []by unfold li;rw[h1]];have h1:=j4 h1;refine ab<|bu.bH [] (n:=200) (ada l x c h z hv _) rr trivial ?_;obtain⟨N,A,B⟩:∃N:Nat,(max count 0).toNat=N/\N<=8:=⟨_,rfl,om⟩;have i:(mT l x).length<=l.length:=C6 ..;generalize C:List.replicate (l.length-(mT l x).length) (kq 351)=zs;have y:dP zs:=by subst C;intro r j;rw[D5 j];rfl
 generalize E:mT l x=F at i;refine cj.intro (N:Int) (by show(if 0>count then 0 else count)=_;split<;>omega) ?_;rw[A];have e:∀L:List dc,dP (L.map dc.pv++zs):=λL r j=>(s8.1 j).elim (p_.cf L r) (y r)
 refine lY.k_ [(10,1,9)] ⟨rr,trivial⟩<|vu N (.of (rO d F) (λp=>[(10,.aS 13 0 p.2.length)]) [0,6,8,9,20] (λp=>[(7,.rows 6 (p.1.map dc.pv++zs) true none 351),(13,.rows 1 (p.2.map st) true none 9)]) [0]) (λq=>mX d N F []=mX d (N-q) (rO d F q).1 (rO d F q).2) rr ?_ (λk G b=>?_) (λb=>?_)
 ·exact eB ⟨⟨BB.br rr (e F),rr⟩,⟨BB.br rr (gC.cf _),rr⟩,trivial⟩
 ·obtain⟨f,m⟩:=QG d F k;have c:rO d F (k+1)=yF d (rO d F k):=rfl;rw[show N-k=(N-(k+1))+1 by omega,akB]at b;rcases o:rO d F k with⟨L,out⟩
  rw[o]at c b f m;dsimp only at b f m;rw[cE o];refine bu.by (n:=L.length+100) (ahK L d om) (a_ (tT (l:=L) rr (by rw[<-f];exact vS dc.pv L zs) (show F.length<=(L.map dc.pv++zs).length by rw[i6,c8];omega) p_.bL rr) (a_ rr rr)) ?_;cases g:(gl L d).ok
  ·rw[g]at b;rw[b];exact an<|ah
  rw[g]at b;dsimp only at b;rw[<-c]at b;refine ab ?_;obtain⟨s,u⟩:=agv g;unfold yF at c;dsimp only at c;have v:=(c9.1 u).1;generalize(gl L d).cm=a at u v c⊢;generalize(gl L d).left=w at c⊢;rw[u]at c;simp only[I8]at c;refine aq.mk ⟨om,om⟩ ?_;refine fF.intro s.pv (by rw[x8,x8,j7];exact DH dc.pv u) om<|dS.l (aq.mk (eE gC out s.node om) ?_);refine aq.mk ⟨om,om⟩ ?_;refine fF.intro s.pv (by rw[x8,x8,j7];exact DH dc.pv u) om ?_;have j:PV.eO (L.map dc.pv++zs) (0+a) (dc.pv {s with free:=w})=(L.set a {s with free:=w}).map dc.pv++zs:=by rw[j7];exact FN dc.pv L zs a _ v
  exact ck.of (sw 13 35) c b rfl<|jn ⟨⟨by rw[i6];rfl,rr⟩,trivial⟩ ⟨⟨BB.br (congrArg (λr=>some (aI.rows 6 r true none _)) j) (e _),rr⟩,⟨BB.br (by rw[l6];rfl) (gC.cf _),rr⟩,trivial⟩
 ·rw[G0]at b;rcases o:rO d F N with⟨L,out⟩
  rw[o]at b;rw[cE o,b];exact⟨out.length+100,_,_,.inl (a_ (dC (l:=out) rr rr gC.bL rr rr) (a_ rr rr)),rr⟩
def ab1(j:ax)(id:UInt64):PC 115 [j.pv,.ip [pu id] 0] (·=bo (decide (j.id=id))):=aw func115<|aj.is (decide (j.id=id)) (qG j.id id)<|ah
def BG(s:af)(id:UInt64)(a:s.ae.length<=67108864):PC 50 [s.pv,pu id] (·=i64 (eK s.ae id)):=aw func50<|ak (EK dx.one s.ae (λj=>decide (j.id=id)) a λj _=>ab1 j id) rfl<|ah
def nF(l:List ax)(id:UInt64):(eK l id=-1/\bK l id=(ax.z,false))\/∃k:Nat,eK l id=(k:Int)/\l[k]? = some (bK l id).1/\(bK l id).2=true:=by
 unfold eK bK;rcases kV (λj:ax=>decide (j.id=id)) l 0 with⟨h1,h2⟩|⟨m,x,h1,h2,a⟩
 ·grind
 grind
def xZ(s:af)(id:UInt64)(a:s.ae.length<=67108864):PC 21 [s.pv,pu id] (·=.aU [(bK s.ae id).1.pv,bo (bK s.ae id).2]):=by
 refine aw func21<|ak (BG s id a) rr ?_;rcases nF s.ae id with⟨h1,h2⟩|⟨m,h1,h2,b⟩
 ·refine aj.t om<|an ?_;rw[h2];exact ah
 ·rw[h1];refine aj.f om<|ab<|bG h2 ?_;rw[b];exact ah
def ajQ{X:List Nat}{α:Type}{f:α->PV}{hp:Nat->Option aI}{j k:Nat}{wr:Bool}{d:Option Nat}{e:TypeId}{l:List α}{rs:List PV}(g:hp j=some (.rows k rs wr d e)){n lo len:Nat}(a:PV.sub rs lo len=l.map f)(b:lo+len<=rs.length)(c:∀x n hp,bL [] (n+40) hp (f x)=some (f x,[]))(i:cW j X=false):
 bL X (l.length+(n+42)) hp (.aS j lo len)=some (.sl false (l.map f),[j]):=by
 have h:=AL (hp:=hp) (λx n=>c x n hp) l n
 grind [bL,Nat.ble_eq_true_of_le]
def Gr(n:UInt64):IntKind.u64.wrap ((n.toNat:Nat)+1)=(((n+1).toNat:Nat):Int):=by
 have:=n.toNat_lt;rw[UInt64.toNat_add];show((n.toNat:Int)+1)%18446744073709551616=(((n.toNat+1)%18446744073709551616:Nat):Int)
 omega
def uo(x:fY)(n:cZ)(e:x.l.length<=60000000):PC 252 [x.pv,n.pv] (·=(lT x n).pv):=by
 refine aw func252<|aJ (acL x.l) rfl<|aq.mk ⟨(eE nu x.l n om).1,λh=>(by cases h)⟩ ?_;refine az ?_;have a:(x.l.map cZ.pv).length+[n.pv].length=x.l.length+1:=by simp_all
 refine aj.aN (λh1=>?_) (λh1=>?_)
 ·have h1:decide (32<((x.l.length+1:Nat):Int))=true:=by simp_all
  rw[show lT x n=⟨x.first+1,(x.l++[n]).drop 1⟩by grind [lT]];refine an<|aq.mk ⟨by decide,(show(1:Int)<=(((x.l.map cZ.pv).length+[n.pv].length:Nat):Int)by omega)⟩ ?_;refine aF (Gr x.first) ?_;have c:x.l.map cZ.pv++[n.pv]=(x.l++[n]).map cZ.pv:=by simp_all
  have d:((x.l++[n]).map cZ.pv).length=x.l.length+1:=by simp_all
  have b:PV.sub (x.l.map cZ.pv++[n.pv]) (0+(1:Int).toNat) ((x.l.map cZ.pv).length+[n.pv].length-(1:Int).toNat)=((x.l++[n]).drop 1).map cZ.pv:=by
   grind [uq,List.map_drop,List.length_drop]
  exact⟨((x.l++[n]).drop 1).length+100,_,_,.inl (a_ (ke (a_ rr (a_ (ajQ (l:=(x.l++[n]).drop 1) rr b (show 0+1+((x.l.map cZ.pv).length+[n.pv].length-1)<=(x.l.map cZ.pv++[n.pv]).length by grind) nu.bL rr) rr))) rr),rr⟩
 ·have h1:decide (32<((x.l.length+1:Nat):Int))=false:=by simp_all
  rw[show lT x n=⟨x.first,x.l++[n]⟩by grind [lT]];exact ab<|⟨(x.l++[n]).length+100,_,_,.inl (a_ (ke (a_ rr (a_ (dC (l:=x.l++[n]) rr (show x.l.map cZ.pv++[n.pv]=_ by simp_all) nu.bL (a.trans (by simp_all)) rr) rr))) rr),rr⟩
def AQ(s:af)(id:UInt64)(k:Int)(a:s.dX.l.length<=60000000):PC 183 [s.pv,pu id,i64 k] (·=(s.jt id k).pv):=aw func183<|ak (uo s.dX ⟨s.round,id,k⟩ a) rfl<|ah
def VN(s:af)(k:Nat)(j d:ax)(e:s.ae.length<=60000000)(a:s.ae[k]? = some d):PC 182 [s.pv,i64 k,j.pv] (·=(s.with k j).pv):=by
 refine aw func182<|bu.bH [] (n:=200) (x_ s.ae om _) rr trivial ?_;have b:=(c9.1 a).1;refine aq.mk ⟨om,om⟩ ?_;refine bG (i:=0+k) (by rw[j7];exact a) ?_;have c:PV.eO (s.ae.map ax.pv) (0+k) (ax.pv j)=(s.ae.set k j).map ax.pv:=by grind [qA]
 exact⟨(s.ae.set k j).length+100,_,_,.inl (a_ (ke (a_ rr (a_ rr (a_ rr (a_ rr (a_ rr (a_ (dC (l:=s.ae.set k j) rr c fz.bL (x9 ..).symm rr) rr))))))) rr),rr⟩
def VM(s:af)(j:ax)(c:s.aH.length<=60000000)(hp:s.ar.places.length<=60000000)(b:j.x.aa.size<=1000000):PC 180 [s.pv,j.pv] (·=(s.du j).pv):=by
 refine aw func180<|ak (zt j.x) rr ?_;rcases a:j.x.total with⟨v,_|_⟩
 ·rw[show s.du j={s with ar:=s.ar.drop j.id} by grind [af.du]];exact ab<|ak (Tc s.ar j.id om) rfl<|ah
 ·rw[show s.du j={s with aH:=(wo s.aH j.x.aa v).1,ar:=s.ar.drop j.id} by grind [af.du]];exact an<|ak (afG s.aH j.x.aa v om b) rfl<|ak (Tc s.ar j.id om) rfl<|ah
end
section
open Go.RowKit
theorem eI{a b:BA}:seq a b=true↔a=b:=by
 unfold seq;constructor
 ·intro h;have h:=eq_of_beq h;cases a;simp_all
 simp_all
theorem xu(a:BA):seq a a=true:=eI.2 rr
abbrev mb(l:List ax):Prop:=(l.map ax.id).Nodup
def oh{l:List ax}{id:UInt64}(h:(bK l id).2=true):(bK l id).1∈l/\(bK l id).1.id=id:=by grind [bK]
def sU{α:Type}{l:List α}(h:l.Nodup){i j:Nat}{a:α}(hi:l[i]? = some a)(b:l[j]? = some a):i=j:=by grind [List.pairwise_iff_getElem]
theorem pq{l:List ax}(h:mb l){x y:ax}(b:x∈l)(c:y∈l)(e:x.id=y.id):x=y:=by
 obtain⟨i,hi⟩:=A0 b;obtain⟨j,d⟩:=A0 c;have:=sU (l:=l.map ax.id) h (i:=i) (j:=j) (a:=x.id) (by simp_all) (by simp_all);simp_all
theorem AE{l:List ax}(h:mb l){j:ax}(a:j∈l):bK l j.id=(j,true):=by grind [bK,pq]
theorem LB{l:List ax}{id:UInt64}(h:(bK l id).2=false):∀j∈l,j.id≠id:=by grind [bK]
def ol(l:List ax)(id:UInt64):(eK l id<0/\(bK l id).2=false)\/∃k:Nat,eK l id=k/\l[k]? = some (bK l id).1/\(bK l id).2=true:=by
 unfold eK bK;rcases kV (λj:ax=>decide (j.id=id)) l 0 with⟨h1,h2⟩|⟨m,x,h1,h2,a⟩
 ·grind
 grind
theorem vC{l:List ax}(h:mb l){k:Nat}{j j':ax}(c:l[k]? = some j)(hid:j'.id=j.id){x:ax}:x∈l.set k j'↔x=j'\/(x∈l/\x.id≠j.id):=by
 obtain⟨d,g⟩:=c9.1 c;constructor
 ·intro b;obtain⟨i,hi⟩:=A0 b;rw[P0]at hi;split at hi
  ·simp_all
  ·rename_i e;refine .inr ⟨i7 hi,λm=>e ?_⟩;exact sU (l:=l.map ax.id) h (a:=j.id) (by simp_all) (by simp_all)
 ·rintro(rfl|⟨b,f⟩)
  ·grind [List.getElem?_set_self]
  ·obtain⟨i,hi⟩:=A0 b;refine G1.2 ⟨i,?_⟩;grind
theorem wA{β:Type}(f:ax->β){l:List ax}{k:Nat}{j j':ax}(a:l[k]? = some j)(h:f j'=f j):(l.set k j').map f=l.map f:=by
 obtain⟨b,c⟩:=c9.1 a;apply E5;grind
theorem QE.AM{a b:QE}:a.dm b=true↔b.bC<a.bC\/(a.bC=b.bC/\a.id.toNat<b.id.toNat):=by grind [QE.dm]
theorem QE.SG{a b c:QE}(h1:a.dm b=true)(h2:b.dm c=true):a.dm c=true:=by grind [QE.AM]
def QE.an4{a b:QE}(h:a.id≠b.id)(h1:a.dm b=false):b.dm a=true:=by grind [QE.AM,UInt64.toNat_inj]
abbrev oZ(q:List QE):Prop:=q.Pairwise λa b=>a.dm b=true
def BL{α:Type}(p:α->Bool):∀(l:List α) (i:Nat),(decide (0<=cJ p l i)=false)->∀x∈l,p x=false:=by grind [vp]
def FG{q:List QE}{e x:QE}:x∈pO q e↔x=e\/x∈q:=by grind [pO,List.take_append_drop]
def agb{e:QE}{q:List QE}:∀x∈q.take (lF e q),e.dm x=false:=by
 intro x b;obtain⟨i,hi⟩:=A0 b;rw[K7]at hi;split at hi
 ·rename_i a;obtain⟨c,rfl⟩:=c9.1 hi;have:=List.not_of_lt_findIdx (p:=λx=>e.dm x) a;omega
 ·cases hi
theorem SQ{e:QE}{q:List QE}(h:oZ q):∀x∈q.drop (lF e q),e.dm x=true:=by
 intro x d;have hp:(q.drop (lF e q)).Pairwise λa b=>a.dm b=true:=h.sublist (List.drop_sublist _ _)
 cases hq:q.drop (lF e q)with
 |nil=>simp_all
 |cons y l=>
  have c:lF e q<q.length:=by
   grind [List.length_cons]
  have f:e.dm y=true:=by
   have h1:=List.findIdx_getElem (p:=λx=>e.dm x) (xs:=q) (w:=c);rw[o8 c]at hq;cases hq;exact h1
  grind [QE.SG,List.pairwise_cons]
def JB{q:List QE}{e:QE}(h:oZ q)(d:∀x∈q,x.id≠e.id):oZ (pO q e):=by
 unfold pO;refine List.pairwise_append.2 ⟨h.sublist (List.take_sublist _ _),O2.2 ⟨SQ h,h.sublist (List.drop_sublist _ _)⟩,λa c b hb=>?_⟩;have h1:a.dm e=true:=QE.an4 (λe'=>d a (u6 c) e'.symm) (agb a c);grind [QE.SG,SQ]
def ang{q:List QE}{e:QE}{m:Nat}(a:m<=q.length)(h:∀x∈q.take m,e.dm x=false):(pO q e).take m=q.take m:=by
 have d:m<=lF e q:=by
  by_cases b:lF e q<m
  ·exfalso;have c:lF e q<q.length:=om
   have h1:=List.findIdx_getElem (p:=λx=>e.dm x) (xs:=q) (w:=c);have h2:=h q[lF e q] (G1.2 ⟨lF e q,by simp_all⟩);grind [lF]
  ·omega
 grind [pO]
theorem z_(q:List QE)(e:QE):(fq q e).1=q\/((fq q e).1=pO q e/\∀x∈q,x.id≠e.id):=by
 unfold fq;cases e.wv
 case true=>simp_all
 dsimp only;cases h:decide (0<=pA q e.id)
 case true=>simp_all
 dsimp only;cases decide (32<=(q.length:Int))
 case true=>simp_all
 refine .inr ⟨rr,λx a b=>?_⟩;have:=BL _ q 0 h x a;simp_all
theorem Ke(q:List QE)(id:UInt64):((jA q id).1=q/\∀x∈q,x.id≠id)\/∃(k:Nat) (x:QE),(jA q id).1=q.eraseIdx k/\q[k]? = some x/\x.id=id:=by
 unfold jA pA;rcases kV (λe:QE=>decide (e.id=id)) q 0 with⟨h1,h2⟩|⟨m,x,h1,h2,a⟩
 ·simp_all
 grind
theorem uw{α:Type}{l:List α}{k:Nat}{x:α}(h:x∈l.eraseIdx k):x∈l:=(I0 _ _).subset h
structure eF(s:af):Prop where
 eU:mb s.ae
 dL:∀j∈s.ae,j.id.toNat<s.next.toNat
 fp:∀j∈s.ae,0<=j.x.count
 len:s.ae.length<=32
 gp:oZ s.bg
 kK:∀e∈s.bg,∃j∈s.ae,j.id=e.id/\j.bB=false/\j.x.bC=e.bC
 jT:(s.ar.al.map bR.name).Nodup
structure Frame(s t:af):Prop where
 al:t.ar.al=s.ar.al
 aH:t.aH.map (λe=>(e.aa,e.bI))=s.aH.map (λe=>(e.aa,e.bI))
 ae:t.ae.map (λj=>(j.id,j.x))=s.ae.map (λj=>(j.id,j.x))
 next:t.next=s.next
def Frame.refl(s:af):Frame s s:=⟨rr,rr,rr,rr⟩
def Frame.trans{s t u:af}(h1:Frame s t)(h2:Frame t u):Frame s u:=⟨h2.al.trans h1.al,h2.aH.trans h1.aH,h2.ae.trans h1.ae,h2.next.trans h1.next⟩
theorem XQ(t:List aB)(act:aB->aB×Int)(d:∀e,(act e).1.aa=e.aa/\(act e).1.bI=e.bI):∀(l:List BA) (out:List aB),(∀p∈l,decide (fu t p<0)=false)->out.map (λe=>(e.aa,e.bI))=t.map (λe=>(e.aa,e.bI))->(mF t act l out).1.map (λe=>(e.aa,e.bI))=t.map (λe=>(e.aa,e.bI))
 | [],out,_,h=>h
 |p::l,out,hp,h=>by
  unfold mF
  have f:=hp p j6
  rcases b:act (cO t p).1 with⟨e,n⟩
  dsimp only
  cases decide (n=0)
  ·rfl
  refine XQ t act d l _ (λp c=>hp p (j3 _ c)) ?_
  rw[<-h]
  have a:=d (cO t p).1
  rw[b]at a
  dsimp only at a
  unfold fu cO at*
  rcases kV (λe:aB=>seq e.aa p) t 0 with⟨h1,h2⟩|⟨m,x,h1,h2,g⟩
  ·simp_all
  ·have h1:cJ (λe:aB=>seq e.aa p) t 0=(m:Int):=h1.trans om
   rw[h1]
   rw[g]at a
   dsimp only at a
   apply E5
   grind
theorem yE(t:List aB)(aa:BA)(act:aB->aB×Int)(a:∀e,(act e).1.aa=e.aa/\(act e).1.bI=e.bI):(jJ t aa act).1.map (λe=>(e.aa,e.bI))=t.map (λe=>(e.aa,e.bI)):=by grind [jJ,XQ]
theorem Gl(v:V4)(e:aB):(aB.jP v e).1.aa=e.aa/\(aB.jP v e).1.bI=e.bI:=by grind [aB.jP]
def QH(v:V4)(e:aB):(aB.nn v e).1.aa=e.aa/\(aB.nn v e).1.bI=e.bI:=by grind [aB.nn]
theorem nQ(s:af)(j:ax):Frame s (s.du j)/\(s.du j).ae=s.ae/\(s.du j).bg=s.bg:=by
 unfold af.du;rcases j.x.total with⟨v,_|_⟩
 ·exact⟨⟨rr,rr,rr,rr⟩,rr,rr⟩
 ·exact⟨⟨rr,yE _ _ _ (QH v),rr,rr⟩,rr,rr⟩
structure sc(p:Int)(m:Nat)(s t:af):Prop where
 bA:eF t
 frame:Frame s t
 head:t.bg.take m=s.bg.take m
 size:s.bg.length<=t.bg.length
 tail:∀e∈t.bg,e∈s.bg\/e.bC<p
 bx:∀j∈s.ae,(j.bB=false\/p<=j.x.bC)->j∈t.ae
def sc.refl{p:Int}{m:Nat}{s:af}(h:eF s):sc p m s s:=⟨h,.refl s,rr,j2 _,λ_ h=>.inl h,λ_ h _=>h⟩
def sc.trans{p:Int}{m:Nat}{s t u:af}(h1:sc p m s t)(h2:sc p m t u):sc p m s u:=
 ⟨h2.bA,h1.frame.trans h2.frame,h2.head.trans h1.head,r8 h1.size h2.size,λe a=>(h2.tail e a).elim (h1.tail e) .inr,λj b hp=>h2.bx j (h1.bx j b hp) hp⟩
def XE{s:af}(h:eF s){p:Int}{m:Nat}(G:m<=s.bg.length)(hq:∀e∈s.bg.take m,p<=e.bC)(id:UInt64)(k:Int)(hp:∀j∈s.ae,j.id=id->j.x.bC<p):sc p m s (s.stop id k).1:=by
 unfold af.stop;rcases ol s.ae id with⟨h1,h2⟩|⟨n,h1,h2,H⟩
 ·rw[l9 h1];exact .refl h
 rw[j1 om];dsimp only;obtain⟨v,hid⟩:=oh H;generalize I:(bK s.ae id).1=j at*
 cases N:j.bB
 ·exact .refl h
 dsimp only;obtain⟨w,y,z⟩:=nQ s j;rw[z,h1,x8];have i:((({s.du j with bg:=(fq s.bg ⟨id,j.x.bC⟩).1}:af).with n {j with bB:=false,left:=0}).jt id k).ae=s.ae.set n {j with bB:=false,left:=0}:=by
  show(s.du j).ae.set n _=_
  rw[y]
 have g:=λx=>vC (x:=x) (j':={j with bB:=false,left:=0}) h.eU h2 rr
 have D:∀x∈s.ae,(x.bB=false\/p<=x.x.bC)->x∈s.ae.set n {j with bB:=false,left:=0}:=by
  intro x d J;refine(g x).2 (.inr ⟨d,λe=>?_⟩);have:=pq h.eU d v e;grind
 have E:(s.ae.set n {j with bB:=false,left:=0}).map (λj=>(j.id,j.x))=s.ae.map (λj=>(j.id,j.x)):=wA _ h2 rr;have o:(s.ae.set n {j with bB:=false,left:=0}).map ax.id=s.ae.map ax.id:=wA _ h2 rr;have f:Frame s ((({s.du j with bg:=(fq s.bg ⟨id,j.x.bC⟩).1}:af).with n {j with bB:=false,left:=0}).jt id k):=
  ⟨w.al,w.aH,by simp_all,w.next⟩
 have K:j.x.bC<p:=hp j v hid;have F:∀e∈s.bg,∃x∈s.ae.set n {j with bB:=false,left:=0},x.id=e.id/\x.bB=false/\x.x.bC=e.bC:=by
  intro e l;obtain⟨x,d,a,b,c⟩:=h.kK e l;grind
 have bZ:∀q,oZ q->(∀e∈q,e∈s.bg\/e=⟨id,j.x.bC⟩)->q.take m=s.bg.take m->s.bg.length<=q.length->∀t:af,t.ae=s.ae.set n {j with bB:=false,left:=0}->t.bg=q->Frame s t->sc p m s t:=by
  intro q A B L M t t1 t2 t3;have u:(s.ae.set n {j with bB:=false,left:=0}).length=s.ae.length:=x9 ..;refine⟨⟨by show(t.ae.map ax.id).Nodup;rw[t1,o];exact h.eU,?_,?_,by rw[t1,u];exact h.len,t2▸A,?_,by rw[t3.al];exact h.jT⟩,t3,by simp_all,by simp_all,?_,by simp_all⟩
  ·intro x d;rw[t1]at d;rw[t3.next];rcases(g x).1 d with rfl|d
   ·exact h.dL j v
   ·exact h.dL x d.1
  ·intro x d;rw[t1]at d;rcases(g x).1 d with rfl|d
   ·exact h.fp j v
   ·exact h.fp x d.1
  ·intro e l;rw[t2]at l;rw[t1];rcases B e l with l|rfl
   ·simp_all
   simp_all
  grind
 rcases z_ s.bg ⟨id,j.x.bC⟩with r|⟨r,C⟩
 ·exact bZ s.bg h.gp (λe l=>.inl l) rr (j2 _) _ i r f
 ·refine bZ _ (JB h.gp C) (λe l=>(FG.1 l).symm) (ang G λx d=>?_) (by grind [Df]) _ i r f;grind [QE.AM]
def NO:∀{s:af} (l:List UInt64),eF s->∀{p:Int} {m:Nat},m<=s.bg.length->(∀e∈s.bg.take m,p<=e.bC)->(∀id∈l,∀j∈s.ae,j.id=id->j.x.bC<p)->sc p m s (eu s l)
 |s,[],h,_,_,_,_,_=>.refl h
 |s,id::l,h,p,m,a,hq,hp=>by
  have h1:=XE h a hq id 5 (hp id j6)
  refine h1.trans (NO l h1.bA (r8 a h1.size) (by rw[h1.head];exact hq) λi hi j d c=>?_)
  have b:(j.id,j.x)∈s.ae.map (λj=>(j.id,j.x)):=by rw[<-h1.frame.ae];grind
  grind
theorem Cw{α:Type}{L:List α}{i j:Nat}{x:α}(h:x∈swp L i j):x∈L:=by grind [swp]
section
variable {α:Type}{lt:α→α→Bool}
theorem Tf(a:Nat):∀(j:Nat) {L:List α} {x:α},x∈kO lt a j L->x∈L
 |0,_,_,h=>h
 |j+1,L,x,h=>by
  unfold kO at h
  split at h
  ·exact h
  ·split at h
   ·exact h
   ·exact Cw (Tf a j h)
theorem Tv(a:Nat):∀(m i:Nat) {L:List α} {x:α},x∈rP lt a m i L->x∈L
 |0,_,_,_,h=>h
 |m+1,i,_,_,h=>Tf a i (Tv a m (i+1) h)
theorem afm{a b:Nat}{L:List α}{x:α}(h:x∈lL lt a b L):x∈L:=Tv _ _ _ h
theorem Bo:∀(n a b:Nat) {L:List α} {x:α},x∈kU n a b L->x∈L
 |0,_,_,_,_,h=>h
 |n+1,a,b,_,_,h=>Cw (Bo n (a+1) (b+1) h)
theorem Ja:∀(f i j m:Nat) {L:List α} {x:α},x∈oN f i j m L->x∈L
 |0,_,_,_,_,_,h=>h
 |f+1,i,j,m,L,x,h=>by
  unfold oN at h
  split at h
  ·grind [Bo]
  ·split at h
   ·exact Bo _ _ _ (Ja f _ _ _ h)
   ·exact Bo _ _ _ (Ja f _ _ _ h)
theorem ade{a m b:Nat}{L:List α}{x:α}(h:x∈lU a m b L):x∈L:=Ja _ _ _ _ h
theorem US:∀(n k:Nat) {L:List α} {x:α},x∈oz n k L->x∈L
 |0,_,_,_,h=>h
 |n+1,k,_,_,h=>Cw (US n (k+1) h)
theorem QM:∀(n k:Nat) {L:List α} {x:α},x∈oT n k L->x∈L
 |0,_,_,_,h=>h
 |n+1,k,_,_,h=>Cw (QM n (k-1) h)
theorem Kx:∀(f a m b:Nat) {L:List α} {x:α},x∈gI lt f a m b L->x∈L
 |0,_,_,_,_,_,h=>h
 |f+1,a,m,b,L,x,h=>by
  unfold gI at h
  split at h
  ·grind [US]
  ·split at h
   ·grind [QM]
   ·dsimp only at h
    have i:∀{s e:Nat} {c d:Bool} {x:α},x∈(match c,d with|true,true=>lU s m e L|_,_=>L)->x∈L:=by
     grind [ade]
    have j:∀{s e:Nat} {c d:Bool} {M:List α} {x:α},x∈(match c,d with|true,true=>gI lt f a s e M|_,_=>M)->x∈M:=by
     intro s e c d M x h
     split at h
     ·exact Kx f _ _ _ h
     ·exact h
    have g:∀{s e:Nat} {c d:Bool} {M:List α} {x:α},x∈(match c,d with|true,true=>gI lt f s e b M|_,_=>M)->x∈M:=by
     intro s e c d M x h
     split at h
     ·exact Kx f _ _ _ h
     ·exact h
    exact i (j (g h))
theorem amZ{L:List α}{x:α}(h:x∈lH lt L):x∈L:=by grind [lH,afm,Kx]
end
theorem al8{s:af}{id i:UInt64}(h:i∈nf s id):∃o∈s.ae,o.id=i/\o.bB=true/\o.x.bC<(bK s.ae id).1.x.bC:=by
 unfold nf at h;split at h
 ·cases h
 ·obtain⟨o,a,e⟩:=y9.1 h;have:=C5.1 (amZ a);grind [oA]
theorem MG{tr:List UInt64->List BA×Bool}{all:List UInt64}:∀{m n:Nat} {l:List UInt64} {al:List BA},re tr all m n=some (l,al)->(∀i∈l,i∈all)/\tr l=(al,true)
 |0,_,_,_,h=>by cases h
 |m+1,n,l,al,h=>by
  unfold re at h
  split at h
  ·grind
  ·exact MG h
theorem FM{tr:List UInt64->List BA×Bool}:∀(m k:Nat) {l:List UInt64} {al:List BA},tr l=(al,true)->(∀i∈(jD tr m k l al).1,i∈l)/\tr (jD tr m k l al).1=((jD tr m k l al).2,true)
 |0,_,_,_,h=>⟨λ_ h=>h,h⟩
 |m+1,k,l,al,h=>by
  unfold jD
  split
  ·simp_all
  ·split
   ·rename_i e
    have:=FM m k e
    grind [uw]
   ·exact FM m (k+1) h
theorem Bv{s:af}{id:UInt64}(h:(eR s id).ok=true):(∀i∈(eR s id).l,i∈nf s id)/\db (eu s (eR s id).l) id=((eR s id).al,true):=by grind [eR,MG,FM]
theorem ah6{s t:af}(h:Frame s t)(id:UInt64):(bK t.ae id).2=(bK s.ae id).2/\(bK t.ae id).1.x=(bK s.ae id).1.x:=by
 have key:∀l:List ax,(l.map (λj=>(j.id,j.x))).find? (λq=>decide (q.1=id))=(l.find? (λj=>decide (j.id=id))).map (λj=>(j.id,j.x)):=by
  intro l;rw[O6];rfl
 have h1:=key t.ae;rw[h.ae,key s.ae]at h1;grind [bK]
theorem agz{s t:af}(h:Frame s t){id:UInt64}(a:(waits t id).2=(waits s id).2):nU t id=nU s id:=by
 have b:(waits t id).1.x=(waits s id).1.x:=by
  grind [ah6,waits]
 have c:∀aa v,uv t.aH aa v=uv s.aH aa v:=by
  intro aa v;have e:∀l:List aB,l.map (λe=>{e with b_:=V4.z})=(l.map (λe=>(e.aa,e.bI))).map (λq=>(⟨q.1,q.2,V4.z⟩:aB)):=by
   simp_all
  unfold uv;rw[e,e,h.aH]
 have hb:t.ar.bare=s.ar.bare:=by unfold bf.bare;rw[h.al]
 grind [nU,tJ]
theorem XS{l:af}(h:mb l.ae){j:ax}(a:j∈l.ae)(b:j.bB=false):waits l j.id=(j,true):=by grind [waits,AE]
theorem Ue(d:V4):∀(l:List dc) (k:Nat) (r:tu),(mu d l k r).ok=true->mu d l k r=r\/∃i s,l[i]? = some s/\(mu d l k r).cm=k+i/\s.free.sub d=((mu d l k r).left,true)
 | [],_,r,_=>.inl rr
 |s::l,k,r,h=>by
  unfold mu at h⊢
  rcases Ue d l (k+1) _ h with e|⟨i,s',h1,h2,a⟩
  ·rw[e]
   unfold wD
   rcases b:s.free.sub d with⟨v,_|_⟩
   ·simp_all
   ·dsimp only
    cases c:r.ok
    ·grind
    dsimp only
    cases decide (v.mQ r.left<0)<;>grind
  ·exact .inr ⟨i+1,s',h1,om,a⟩
theorem Na{d:V4}{l:List dc}(h:(gl l d).ok=true):∃s,l[(gl l d).cm]? = some s/\s.free.sub d=((gl l d).left,true):=by grind [gl,Ue]
structure Jh(l:List dc)(q:bf):Prop where
 nd:(l.map dc.node).Nodup
 h:∀s∈l,(q.find s.node).2=true/\(q.find s.node).1.up=true/\q.free s.node=(s.free,true)
theorem afL{p:bf}{n:BA}{v:V4}:p.free n=(v,true)↔p.places.foldl (kv n) ((p.find n).1.cap,(p.find n).2)=(v,true):=by grind [bf.free]
theorem TY{q:bf}{n m:BA}{v w:V4}{aZ:UInt64}(h:q.free m=(w,true)):bf.free ⟨q.al,q.places++[⟨aZ,n,v⟩]⟩ m=(match seq n m with|true=>(match w.sub v with|(x,true)=>(x,true)|(_,false)=>(V4.z,false))|false=>(w,true)):=by grind [bf.find,bf.free,kv]
theorem Ts{d:V4}(aZ:UInt64):∀(n:Nat) (l:List dc) (out:List BA) (q:bf),(mX d n l out).2=true->Jh l q->∃ns,(mX d n l out).1=out++ns/\ns.length=n/\(iS aZ d ns q).2=0
 |0,l,out,q,_,_=>⟨[],(A2 _).symm,rr,rr⟩
 |n+1,l,out,q,h,g=>by
  unfold mX at h⊢
  cases hb:(gl l d).ok
  ·simp_all
  rw[hb]at h
  dsimp only at h⊢
  obtain⟨s,h1,h2⟩:=Na hb
  generalize(gl l d).cm=k at h h1⊢
  generalize(gl l d).left=left at h h2⊢
  rw[h1]at h⊢
  simp only[I8]at h⊢
  obtain⟨t1,t2,t3⟩:=g.h s (i7 h1)
  obtain⟨v,w⟩:=c9.1 h1
  have j:q.room s.node d=0:=by
   grind [bf.room,V4.db]
  have c:(l.set k {s with free:=left}).map dc.node=l.map dc.node:=by
   rw[O3]
   apply E5
   grind
  have b:Jh (l.set k {s with free:=left}) ⟨q.al,q.places++[⟨aZ,s.node,d⟩]⟩:=by
   refine⟨by rw[c];exact g.nd,λx o=>?_⟩
   have p:∀m,bf.find ⟨q.al,q.places++[⟨aZ,s.node,d⟩]⟩ m=q.find m:=λ_=>rfl
   rw[p]
   obtain⟨i,hi⟩:=A0 o
   rw[P0]at hi
   split at hi
   ·grind [TY,xu]
   ·rename_i e
    obtain⟨t,r,u⟩:=g.h x (i7 hi)
    refine⟨t,r,?_⟩
    rw[TY u]
    cases f:seq s.node x.node
    ·rfl
    exfalso
    have f:=eI.1 f
    exact e (sU (l:=l.map dc.node) g.nd (a:=s.node) (by simp_all) (by simp_all))
  obtain⟨ns,e1,e2,e3⟩:=Ts aZ n _ _ _ h b
  grind [iS]
theorem Yd:∀{l:List bR} {p:bf},((l.filterMap (qL p)).map dc.node).Sublist (l.map bR.name)
 | [],_=>.slnil
 |n::l,p=>by
  rw[List.filterMap_cons]
  have b:=Yd (l:=l) (p:=p)
  cases e:qL p n with
  |none=>simp_all
  |some s=>
   have a:s.node=n.name:=by
    grind [qL]
   simp_all
theorem Ww{l:List bR}(h:(l.map bR.name).Nodup){n:bR}(a:n∈l):l.find? (λx=>seq x.name n.name)=some n:=by induction l<;>grind [eI]
theorem amw{p:bf}(h:(p.al.map bR.name).Nodup)(x:List bX):Jh (mT p.mw x) p:=by
 constructor
 ·grind [mT,bf.mw,Yd]
 ·intro s b;unfold mT bf.mw at b;obtain⟨n,c,e⟩:=J3.1 (C5.1 b).1;unfold qL at e;split at e
  ·cases e
  ·rename_i d;split at e
   ·cases e
   ·rename_i f;cases e;dsimp only;have a:p.find n.name=(n,true):=by simp_all [bf.find,Ww]
    grind
theorem acb{s:af}(h:eF s){id:UInt64}{al:List BA}(a:db s id=(al,true)):∃(k:Nat) (j:ax) (t:List aB) (p:bf),s.ae[k]? = some j/\j∈s.ae/\j.id=id/\j.bB=false/\t.map (λe=>(e.aa,e.bI))=s.aH.map (λe=>(e.aa,e.bI))/\p.al=s.ar.al/\
 s.begin id al=((({s with aH:=t,ar:=p,bg:=(jA s.bg id).1}:af).with k {j with bB:=true,left:=j.x.dF}).jt id 2,0):=by
 unfold db tJ waits at a
 cases h2:(bK s.ae id).2
 ·simp_all
 rw[h2]at a
 dsimp only at a
 obtain⟨g,hid⟩:=oh h2
 rcases ol s.ae id with⟨h1,i⟩|⟨k,h1,i,_⟩
 ·simp_all
 unfold af.begin
 rw[h1,j1 om]
 dsimp only
 generalize(bK s.ae id).1=j at*
 cases l:j.bB
 case true=>simp_all
 rw[l]at a
 dsimp only[Bool.not_false]at a⊢
 rcases c:j.x.total with⟨v,_|_⟩
 ·simp_all
 rw[c]at a
 dsimp only at a
 cases hp:(li s.ar.mw j.x.dv j.x.cT j.x.count).2
 ·simp_all
 rw[hp]at a
 dsimp only at a
 cases d:decide ((jw s.aH j.x.aa v).2=0)
 ·simp_all
 rw[d]at a
 injection a with a _
 have b:(iS id j.x.cT al s.ar).2=0/\(al.length:Int)=j.x.count:=by
  unfold li at hp a
  split at hp
  ·cases hp
  ·rename_i e
   rw[e]at a
   dsimp only at a
   obtain⟨ns,e1,e2,e3⟩:=Ts id _ _ _ _ hp (amw h.jT j.x.dv)
   rw[e1,D4]at a
   subst a
   refine⟨e3,?_⟩
   have:=h.fp j g
   omega
 rw[l9 b.2]
 dsimp only
 rcases m:jw s.aH j.x.aa v with⟨t,e⟩
 rw[m]at d
 dsimp only at d⊢
 rw[d]
 dsimp only
 rcases f:s.ar.gB id al j.x.cT with⟨p,e'⟩
 have n:p.al=s.ar.al/\e'=0:=by
  unfold bf.gB at f
  rw[l9 b.1]at f
  dsimp only at f
  have:=b.1
  rw[f]at this
  refine⟨?_,this⟩
  have key:∀(ns:List BA) (q:bf),(iS id j.x.cT ns q).1.al=q.al:=by
   intro ns
   induction ns<;>grind [iS]
  grind
 grind [yE,Gl,jw]
theorem QE.aa3(a:QE):a.dm a=false:=by grind [QE.AM]
def YS{s:af}(h:eF s){x y:QE}(a:x∈s.bg)(b:y∈s.bg)(e:x.id=y.id):x=y:=by
 obtain⟨j,c,g,a2,a3⟩:=h.kK x a;obtain⟨k,d,f,l,i⟩:=h.kK y b;have:=pq h.eU c d (g.trans (e.trans f.symm));subst this;cases x;simp_all
theorem DN{s:af}(h:eF s){m n:Nat}{x y:QE}(b:s.bg[m]? = some x)(c:s.bg[n]? = some y)(e:x.id=y.id):m=n:=by
 have a:=YS h (i7 b) (i7 c) e;subst a;obtain⟨h1,h2⟩:=c9.1 b;obtain⟨d,f⟩:=c9.1 c;have hp:=E0.1 h.gp;grind [QE.aa3]
def abT{s:af}(h:eF s){m:Nat}{e:QE}(a:s.bg[m]? = some e):(jA s.bg e.id).1=s.bg.eraseIdx m:=by grind [Ke,DN]
structure OL(s u:af)(m:Nat)(e:QE):Prop where
 bA:eF u
 frame:Frame s u
 bg:u.bg=s.bg.eraseIdx m
 bx:∀j∈s.ae,j.id≠e.id->j∈u.ae
 bB:∃j∈u.ae,j.id=e.id/\j.bB=true/\j.x.bC=e.bC
def anN{s:af}(h:eF s){m:Nat}{e:QE}(v:s.bg[m]? = some e){al:List BA}(z:db s e.id=(al,true)):(s.begin e.id al).2=0/\OL s (s.begin e.id al).1 m e:=by
 obtain⟨k,j,t,p,l,n,hid,D,A,hp,hb⟩:=acb h z;rw[hb];refine az ?_;have o:=i7 v;have q:j.x.bC=e.bC:=by
  obtain⟨j',r,w,a2,a3⟩:=h.kK e o;rw[<-pq h.eU r n (w.trans hid.symm)];exact a3
 have a:=λx=>vC (x:=x) (j':={j with bB:=true,left:=j.x.dF}) h.eU l rr
 have d:∀x∈s.ae,x.id≠e.id->x∈s.ae.set k {j with bB:=true,left:=j.x.dF}:=λx b B=>(a x).2 (.inr ⟨b,by simp_all⟩)
 have f:(s.ae.set k {j with bB:=true,left:=j.x.dF}).map (λj=>(j.id,j.x))=s.ae.map (λj=>(j.id,j.x)):=wA _ l rr;have c:(s.ae.set k {j with bB:=true,left:=j.x.dF}).map ax.id=s.ae.map ax.id:=wA _ l rr;have g:(s.ae.set k {j with bB:=true,left:=j.x.dF}).length=s.ae.length:=x9 ..;have hq:=abT h v;show OL s {s with aH:=t,ar:=p,bg:=(jA s.bg e.id).1,ae:=s.ae.set k {j with bB:=true,left:=j.x.dF},dX:=_} m e
 rw[hq];refine⟨⟨by show(List.map ax.id (s.ae.set k _)).Nodup;rw[c];exact h.eU,?_,?_,by show(s.ae.set k _).length<=32;rw[g];exact h.len,h.gp.sublist (I0 _ _),?_,by show(p.al.map _).Nodup;rw[hp];exact h.jT⟩,⟨hp,A,f,rr⟩,rr,d,⟨_,(a _).2 (.inl rr),hid,rr,q⟩⟩
 ·intro x b;rcases(a x).1 b with rfl|b
  ·exact h.dL j n
  ·exact h.dL x b.1
 ·intro x b;rcases(a x).1 b with rfl|b
  ·exact h.fp j n
  ·exact h.fp x b.1
 ·intro y C;obtain⟨i,hi,u⟩:=G2.1 C;obtain⟨x,b,w,a2,a3⟩:=h.kK y (i7 u);grind [DN]
def Kl{s:af}:∀{l:List QE} {k:Nat},(qP s l k).ok=true->∃i e,l[i]? = some e/\(qP s l k).id=e.id/\(qP s l k).cm=k+i/\∀x∈l.take i,nU s x.id=false
 | [],_,h=>by cases h
 |x::l,k,h=>by
  unfold qP at h⊢
  cases a:nU s x.id
  case true=>grind
  rw[a]at h
  obtain⟨i,e,h1,h2,b,c⟩:=Kl h
  refine⟨i+1,e,h1,h2,by grind,λy d=>?_⟩
  grind
theorem Ol{s:af}:∀{l:List QE} {k m:Nat},m<=l.length->(∀e∈l.take m,nU s e.id=false)->qP s l k=qP s (l.drop m) (k+m)
 |_,_,0,_,_=>rfl
 | [],_,m+1,h,_=>by cases h
 |x::l,k,m+1,h,a=>by
  rw[N7,show k+(m+1)=(k+1)+m by omega,<-Ol (Nat.le_of_succ_le_succ h) λe b=>a e (by simp_all)]
  grind [qP]
def CT(s:af):Prop:=(dD s 0).ok=true->(eR s (dD s 0).id).ok=false
def ahJ{s:af}{m:Nat}(h:m<=s.bg.length)(a:∀e∈s.bg.take m,nU s e.id=false):dD s 0=dD s m:=by grind [dD,Ol]
structure zF(B:List UInt64)(t:fB):Prop where
 bA:eF t.s
 air:t.cm<=t.s.bg.length
 Ys:∀e∈t.s.bg.take t.cm,nU t.s e.id=false
 TM:B.Nodup
 run:∀b∈B,∃j∈t.s.ae,j.id=b/\j.bB=true/\∀e∈t.s.bg.drop t.cm,e.bC<=j.x.bC
def WA{q:List QE}(h:oZ q){m n:Nat}{x y:QE}(b:q[m]? = some x)(c:q[n]? = some y)(a:m<=n):y.bC<=x.bC:=by grind [QE.AM,List.pairwise_iff_getElem]
def OC{α:Type}{l:List α}{m:Nat}{x:α}(h:x∈l.take m):∃i,i<m/\l[i]? = some x:=by grind [List.getElem?_of_mem]
def acV{α:Type}{l:List α}{m:Nat}{x:α}(h:x∈l.drop m):∃i,m<=i/\l[i]? = some x:=by grind [List.getElem?_of_mem]
def acs{α:Type}{l l':List α}{m i:Nat}(h:l.take m=l'.take m)(hi:i<m):l[i]? = l'[i]?:=by
 have:=congrArg (·[i]?) h;grind
def IH{B:List UInt64}{t:fB}(h:zF B t):(t.next=(t,false)/\CT t.s)\/∃u b,t.next=(u,true)/\zF (b::B) u:=by
 have S:=ahJ h.air h.Ys;unfold fB.next;cases G:(dD t.s t.cm).ok
 ·refine .inl ⟨rr,λh1=>?_⟩;simp_all
 dsimp only;cases hv:(eR t.s (dD t.s t.cm).id).ok
 ·exact .inl ⟨rr,λ_=>by simp_all⟩
 dsimp only;obtain⟨i,e,h1,h2,H,T⟩:=Kl (s:=t.s) (l:=t.s.bg.drop t.cm) (k:=t.cm) G;have h2:(dD t.s t.cm).id=e.id:=h2;have H:(dD t.s t.cm).cm=t.cm+i:=H;rw[h2]at hv⊢;rw[H];rw[E7]at h1;generalize Z:t.cm+i=m at h1 H⊢;have L:m<t.s.bg.length:=(c9.1 h1).1;have U:=i7 h1;obtain⟨je,d,P,a2,a3⟩:=h.bA.kK e U;obtain⟨v1,v2⟩:=Bv hv;have a:sc e.bC (m+1) t.s (eu t.s (eR t.s e.id).l):=by
  refine NO _ h.bA L (λx A=>?_) λid hid j f M=>?_
  ·obtain⟨n,G,A⟩:=OC A;exact WA h.bA.gp A h1 om
  ·obtain⟨o,V,I,J,R⟩:=al8 (v1 id hid);rw[pq h.bA.eU f V (M.trans I.symm)];rw[<-P,AE h.bA.eU d,a3]at R;exact R
 generalize W:eu t.s (eR t.s e.id).l=s1 at a v2⊢;have C:s1.bg[m]? = some e:=(acs a.head (D8 m)).trans h1;obtain⟨dU,hb⟩:=anN a.bA C v2;rcases N:s1.begin e.id (eR t.s e.id).al with⟨u,er⟩
 rw[N]at dU hb;dsimp only at dU hb⊢;rw[dU];refine .inr ⟨_,e.id,rr,?_⟩;have c:=a.frame.trans hb.frame;have Q:=a.size;have w:u.bg.drop m=s1.bg.drop (m+1):=by
  rw[hb.bg,I5];grind
 have r:u.bg.take m=t.s.bg.take m:=by
  rw[hb.bg,I5,List.take_left' (by grind)];have:=congrArg (List.take m) a.head;grind
 have q:∀y∈u.bg.drop m,y.bC<=e.bC:=by
  intro y z;rw[w]at z;obtain⟨n,G,z⟩:=acV z;exact WA a.bA.gp C z om
 refine⟨hb.bA,?_,?_,K5.2 ⟨λX=>?_,h.TM⟩,?_⟩
 ·show m<=u.bg.length
  rw[hb.bg,List.length_eraseIdx,z7 om];omega
 ·show∀x∈u.bg.take m,nU u x.id=false
  rw[r];intro x A;obtain⟨n,G,D⟩:=OC A;have v:nU t.s x.id=false:=by
   by_cases Y:n<t.cm
   ·exact h.Ys x (G1.2 ⟨n,by simp_all⟩)
   ·exact T x (G1.2 ⟨n-t.cm,by grind⟩)
  rw[<-v];refine agz c ?_;obtain⟨K,E,I,J,R⟩:=h.bA.kK x (i7 D);have g:K.id≠e.id:=λe'=>by
   have:=DN h.bA D h1 (I.symm.trans e');omega
  have O:K∈u.ae:=hb.bx K (a.bx K E (.inl J)) g;rw[<-I,XS h.bA.eU E J,XS hb.bA.eU O J]
 ·obtain⟨j,f,c1,c2,_⟩:=h.run e.id X;have:=pq h.bA.eU f d (c1.trans P.symm);simp_all
 ·intro b p;rcases p9.1 p with rfl|p
  ·obtain⟨j,f,c1,c2,c3⟩:=hb.bB;grind
  ·obtain⟨j,f,c1,c2,c3⟩:=h.run b p;have F:e.bC<=j.x.bC:=c3 e (G1.2 ⟨i,by simp_all⟩);have g:j.id≠e.id:=λe'=>by
    have:=pq h.bA.eU f d (e'.trans P.symm);simp_all
   exact⟨j,hb.bx j (a.bx j f (.inr F)) g,c1,c2,λy z=>Int.le_trans (q y z) F⟩
def Uf{α:Type}[DecidableEq α]:∀{B l:List α},B.Nodup->(∀b∈B,b∈l)->B.length<=l.length
 | [],_,_,_=>j9 _
 |b::B,l,h,a=>by
  obtain⟨d,e,rfl⟩:=List.append_of_mem (a b j6)
  have c:=K5.1 h
  have:=Uf (B:=B) (l:=d++e) c.2 λx f=>by
   grind
  grind
def Vw:∀(n:Nat) {B:List UInt64} {t:fB},zF B t->33<=n+B.length->eF (jH n t).s/\CT (jH n t).s
 |0,B,t,h,a=>by
  have h1:B.length<=(t.s.ae.map ax.id).length:=Uf h.TM λb hb=>by
   obtain⟨j,f,e,_⟩:=h.run b hb
   grind
  rw[c8]at h1
  have:=h.bA.len
  omega
 |n+1,B,t,h,a=>by
  unfold jH
  rcases IH h with⟨e,c⟩|⟨u,b,e,d⟩
  ·rw[e];exact⟨h.bA,c⟩
  ·rw[e]
   exact Vw n d (by grind)
def aix{s:af}(h:eF s):eF s.kX/\CT s.kX:=
 Vw 128 (B:=[]) (t:=⟨s,0⟩) ⟨h,j9 _,λ_ h=>(by cases h),F9,λ_ h=>(by cases h)⟩ (by decide)
theorem JY{s:af}(h:eF s)(id:UInt64)(k:Int):eF (s.fh id k).1:=by
 unfold af.fh;rcases ol s.ae id with⟨h1,h2⟩|⟨n,h1,h2,r⟩
 ·simp_all
 rw[j1 om];dsimp only;obtain⟨u,hid⟩:=oh r;generalize(bK s.ae id).1=j at*
 rw[h1,x8];have d:(s.ae.eraseIdx n).Sublist s.ae:=I0 _ _;have o:∀x∈s.ae,x.id≠id->x∈s.ae.eraseIdx n:=by
  grind [List.getElem?_of_mem,List.mem_eraseIdx_iff_getElem?]
 have bZ:∀t:af,t.ae=s.ae.eraseIdx n->t.next=s.next->t.ar.al=s.ar.al->oZ t.bg->(∀e∈t.bg,e∈s.bg/\e.id≠id)->eF t:=by
  intro t t1 t2 t3 t4 t5;refine⟨?_,?_,?_,?_,t4,?_,by rw[t3];exact h.jT⟩
  ·show(t.ae.map ax.id).Nodup
   rw[t1];exact h.eU.sublist (d.map _)
  ·intro x g;rw[t1]at g;rw[t2];exact h.dL x (d.subset g)
  ·intro x g;rw[t1]at g;exact h.fp x (d.subset g)
  ·rw[t1];exact r8 d.length_le h.len
  ·intro e f;obtain⟨hq,v⟩:=t5 e f;obtain⟨x,g,a,b,c⟩:=h.kK e hq;grind
 cases z:j.bB
 case true=>
  dsimp only;obtain⟨q,i,l⟩:=nQ s j;refine bZ _ (by show(s.du j).ae.eraseIdx n=_;rw[i]) q.next q.al (by show oZ (s.du j).bg;rw[l];exact h.gp) λe f=>?_
  have f:e∈s.bg:=by have f:e∈(s.du j).bg:=f;simp_all
  refine⟨f,λe'=>?_⟩;obtain⟨x,g,a,b,c⟩:=h.kK e f;have:=pq h.eU g u (a.trans (e'.trans hid.symm));simp_all
 dsimp only;rcases Ke s.bg id with⟨p,w⟩|⟨m,y,p,w,A⟩
 ·exact bZ _ rr rr rr (by show oZ (jA s.bg id).1;rw[p];exact h.gp) λe f=>by
   have f:e∈(jA s.bg id).1:=f;simp_all
 ·refine bZ _ rr rr rr (by show oZ (jA s.bg id).1;rw[p];exact h.gp.sublist (I0 _ _)) λe f=>?_
  have f:e∈(jA s.bg id).1:=f;grind [List.mem_eraseIdx_iff_getElem?,DN]
theorem Ii{s:af}(h:eF s)(id:UInt64):eF (fS s id):=by
 unfold fS;rcases ol s.ae id with⟨h1,h2⟩|⟨n,h1,h2,k⟩
 ·simp_all
 rw[j1 om];dsimp only;obtain⟨g,hid⟩:=oh k;generalize(bK s.ae id).1=j at*
 rw[h1,x8];have f:=λx=>vC (x:=x) (j':={j with left:=j.left-1}) h.eU h2 rr
 have key:eF {s with ae:=s.ae.set n {j with left:=j.left-1}}:=by
  refine⟨by show(List.map ax.id (s.ae.set n _)).Nodup;rw[wA (j':={j with left:=j.left-1}) ax.id h2 rfl];exact h.eU,?_,?_,by show(s.ae.set n _).length<=32;rw[x9];exact h.len,h.gp,?_,h.jT⟩
  ·intro x d;rcases(f x).1 d with rfl|d
   ·exact h.dL j g
   ·exact h.dL x d.1
  ·intro x d;rcases(f x).1 d with rfl|d
   ·exact h.fp j g
   ·exact h.fp x d.1
  ·intro e l;obtain⟨x,d,a,b,c⟩:=h.kK e l;by_cases i:x.id=j.id
   ·have:=pq h.eU d g i;simp_all
   grind
 grind [JY]
theorem eF.same{s t:af}(h:eF s)(a:t.ae=s.ae)(b:t.next=s.next)(hq:t.bg=s.bg)(hp:t.ar.al=s.ar.al):eF t:=
 ⟨by rw[a];exact h.eU,by rw[a,b];exact h.dL,by rw[a];exact h.fp,by rw[a];exact h.len,by rw[hq];exact h.gp,by rw[hq,a];exact h.kK,by rw[hp];exact h.jT⟩
def zy{s:af}(h:eF s):eF s.count:=by
 unfold af.count;have:eF {s with round:=s.round+1}:=h.same rr rr rr rr;generalize jh s=l;generalize({s with round:=s.round+1}:af)=t at this;induction l generalizing t<;>grind [Ii]
def ZC{s:af}(h:eF s):eF s.oI/\CT s.oI:=aix (zy h)
def Ih{s:af}(h:eF s)(id:UInt64)(k:Int):eF (s.stop id k).1:=by
 refine(XE (p:=(bK s.ae id).1.x.bC+1) (m:=0) h (j9 _) (λe a=>by cases a) id k λj b e=>?_).bA;rw[<-e,AE h.eU b];grind
def DE{k:Int}:∀{l:List UInt64} {s:af},eF s->eF (l.foldl (λs id=>(s.stop id k).1) s)
 | [],_,h=>h
 |i::l,_,h=>DE (l:=l) (Ih h i k)
def TU{x:bM}(h:x.check=0):0<=x.count:=by grind [bM.check,fJ]
def RD{s:af}(h:eF s)(x:bM):eF (s.fv x).1:=by
 unfold af.fv;cases m:decide (x.check=0)
 ·exact h
 dsimp only;cases there s.aH x.aa
 ·exact h
 dsimp only;cases k:decide (32<=(s.ae.length:Int))
 case true=>exact h
 dsimp only;cases f:decide (s.next=18446744073709551615)
 case true=>exact h
 dsimp only;cases hq:decide ((fq s.bg ⟨s.next,x.bC⟩).2=0)
 ·exact h
 dsimp only;have n:=TU (j5 m);have k:=j4 k;have f:=j4 f;have o:s.next.toNat+1<18446744073709551616:=by
  have h1:=s.next.toNat_lt;have h2:s.next.toNat≠18446744073709551615:=λe=>f (F6.1 (by rw[e];rfl))
  omega
 have g:(s.next+1).toNat=s.next.toNat+1:=by
  simp_all
 have l:∀j∈s.ae,j.id≠s.next:=λj c e=>by have:=h.dL j c;simp_all
 show eF {s with bg:=(fq s.bg ⟨s.next,x.bC⟩).1,ae:=s.ae++[⟨s.next,x,false,0⟩],next:=s.next+1,dX:=_}
 refine⟨?_,?_,?_,?_,?_,?_,h.jT⟩
 ·show((s.ae++[_]).map ax.id).Nodup
  rw[l6,List.nodup_append];refine⟨h.eU,K5.2 ⟨λh=>(by cases h),F9⟩,λa p b hb=>?_⟩;grind
 ·intro j c;show j.id.toNat<(s.next+1).toNat
  rw[g];rcases s8.1 c with c|c
  ·have:=h.dL j c;omega
  simp_all
 ·intro j c;rcases s8.1 c with c|c
  ·exact h.fp j c
  simp_all
 ·grind
 ·show oZ (fq s.bg ⟨s.next,x.bC⟩).1
  rcases z_ s.bg ⟨s.next,x.bC⟩with e|⟨e,i⟩
  ·rw[e];exact h.gp
  ·rw[e];exact JB h.gp i
 ·intro e d;have old:e∈s.bg->∃j∈s.ae++[⟨s.next,x,false,0⟩],j.id=e.id/\j.bB=false/\j.x.bC=e.bC:=λd=>by
   obtain⟨j,c,a⟩:=h.kK e d;grind
  have d:e∈(fq s.bg ⟨s.next,x.bC⟩).1:=d;rcases z_ s.bg ⟨s.next,x.bC⟩with e'|⟨e',_⟩
  ·simp_all
  ·rw[e']at d;rcases FG.1 d with rfl|d
   ·simp_all
   simp_all
def GN(p:bf)(name:BA)(up:Bool):(p.turn name up).1.al.map bR.name=p.al.map bR.name:=by
 unfold bf.turn;cases a:decide (p.at name<0)
 case true=>rfl
 dsimp only;cases(p.find name).1.up==up with
 |true=>rfl
 |false=>
  dsimp only;unfold bf.at bf.find at*
  rcases kV (λn:bR=>seq n.name name) p.al 0 with⟨h1,h2⟩|⟨m,x,h1,h2,b⟩
  ·simp_all
  ·have h1:cJ (λn:bR=>seq n.name name) p.al 0=(m:Int):=h1.trans om;rw[h1,b,x8];dsimp only;apply E5;grind
def MK{p:bf}(h:(p.al.map bR.name).Nodup)(n:bR):((p.add n).1.al.map bR.name).Nodup:=by
 unfold bf.add;cases d_ n.name
 ·exact h
 dsimp only;cases iy n.ao
 ·exact h
 dsimp only;cases hp:decide (0<=p.at n.name)
 case true=>exact h
 dsimp only;cases decide (16<=(p.al.length:Int))
 case true=>exact h
 dsimp only;have b:∀x∈p.al,seq x.name n.name=false:=BL _ p.al 0 hp;have a:(p.al.take (uh p.al n.name)++{n with up:=true}::p.al.drop (uh p.al n.name)).Perm ({n with up:=true}::p.al):=by
  refine List.perm_middle.trans ?_;simp_all
 grind [eI]
end
section
open Go.RowKit Go.Proofs.Tryz
structure af.Sz(m:Nat)(s:af):Prop where
 al:s.ar.al.length<=16
 places:s.ar.places.length<=m
 aH:s.aH.length<=16
 ae:s.ae.length<=32
 bg:s.bg.length<=32
 ev:s.dX.l.length<=32
 au:s.dy.l.length<=32
 spec:∀j∈s.ae,j.x.Sz/\0<=j.x.count
 ao:∀n∈s.ar.al,n.ao.length<=67108864
def GS(s:af)(j:ax):(s.du j).dX=s.dX/\(s.du j).aH.length=s.aH.length/\(s.du j).ar=s.ar.drop j.id/\(s.du j).dy=s.dy/\(s.du j).round=s.round:=by
 unfold af.du;rcases j.x.total with⟨v,_|_⟩
 ·simp_all
 ·refine⟨rr,?_,rr,rr,rr⟩;have:=congrArg List.length (yE s.aH j.x.aa (aB.nn v) (QH v));rw[c8,c8]at this;exact this
def EW(s:af)(id:UInt64)(k:Int){m:Nat}(h:s.Sz m)(p:m<=50000000):PC 103 [s.pv,pu id,i64 k] (·=.aU [(s.stop id k).1.pv,i64 (s.stop id k).2]):=by
 refine aw func103 ?_;have q:=h.ae;refine ak (BG s id om) rr ?_;rcases nF s.ae id with⟨h1,h2⟩|⟨n,h1,h2,r⟩
 ·rw[show s.stop id k=(s,7)by grind [af.stop]];rw[h1];exact aj.t (by decide)<|an<|ah
 rw[h1];refine aj.f om<|ab<|bG h2 ?_;have c:=i7 h2;have d:s.stop id k=match(bK s.ae id).1.bB with
  |false=>(s,15)
  |true=>((({s.du (bK s.ae id).1 with bg:=(fq (s.du (bK s.ae id).1).bg ⟨id,(bK s.ae id).1.x.bC⟩).1}:af).with n {(bK s.ae id).1 with bB:=false,left:=0}).jt id k,0):=by
  grind [af.stop]
 generalize(bK s.ae id).1=j at h2 c d⊢;rcases j with⟨b,a,bB,left⟩
 cases bB
 ·rw[d];exact an<|ah
 rw[d];refine ab ?_;have hp:=h.places;have u:=h.aH;have hq:=h.bg;obtain⟨v,g,i⟩:=nQ s ⟨b,a,true,left⟩;obtain⟨e,o,_⟩:=GS s ⟨b,a,true,left⟩;exact ak (VM s ⟨b,a,true,left⟩ om om (h.spec _ c).1.1) rfl<|ak (ET (s.du ⟨b,a,true,left⟩).bg ⟨id,a.bC⟩ (by grind)) rfl<|ak (VN {s.du ⟨b,a,true,left⟩with bg:=(fq (s.du ⟨b,a,true,left⟩).bg ⟨id,a.bC⟩).1} n ⟨b,a,false,0⟩ ⟨b,a,true,left⟩ (by grind) (by simp_all)) rfl<|ak (AQ (({s.du ⟨b,a,true,left⟩with bg:=(fq (s.du ⟨b,a,true,left⟩).bg ⟨id,a.bC⟩).1}:af).with n ⟨b,a,false,0⟩) id k (by show(s.du _).dX.l.length<=_;rw[e];have:=h.ev;omega)) rfl<|ah
def abx(s:af)(id:UInt64)(al:List BA){m:Nat}(h:s.Sz m)(z:m<=50000000)(A:al.length<=1000000):PC 398 [s.pv,pu id,sl st al] (·=.aU [(s.begin id al).1.pv,i64 (s.begin id al).2]):=by
 refine aw func398 ?_;have w:=h.ae;refine ak (BG s id om) rr ?_;rcases nF s.ae id with⟨h1,h2⟩|⟨n,h1,h2,B⟩
 ·rw[show s.begin id al=(s,7)by grind [af.begin]];rw[h1];exact aj.t (by decide)<|an<|ah
 rw[h1];refine aj.f om<|ab<|bG h2 ?_;have k:=i7 h2;have a:s.begin id al=match(bK s.ae id).1.bB with
  |true=>(s,15)
  |false=>match decide ((al.length:Int)=(bK s.ae id).1.x.count)with
   |false=>(s,1)
   |true=>match(bK s.ae id).1.x.total with
    |(_,false)=>(s,5)
    |(v,true)=>match jw s.aH (bK s.ae id).1.x.aa v with
     |(t,e)=>match decide (e=0)with
      |false=>(s,e)
      |true=>match s.ar.gB id al (bK s.ae id).1.x.cT with
       |(p,e)=>match decide (e=0)with
        |false=>(s,e)
        |true=>((({s with aH:=t,ar:=p,bg:=(jA s.bg id).1}:af).with n {(bK s.ae id).1 with bB:=true,left:=(bK s.ae id).1.x.dF}).jt id 2,0):=by
  unfold af.begin;rw[h1,j1 om];rfl
 generalize(bK s.ae id).1=j at h2 k a⊢;rcases j with⟨u,b,bB,left⟩
 cases bB
 case true=>
  rw[a];exact an<|ah
 refine ab ?_;have o:(al.map st).length=al.length:=c8 ..;have hp:=h.places;have C:=h.aH;have hq:=h.bg;have y:=h.al;dsimp only at a;refine aj.aN (λc=>?_) (λc=>?_)
 ·rw[o]at c;have c:decide ((al.length:Int)=b.count)=true:=c;rw[c]at a;refine ab<|ak (zt b) rr ?_;rcases d:b.total with⟨v,_|_⟩
  ·rw[d]at a;rw[a];exact an<|ah
  rw[d]at a;dsimp only at a;refine ab<|ak (EV s.aH b.aa v om (h.spec _ k).1.1) rr ?_;rcases q:jw s.aH b.aa v with⟨t,e⟩
  rw[q]at a;dsimp only at a;refine aj.aN (λg=>?_) (λg=>?_)
  ·have g:decide (e=0)=true:=g;rw[g]at a;dsimp only at a;refine ab<|ak (adB s.ar id al b.cT om om) rr ?_;rcases r:s.ar.gB id al b.cT with⟨p,e'⟩
   rw[r]at a;dsimp only at a;refine aj.aN (λi=>?_) (λi=>?_)
   ·have i:decide (e'=0)=true:=i;rw[i]at a;rw[a];exact ab<|ak (Nv s.bg id om) rfl<|az<|ak (VN {s with aH:=t,ar:=p,bg:=(jA s.bg id).1} n ⟨u,b,true,b.dF⟩ ⟨u,b,false,left⟩ (by grind) h2) rfl<|ak (AQ (({s with aH:=t,ar:=p,bg:=(jA s.bg id).1}:af).with n ⟨u,b,true,b.dF⟩) id 2 (by show s.dX.l.length<=_;have:=h.ev;omega)) rfl<|ah
   ·have i:decide (e'=0)=false:=i;rw[i]at a;rw[a];exact an<|ah
  ·have g:decide (e=0)=false:=g;rw[g]at a;rw[a];exact an<|ah
 ·rw[o]at c;have c:decide ((al.length:Int)=b.count)=false:=c;rw[c]at a;rw[a];exact an<|ah
def IU(s:af)(id:UInt64)(k:Int){m:Nat}(h:s.Sz m)(x:m<=50000000):PC 370 [s.pv,pu id,i64 k] (·=.aU [(s.fh id k).1.pv,i64 (s.fh id k).2]):=by
 refine aw func370 ?_;have r:=h.ae;refine ak (BG s id om) rr ?_;rcases nF s.ae id with⟨h1,h2⟩|⟨n,h1,h2,y⟩
 ·rw[show s.fh id k=(s,7)by grind [af.fh]];rw[h1];exact aj.t (by decide)<|an<|ah
 rw[h1];refine aj.f om<|ab<|bG h2 ?_;have c:=i7 h2;have i:s.fh id k=match(bK s.ae id).1.bB with
  |true=>(({s.du (bK s.ae id).1 with ae:=(s.du (bK s.ae id).1).ae.eraseIdx n}:af).jt id k,0)
  |false=>(({s with bg:=(jA s.bg id).1,ae:=s.ae.eraseIdx n}:af).jt id k,0):=by
  grind [af.fh]
 generalize(bK s.ae id).1=j at h2 c i⊢;rcases j with⟨b,a,bB,left⟩
 have hp:=h.places;have z:=h.aH;have hq:=h.bg;have o:=(c9.1 h2).1;cases bB
 case true=>
  rw[i];refine an ?_;obtain⟨A,u,v⟩:=nQ s ⟨b,a,true,left⟩;obtain⟨p,w,_⟩:=GS s ⟨b,a,true,left⟩;refine bG h2<|aJ (VM s ⟨b,a,true,left⟩ om om (h.spec _ c).1.1) rfl<|az ?_;have d:n<(s.du ⟨b,a,true,left⟩).ae.length:=by simp_all
  have e:(s.du ⟨b,a,true,left⟩).ae.length<=32:=by simp_all
  have g:(s.du ⟨b,a,true,left⟩).dX.l.length<=60000000:=by rw[p];have:=h.ev;omega
  generalize s.du ⟨b,a,true,left⟩=t at d e g⊢;refine bu.bH [] (n:=200) (x_ t.ae om _) rr trivial<|jg (n+1)<|bu.bH [25] (n:=200) (OP t.ae n d om 25 _ rr) rr ⟨rr,trivial⟩ ?_;have q:(t.ae.eraseIdx n).length=t.ae.length-1:=by grind
  exact bu.by (n:=(t.ae.eraseIdx n).length+100) (AQ {t with ae:=t.ae.eraseIdx n} id k g) (a_ (ke (a_ rr (a_ rr (a_ rr (a_ rr (a_ rr (a_ (tT (l:=t.ae.eraseIdx n) rr (by grind [vS]) (by simp_all) fz.bL rr) rr))))))) (a_ rr (a_ rr rr)))<|ah
 rw[i];refine ab<|ak (Nv s.bg id om) rfl<|bu.bH [] (n:=200) (x_ s.ae om _) rr trivial<|jg (n+1)<|bu.bH [26] (n:=200) (OP s.ae n o om 26 _ rr) rr ⟨rr,trivial⟩ ?_;have q:(s.ae.eraseIdx n).length=s.ae.length-1:=by grind
 exact bu.by (n:=(s.ae.eraseIdx n).length+100) (AQ {s with bg:=(jA s.bg id).1,ae:=s.ae.eraseIdx n} id k (by show s.dX.l.length<=_;have:=h.ev;omega)) (a_ (ke (a_ rr (a_ rr (a_ rr (a_ rr (a_ rr (a_ (tT (l:=s.ae.eraseIdx n) rr (by grind [vS]) (by simp_all) fz.bL rr) rr))))))) (a_ rr (a_ rr rr)))<|ah
def aiO(t:List aB)(p:BA)(a:t.length<=67108864):PC 197 [st p,.ip [sl aB.pv t] 0] (·=bo (!(cO t p).2)):=aw func197<|ak (Eg t p a) rfl<|ah
def Xw(t:List aB)(aa:BA)(b:t.length<=67108864)(c:aa.size<=1000000):PC 129 [sl aB.pv t,st aa] (·=bo (there t aa)):=by
 refine aw func129<|bu.bH [] (n:=200) (Ia aa c _) rr trivial ?_;have d:=CY aa;refine dS.l (aq.mk (eE gC (jC aa) aA om) ?_);have a:(jC aa++[aA]).length<=4:=by rw[i6];show(jC aa).length+1<=4;omega
 exact bu.by (n:=(jC aa++[aA]).length+100) (Fv dx.one (jC aa++[aA]) (λp=>!(cO t p).2) om λp _=>aiO t p b) (a_ (dC (l:=jC aa++[aA]) rr (show(jC aa).map st++[st aA]=_ by rw[l6];rfl) gC.bL (show(jC aa).length+1=_ by rw[i6];rfl) rr) (a_ rr rr))<|ah
def afS(s:af)(x:bM){m:Nat}(h:s.Sz m)(i:x.Sz):PC 369 [s.pv,x.pv] (·=.aU [(s.fv x).1.pv,pu (s.fv x).2.1,i64 (s.fv x).2.2]):=by
 refine aw func369 ?_;have j:=h.aH;have hq:=h.bg;have k:=h.ae;refine ak (Av x i) rfl<|aj.aN (λh1=>?_) (λh1=>?_)
 ·refine ab<|ak (Xw s.aH x.aa om i.1) rr ?_;cases h2:there s.aH x.aa
  ·rw[show s.fv x=(s,0,7)by unfold af.fv;rw[h1,h2]];exact an<|ah
  refine ab ?_;have a:(s.ae.map ax.pv).length=s.ae.length:=c8 ..;refine aj.aN (λb=>?_) (λb=>?_)
  ·rw[a]at b;rw[show s.fv x=(s,0,9)by unfold af.fv;rw[h1,h2,b]];exact an<|ah
  rw[a]at b;have c:decide (s.next=18446744073709551615)=decide ((s.next.toNat:Int)=18446744073709551615):=(qG s.next 18446744073709551615).symm;refine aj.aN (λg=>?_) (λg=>?_)
  ·rw[show s.fv x=(s,0,9)by unfold af.fv;rw[h1,h2,b,c,g]];exact an<|ah
  refine ab<|ak (ET s.bg ⟨s.next,x.bC⟩ om) rr ?_;rcases f:fq s.bg ⟨s.next,x.bC⟩with⟨q,e⟩
  refine aj.aN (λd=>?_) (λd=>?_)
  ·have d:decide (e=0)=true:=d;rw[show s.fv x=(({s with bg:=q,ae:=s.ae++[⟨s.next,x,false,0⟩],next:=s.next+1}:af).jt s.next 1,s.next,0)by unfold af.fv;rw[h1,h2,b,c,g,f];dsimp only;rw[d]];refine ab<|aJ (aeQ s.ae) rfl<|aq.mk ⟨(eE fz s.ae ⟨s.next,x,false,0⟩ om).1,λh=>(by cases h)⟩ ?_;exact aF (Gr s.next)<|az<|bu.by (n:=(s.ae++[(⟨s.next,x,false,0⟩:ax)]).length+100) (AQ {s with bg:=q,ae:=s.ae++[⟨s.next,x,false,0⟩],next:=s.next+1} s.next 1 (by show s.dX.l.length<=_;have:=h.ev;omega)) (a_ (ke (a_ rr (a_ rr (a_ rr (a_ rr (a_ rr (a_ (dC (l:=s.ae++[⟨s.next,x,false,0⟩]) rr (show s.ae.map ax.pv++[ax.pv ⟨s.next,x,false,0⟩]=_ by rw[l6];rfl) fz.bL (show(s.ae.map ax.pv).length+1=_ by rw[a,i6];rfl) rr) rr))))))) (a_ rr (a_ rr rr)))<|ah
  ·have d:decide (e=0)=false:=d;rw[show s.fv x=(s,0,e)by unfold af.fv;rw[h1,h2,b,c,g,f];dsimp only;rw[d]];exact an<|ah
 ·rw[show s.fv x=(s,0,x.check)by unfold af.fv;rw[h1]];exact an<|ah
abbrev SB(zs:List PV)(L:List ax):aI:=.rows 12 (L.map ax.pv++zs) true none 90
theorem dY{zs:List PV}(hz:dP zs)(L:List ax):dP (L.map ax.pv++zs):=λr d=>(s8.1 d).elim (fz.cf L r) (hz r)
theorem tO(zs:List PV)(L:List ax)(i:Nat)(x:ax)(h:i<L.length):PV.eO (L.map ax.pv++zs) (0+i) (ax.pv x)=(L.set i x).map ax.pv++zs:=by rw[j7];exact FN ax.pv L zs i x h
theorem iZ(zs:List PV){L:List ax}{i:Nat}{x:ax}(h:L[i]? = some x){k:PV->Prop}(d:k (ax.pv x)):fF (L.map ax.pv++zs) ((0+i:Nat):Int) k:=
 fF.intro _ (by rw[x8,j7];exact DH ax.pv h) (C7 _) d
theorem eJ(a b:Nat)(h:a+b≤4611686018427387904:=by omega):IntKind.i64.wrap ((a:Int)+(b:Int))=((a+b:Nat):Int):=wrap_i64 (by omega) (by omega)
theorem dq(a:Nat)(h:a≤4611686018427387904:=by omega):IntKind.i64.wrap ((a:Int)+1)=((a+1:Nat):Int):=wrap_i64 (by omega) (by omega)
theorem gm(a b:Nat)(hb:b≤a:=by omega)(h:a≤4611686018427387904:=by omega):IntKind.i64.wrap ((a:Int)-(b:Int))=((a-b:Nat):Int):=wrap_i64 (by omega) (by omega)
theorem fD(a:Nat)(h:a≤4611686018427387904:=by omega):IntKind.i64.wrap (((a+1:Nat):Int)-1)=((a:Nat):Int):=wrap_i64 (by omega) (by omega)
theorem bS{a n:Nat}(h:a<n):(0:Int)<=(a:Int)/\(a:Int)<(n:Int):=⟨om,om⟩
theorem Bg(zs:List PV){L:List ax}{i k:Nat}{x z:ax}(hi:i<L.length)(h:(L.set i x)[k]? = some z):PV.cR (PV.eO (L.map ax.pv++zs) (0+i) (ax.pv x)) (0+k)=some (ax.pv z):=by rw[tO zs L i x hi,j7];exact DH ax.pv h
theorem Bq{α:Type}{L:List α}{i j:Nat}{x y:α}(d:L[i]? = some x)(e:L[j]? = some y):swp L i j=(L.set i y).set j x:=by unfold swp;rw[d,e]
theorem Du{α:Type}(L:List α)(i j:Nat):(swp L i j).length=L.length:=by
 unfold swp;split
 ·rw[x9,x9]
 ·rfl
theorem Ln{α:Type}:∀(n a b:Nat) (L:List α),kU (n+1) a b L=swp (kU n a b L) (a+n) (b+n)
 |0,_,_,_=>rfl
 |n+1,a,b,L=>by
  show kU (n+1) (a+1) (b+1) (swp L a b)=_
  rw[Ln n (a+1) (b+1)]
  show swp (kU n (a+1) (b+1) (swp L a b)) _ _=swp (kU n (a+1) (b+1) (swp L a b)) _ _
  congr 1<;>omega
theorem vW{α:Type}:∀(n a b:Nat) (L:List α),(kU n a b L).length=L.length
 |0,_,_,_=>rfl
 |n+1,a,b,L=>by show(kU n (a+1) (b+1) (swp L a b)).length=_;rw[vW n,Du]
section
variable {zs:List PV}(hz:dP zs)
include hz
theorem FY(L:List ax)(a b n:Nat)(B:a+n<=L.length)(hb:b+n<=L.length)(C:L.length<=1000)(f:PV)(w:f=.fn 108 [])(j nx:Nat)(g:Nat.beq nx j=false):LC 357 [.aS j 0 L.length,i64 a,i64 b,i64 n,f] [(j,SB zs L)] nx λr d=>r=.aU []/\d=[(j,some (SB zs (kU n a b L))),(j,none)]:=by
 subst w;refine fX (js:=[j]) (bs:=[SB zs L]) (args:=[.aS 0 0 L.length,i64 a,i64 b,i64 n,.fn 108 []]) func357 rr rr ?_ rr ⟨⟨rr,dY hz L⟩,trivial⟩ rr ?_
 ·unfold cW;rw[g];rfl
 refine cV.bA (ι:={p:Nat×List ax//p.1<=n/\p.2=kU p.1 a b L}) ⟨λp=>[(10,i64 p.1.1)],[0,1,2,3],λp=>[(0,SB zs p.1.2)],[]⟩ (λp=>n-p.1.1) ⟨(0,L),j9 _,rr⟩ ?_ ?_
 ·exact cS rr (dY hz _)
 rintro⟨⟨q,M⟩,hq,i⟩;dsimp only at hq i;have m:=Ln q a b L;have e:=vW q a b L;rw[<-i]at m e;refine aj.aN (λh1=>?_) (λh1=>?_)
 ·have h1:q<n:=fE h1;refine an ?_;obtain⟨x,o⟩:=cw (l:=M) (k:=a+q) om;obtain⟨y,v⟩:=cw (l:=M) (k:=b+q) om;rw[Bq o v]at m;have s:∃z,(M.set (a+q) y)[b+q]? = some z:=cw (by rw[x9];omega);obtain⟨z,t⟩:=s;refine aF (eJ a q)<|aF (eJ b q)<|aF (eJ b q)<|aq.mk ⟨om,om⟩ ?_;refine iZ zs v<|aF (eJ a q)<|aq.mk ⟨om,om⟩ ?_;refine iZ zs o<|aq.mk ⟨om,om⟩ ?_;refine iZ zs o<|aq.mk ⟨om,om⟩ ?_;refine fF.intro (ax.pv z) (Bg zs (show a+q<M.length by omega) t) (C7 _)<|az<|aF (dq q)<|⟨⟨(q+1,(M.set (a+q) y).set (b+q) x),h1,m.symm⟩,id,?_,?_⟩
  ·show n-(q+1)<n-q;omega
  have A:PV.eO (PV.eO (M.map ax.pv++zs) (0+(a+q)) (ax.pv y)) (0+(b+q)) (ax.pv x)=((M.set (a+q) y).set (b+q) x).map ax.pv++zs:=by
   rw[tO zs M (a+q) y om,tO zs _ (b+q) x (by rw[x9];omega)]
  exact eB ⟨⟨BB.br (congrArg (λr=>some (aI.rows 12 r true none _)) A) (dY hz _),rr⟩,trivial⟩
 ·have h1:¬q<n:=λh=>j4 h1 (B1.2 h)
  have u:q=n:=om
  subst u;exact ab<|ey<|kY (0,j) rr rr (dY hz _)<|az<|congrArg (λx=>[(j,some (SB zs x)),(j,none)]) i
end
theorem PN{α:Type}(lt:α->α->Bool)(a:Nat):∀(j:Nat) (L:List α),(kO lt a j L).length=L.length
 |0,_=>rfl
 |j+1,L=>by
  unfold kO
  split
  ·rfl
  ·split
   ·rfl
   ·rw[PN lt a j,Du]
theorem Lr{α:Type}(lt:α->α->Bool)(a:Nat):∀(m i:Nat) (L:List α),rP lt a (m+1) i L=kO lt a (i+m) (rP lt a m i L)
 |0,_,_=>rfl
 |m+1,i,L=>by
  show rP lt a (m+1) (i+1) (kO lt a i L)=_
  rw[Lr lt a m (i+1)]
  show kO lt a (i+1+m) _=kO lt a (i+(m+1)) _
  congr 1;omega
theorem Fj{α:Type}(lt:α->α->Bool)(a:Nat):∀(m i:Nat) (L:List α),(rP lt a m i L).length=L.length
 |0,_,_=>rfl
 |m+1,i,L=>by show(rP lt a m (i+1) (kO lt a i L)).length=_;rw[Fj lt a m,PN]
section
variable {zs:List PV}(hz:dP zs){c:ax→ax→Int}(hc:∀a b:ax,PC 108 [a.pv,b.pv] (·=i64 (c a b)))
include hz hc
abbrev dA(c:ax->ax->Int)(a b:ax):Bool:=decide (c a b<0)
theorem PI(L:List ax)(a b:Nat)(hb:b<=L.length)(G:L.length<=1000)(H:a<=1000)(f:PV)(D:f=.fn 108 [])(j nx:Nat)(s:Nat.beq nx j=false):LC 253 [.aS j 0 L.length,i64 a,i64 b,f] [(j,SB zs L)] nx λr d=>r=.aU []/\d=[(j,some (SB zs (lL (dA c) a b L))),(j,none)]:=by
 subst D;refine fX (js:=[j]) (bs:=[SB zs L]) (args:=[.aS 0 0 L.length,i64 a,i64 b,.fn 108 []]) func253 rr rr ?_ rr ⟨⟨rr,dY hz L⟩,trivial⟩ rr ?_
 ·unfold cW;rw[s];rfl
 refine aF (dq a) ?_;refine cV.bA (ι:={p:Nat×List ax//a+1<=p.1/\(p.1<=b\/p.1=a+1)/\p.2=rP (dA c) a (p.1-(a+1)) (a+1) L}) ⟨λp=>[(8,i64 p.1.1)],[0,1,2,3],λp=>[(0,SB zs p.1.2)],[]⟩ (λp=>b-p.1.1) ⟨(a+1,L),j2 _,.inr rr,by rw[G0];rfl⟩ ?_ ?_
 ·exact cS rr (dY hz _)
 rintro⟨⟨i,M⟩,hi,t,o⟩;dsimp only at hi t o;have m:M.length=L.length:=by rw[o];exact Fj _ _ _ _ _
 refine aj.aN (λh1=>?_) (λh1=>?_)
 ·have h1:i<b:=fE h1;refine an<|cV.bA (ι:={p:Nat×List ax//p.1<=i/\p.2.length=L.length/\kO (dA c) a p.1 p.2=kO (dA c) a i M}) ⟨λp=>[(9,i64 p.1.1)],[0,1,2,3,8],λp=>[(0,SB zs p.1.2)],[]⟩ (λp=>p.1.1) ⟨(i,M),j2 _,m,rr⟩ ?_ ?_
  ·exact cS rr (dY hz _)
  rintro⟨⟨k,N⟩,E,C,u⟩;dsimp only at E C u;have fin:kO (dA c) a k N=N->N=rP (dA c) a (i+1-(a+1)) (a+1) L:=λe=>by
   rw[show i+1-(a+1)=(i-(a+1))+1 by omega,Lr,<-o,show a+1+(i-(a+1))=i by omega,<-u,e]
  refine aj.aN (λh2=>?_) (λh2=>?_)
  ·have h2:a<k:=fE h2;obtain⟨k,rfl⟩:∃k',k=k'+1:=⟨k-1,om⟩;obtain⟨x,n⟩:=cw (l:=N) (k:=k+1) om;obtain⟨y,q⟩:=cw (l:=N) (k:=k) om;have v:fM (dA c) N (k+1) k=decide (c x y<0):=by unfold fM;rw[n,q]
   have g:kO (dA c) a (k+1) N=match decide (c x y<0)with|false=>N|true=>kO (dA c) a k (swp N (k+1) k):=by
    conv=>lhs;unfold kO
    rw[l9 h2,v];cases decide (c x y<0)<;>rfl
   refine aq.mk (bS (show k+1<L.length by omega))<|iZ zs n<|aF (fD k)<|aq.mk (bS (show k<L.length by omega))<|iZ zs q<|aJ (hc x y) rfl<|aj.aN (λw=>?_) (λw=>?_)
   ·rw[w,Bq n q]at g;refine az<|an ?_;obtain⟨z,A⟩:=cw (l:=N.set (k+1) y) (k:=k) (by rw[x9];omega);refine aF (fD k)<|aF (fD k)<|aq.mk (bS (show k<L.length by omega))<|iZ zs q<|aq.mk (bS (show k+1<L.length by omega))<|iZ zs n<|aq.mk (bS (show k+1<L.length by omega))<|iZ zs n<|aq.mk (bS (show k<L.length by omega))<|fF.intro (ax.pv z) (Bg zs (show k+1<N.length by omega) A) (C7 _)<|az<|aF (fD k)<|⟨⟨(k,(N.set (k+1) y).set k x),by show k<=i;omega,by show((N.set (k+1) y).set k x).length=_;rw[x9,x9];exact C,by rw[<-u,g]⟩,id,D8 k,?_⟩;have F:PV.eO (PV.eO (N.map ax.pv++zs) (0+(k+1)) (ax.pv y)) (0+k) (ax.pv x)=((N.set (k+1) y).set k x).map ax.pv++zs:=by
     rw[tO zs N (k+1) y om,tO zs _ k x (by rw[x9];omega)]
    exact eB ⟨⟨BB.br (congrArg (λr=>some (aI.rows 12 r true none _)) F) (dY hz _),rr⟩,trivial⟩
   ·rw[w]at g;refine az<|ab<|aF (dq i)<|⟨⟨(i+1,N),by show a+1<=i+1;omega,.inl h1,fin g⟩,id,?_,?_⟩
    ·show b-(i+1)<b-i;omega
    exact cS rr (dY hz _)
  ·have h2:¬a<k:=λh=>j4 h2 (B1.2 h)
   have g:kO (dA c) a k N=N:=by
    cases k with
    |zero=>rfl
    |succ k=>unfold kO;rw[j1 h2]
   refine az<|ab<|aF (dq i)<|⟨⟨(i+1,N),by show a+1<=i+1;omega,.inl h1,fin g⟩,id,?_,?_⟩
   ·show b-(i+1)<b-i;omega
   exact cS rr (dY hz _)
 ·have h1:¬i<b:=λh=>j4 h1 (B1.2 h)
  refine ab ?_;have B:M=lL (dA c) a b L:=by
   rw[o];unfold lL;congr 1;omega
  exact ey<|kY (0,j) rr rr (dY hz _)<|az<|congrArg (λx=>[(j,some (SB zs x)),(j,none)]) B
end
theorem GP(a:Nat)(h1:1≤a:=by omega)(h:a≤4611686018427387904:=by omega):IntKind.i64.wrap ((a:Int)-1)=((a-1:Nat):Int):=wrap_i64 (by omega) (by omega)
theorem yr(a:Nat)(h:a≤4611686018427387904:=by omega):IntKind.i64.wrap (a:Int)=(a:Int):=wrap_i64 rfl (by omega)
theorem yd(a:Nat)(h:a≤4611686018427387904:=by omega):IntKind.u64.wrap (a:Int)=(a:Int):=by
 show(a:Int)%18446744073709551616=_
 omega
theorem xm(a:Nat):(a:Int).fdiv 2=((a / 2:Nat):Int):=by
 rw[Int.fdiv_eq_ediv_of_nonneg _ (by decide)];omega
theorem zn{α:Type}:∀(f i j m:Nat) (L:List α),(oN f i j m L).length=L.length
 |0,_,_,_,_=>rfl
 |f+1,i,j,m,L=>by
  unfold oN
  split
  ·exact vW _ _ _ _
  ·split
   ·rw[zn f,vW]
   ·rw[zn f,vW]
section
variable {zs:List PV}(hz:dP zs)
include hz
theorem Xg(L:List ax)(a m b:Nat)(y:a<m)(t:m<b)(hb:b<=L.length)(z:L.length<=1000)(f:PV)(u:f=.fn 108 [])(j nx:Nat)(o:Nat.beq nx j=false):LC 306 [.aS j 0 L.length,i64 a,i64 m,i64 b,f] [(j,SB zs L)] nx λr d=>r=.aU []/\d=[(j,some (SB zs (lU a m b L))),(j,none)]:=by
 subst u;refine fX (js:=[j]) (bs:=[SB zs L]) (args:=[.aS 0 0 L.length,i64 a,i64 m,i64 b,.fn 108 []]) func306 rr rr ?_ rr ⟨⟨rr,dY hz L⟩,trivial⟩ rr ?_
 ·unfold cW;rw[o];rfl
 refine aF (gm m a)<|aF (gm b m) ?_;refine cV.bA (ι:={p:Nat×Nat×List ax×Nat//1<=p.1/\1<=p.2.1/\p.1<=m/\m+p.2.1<=L.length/\p.1+p.2.1<=p.2.2.2/\p.2.2.1.length=L.length/\oN p.2.2.2 p.1 p.2.1 m p.2.2.1=lU a m b L}) ⟨λp=>[(10,i64 p.1.1),(11,i64 p.1.2.1)],[0,2,4],λp=>[(0,SB zs p.1.2.2.1)],[]⟩ (λp=>p.1.1+p.1.2.1) ⟨(m-a,b-m,L,b-a),by show 1<=m-a;omega,by show 1<=b-m;omega,by show m-a<=m;omega,by show m+(b-m)<=_;omega,by show m-a+(b-m)<=b-a;omega,rr,rr⟩ ?_ ?_
 ·exact cS rr (dY hz _)
 rintro⟨⟨i,k,N,g⟩,h1,h2,q,s,v,h,l⟩;dsimp only at h1 h2 q s v h l;obtain⟨g,rfl⟩:∃g',g=g'+1:=⟨g-1,om⟩;refine aj.aN (λc1=>?_) (λc1=>?_)
 ·have c1:i=k:=N1.1 (j5 c1);subst c1;refine ab<|aF (gm m i) ?_;have c:=FY hz N (m-i) m i om om om (.fn 108 []) rr 0;rw[h]at c;refine bu.bH [0] (n:=200) (c _ rr) rr ⟨rr,trivial⟩ ?_;have w:kU i (m-i) m N=lU a m b L:=by
   rw[<-l];conv=>rhs;unfold oN
   rw[l9 rfl]
  exact ey<|kY (0,j) rr rr (dY hz _)<|az<|congrArg (λx=>[(j,some (SB zs x)),(j,none)]) w
 ·have c1:¬i=k:=λe=>j4 c1 (congrArg (λn:Nat=>(n:Int)) e)
  refine an<|aj.aN (λc2=>?_) (λc2=>?_)
  ·have c2:k<i:=fE c2;refine an<|aF (gm m i) ?_;have c:=FY hz N (m-i) m k om om om (.fn 108 []) rr 0;rw[h]at c;refine bu.bH [0] (n:=200) (c _ rr) rr ⟨rr,trivial⟩<|aF (gm i k)<|⟨⟨(i-k,k,kU k (m-i) m N,g),by show 1<=i-k;omega,h2,by show i-k<=m;omega,s,by show i-k+k<=g;omega,by show(kU _ _ _ _).length=_;rw[vW];exact h,?_⟩,id,?_,?_⟩
   ·show oN g (i-k) k m _=_
    rw[<-l];conv=>rhs;unfold oN
    rw[j1 c1,l9 c2]
   ·show i-k+k<i+k;omega
   exact cS rr (dY hz _)
  ·have c2:¬k<i:=jN c2;refine ab<|aF (gm m i)<|aF (eJ m k)<|aF (gm (m+k) i) ?_;have c:=FY hz N (m-i) (m+k-i) i om om om (.fn 108 []) rr 0;rw[h]at c;refine bu.bH [0] (n:=200) (c _ rr) rr ⟨rr,trivial⟩<|aF (gm k i)<|⟨⟨(i,k-i,kU i (m-i) (m+k-i) N,g),h1,by show 1<=k-i;omega,q,by show m+(k-i)<=_;omega,by show i+(k-i)<=g;omega,by show(kU _ _ _ _).length=_;rw[vW];exact h,?_⟩,id,?_,?_⟩
   ·show oN g i (k-i) m _=_
    rw[<-l];conv=>rhs;unfold oN
    rw[j1 c1,j1 c2]
   ·show i+(k-i)<i+k;omega
   exact cS rr (dY hz _)
end
end
end Go.Proofs.YtbnonpbnhenkfaaGreatDoor
