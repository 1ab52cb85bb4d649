/- Part 1 of the proof; the last part says what is proved. -/
import Derived.Test.YtbnonpbnhenkfaaGreatDoorRows
import Derived.WalkKit
import Derived.WalkSpells
import Derived.WalkLawsBesides
import Derived.Lib.Hide
import Derived.Laws.CopyRow
import Derived.Laws.Cells
import Derived.Laws.AppendOwn
set_option linter.all false
set_option maxRecDepth 1000000
set_option maxHeartbeats 8000000
namespace Go.Proofs.YtbnonpbnhenkfaaGreatDoor
def c8:=@List.length_map
def c9:=@List.getElem?_eq_some_iff
def i6:=@List.length_append
def i7:=@List.mem_of_getElem?
def j1:=@decide_eq_false
def j2:=@Nat.le_refl
def j3:=@List.mem_cons_of_mem
def j4:=@of_decide_eq_false
def j5:=@of_decide_eq_true
def j6:=@List.mem_cons_self
def j7:=@Nat.zero_add
def j8:=@List.getElem?_eq_getElem
def j9:=@Nat.zero_le
def l6:=@List.map_append
def l8:=@List.length_take
def l9:=@decide_eq_true
def n9:=@Nat.eq_of_beq_eq_true
def o6:=@List.mem_singleton
def o7:=@List.not_mem_nil
def o8:=@List.drop_eq_getElem_cons
def o9:=@Nat.le_of_ble_eq_true
def p8:=@Array.length_toList
def p9:=@List.mem_cons
def r8:=@Nat.le_trans
def r9:=@List.drop_eq_nil_of_le
def s8:=@List.mem_append
def s9:=@List.take_length
def u5:=@List.take_of_length_le
def u6:=@List.mem_of_mem_take
def u7:=@Array.getElem?_eq_some_iff
def u9:=@Nat.lt_of_lt_of_le
def w6:=@List.length_cons
def w7:=@List.length_drop
def w8:=@Array.getElem?_toList
def w9:=@List.map_cons
def x6:=@List.mem_or_eq_of_mem_set
def x7:=@List.mem_of_find?_eq_some
def x8:=@Int.toNat_natCast
def x9:=@List.length_set
def y5:=@List.getD_eq_getElem?_getD
def y7:=@Bool.and_eq_true
def y8:=@if_neg
def y9:=@List.mem_map
def z7:=@if_pos
def z8:=@Option.some.inj
def A0:=@List.getElem?_of_mem
def A1:=@List.length_replicate
def A2:=@List.append_nil
def A3:=@List.all_eq_true
def A4:=@List.getElem?_append_right
def A5:=@List.take_append_drop
def A6:=@List.getElem?_map
def A7:=@List.append_assoc
def A8:=@List.getElem?_append_left
def A9:=@List.size_toArray
def B0:=@List.eq_nil_of_length_eq_zero
def B1:=@Int.ofNat_lt
def B3:=@List.mem_of_mem_drop
def B4:=@Nat.add_assoc
def B5:=@List.length_eq_zero_iff
def B6:=@Array.getD_eq_getD_getElem?
def B8:=@Nat.mul_le_mul_right
def B9:=@List.length_nil
def C0:=@List.length_singleton
def C3:=@decide_eq_decide
def C4:=@List.map_congr_left
def C5:=@List.mem_filter
def C6:=@List.length_filter_le
def C7:=@Int.natCast_nonneg
def C8:=@List.mem_map_of_mem
def C9:=@Nat.zero_mul
def D0:=@Nat.add_zero
def D1:=@Nat.mod_eq_of_lt
def D3:=@Nat.le_add_right
def D4:=@List.nil_append
def D5:=@List.eq_of_mem_replicate
def D6:=@List.filter_append
def D7:=@Nat.succ_mul
def D8:=@Nat.lt_succ_self
def D9:=@List.take_append_of_le_length
def E0:=@List.pairwise_iff_getElem
def E1:=@Array.ext'
def E2:=@ByteArray.size_extract
def E3:=@Option.map_some
def E4:=@List.cons_append
def E5:=@List.ext_getElem?
def E6:=@Int.eq_ofNat_of_zero_le
def E7:=@List.getElem?_drop
def E8:=@Int.ofNat_le
def E9:=@Nat.min_eq_left
def F1:=@Nat.min_le_right
def F2:=@Nat.le_of_eq
def F3:=@List.map_map
def F4:=@UInt8.toNat_lt
def F5:=@List.foldl_cons
def F6:=@UInt64.toNat_inj
def F7:=@List.drop_length
def F8:=@List.drop_of_length_le
def F9:=@List.nodup_nil
def G0:=@Nat.sub_self
def G1:=@List.mem_iff_getElem?
def G2:=@List.mem_eraseIdx_iff_getElem?
def G3:=@Nat.mod_lt
def G4:=@List.getElem?_take_of_lt
def G5:=@List.mem_append_left
def G6:=@List.foldl_append
def G7:=@Nat.add_mul
def G8:=@List.take_succ_cons
def G9:=@List.find?_some
def H3:=@or_false
def H4:=@Option.map_eq_some_iff
def H5:=@List.getElem?_set_self
def H6:=@ByteArray.append_assoc
def H7:=@Int.tmod_eq_emod_of_nonneg
def H8:=@decide_eq_true_iff
def H9:=@List.mem_append_right
def I0:=@List.eraseIdx_sublist
def I1:=@Bool.false_ne_true
def I3:=@Prod.mk.inj
def I4:=@Nat.or_lt_two_pow
def I5:=@List.eraseIdx_eq_take_drop_succ
def I6:=@Nat.beq_refl
def I7:=@decide_eq_false_iff_not
def I8:=@Option.getD_some
def I9:=@List.filter_cons
def J0:=@List.mem_range
def J1:=@List.length_eq_one_iff
def J2:=@Nat.xor_lt_two_pow
def J3:=@List.mem_filterMap
def J4:=@Array.getElem?_setIfInBounds
def J5:=@List.getElem?_toArray
def J6:=@List.filter_nil
def J7:=@decide_eq_true_eq
def J8:=@Nat.le_of_mul_le_mul_right
def J9:=@List.drop_zero
def K0:=@List.drop_drop
def K3:=@Option.isSome_iff_exists
def K4:=@Nat.lt_of_le_of_lt
def K5:=@List.nodup_cons
def K6:=@List.map_take
def K7:=@List.getElem?_take
def K8:=@Int.natCast_pow
def K9:=@ByteArray.ext
def L3:=@ByteArray.data_extract
def L4:=@List.any_eq_false
def L5:=@Nat.mul_le_mul
def L6:=@List.take_succ
def L7:=@Nat.sub_zero
def L9:=@Nat.mul_comm
def M0:=@List.getElem?_eq_none
def M4:=@Array.mem_of_getElem?
def M5:=@Nat.succ_lt_succ
def M6:=@List.drop_append_of_le_length
def M7:=@Array.toList_inj
def M8:=@Bool.or_eq_false_iff
def M9:=@BitVec.ofInt_natCast
def N0:=@Prod.mk.injEq
def N1:=@Int.ofNat_inj
def N3:=@Nat.min_le_left
def N4:=@Nat.div_le_self
def N5:=@Nat.and_le_left
def N6:=@List.length_pos_iff
def N7:=@List.drop_succ_cons
def N8:=@List.drop_length_add_append
def N9:=@Int.natCast_mul
def O0:=@Nat.eq_of_mul_eq_mul_right
def O1:=@Int.tdiv_eq_ediv_of_nonneg
def O2:=@List.pairwise_cons
def O3:=@List.map_set
def O4:=@Bool.false_eq_true
def O5:=@BitVec.toNat_ofNat
def O6:=@List.find?_map
def O7:=@Iff.rfl
def O8:=@List.take_add_one
def O9:=@List.pairwise_map
def P0:=@List.getElem?_set
def P1:=@List.flatMap_cons
def P2:=@List.map_drop
def P3:=@List.filter_cons_of_pos
def P4:=@List.filter_cons_of_neg
theorem om{p:Prop}(h:p:=by omega):p:=h
theorem rr{α:Sort _}{a:α}:a=a:=rfl
end Go.Proofs.YtbnonpbnhenkfaaGreatDoor
namespace Go.Proofs.YtbnonpbnhenkfaaGreatDoor
section
open Go.RowKit
def CO{k:IntKind}{a b:Int}(h:a=b):Ending.returned (.int k a)=.returned (.int k b):=by rw[h]
def lK{a b:Bool}(h:a=b):Ending.returned (.bool a)=.returned (.bool b):=by rw[h]
def vV{a b:ByteArray}(h:a=b):Ending.returned (.string a)=.returned (.string b):=by rw[h]
def afW(s:ByteArray)(k:Nat)(h:k<s.size):s.data.toList.take (k+1)=s.data.toList.take k++[s[k]]:=by rw[List.take_succ_eq_append_getElem (by simpa using h)];rfl
def aka{w w1:World}(h:Below w.drew.heap.size w.drew w1):Below w.heap.size w w1:=((Below.refl w.heap.size w).drew).trans h
def sz{n:Nat}(h:n<=100000):n<=maxLen:=by unfold maxLen;omega
def Om(x:Nat)(h:x<4294967296):bits .xor .u32 IntKind.u32.max (x:Int)=((4294967295 ^^^ x:Nat):Int):=
 u32_xor_nat 4294967295 x om h
end
end Go.Proofs.YtbnonpbnhenkfaaGreatDoor
section
namespace Go.Proofs.YtbnonpbnhenkfaaGreatDoor
open Go.RowKit
inductive PV where
 |at (v:Value)
 |any
 |agg (cs:List PV)
 |sl (c:Bool) (rows:List PV)
 |lp (j i off:Nat)
 |le (j i off:Nat)
 |aS (j lo len:Nat)
 |gJ (j lo:Nat)
 |ip (cells:List PV) (off:Nat)
 |fn (f:FuncId) (ir:List PV)
 |fm (t:TypeId) (v:PV)
 |mv (f:FuncId) (v:PV)
 |aU (vs:List PV)
 |mp (a:List Value) (vs:List PV)
 |iL (j:Nat)
inductive aI where
 |rows (k:Nat) (rs:List PV) (wr:Bool) (b:Option Nat) (e:TypeId)
 |map (a:List Value) (vs:List PV) (wr:Bool)
structure AS where
 bD:Nat->Option PV
 hp:Nat->Option aI
inductive Kd where
 |int (k:IntKind)|qe|bool|func|sl (e:TypeId)|aK (n:Nat) (e:TypeId)|struct (fs:List (Nat×TypeId))|map (k v:TypeId)|ptr|fj
structure TI where
 size:Nat
 ag:Bool
 zero:PV
 kd:Kd
 Fl:Bool
abbrev TT:=TypeId->Option TI
abbrev cU:=List (Nat×Option aI)
def da{α:Type}(f:Nat->Option α)(k:Nat)(v:Option α):Nat->Option α:=λx=>match Nat.beq x k with|true=>v|false=>f x
namespace PV
def cells:PV->List PV
 |.agg cs=>cs
 |p=>[p]
def cR{α:Type}:List α->Nat->Option α
 | [],_=>none
 |a::_,0=>some a
 |_::l,n+1=>cR l n
def eO{α:Type}:List α->Nat->α->List α
 | [],_,_=>[]
 |_::l,0,x=>x::l
 |a::l,n+1,x=>a::eO l n x
def sub{α:Type}:List α->Nat->Nat->List α
 |_,_,0=>[]
 | [],_,_+1=>[]
 |a::l,0,n+1=>a::sub l 0 n
 |_::l,o+1,n+1=>sub l o (n+1)
def put{α:Type}(l:List α)(off:Nat):List α->List α
 | []=>l
 |x::xs=>put (eO l off x) (off+1) xs
def kW(ag:Bool)(cs:List PV):Option PV:=
 match ag,cs with
 |true,cs=>some (.agg cs)
 |false,[c]=>some c
 |_,_=>none
def zo:PV->Bool
 |.at v=>v.oneCell'
 |.agg _=>false
 |.aU _=>false
 |_=>true
def oV:List PV->Bool
 | []=>true
 |p::l=>match p.zo with|true=>oV l|false=>false
mutual
def bare:PV->Bool
 |.at _=>true
 |.agg cs=>Ba cs
 |.aU cs=>Ba cs
 |_=>false
def Ba:List PV->Bool
 | []=>true
 |p::l=>match bare p with|true=>Ba l|false=>false
end
end PV
open PV
def cW(t:Nat):List Nat->Bool
 | []=>false
 |x::l=>match Nat.beq t x with|true=>true|false=>cW t l
def vX(l:List PV)(off:Nat)(cs:List PV):List PV:=match off with
 |0=>(match Nat.beq cs.length l.length with|true=>cs|false=>put l 0 cs)
 |n+1=>put l (n+1) cs
theorem amo(l:List PV)(off:Nat)(cs:List PV):vX l off cs=put l off cs:=by
 have key:∀(cs a l:List PV),cs.length=l.length->put (a++l) a.length cs=a++cs:=by
  intro cs;induction cs with
  |nil=>intro a l h;obtain rfl:l=[]:=B0 h.symm;rfl
  |cons x cs ih=>
   intro a l h;cases l with
   |nil=>cases h
   |cons y l=>
    have e:∀a:List PV,eO (a++y::l) a.length x=(a++[x])++l:=by
     intro a;induction a with
     |nil=>rfl
     |cons z a ih2=>exact congrArg (z::·) ih2
    show put (eO (a++y::l) a.length x) (a.length+1) cs=_
    grind
 cases off with
 |succ n=>rfl
 |zero=>
  unfold vX;dsimp only;split
  ·rename_i h;exact(key cs [] l (n9 h)).symm
  ·rfl
def AW(l:List PV)(off n:Nat):List PV:=match off with
 |0=>(match Nat.beq n l.length with|true=>l|false=>sub l 0 n)
 |m+1=>sub l (m+1) n
theorem Sy(l:List PV)(off n:Nat):AW l off n=sub l off n:=by
 have key:∀l:List PV,l=sub l 0 l.length:=by
  intro l;induction l with
  |nil=>rfl
  |cons x l ih=>exact congrArg (x::·) ih
 cases off<;>grind [AW,Nat.eq_of_beq_eq_true]
def Lc(ag:Bool)(row:PV)(off:Nat)(cs:List PV):Option PV:=kW ag (vX row.cells off cs)
def sd:PV->Bool
 |.agg _=>true
 |_=>false
def gj(ev:Operand->Option PV):List Operand->Option (List PV)
 | []=>some []
 |o::l=>match ev o,gj ev l with|some v,some vs=>some (v::vs)|_,_=>none
mutual
def bL:List Nat->Nat->(Nat->Option aI)->PV->Option (PV×List Nat)
 |_,0,_,_=>none
 |X,n+1,hp,p=>match p with
  |.agg cs=>match eH X n hp cs with|some (cs,l)=>some (.agg cs,l)|none=>none
  |.sl _ rows=>some (.sl false rows,[])
  |.lp j i off=>match cW j X with
   |true=>some (.lp j i off,[])
   |false=>match hp j with
    |some (.rows _ rs _ _ _)=>match cR rs i with
     |some row=>match bL [] n hp row with|some (r,l)=>some (.ip r.cells off,j::l)|none=>none
     |none=>none
    |_=>none
  |.le j i off=>match cW j X with
   |true=>some (.le j i off,[])
   |false=>match hp j with
    |some (.rows _ rs _ _ _)=>match cR rs i with
     |some row=>match bL [] n hp row with|some (r,l)=>some (.ip r.cells off,j::l)|none=>none
     |none=>none
    |_=>none
  |.gJ j lo=>match cW j X with
   |true=>some (.gJ j lo,[])
   |false=>some (.sl false [],[])
  |.aS j lo len=>match cW j X with
   |true=>some (.aS j lo len,[])
   |false=>match hp j with
    |some (.rows _ rs _ _ _)=>match Nat.ble (lo+len) rs.length,eH [] n hp (sub rs lo len)with|true,some (rs,l)=>some (.sl false rs,j::l)|_,_=>none
    |_=>none
  |.fn f ir=>match eH X n hp ir with|some (cs,l)=>some (.fn f cs,l)|none=>none
  |.fm t v=>match bL X n hp v with|some (v,l)=>some (.fm t v,l)|none=>none
  |.mv f v=>match bL X n hp v with|some (v,l)=>some (.mv f v,l)|none=>none
  |.aU vs=>match eH X n hp vs with|some (vs,l)=>some (.aU vs,l)|none=>none
  |.iL j=>match cW j X with
   |true=>some (.iL j,[])
   |false=>match hp j with
    |some (.map ks vs _)=>match eH [] n hp vs with|some (vs,l)=>some (.mp ks vs,j::l)|none=>none
    |_=>none
  |p=>some (p,[])
def eH:List Nat->Nat->(Nat->Option aI)->List PV->Option (List PV×List Nat)
 |_,0,_,_=>none
 |_,_+1,_,[]=>some ([],[])
 |X,n+1,hp,p::ps=>match bL X n hp p,eH X n hp ps with
  |some (r,l),some (rs,l')=>some (r::rs,l++l')
  |_,_=>none
end
def yy:Option aI->Option aI
 |some (.rows k rs _ f e)=>some (.rows k rs false f e)
 |some (.map ks vs _)=>some (.map ks vs false)
 |none=>none
def fx(hp:Nat->Option aI):List Nat->(Nat->Option aI)
 | []=>hp
 |j::l=>da (fx hp l) j (yy (hp j))
def nk(hp:Nat->Option aI)(l:List Nat):cU:=l.map λj=>(j,yy (hp j))
def eY(hp:Nat->Option aI):cU->(Nat->Option aI)
 | []=>hp
 |(j,b)::d=>da (eY hp d) j b
inductive Tr where
 |ok (p:PV) (d:cU)
 |bF
 |rd (j:Nat) (k:Option aI->Tr)
 |bL (e:List PV) (k:List PV->cU->Tr)
 |int (x:Int) (k:Int->Tr)
 |bool (x:Bool) (k:Bool->Tr)
 |fV (p:Prop) (c:Decidable p) (k:Tr)
 |lM (p:Prop) (k:Tr)
 |row (rows:List PV) (q:Int) (k:PV->Tr)
 |rM (n:Nat) (k:Bool->Tr)
 |td (x:Option PV) (k:Option PV->Tr)
 |r_ (p:Nat->Prop) (k:Nat->Tr)
 |pP (a b:Tr)
structure fF(rows:List PV)(q:Int)(k:PV->Prop):Prop where
 h:∃row,cR rows q.toNat=some row/\0<=q/\k row
theorem fF.intro{rows:List PV}{q:Int}{k:PV->Prop}(row:PV)(h:cR rows q.toNat=some row)(h0:0<=q)(a:k row):fF rows q k:=⟨row,h,h0,a⟩
structure aq(b:Prop)(k:Prop):Prop where
 h:b
 k:k
structure cj(x:Int)(k:Int->Prop):Prop where
 h:∃y,x=y/\k y
theorem cj.intro{x:Int}{k:Int->Prop}(y:Int)(h:x=y)(a:k y):cj x k:=⟨y,h,a⟩
structure aj(x:Bool)(k:Bool->Prop):Prop where
 h:∃y,x=y/\k y
theorem aj.is{x:Bool}{k:Bool->Prop}(y:Bool)(h:x=y)(a:k y):aj x k:=⟨y,h,a⟩
theorem aj.t{p:Prop}[Decidable p]{k:Bool->Prop}(h:p)(a:k true):aj (decide p) k:=⟨true,l9 h,a⟩
theorem aj.f{p:Prop}[Decidable p]{k:Bool->Prop}(h:¬p)(a:k false):aj (decide p) k:=⟨false,j1 h,a⟩
theorem aj.aN{x:Bool}{k:Bool->Prop}(a:x=true->k true)(b:x=false->k false):aj x k:=by
 cases x
 case true=>exact⟨true,rr,a rr⟩
 exact⟨false,rr,b rr⟩
structure wL(n:Nat)(k:Bool->Prop):Prop where
 h1:n≠0->k false
 h2:n=0->∀b,k b
theorem wL.some{n:Nat}{k:Bool->Prop}(h:n≠0)(a:k false):wL n k:=⟨λ_=>a,λe=>absurd e h⟩
structure el(x:Option PV)(k:Option PV->Prop):Prop where
 h:∃y,x=y/\k y
structure JH(p:Nat->Prop)(k:Nat->Prop):Prop where
 h:∀n,p n->k n
structure dS(a b:Prop):Prop where
 h:a\/b
theorem dS.l{a b:Prop}(h:a):dS a b:=⟨.inl h⟩
theorem dS.r{a b:Prop}(h:b):dS a b:=⟨.inr h⟩
theorem el.is{x:Option PV}{k:Option PV->Prop}(y:Option PV)(h:x=y)(a:k y):el x k:=⟨y,h,a⟩
namespace Tr
def wp(hp:Nat->Option aI):Tr->(PV->cU->Prop)->Prop
 |.ok p d,K=>K p d
 |.bF,_=>False
 |.rd j k,K=>(k (hp j)).wp hp K
 |.bL ps k,K=>match eH [] 200 hp ps with|some (rs,l)=>(k rs (nk hp l)).wp hp K|none=>False
 |.int x k,K=>cj x λy=>(k y).wp hp K
 |.bool x k,K=>aj x λy=>(k y).wp hp K
 |.fV p _ k,K=>aq p (k.wp hp K)
 |.lM p k,K=>aq p (k.wp hp K)
 |.row rows q k,K=>fF rows q λr=>(k r).wp hp K
 |.rM n k,K=>wL n λb=>(k b).wp hp K
 |.td x k,K=>el x λy=>(k y).wp hp K
 |.r_ p k,K=>JH p λn=>(k n).wp hp K
 |.pP a b,K=>dS (a.wp hp K) (b.wp hp K)
def iB(hp:Nat->Option aI):Tr->(PV->cU->List Nat->Prop)->Prop
 |.ok p d,K=>K p d []
 |.bF,_=>False
 |.rd j k,K=>(k (hp j)).iB hp λp d l=>K p d (j::l)
 |.bL ps k,K=>match eH [] 200 hp ps with|some (rs,l)=>(k rs (nk hp l)).iB hp λp d l'=>K p d (l++l')|none=>False
 |.int x k,K=>cj x λy=>(k y).iB hp K
 |.bool x k,K=>aj x λy=>(k y).iB hp K
 |.fV p _ k,K=>aq p (k.iB hp K)
 |.lM p k,K=>aq p (k.iB hp K)
 |.row rows q k,K=>fF rows q λr=>(k r).iB hp K
 |.rM n k,K=>aq (n≠0) ((k false).iB hp K)
 |.td x k,K=>el x λy=>(k y).iB hp K
 |.r_ _ _,_=>False
 |.pP a b,K=>dS (a.iB hp K) (b.iB hp K)
def run(hp:Nat->Option aI):Tr->Option (PV×cU)
 |.ok p d=>some (p,d)
 |.bF=>none
 |.rd j k=>(k (hp j)).run hp
 |.bL ps k=>match eH [] 200 hp ps with|some (rs,l)=>(k rs (nk hp l)).run hp|none=>none
 |.int x k=>(k x).run hp
 |.bool x k=>(k x).run hp
 |.fV _ dp k=>match dp with|.isTrue _=>k.run hp|.isFalse _=>none
 |.lM _ _=>none
 |.row rows q k=>match q with
  |.ofNat n=>match cR rows n with
   |some r=>(k r).run hp
   |none=>none
  |.negSucc _=>none
 |.rM n k=>match n with|0=>none|_+1=>(k false).run hp
 |.td x k=>(k x).run hp
 |.r_ _ _=>none
 |.pP a _=>a.run hp
theorem wp_mono{hp:Nat->Option aI}:∀{t:Tr} {K K':PV->cU->Prop},(∀p d,K p d->K' p d)->t.wp hp K->t.wp hp K'
 |.ok _ _,_,_,a,h=>a _ _ h
 |.bF,_,_,_,h=>h
 |.rd j k,_,_,a,h=>wp_mono (t:=k (hp j)) a h
 |.bL ps k,_,_,a,h=>by
  unfold wp at h⊢
  split
  ·rename_i rs l e;rw[e]at h;exact wp_mono a h
  simp_all
 |.int _ _,_,_,a,⟨y,e,h⟩=>⟨y,e,wp_mono a h⟩
 |.bool _ _,_,_,a,⟨y,e,h⟩=>⟨y,e,wp_mono a h⟩
 |.fV _ _ _,_,_,a,⟨e,h⟩=>⟨e,wp_mono a h⟩
 |.lM _ _,_,_,a,⟨e,h⟩=>⟨e,wp_mono a h⟩
 |.row _ _ _,_,_,a,⟨y,e,e2,h⟩=>⟨y,e,e2,wp_mono a h⟩
 |.rM _ _,_,_,a,⟨h1,h2⟩=>⟨λe=>wp_mono a (h1 e),λe b=>wp_mono a (h2 e b)⟩
 |.td _ _,_,_,a,⟨y,e,h⟩=>⟨y,e,wp_mono a h⟩
 |.r_ _ _,_,_,a,⟨h⟩=>⟨λn c=>wp_mono a (h n c)⟩
 |.pP _ _,_,_,a,⟨h⟩=>⟨h.imp (wp_mono a) (wp_mono a)⟩
theorem nM{hp:Nat->Option aI}:∀{t:Tr} {K K':PV->cU->List Nat->Prop},(∀p d l,K p d l->K' p d l)->t.iB hp K->t.iB hp K'
 |.ok _ _,_,_,a,h=>a _ _ _ h
 |.bF,_,_,_,h=>h
 |.rd j k,_,_,a,h=>nM (t:=k (hp j)) (λp d l=>a p d _) h
 |.bL ps k,_,_,a,h=>by
  unfold iB at h⊢
  split
  ·rename_i rs l e;rw[e]at h;exact nM (λp d l=>a p d _) h
  simp_all
 |.int _ _,_,_,a,⟨y,e,h⟩=>⟨y,e,nM a h⟩
 |.bool _ _,_,_,a,⟨y,e,h⟩=>⟨y,e,nM a h⟩
 |.fV _ _ _,_,_,a,⟨e,h⟩=>⟨e,nM a h⟩
 |.lM _ _,_,_,a,⟨e,h⟩=>⟨e,nM a h⟩
 |.row _ _ _,_,_,a,⟨y,e,e2,h⟩=>⟨y,e,e2,nM a h⟩
 |.rM _ _,_,_,a,⟨e,h⟩=>⟨e,nM a h⟩
 |.td _ _,_,_,a,⟨y,e,h⟩=>⟨y,e,nM a h⟩
 |.r_ _ _,_,_,_,h=>h.elim
 |.pP _ _,_,_,a,⟨h⟩=>⟨h.imp (nM a) (nM a)⟩
theorem pW{hp:Nat->Option aI}:∀{t:Tr} {K:PV->cU->List Nat->Prop} {K':PV->cU->Prop},(∀p d l,K p d l->K' p d)->t.iB hp K->t.wp hp K'
 |.ok _ _,_,_,a,h=>a _ _ _ h
 |.bF,_,_,_,h=>h
 |.rd j k,_,_,a,h=>pW (t:=k (hp j)) (λp d l=>a p d _) h
 |.bL ps k,_,_,a,h=>by
  unfold wp
  unfold iB at h
  split
  ·rename_i rs l e;rw[e]at h;exact pW (λp d l=>a p d _) h
  simp_all
 |.int _ _,_,_,a,⟨y,e,h⟩=>⟨y,e,pW a h⟩
 |.bool _ _,_,_,a,⟨y,e,h⟩=>⟨y,e,pW a h⟩
 |.fV _ _ _,_,_,a,⟨e,h⟩=>⟨e,pW a h⟩
 |.lM _ _,_,_,a,⟨e,h⟩=>⟨e,pW a h⟩
 |.row _ _ _,_,_,a,⟨y,e,e2,h⟩=>⟨y,e,e2,pW a h⟩
 |.rM _ _,_,_,a,⟨e,h⟩=>⟨λ_=>pW a h,λe2=>absurd e2 e⟩
 |.td _ _,_,_,a,⟨y,e,h⟩=>⟨y,e,pW a h⟩
 |.r_ _ _,_,_,_,h=>h.elim
 |.pP _ _,_,_,a,⟨h⟩=>⟨h.imp (pW a) (pW a)⟩
theorem m_{hp:Nat->Option aI}:∀{t:Tr} {K:PV->cU->List Nat->Prop},t.iB hp K->∃p d l,K p d l/\t.iB hp λp' d' l'=>p'=p/\d'=d/\l'=l
 |.ok p d,_,h=>⟨p,d,[],h,rr,rr,rr⟩
 |.bF,_,h=>h.elim
 |.rd j k,_,h=>by
  obtain⟨p,d,l,h1,h2⟩:=m_ (t:=k (hp j)) h
  exact⟨p,d,_,h1,nM (t:=k (hp j)) (λp' d' l' ⟨a,b,c⟩=>⟨a,b,by rw[c]⟩) h2⟩
 |.bL ps k,_,h=>by
  unfold iB at h⊢
  split at h
  ·rename_i rs l e
   obtain⟨p,d,f,h1,h2⟩:=m_ h
   exact⟨p,d,_,h1,nM (λp' d' l' ⟨a,b,c⟩=>⟨a,b,by rw[c]⟩) h2⟩
  simp_all
 |.int _ _,_,⟨y,e,h⟩=>by obtain⟨p,d,l,h1,h2⟩:=m_ h;exact⟨p,d,l,h1,y,e,h2⟩
 |.bool _ _,_,⟨y,e,h⟩=>by obtain⟨p,d,l,h1,h2⟩:=m_ h;exact⟨p,d,l,h1,y,e,h2⟩
 |.fV _ _ _,_,⟨e,h⟩=>by obtain⟨p,d,l,h1,h2⟩:=m_ h;exact⟨p,d,l,h1,e,h2⟩
 |.lM _ _,_,⟨e,h⟩=>by obtain⟨p,d,l,h1,h2⟩:=m_ h;exact⟨p,d,l,h1,e,h2⟩
 |.row _ _ _,_,⟨y,e,e2,h⟩=>by obtain⟨p,d,l,h1,h2⟩:=m_ h;exact⟨p,d,l,h1,y,e,e2,h2⟩
 |.rM _ _,_,⟨e,h⟩=>by obtain⟨p,d,l,h1,h2⟩:=m_ h;exact⟨p,d,l,h1,e,h2⟩
 |.td _ _,_,⟨y,e,h⟩=>by obtain⟨p,d,l,h1,h2⟩:=m_ h;exact⟨p,d,l,h1,y,e,h2⟩
 |.r_ _ _,_,h=>h.elim
 |.pP _ _,_,⟨h⟩=>by
  rcases h with h|h
  ·obtain⟨p,d,l,h1,h2⟩:=m_ h;exact⟨p,d,l,h1,.l h2⟩
  ·obtain⟨p,d,l,h1,h2⟩:=m_ h;exact⟨p,d,l,h1,.r h2⟩
end Tr
mutual
theorem Am{hp c:Nat->Option aI}:∀(n:Nat) {X:List Nat} {p r:PV} {l:List Nat},bL X n hp p=some (r,l)->(∀j∈l,c j=hp j)->bL X n c p=some (r,l)
 |0,_,_,_,_,h,_=>by grind [bL]
 |n+1,X,p,r,l,h,a=>by
  cases p with
  |agg cs=>
   unfold bL at h⊢;dsimp only at h⊢
   split at h
   ·rename_i cs' l' e;cases h;rw[sC n e a]
   ·cases h
  |fn f cs=>
   unfold bL at h⊢;dsimp only at h⊢
   split at h
   ·rename_i cs' l' e;cases h;rw[sC n e a]
   ·cases h
  |aU cs=>
   unfold bL at h⊢;dsimp only at h⊢
   split at h
   ·rename_i cs' l' e;cases h;rw[sC n e a]
   ·cases h
  |fm t v=>
   unfold bL at h⊢;dsimp only at h⊢
   split at h
   ·rename_i cs' l' e;cases h;rw[Am n e a]
   ·cases h
  |mv f v=>
   unfold bL at h⊢;dsimp only at h⊢
   split at h
   ·rename_i cs' l' e;cases h;rw[Am n e a]
   ·cases h
  |lp j i off=>
   unfold bL at h⊢;dsimp only at h⊢
   cases b:cW j X
   case true=>simp_all
   rw[b]at h;dsimp only at h⊢
   split at h
   ·rename_i e
    split at h
    ·rename_i row e2
     split at h
     ·rename_i r' l' e3
      cases h
      rw[a j j6,e]
      dsimp only
      rw[e2];dsimp only
      rw[Am n e3 λq hq=>a q (j3 _ hq)]
     ·cases h
    ·cases h
   ·cases h
  |le j i off=>
   unfold bL at h⊢;dsimp only at h⊢
   cases b:cW j X
   case true=>simp_all
   rw[b]at h;dsimp only at h⊢
   split at h
   ·rename_i e
    split at h
    ·rename_i row e2
     split at h
     ·rename_i r' l' e3
      cases h
      rw[a j j6,e]
      dsimp only
      rw[e2];dsimp only
      rw[Am n e3 λq hq=>a q (j3 _ hq)]
     ·cases h
    ·cases h
   ·cases h
  |gJ j lo=>grind [bL]
  |aS j lo len=>
   unfold bL at h⊢;dsimp only at h⊢
   cases b:cW j X
   case true=>simp_all
   rw[b]at h;dsimp only at h⊢
   split at h
   ·rename_i e
    split at h
    ·rename_i rs' l' e1 e3
     cases h
     rw[a j j6,e]
     dsimp only
     rw[e1,sC n e3 λq hq=>a q (j3 _ hq)]
    ·cases h
   ·cases h
  |iL j=>
   unfold bL at h⊢;dsimp only at h⊢
   cases b:cW j X
   case true=>simp_all
   rw[b]at h;dsimp only at h⊢
   split at h
   ·rename_i e
    split at h
    ·rename_i rs' l' e3
     cases h
     rw[a j j6,e]
     dsimp only
     rw[sC n e3 λq hq=>a q (j3 _ hq)]
    ·cases h
   ·cases h
  |_=>exact h
theorem sC{hp a:Nat->Option aI}:∀(n:Nat) {X:List Nat} {b rs:List PV} {l:List Nat},eH X n hp b=some (rs,l)->(∀j∈l,a j=hp j)->eH X n a b=some (rs,l)
 |0,_,_,_,_,h,_=>by grind [eH]
 |n+1,_,[],_,_,h,_=>by grind [eH]
 |n+1,_,p::b,_,_,h,c=>by
  unfold eH at h⊢
  split at h
  ·rename_i r l rs l' e1 e2
   cases h
   rw[Am n e1 λq hq=>c q (s8.2 (.inl hq)),sC n e2 λq hq=>c q (s8.2 (.inr hq))]
  ·cases h
end
theorem Gx{hp a:Nat->Option aI}{l:List Nat}(h:∀j∈l,a j=hp j):nk a l=nk hp l:=C4 λj b=>by rw[h j b]
theorem Tr.pZ{hp b:Nat->Option aI}:∀{t:Tr} {K:PV->cU->List Nat->Prop},(∀p d l,K p d l->∀j∈l,b j=hp j)->t.iB hp K->t.iB b K
 |.ok _ _,_,_,h=>h
 |.bF,_,_,h=>h
 |.rd j k,K,a,h=>by
  obtain⟨p,d,l,h1,_⟩:=m_ (t:=.rd j k) h
  obtain⟨g,d2,i,h2,_⟩:=m_ (t:=k (hp j)) h
  have e:=a _ _ _ h2 j j6
  show(k (b j)).iB b _
  rw[e]
  exact pZ (t:=k (hp j)) (λp d l c q hq=>a p d _ c q (j3 _ hq)) h
 |.bL ps k,K,a,h=>by
  unfold iB at h⊢
  split at h
  ·rename_i rs l e
   obtain⟨g,d2,i,h2,_⟩:=m_ h
   have e1:∀j∈l,b j=hp j:=λj f=>a _ _ _ h2 j (s8.2 (.inl f))
   rw[sC 200 e e1]
   dsimp only
   rw[Gx e1]
   exact pZ (λp d l c q hq=>a p d _ c q (s8.2 (.inr hq))) h
  simp_all
 |.int _ _,_,a,⟨y,e,h⟩=>⟨y,e,pZ a h⟩
 |.bool _ _,_,a,⟨y,e,h⟩=>⟨y,e,pZ a h⟩
 |.fV _ _ _,_,a,⟨e,h⟩=>⟨e,pZ a h⟩
 |.lM _ _,_,a,⟨e,h⟩=>⟨e,pZ a h⟩
 |.row _ _ _,_,a,⟨y,e,e2,h⟩=>⟨y,e,e2,pZ a h⟩
 |.rM _ _,_,a,⟨e,h⟩=>⟨e,pZ a h⟩
 |.td _ _,_,a,⟨y,e,h⟩=>⟨y,e,pZ a h⟩
 |.r_ _ _,_,_,h=>h.elim
 |.pP _ _,_,a,⟨h⟩=>⟨h.imp (pZ a) (pZ a)⟩
end Go.Proofs.YtbnonpbnhenkfaaGreatDoor
end
namespace Go.Proofs.YtbnonpbnhenkfaaGreatDoor
section
open Go.RowKit
structure RC where
 w:World
 Z:Nat->Nat->Prop
 hb:Nat->Option (Nat×Nat)
def RC.pure(c:RC):RC:=⟨c.w,c.Z,λ_=>none⟩
def lz(es:Array MapEntry)(cl:Nat):Prop:=cl=es.size/\∀(i:Nat) (e:MapEntry),es[i]? = some e->e.born=i
abbrev fe(w:World)(b:Nat)(aK:Array Value)(e:TypeId)(f:Nat×Nat):Prop:=w.heap[b]? = some (.cells aK e f)
abbrev pI(w:World)(r:Nat)(es:Array MapEntry)(cl:Nat):Prop:=w.heap[r]? = some (.map es cl)
def bV(vs:List Value):List Value:=vs.flatMap λv=>v.cells.toList
def lO(w:World)(Z:Nat->Nat->Prop)(cl:Bool)(v:Value)(vs:List Value):Prop:=
 ∃a cap,v=.slice a vs.length cap/\vs.length<=cap/\(cl=true->cap=vs.length)/\
  (vs=[]\/∃b off k,a=some ⟨b,off,none⟩/\(∀x∈vs,x.cells.size=k)/\∀i x,(bV vs)[i]? = some x->Z b (off+i)/\w.cell? ⟨b,off+i,none⟩=some x)
mutual
def bW:PV->RC->Value->Prop
 |.at x,_,v=>v=x/\x.oneCell'=true
 |.any,_,v=>v.oneCell'=true
 |.agg cs,c,v=>∃vs:List Value,v=.agg vs.toArray/\aM cs c vs
 |.sl b rows,c,v=>∃vs,aM rows c.pure vs/\lO c.w c.Z b v vs
 |.lp j i off,c,v=>∃B k,c.hb j=some (B,k)/\v=.pointer (some ⟨B,i*k+off,none⟩)
 |.le j i off,c,v=>∃B k,c.hb j=some (B,k)/\v=.pointer (some ⟨B,i*k+off,none⟩)
 |.gJ j lo,c,v=>∃B k cap aK e f,c.hb j=some (B,k)/\v=.slice (some ⟨B,lo*k,none⟩) 0 cap/\cap<=maxLen/\fe c.w B aK e f/\(lo+cap)*k=aK.size
 |.aS j lo len,c,v=>(len=0/\∃a,v=.slice a 0 0)\/∃B k cap aK e f,c.hb j=some (B,k)/\v=.slice (some ⟨B,lo*k,none⟩) len cap/\len<=cap/\cap<=maxLen/\fe c.w B aK e f/\(lo+cap)*k=aK.size
 |.ip cs off,c,v=>∃b bZ vs,v=.pointer (some ⟨b,bZ+off,none⟩)/\aM cs c.pure vs/\∀i x,vs[i]? = some x->c.Z b (bZ+i)/\c.w.cell? ⟨b,bZ+i,none⟩=some x
 |.fn f ir,c,v=>∃vs:List Value,v=.func (.func f) #[] vs.toArray/\aM ir c vs
 |.fm t p,c,v=>∃x,v=.iface t x/\bW p c x
 |.mv f p,c,v=>∃x,v=.func (.func f) #[x] #[]/\bW p c x
 |.aU ps,c,v=>∃vs:List Value,v=.tuple vs.toArray/\aM ps c vs
 |.mp ks ps,c,v=>∃r es clock,v=.map (some r)/\c.Z r 0/\pI c.w r es clock/\lz es clock/\es.toList.map (·.key)=ks/\aM ps c.pure (es.toList.map (·.val))
 |.iL j,c,v=>∃B k,c.hb j=some (B,k)/\v=.map (some B)
def aM:List PV->RC->List Value->Prop
 | [],_,vs=>vs=[]
 |p::ps,c,vs=>∃v vs',vs=v::vs'/\bW p c v/\aM ps c vs'
end
structure cI(c d:RC):Prop where
 hb:∀j x,c.hb j=some x->d.hb j=some x
 z:∀b o,c.Z b o->d.Z b o
 cell:∀b o,c.Z b o->d.w.cell? ⟨b,o,none⟩=c.w.cell? ⟨b,o,none⟩
 shape:∀b aK e f,fe c.w b aK e f->∃arr' f',fe d.w b arr' e f'/\arr'.size=aK.size
 rB:∀r es cl,c.Z r 0->pI c.w r es cl->pI d.w r es cl
theorem cI.refl(c:RC):cI c c:=⟨λ_ _ h=>h,λ_ _ h=>h,λ_ _ _=>rfl,λ_ aK _ f h=>⟨aK,f,h,rr⟩,λ_ _ _ _ h=>h⟩
theorem cI.trans{a b c:RC}(h:cI a b)(k:cI b c):cI a c:=
 ⟨λj x e=>k.hb j x (h.hb j x e),λb o e=>k.z b o (h.z b o e),λb o e=>(k.cell b o (h.z b o e)).trans (h.cell b o e),
  λb aK e f d=>by
   obtain⟨g,f1,h1,h2⟩:=h.shape b aK e f d
   obtain⟨a2,f2,i,l⟩:=k.shape b g e f1 h1
   grind,λr es cl z e=>k.rB r es cl (h.z r 0 z) (h.rB r es cl z e)⟩
theorem cI.pure{c d:RC}(h:cI c d):cI c.pure d.pure:=⟨λ_ _ e=>(by cases e),h.z,h.cell,h.shape,h.rB⟩
theorem lO.ext{c d:RC}(h:cI c d){cl:Bool}{v:Value}{vs:List Value}(s:lO c.w c.Z cl v vs):lO d.w d.Z cl v vs:=by
 obtain⟨a,cap,h1,h2,l,j⟩:=s;refine⟨a,cap,h1,h2,l,?_⟩;rcases j with j|⟨b,off,k,e,m,f⟩
 ·simp_all
 ·exact .inr ⟨b,off,k,e,m,λi x g=>⟨h.z _ _ (f i x g).1,(h.cell _ _ (f i x g).1).trans (f i x g).2⟩⟩
mutual
theorem bW.ext:∀(p:PV) {c d:RC} (_:cI c d) {v:Value},bW p c v->bW p d v
 |.at _,_,_,_,_,r=>r
 |.any,_,_,_,_,r=>r
 |.agg cs,_,_,h,_,r=>by
  obtain⟨vs,e,r⟩:=r
  exact⟨vs,e,aM.ext cs h r⟩
 |.sl _ rows,_,_,h,_,r=>by
  obtain⟨vs,r,s⟩:=r
  exact⟨vs,aM.ext rows h.pure r,s.ext h⟩
 |.lp _ _ _,_,_,h,_,r=>by
  obtain⟨B,k,h1,h2⟩:=r
  exact⟨B,k,h.hb _ _ h1,h2⟩
 |.le _ _ _,_,_,h,_,r=>by
  obtain⟨B,k,h1,h2⟩:=r
  exact⟨B,k,h.hb _ _ h1,h2⟩
 |.gJ _ _,_,_,h,_,r=>by
  obtain⟨B,k,cap,aK,e,f,h1,h2,g,j,u⟩:=r
  obtain⟨a,f',l,w⟩:=h.shape _ _ _ _ j
  exact⟨B,k,cap,a,e,f',h.hb _ _ h1,h2,g,l,om⟩
 |.aS _ _ _,_,_,h,_,r=>by
  rcases r with r|⟨B,k,cap,aK,e,f,h1,h2,g,m,j,u⟩
  ·exact .inl r
  obtain⟨a,f',l,w⟩:=h.shape _ _ _ _ j
  exact .inr ⟨B,k,cap,a,e,f',h.hb _ _ h1,h2,g,m,l,om⟩
 |.ip cs _,_,_,h,_,r=>by
  obtain⟨b,bZ,vs,e,r,n⟩:=r
  exact⟨b,bZ,vs,e,aM.ext cs h.pure r,λi x o=>⟨h.z _ _ (n i x o).1,(h.cell _ _ (n i x o).1).trans (n i x o).2⟩⟩
 |.fn _ ir,_,_,h,_,r=>by
  obtain⟨vs,e,r⟩:=r
  exact⟨vs,e,aM.ext ir h r⟩
 |.fm t p,_,_,h,_,r=>by
  obtain⟨x,e,r⟩:=r
  exact⟨x,e,bW.ext p h r⟩
 |.mv _ p,_,_,h,_,r=>by
  obtain⟨x,e,r⟩:=r
  exact⟨x,e,bW.ext p h r⟩
 |.aU ps,_,_,h,_,r=>by
  obtain⟨vs,e,r⟩:=r
  exact⟨vs,e,aM.ext ps h r⟩
 |.mp _ ps,_,_,h,_,r=>by
  obtain⟨rr,es,cl,e,q,h1,y,h2,r⟩:=r
  exact⟨rr,es,cl,e,h.z _ _ q,h.rB _ _ _ q h1,y,h2,aM.ext ps h.pure r⟩
 |.iL _,_,_,h,_,r=>by
  obtain⟨B,k,h1,h2⟩:=r
  exact⟨B,k,h.hb _ _ h1,h2⟩
theorem aM.ext:∀(a:List PV) {c d:RC} (_:cI c d) {vs:List Value},aM a c vs->aM a d vs
 | [],_,_,_,_,r=>r
 |p::a,_,_,h,_,r=>by
  obtain⟨v,b,e,r1,r2⟩:=r
  exact⟨v,b,e,bW.ext p h r1,aM.ext a h r2⟩
end
theorem aM.length:∀{a:List PV} {c:RC} {vs:List Value},aM a c vs->vs.length=a.length
 | [],_,vs,r=>by rw[show vs=[]from r];rfl
 |_::a,_,_,r=>by
  obtain⟨v,b,rfl,_,r2⟩:=r
  simp[aM.length r2]
theorem aM.cR:∀{a:List PV} {c:RC} {vs:List Value},aM a c vs->∀{i p},PV.cR a i=some p->∃v,vs[i]? = some v/\bW p c v
 | [],_,_,_,i,p,h=>by cases i<;>cases h
 |q::a,_,_,r,i,p,h=>by
  obtain⟨v,b,rfl,r1,r2⟩:=r
  cases i with
  |zero=>cases h;simp_all
  |succ i=>exact(aM.cR r2 h)
theorem aM.tF:∀{a qs:List PV} {c:RC} {vs us:List Value},aM a c vs->aM qs c us->aM (a++qs) c (vs++us)
 | [],_,_,vs,_,r,s=>by rw[show vs=[]from r];exact s
 |_::a,_,_,_,_,r,s=>by
  obtain⟨v,b,rfl,r1,r2⟩:=r
  exact⟨v,b++_,rr,r1,aM.tF r2 s⟩
theorem aM.sub:∀{a:List PV} {c:RC} {vs:List Value} (off n:Nat),aM a c vs->off+n<=a.length->aM (PV.sub a off n) c ((vs.drop off).take n)
 |a,c,vs,off,0,_,_=>by grind [PV.sub,aM]
 | [],_,_,_,n+1,_,h=>by simp at h
 |p::a,_,_,0,n+1,r,h=>by
  obtain⟨v,b,rfl,r1,r2⟩:=r
  exact⟨v,b.take n,by simp,r1,by have:=aM.sub 0 n r2 (by simp_all);simp_all⟩
 |p::a,_,_,o+1,n+1,r,h=>by
  obtain⟨v,b,rfl,r1,r2⟩:=r
  have:=aM.sub o (n+1) r2 (by grind)
  grind [PV.sub]
theorem aM.eO:∀{b:List PV} {c:RC} {vs:List Value} (i:Nat) {p:PV} {v:Value},aM b c vs->bW p c v->aM (PV.eO b i p) c (vs.set i v)
 | [],_,vs,i,_,_,r,_=>by rw[show vs=[]from r];cases i<;>exact rr
 |_::b,_,_,0,_,_,r,h=>by
  obtain⟨v,a,rfl,r1,r2⟩:=r
  exact⟨_,a,rr,h,r2⟩
 |_::b,_,_,i+1,_,_,r,h=>by
  obtain⟨v,a,rfl,r1,r2⟩:=r
  exact⟨v,_,rr,r1,aM.eO i r2 h⟩
theorem yq{v:Value}(h:v.oneCell'=true):v.cells.toList=[v]:=by cases v<;>first|rfl|cases h
theorem bW.cells{p:PV}{c:RC}{v:Value}(r:bW p c v):aM p.cells c v.cells.toList:=by
 cases p with
 |agg cs=>obtain⟨vs,rfl,h⟩:=r;exact h
 |any=>rw[yq r];exact⟨_,[],rfl,r,rfl⟩
 |sl b rows=>obtain⟨vs,r1,a,cap,rfl,r2⟩:=r;exact⟨_,[],rfl,⟨vs,r1,a,cap,rfl,r2⟩,rfl⟩
 |lp j i off=>obtain⟨B,k,h1,rfl⟩:=r;exact⟨_,[],rfl,⟨B,k,h1,rfl⟩,rfl⟩
 |le j i off=>obtain⟨B,k,h1,rfl⟩:=r;exact⟨_,[],rfl,⟨B,k,h1,rfl⟩,rfl⟩
 |gJ j lo=>obtain⟨B,k,cap,aK,e,f,h1,rfl,h3⟩:=r;exact⟨_,[],rfl,⟨B,k,cap,aK,e,f,h1,rfl,h3⟩,rfl⟩
 |aS j lo len=>
  rcases r with⟨h0,a,rfl⟩|⟨B,k,cap,aK,e,f,h1,rfl,h3⟩
  ·exact⟨_,[],rfl,.inl ⟨h0,a,rfl⟩,rfl⟩
  ·exact⟨_,[],rfl,.inr ⟨B,k,cap,aK,e,f,h1,rfl,h3⟩,rfl⟩
 |ip cs off=>obtain⟨b,bZ,vs,rfl,h⟩:=r;exact⟨_,[],rfl,⟨b,bZ,vs,rfl,h⟩,rfl⟩
 |fn f ir=>obtain⟨vs,rfl,h⟩:=r;exact⟨_,[],rfl,⟨vs,rfl,h⟩,rfl⟩
 |fm t p=>obtain⟨x,rfl,h⟩:=r;exact⟨_,[],rfl,⟨x,rfl,h⟩,rfl⟩
 |mv f p=>obtain⟨x,rfl,h⟩:=r;exact⟨_,[],rfl,⟨x,rfl,h⟩,rfl⟩
 |aU ps=>obtain⟨vs,rfl,h⟩:=r;exact⟨_,[],rfl,⟨vs,rfl,h⟩,rfl⟩
 |mp ks ps=>obtain⟨rr,es,cl,rfl,h⟩:=r;exact⟨_,[],rfl,⟨rr,es,cl,rfl,h⟩,rfl⟩
 |iL j=>obtain⟨B,k,h1,rfl⟩:=r;exact⟨_,[],rfl,⟨B,k,h1,rfl⟩,rfl⟩
 |_=>obtain⟨rfl,h⟩:=r;rw[yq h];exact⟨_,[],rfl,⟨rfl,h⟩,rfl⟩
theorem bW.one{p:PV}{c:RC}{v:Value}(r:bW p c v)(h:p.zo=true):v.oneCell'=true:=by
 cases p with
 |agg cs=>cases h
 |any=>exact r
 |sl b rows=>obtain⟨vs,r1,a,cap,rfl,r2⟩:=r;rfl
 |lp j i off=>obtain⟨B,k,h1,rfl⟩:=r;rfl
 |le j i off=>obtain⟨B,k,h1,rfl⟩:=r;rfl
 |gJ j lo=>obtain⟨B,k,cap,aK,e,f,h1,rfl,d⟩:=r;rfl
 |aS j lo len=>rcases r with⟨h0,a,rfl⟩|⟨B,k,cap,aK,e,f,h1,rfl,d⟩<;>rfl
 |ip cs off=>obtain⟨b,bZ,vs,rfl,h⟩:=r;rfl
 |fn f ir=>obtain⟨vs,rfl,h⟩:=r;rfl
 |fm t p=>obtain⟨x,rfl,h⟩:=r;rfl
 |mv f p=>obtain⟨x,rfl,h⟩:=r;rfl
 |aU ps=>cases h
 |mp ks ps=>obtain⟨rr,es,cl,rfl,h⟩:=r;rfl
 |iL j=>obtain⟨B,k,h1,rfl⟩:=r;rfl
 |_=>obtain⟨rfl,h⟩:=r;exact h
theorem aM.DS:∀{b:List PV} {c:RC} {vs:List Value},aM b c vs->PV.oV b=true->∀v∈vs,v.oneCell'=true
 | [],_,vs,r,_=>by rw[show vs=[]from r];simp_all
 |p::b,_,_,r,h=>by
  obtain⟨v,d,rfl,r1,r2⟩:=r
  unfold PV.oV at h
  cases hp:p.zo
  ·simp_all
  rw[hp]at h
  intro x a
  rcases p9.1 a with rfl|a
  ·exact r1.one hp
  ·exact aM.DS r2 h x a
theorem cI.ng(c:RC):cI c.pure c:=⟨λ_ _ e=>(by cases e),λ_ _ h=>h,λ_ _ _=>rfl,λ_ aK _ f h=>⟨aK,f,h,rr⟩,λ_ _ _ _ h=>h⟩
theorem anV:∀(p:PV) {c d:RC} {v:Value},p.bare=true->bW p c v->bW p d v:=by
 intro p c d v h r;exact(go p h r).1 d
where
 go:∀(p:PV) {c:RC} {v:Value},p.bare=true->bW p c v->(∀d,bW p d v)/\True
 |.at _,_,_,_,r=>⟨λ_=>r,trivial⟩
 |.agg cs,_,_,h,r=>by
  obtain⟨vs,e,r⟩:=r;exact⟨λd=>⟨vs,e,a cs h r d⟩,trivial⟩
 |.aU cs,_,_,h,r=>by
  obtain⟨vs,e,r⟩:=r;exact⟨λd=>⟨vs,e,a cs h r d⟩,trivial⟩
 |.any,_,_,h,_|.sl _ _,_,_,h,_|.lp _ _ _,_,_,h,_|.le _ _ _,_,_,h,_|.aS _ _ _,_,_,h,_|.gJ _ _,_,_,h,_|.ip _ _,_,_,h,_|.fn _ _,_,_,h,_|.fm _ _,_,_,h,_|.mv _ _,_,_,h,_|.mp _ _,_,_,h,_|.iL _,_,_,h,_=>by cases h
 a:∀(b:List PV) {c:RC} {vs:List Value},PV.Ba b=true->aM b c vs->∀d,aM b d vs
 | [],_,_,_,r,_=>r
 |p::b,_,_,h,r,d=>by
  obtain⟨v,f,e,r1,r2⟩:=r;unfold PV.Ba at h;cases hp:p.bare
  ·simp_all
  rw[hp]at h;exact⟨v,f,e,(go p hp r1).1 d,a b h r2 d⟩
theorem aM.put:∀{xs:List PV} {b:List PV} {c:RC} {vs us:List Value} (off:Nat),aM b c vs->aM xs c us->off+xs.length<=b.length->aM (PV.put b off xs) c (vs.take off++us++vs.drop (off+us.length))
 | [],b,c,vs,us,off,r,s,_=>by
  rw[show us=[]from s]
  simp_all [PV.put]
 |x::xs,b,c,vs,us,off,r,s,h=>by
  obtain⟨u,a,rfl,s1,s2⟩:=s
  have d:=r.length
  have key:=aM.put (off+1) (aM.eO off r s1) s2 (by rw[<-(aM.eO off r s1).length];grind)
  have e:=list_seg_step vs off u a (by have:=s2.length;simp_all)
  rw[show off+(u::a).length=off+1+a.length by simp;omega]
  have e2:vs.take off++(u::a)++vs.drop (off+1+a.length)=(vs.set off u).take (off+1)++a++(vs.set off u).drop (off+1+a.length):=by grind
  rw[e2]
  exact key
mutual
def PV.br:PV->Bool
 |.agg cs=>PV.ri cs
 |.lp _ _ _=>false
 |.le _ _ _=>false
 |.aS _ _ _=>false
 |.gJ _ _=>false
 |.iL _=>false
 |.fn _ cs=>PV.ri cs
 |.fm _ v=>PV.br v
 |.mv _ v=>PV.br v
 |.aU vs=>PV.ri vs
 |_=>true
def PV.ri:List PV->Bool
 | []=>true
 |p::l=>match PV.br p with|true=>PV.ri l|false=>false
end
abbrev dP(rs:List PV):Prop:=∀r∈rs,r.br=true
theorem Xt{α:Type}{f:α->PV}(h:∀x,(f x).br=true)(l:List α):dP (l.map f):=λr a=>by
 grind
mutual
theorem Ea:∀(p:PV) {c:RC} {v:Value},p.br=true->bW p c v->bW p c.pure v
 |.at _,_,_,_,r=>r
 |.any,_,_,_,r=>r
 |.agg cs,_,_,h,r=>by obtain⟨vs,e,r⟩:=r;exact⟨vs,e,yu cs h r⟩
 |.sl _ _,_,_,_,r=>r
 |.ip _ _,_,_,_,r=>r
 |.fn _ cs,_,_,h,r=>by obtain⟨vs,e,r⟩:=r;exact⟨vs,e,yu cs h r⟩
 |.fm _ p,_,_,h,r=>by obtain⟨x,e,r⟩:=r;exact⟨x,e,Ea p h r⟩
 |.mv _ p,_,_,h,r=>by obtain⟨x,e,r⟩:=r;exact⟨x,e,Ea p h r⟩
 |.aU cs,_,_,h,r=>by obtain⟨vs,e,r⟩:=r;exact⟨vs,e,yu cs h r⟩
 |.mp _ _,_,_,_,r=>r
 |.lp _ _ _,_,_,h,_|.le _ _ _,_,_,h,_|.aS _ _ _,_,_,h,_|.gJ _ _,_,_,h,_|.iL _,_,_,h,_=>by cases h
theorem yu:∀(a:List PV) {c:RC} {vs:List Value},PV.ri a=true->aM a c vs->aM a c.pure vs
 | [],_,_,_,r=>r
 |p::a,_,_,h,r=>by
  obtain⟨v,b,e,r1,r2⟩:=r
  unfold PV.ri at h
  cases hp:p.br
  ·simp_all
  rw[hp]at h;exact⟨v,b,e,Ea p hp r1,yu a h r2⟩
end
theorem dP.rel:∀{a:List PV} {c:RC} {vs:List Value},dP a->aM a c vs->aM a c.pure vs
 | [],_,_,_,r=>r
 |p::a,_,_,h,r=>by
  obtain⟨v,b,e,r1,r2⟩:=r
  exact⟨v,b,e,Ea p (h p j6) r1,dP.rel (λq hq=>h q (j3 _ hq)) r2⟩
theorem fc{α:Type}(f:Nat->Option α)(k:Nat)(v:Option α):da f k v k=v:=by unfold da;rw[I6]
theorem fU{α:Type}(f:Nat->Option α){k x:Nat}(v:Option α)(h:x≠k):da f k v x=f x:=by
 unfold da;cases e:Nat.beq x k
 case true=>exact absurd (n9 e) h
 rfl
def Qb:TypeDesc->Bool
 |.struct _|.array _ _=>true
 |_=>false
def WB(P:Program)(d:TypeDesc):Kd->Prop
 |.struct fs=>∃fields,d=.struct fields/\(∃places,fields.toList.mapM (λf=>(P.info? f.type).map λi=>(f.offset,i.size))=some places/\∀n o t i,PV.cR fs n=some (o,t)->P.info? t=some i->places[n]? = some (o,i.size))/\∀n o t,PV.cR fs n=some (o,t)->∃f,fields[n]? = some f/\f.offset=o/\f.type=t/\∃i,P.info? t=some i/\i.size≠0
 |.aK n e=>d=.array n e
 |.sl e=>d=.slice e
 |.int k=>d=.int k
 |.qe=>d=.string
 |.bool=>d=.bool
 |.func=>∃a b v,d=.func a b v
 |.map k v=>d=.map k v
 |.ptr=>∃e,d=.pointer e
 |.fj=>True
def YF(d:TypeDesc):Kd->Prop
 |.struct fs=>∃fields,d=.struct fields/\fields.toList.map (λf=>(f.offset,f.type))=fs/\∀f∈fields.toList,f.name≠ "_"
 |_=>True
structure iR(P:Program)(t:TypeId)(ti:TI):Prop where
 ex:∃i z,P.info? t=some i/\i.size=ti.size/\i.zero=some z/\z.cells.size=ti.size/\i.bytes<=1048576/\∀c,bW ti.zero c z
 de:∃d,P.underlying t=some d/\ti.ag=Qb d/\WB P d ti.kd
 OB:ti.Fl=true->P.stoodInHeld t=false/\P.eqGuardType P.depth t=false/\∀d,P.underlying t=some d->YF d ti.kd
def dV(P:Program)(T:TT):Prop:=∀t ti,T t=some ti->iR P t ti
section
variable {P:Program}{t:TypeId}{ti:TI}
theorem iR.size(h:iR P t ti)(w:World):(sizeOf t).run P w=.ok ti.size w:=by
 obtain⟨i,z,h1,h2,_⟩:=h.ex;simp[sizeOf,typeInfo,h1,h2]
theorem iR.sd(h:iR P t ti)(w:World):(isAgg t).run P w=.ok ti.ag w:=by
 obtain⟨d,h1,h2,_⟩:=h.de;have a:=run_underlying (P:=P) h1 w;rw[h2];simp only[isAgg,Sem.run_bind,a,Result.andThen_ok];cases d<;>rfl
theorem iR.Ck(h:iR P t ti)(c:RC):∃z,(zeroValue t).run P c.w=.ok z c.w/\z.cells.size=ti.size/\bW ti.zero c z:=by
 obtain⟨i,z,h1,_,a,b,_,d⟩:=h.ex;exact⟨z,by simp[zeroValue,typeInfo,h1,a],b,d c⟩
end
structure ie(L:Nat->Prop)(w w':World):Prop where
 os:w'.os=w.os
 tape:w'.tape=w.tape
 output:w'.output=w.output
 size:w.heap.size<=w'.heap.size
 block:∀k,k<w.heap.size->¬L k->w'.heap[k]? = w.heap[k]?
theorem ie.refl(L:Nat->Prop)(w:World):ie L w w:=⟨rr,rr,rr,j2 _,λ_ _ _=>rfl⟩
theorem ie.step{L M:Nat->Prop}{a b c:World}(h:ie L a b)(k:ie M b c)(f:∀i,i<a.heap.size->M i->L i):ie L a c:=
 ⟨k.os.trans h.os,k.tape.trans h.tape,k.output.trans h.output,r8 h.size k.size,λi hi d=>(k.block i (u9 hi h.size) λe=>d (f i hi e)).trans (h.block i hi d)⟩
theorem ie.of{L:Nat->Prop}{w w':World}(h:Below w.heap.size w w'):ie L w w':=⟨h.os,h.tape,h.output,h.size,λk a _=>h.block k a⟩
theorem ie.below{w w':World}(h:ie (λ_=>False) w w'):Below w.heap.size w w':=⟨h.os,h.tape,h.output,h.size,λk a=>h.block k a id⟩
structure dr where
 w0:World
 Z0:Nat->Nat->Prop
 M:Nat
 dU:Nat->Option (Nat×Nat)
 L:Nat->Prop
 G:World->Prop
 hG:∀{w:World},ie L w0 w->G w
 D:List Deferred
def dr.rc(S:dr):RC:=⟨S.w0,S.Z0,λ_=>none⟩
abbrev dr.Own(S:dr)(B:Nat):Prop:=S.w0.heap.size<=B\/S.L B
def im(S:dr)(c:RC)(j:Nat):aI->Prop
 |.rows k rs wr a e=>(rs=[]/\a=none/\c.hb j=none)\/∃(B:Nat) (aK:Array Value) (vs:List Value),c.hb j=some (B,k)/\S.Own B/\fe c.w B aK e (0,0)/\aM rs c vs/\(∀x∈vs,x.cells.size=k)/\(∀(i:Nat) (x:Value),(bV vs)[i]? = some x->aK[i]? = some x)/\
   (wr=true->∀o,¬c.Z B o)/\(wr=false->∀i,i<(bV vs).length->c.Z B i)/\(∀n,a=some n->aK.size=n*k)
 |.map ks ps wr=>∃(B:Nat) (es:Array MapEntry) (cl:Nat),c.hb j=some (B,0)/\S.Own B/\pI c.w B es cl/\es.toList.map (·.key)=ks/\aM ps c (es.toList.map (·.val))/\(wr=true->∀o,¬c.Z B o)/\(wr=false->c.Z B 0)/\lz es cl
def aI.own:aI->Bool
 |.rows _ _ wr _ _=>wr
 |.map _ _ wr=>wr
abbrev ge(n:Nat):Nat->Prop:=λj=>n<=j
abbrev dz(F:Nat->Prop)(n:Nat):Nat->Prop:=λj=>F j/\j≠n
structure bU(S:dr)(F:Nat->Prop)(hp:Nat->Option aI)(c:RC):Prop where
 fL:ie S.L S.w0 c.w
 bZ:cI S.rc c
 jU:∀b o,b<S.w0.heap.size->¬S.L b->c.Z b o->S.Z0 b o
 fC:∀b o,c.Z b o->b<c.w.heap.size
 fresh:∀j,F j->c.hb j=none
 dK:∀j b,hp j=some b->im S c j b
 eW:∀i j bi bj,hp i=some bi->hp j=some bj->i≠j->bi.own=true->∀x y,c.hb i=some x->c.hb j=some y->x.1≠y.1
 dL:∀j,j<S.M->c.hb j=S.dU j
 mY:∀j,F j->S.M<=j
theorem bU.up{S:dr}{F F':Nat->Prop}{hp:Nat->Option aI}{c:RC}(h:bU S F hp c)(b:∀j,F' j->F j):bU S F' hp c:=
 ⟨h.fL,h.bZ,h.jU,h.fC,λj a=>h.fresh j (b j a),h.dK,h.eW,h.dL,λj a=>h.mY j (b j a)⟩
def BX(w:World)(B:Nat):Prop:=(∃aK e,fe w B aK e (0,0))\/∃es cl,pI w B es cl
theorem BX.lt{w:World}{B:Nat}(h:BX w B):B<w.heap.size:=by
 rcases h with⟨aK,e,h⟩|⟨es,cl,h⟩
 ·exact(u7.1 h).1
 ·exact(u7.1 h).1
theorem im.at{S:dr}{c:RC}{j:Nat}{b:aI}(h:im S c j b){B n:Nat}(a:c.hb j=some (B,n)):S.Own B/\BX c.w B:=by
 cases b with
 |rows k rs wr f e=>
  rcases h with⟨_,_,h⟩|⟨B',aK,vs,h1,h2,d,_⟩
  ·rw[h]at a;cases a
  ·rw[h1]at a;cases a;exact⟨h2,.inl ⟨aK,e,d⟩⟩
 |map ks ps wr=>obtain⟨B',es,cl,h1,h2,d,_⟩:=h;rw[h1]at a;cases a;exact⟨h2,.inr ⟨es,cl,d⟩⟩
theorem im.bx{S:dr}{c d:RC}{j:Nat}{b:aI}(h:im S c j b)(x:cI c d)(y:c.hb j=none->d.hb j=none)(v:∀B n,c.hb j=some (B,n)->d.w.heap[B]? = c.w.heap[B]?/\∀o,d.Z B o↔c.Z B o):im S d j b:=by
 cases b with
 |rows k rs wr f e=>
  rcases h with⟨h0,h1,h2⟩|⟨B,aK,vs,h1,h2,g,l,m,p,q,r,z⟩
  ·exact .inl ⟨h0,h1,y h2⟩
  obtain⟨u,a⟩:=v B k h1;exact .inr ⟨B,aK,vs,x.hb _ _ h1,h2,u.trans g,aM.ext rs x l,m,p,λe o s=>q e o ((a o).1 s),λe i hi=>(a i).2 (r e i hi),z⟩
 |map ks ps wr=>
  obtain⟨B,es,cl,h1,h2,g,l,m,p,q,r⟩:=h;obtain⟨u,a⟩:=v B 0 h1;exact⟨B,es,cl,x.hb _ _ h1,h2,u.trans g,l,aM.ext ps x m,λe o s=>p e o ((a o).1 s),λe=>(a 0).2 (q e),r⟩
structure tw(S:dr)(F:Nat->Prop)(a:Nat->Option aI)(c c':RC)(p:PV)(v:Value):Prop where
 x:cI c c'
 s:bU S F a c'
 r:bW p c' v
theorem GZ(w:World)(o:Obj):Below w.heap.size w (w.alloc o):=(Below.refl _ _).alloc (j2 _) _
theorem wM{c:RC}{w':World}{Z':Nat->Nat->Prop}(a:∀b o,c.Z b o->b<c.w.heap.size)(hb:Below c.w.heap.size c.w w')(d:∀b o,c.Z b o->Z' b o):cI c ⟨w',Z',c.hb⟩:=
 ⟨λ_ _ h=>h,d,λb o z=>hb.cell (p:=⟨b,o,none⟩) (a b o z),
  λb aK _ f h=>⟨aK,f,(hb.block b (u7.1 h).1).trans h,rr⟩,λr _ _ _ h=>(hb.block r (u7.1 h).1).trans h⟩
theorem xo{S:dr}{F:Nat->Prop}{hp:Nat->Option aI}{c:RC}{w':World}{Z':Nat->Nat->Prop}(h:bU S F hp c)(hb:Below c.w.heap.size c.w w')(f:∀b o,c.Z b o->Z' b o)(a:∀b o,Z' b o->c.Z b o\/(c.w.heap.size<=b/\b<w'.heap.size)):
 bU S F hp ⟨w',Z',c.hb⟩:=by
 have g:=wM h.fC hb f
 have k:=h.fL.size
 refine⟨h.fL.step (ie.of (L:=λ_=>False) hb) (λ_ _ h=>h.elim),h.bZ.trans g,λb o d l z=>?_,λb o z=>?_,h.fresh,λj b i=>(h.dK j b i).bx g id λB n m=>?_,h.eW,h.dL,h.mY⟩
 ·rcases a b o z with z|⟨z,_⟩
  ·exact h.jU b o d l z
  ·omega
 ·rcases a b o z with z|⟨_,z⟩
  ·exact u9 (h.fC b o z) hb.size
  ·exact z
 ·have e:=((h.dK j b i).at m).2.lt
  refine⟨hb.block _ e,λo=>⟨λz=>?_,λz=>f _ _ z⟩⟩
  rcases a _ _ z with z|⟨z,_⟩
  ·exact z
  ·omega
def RC.named(c:RC)(nx:Nat)(x:Option (Nat×Nat)):RC:=⟨c.w,c.Z,da c.hb nx x⟩
theorem wa{c:RC}{nx:Nat}{x:Option (Nat×Nat)}(h:c.hb nx=none):cI c (c.named nx x):=
 ⟨λj y e=>(fU _ _ (by rintro rfl;rw[h]at e;cases e)).trans e,λ_ _ z=>z,λ_ _ _=>rfl,λ_ aK _ f h=>⟨aK,f,h,rr⟩,λ_ _ _ _ h=>h⟩
theorem wY{S:dr}{F:Nat->Prop}{hp:Nat->Option aI}{c:RC}{nx:Nat}{x:Option (Nat×Nat)}{b:aI}(h:bU S F hp c)(q:F nx)(hb:im S (c.named nx x) nx b)
 (f:∀j bj y z,j≠nx->hp j=some bj->c.hb j=some y->x=some z->y.1≠z.1):bU S (dz F nx) (da hp nx (some b)) (c.named nx x):=by
 have g:=wa (x:=x) (h.fresh _ q)
 refine⟨h.fL,h.bZ.trans g,h.jU,h.fC,λj a=>(fU _ _ a.2).trans (h.fresh j a.1),λj bj a=>?_,λi j bi bj hi a l o y z k d=>?_,λj a=>(fU _ _ (by have:=h.mY nx q;omega)).trans (h.dL j a),λj a=>h.mY j a.1⟩
 ·by_cases e:j=nx
  ·subst e
   rw[fc]at a;cases a;exact hb
  ·rw[fU _ _ e]at a
   exact(h.dK j bj a).bx g (λd=>(fU _ _ e).trans d) λB n r=>⟨rr,λ_=>O7⟩
 ·replace k:da c.hb nx x i=some y:=k
  replace d:da c.hb nx x j=some z:=d
  by_cases p:i=nx
  ·subst p
   rw[fc]at k
   have m:j≠i:=λe=>l e.symm
   rw[fU _ _ m]at d a
   exact λe=>f j bj z y m a d k e.symm
  ·rw[fU _ _ p]at k hi
   by_cases m:j=nx
   ·subst m
    rw[fc]at d
    exact f i bi y z p hi k d
   ·rw[fU _ _ m]at d a
    exact h.eW i j bi bj hi a l o y z k d
theorem LK{S:dr}{F:Nat->Prop}{hp:Nat->Option aI}{c:RC}(h:bU S F hp c)(j:Nat):bU S F (da hp j none) c:=by
 have old:∀{i b},da hp j none i=some b->hp i=some b/\i≠j:=by
  intro i b hi;by_cases e:i=j
  ·subst e;rw[fc]at hi;cases hi
  ·rw[fU _ _ e]at hi;exact⟨hi,e⟩
 exact⟨h.fL,h.bZ,h.jU,h.fC,h.fresh,λi b hi=>h.dK i b (old hi).1,λi k bi bk hi a=>h.eW i k bi bk (old hi).1 (old a).1,h.dL,h.mY⟩
theorem bU.DL{S:dr}{F:Nat->Prop}{nx:Nat}{hp:Nat->Option aI}{c:RC}(h:bU S F hp c)(q:F nx){w1:World}(m:Below c.w.heap.size c.w w1)(d:w1.heap.size=c.w.heap.size){rs:List PV}{vs:List Value}(r:aM rs c vs)(aK:Array Value)(t:TypeId)(k:Nat)(u:∀x∈vs,x.cells.size=k)
 (e:∀(i:Nat) (x:Value),(bV vs)[i]? = some x->aK[i]? = some x) (full:Option Nat) (b:∀n,full=some n->aK.size=n*k):
 ∃c',c'.w=w1.alloc (.cells aK t)/\c'.Z=c.Z/\c'.hb=da c.hb nx (some (c.w.heap.size,k))/\cI c c'/\bU S (dz F nx) (da hp nx (some (.rows k rs true full t))) c':=by
 have a:Below c.w.heap.size c.w (w1.alloc (.cells aK t)):=m.alloc (by rw[d];exact j2 _) _
 have f:=wM (Z':=c.Z) h.fC a (λ_ _ z=>z)
 have s:=xo (Z':=c.Z) h a (λ_ _ z=>z) (λ_ _ z=>.inl z)
 have g:=wa (c:=⟨w1.alloc (.cells aK t),c.Z,c.hb⟩) (x:=some (c.w.heap.size,k)) (s.fresh _ q)
 have l:fe (w1.alloc (.cells aK t)) c.w.heap.size aK t (0,0):=by rw[<-d];exact heap_alloc_new w1 _
 refine⟨RC.named ⟨w1.alloc (.cells aK t),c.Z,c.hb⟩ nx (some (c.w.heap.size,k)),rr,rr,rr,f.trans g,wY s q ?_ ?_⟩
 ·exact .inr ⟨c.w.heap.size,aK,vs,fc _ _ _,.inl h.fL.size,l,aM.ext rs (f.trans g) r,u,e,λ_ o z=>Nat.lt_irrefl _ (h.fC _ o z),(λh=>by cases h),b⟩
 ·intro j bj y z C p v A
  cases A
  have:=((h.dK j bj p).at (B:=y.1) (n:=y.2) v).2.lt
  show y.1≠c.w.heap.size
  omega
theorem bU.new{S:dr}{F:Nat->Prop}{nx:Nat}{hp:Nat->Option aI}{c:RC}(h:bU S F hp c)(a:F nx){row:PV}{v:Value}(r:bW row c v)(t:TypeId)(k:Nat)(b:v.cells.size=k):
 ∃c',c'.w=c.w.alloc (.cells v.cells t)/\tw S (dz F nx) (da hp nx (some (.rows k [row] true none t))) c c' (.lp nx 0 0) (.pointer (some ⟨c.w.heap.size,0,none⟩)):=by
 obtain⟨c',h1,h2,d,f,g⟩:=h.DL a (Below.refl _ _) rfl (rs:=[row]) (vs:=[v]) ⟨v,[],rfl,r,rfl⟩ v.cells t k (by simp[b]) (λi x j=>by simpa[bV]using j) none (λ_ e=>by cases e)
 exact⟨c',h1,f,g,c.w.heap.size,k,by rw[d];exact fc _ _ _,by simp⟩
theorem Az(A us:List Value)(o m:Nat)(h:o+us.length<=A.length):
 (A.take o++us++A.drop (o+us.length))[m]? = if m<o then A[m]? else if m<o+us.length then us[m-o]? else A[m]?:=by
 have a:(A.take o).length=o:=by rw[l8];omega
 by_cases h1:m<o
 ·rw[z7 h1,A7,A8 om,G4 h1]
 ·rw[y8 h1]
  by_cases h2:m<o+us.length
  ·rw[z7 h2,A8 (by rw[i6];omega),A4 om,a]
  ·rw[y8 h2,A4 (by rw[i6];omega),i6,a,E7]
   congr 1;omega
theorem ln(v:Value)(vs:List Value):bV (v::vs)=v.cells.toList++bV vs:=rfl
theorem jF{k:Nat}:∀{vs:List Value},(∀x∈vs,x.cells.size=k)->(bV vs).length=vs.length*k
 | [],_=>by simp[bV]
 |v::vs,h=>by
  rw[ln,i6,jF (λx a=>h x (j3 _ a)),p8,h v j6,w6,D7];omega
theorem Bz{k:Nat}:∀{vs:List Value} {i:Nat} {v:Value} (_:∀x∈vs,x.cells.size=k) (_:vs[i]? = some v) (o:Nat) (_:o<k),(bV vs)[i*k+o]? = v.cells.toList[o]?
 | [],i,v,_,h,_,_=>by simp at h
 |u::vs,0,v,a,h,o,b=>by
  simp at h;subst h
  rw[ln,C9,j7,A8 (by rw[p8,a _ j6];exact b)]
 |u::vs,i+1,v,a,h,o,b=>by
  have d:=a u j6
  rw[ln,A4 (by rw[p8,d,D7];omega),p8,d,show(i+1)*k+o-k=i*k+o by rw[D7];omega]
  exact Bz (λx e=>a x (j3 _ e)) (by simpa using h) o b
theorem Yo{k:Nat}(us:List Value):∀{vs:List Value} {i:Nat} {v v':Value} (off:Nat) (_:∀x∈vs,x.cells.size=k) (_:vs[i]? = some v) (_:v'.cells.toList=v.cells.toList.take off++us++v.cells.toList.drop (off+us.length)) (_:off+us.length<=k),
 bV (vs.set i v')=(bV vs).take (i*k+off)++us++(bV vs).drop (i*k+off+us.length)
 | [],i,v,_,_,_,h,_,_=>by simp at h
 |u::vs,0,v,v',off,b,h,e,f=>by
  simp at h;subst h
  have d:=b u j6
  have a:u.cells.toList.length=k:=by rw[p8,d]
  rw[List.set_cons_zero,ln,ln,e,C9,j7,D9 om,M6 om]
  simp
 |u::vs,i+1,v,v',off,b,h,e,f=>by
  have d:=b u j6
  have a:u.cells.toList.length=k:=by rw[p8,d]
  have j:=Yo us (i:=i) off (λx g=>b x (j3 _ g)) (by simpa using h) e f
  have e1:(i+1)*k+off=u.cells.toList.length+(i*k+off):=by rw[a,D7];omega
  have e2:(i+1)*k+off+us.length=u.cells.toList.length+(i*k+off+us.length):=om
  rw[List.set_cons_succ,ln,j,ln,e2,e1,List.take_length_add_append,N8]
  simp[A7]
section
variable {P:Program}{t:TypeId}{ti:TI}{c:RC}
theorem xH(o:iR P t ti){cs:List PV}{vs:List Value}(r:aM cs c vs){off:Nat}(h:Nat.ble (off+ti.size) cs.length=true){p:PV}(d:PV.kW ti.ag (PV.sub cs off ti.size)=some p)
 (b bZ:Nat) (z:∀i x,vs[i]? = some x->c.w.cell? ⟨b,bZ+i,none⟩=some x):∃v,(loadVar t ⟨b,bZ+off,none⟩).run P c.w=.ok v c.w/\bW p c v:=by
 have s:=o9 h
 have D:=r.length
 have m:=aM.sub off ti.size r s
 have f:((vs.drop off).take ti.size).length=ti.size:=by rw[l8,w7];omega
 have a:∀j v,((vs.drop off).take ti.size)[j]? = some v->c.w.cell? ((⟨b,bZ+off,none⟩:Addr).add j)=some v:=by
  intro j v g
  rw[Addr.add_lit,B4]
  rw[K7]at g
  split at g
  ·rw[E7]at g;exact z _ _ g
  ·cases g
 generalize(vs.drop off).take ti.size=us at m f a
 cases n:ti.ag
 case true=>
  rw[n]at d
  cases d
  refine⟨.agg us.toArray,?_,us,rr,m⟩
  have:=run_loadCells_list (P:=P) c.w ⟨b,bZ+off,none⟩ us a
  rw[f]at this
  simp[loadVar,o.sd,n,o.size,this]
 rw[n]at d
 have k:∃q,PV.sub cs off ti.size=[q]/\q=p:=by
  cases e:PV.sub cs off ti.size with
  |nil=>rw[e]at d;cases d
  |cons q l=>
   cases l with
   |nil=>rw[e]at d;exact⟨q,rr,z8 d⟩
   |cons _ _=>rw[e]at d;cases d
 obtain⟨q,e,rfl⟩:=k
 rw[e]at m
 obtain⟨u,y,rfl,A,B⟩:=m
 obtain rfl:y=[]:=B
 refine⟨u,?_,A⟩
 have:=a 0 u rr
 have C:(⟨b,bZ+off,none⟩:Addr).add 0=⟨b,bZ+off,none⟩:=rfl
 rw[C]at this
 simp[loadVar,o.sd,n,this]
theorem Gm{row:PV}(h:sd row=false):row.cells=[row]:=by cases row<;>first|rfl|cases h
theorem ahr{row:PV}{v:Value}(r:bW row c v){us:List Value}{cs:List PV}(s:aM cs c us)(b:PV.oV cs=true){off:Nat}(d:off+cs.length<=row.cells.length){a:PV}(h:Lc (sd row) row off cs=some a):
 ∃v',bW a c v'/\v'.cells.toList=v.cells.toList.take off++us++v.cells.toList.drop (off+us.length):=by
 have hp:=aM.put off r.cells s d
 unfold Lc at h
 rw[amo]at h
 cases e:sd row
 case true=>
  rw[e]at h;cases h
  exact⟨.agg (v.cells.toList.take off++us++v.cells.toList.drop (off+us.length)).toArray,⟨_,rr,hp⟩,by simp[Value.cells]⟩
 rw[e,Gm e]at h
 rw[Gm e]at d
 cases cs with
 |nil=>
  obtain rfl:us=[]:=s
  obtain rfl:row=a:=z8 h
  exact⟨v,r,by simp⟩
 |cons x l=>
  simp only[w6,B9]at d
  obtain rfl:off=0:=om
  obtain rfl:l=[]:=B0 om
  obtain rfl:x=a:=z8 h
  obtain⟨u,f,rfl,s1,s2⟩:=s
  obtain rfl:f=[]:=s2
  have g:x.zo=true:=by unfold PV.oV at b;cases i:x.zo with|true=>rfl|false=>rw[i]at b;cases b
  have hv:v.cells.toList.length=1:=by rw[r.cells.length,Gm e];rfl
  exact⟨u,s1,by rw[yq (s1.one g)];simp[r9 (by omega:v.cells.toList.length<=1)]⟩
theorem aa8{c:RC}{B:Nat}{aK new:Array Value}{e:TypeId}(d:fe c.w B aK e (0,0))(i:new.size=aK.size)(k:∀o,c.Z B o->new[o]? = aK[o]?):cI c ⟨c.w.setRow B new,c.Z,c.hb⟩:=by
 refine⟨λ_ _ h=>h,λ_ _ h=>h,λb o z=>?_,λb a2 e2 f2 a=>?_,λr2 es cl _ g=>?_⟩
 ·by_cases hb:b=B
  ·subst hb;rw[cell_of_row _ _ _ _ _ _ (setRow_heap _ _ _ _ _ _ d),cell_of_row _ _ _ _ _ _ d];exact k o z
  ·exact World.cell?_of_block (setRow_other _ _ _ _ hb)
 ·by_cases hb:b=B
  ·subst hb;have f:fe c.w b aK e (0,0):=d;rw[fe]at f a;rw[f]at a;cases a;exact⟨new,(0,0),setRow_heap _ _ _ _ _ _ d,i⟩
  ·exact⟨a2,f2,(setRow_other _ _ _ _ hb).trans a,rr⟩
 ·have j:r2≠B:=by
   rintro rfl;have f:fe c.w r2 aK e (0,0):=d;rw[fe]at f;rw[pI]at g;rw[f]at g;cases g
  exact(setRow_other _ _ _ _ j).trans g
theorem DD{S:dr}{F:Nat->Prop}{hp:Nat->Option aI}{c:RC}(g:bU S F hp c){j k:Nat}{rs rs':List PV}{full full':Option Nat}{e:TypeId}(A:hp j=some (.rows k rs true full e)){B:Nat}{aK new:Array Value}(p:c.hb j=some (B,k))(L:fe c.w B aK e (0,0))
 (C:new.size=aK.size) {l:List Value} (D:aM rs' c l) (M:∀x∈l,x.cells.size=k) (u:∀(i:Nat) (x:Value),(bV l)[i]? = some x->new[i]? = some x) (s:∀n,full'=some n->new.size=n*k):
 cI c ⟨c.w.setRow B new,c.Z,c.hb⟩/\bU S F (da hp j (some (.rows k rs' true full' e))) ⟨c.w.setRow B new,c.Z,c.hb⟩:=by
 have dU:=g.dK j _ A
 obtain⟨m,_⟩:=dU.at p
 have v:∀o,¬c.Z B o:=by
  rcases dU with⟨_,_,h⟩|⟨B',a',v',T,_,_,_,_,_,U,_⟩
  ·rw[h]at p;cases p
  ·rw[T]at p;cases p;exact U rr
 have d:=aa8 L C (λo z=>(v o z).elim)
 refine⟨d,?_⟩
 have r:ie (λi=>i=B) c.w (c.w.setRow B new):=⟨rr,rr,rr,by simp,λq _ hq=>setRow_other _ _ _ _ hq⟩
 refine⟨g.fL.step r (λi hi h=>?_),g.bZ.trans d,g.jU,λb o z=>by rw[show(RC.mk (c.w.setRow B new) c.Z c.hb).w.heap.size=c.w.heap.size from size_setRow _ _ _];exact g.fC b o z,g.fresh,λq b hq=>?_,λa b ba bb N hb E O x y Q R=>?_,g.dL,g.mY⟩
 ·subst h;rcases m with h|h
  ·omega
  ·exact h
 ·by_cases f:q=j
  ·subst f
   rw[fc]at hq;cases hq
   exact .inr ⟨B,new,l,p,m,setRow_heap _ _ _ _ _ _ L,aM.ext _ d D,M,u,λ_=>v,(λh=>by cases h),s⟩
  ·rw[fU _ _ f]at hq
   refine(g.dK q b hq).bx d id λV n2 h2=>⟨setRow_other _ _ _ _ ?_,λ_=>O7⟩
   exact λe=>g.eW j q _ b A hq (λe=>f e.symm) rr _ _ p h2 e.symm
 ·have old:∀{q b},da hp j (some (.rows k rs' true full' e)) q=some b->∃b',hp q=some b'/\b'.own=b.own:=by
   intro q b hq
   by_cases f:q=j
   ·subst f;rw[fc]at hq;cases hq;exact⟨_,A,rr⟩
   ·rw[fU _ _ f]at hq;exact⟨b,hq,rr⟩
  obtain⟨K,G,H⟩:=old N
  obtain⟨J,I,_⟩:=old hb
  exact g.eW a b K J G I E (H.trans O) x y Q R
theorem akZ{S:dr}{F:Nat->Prop}{hp:Nat->Option aI}(hT:iR P t ti)(O:bU S F hp c){j i off k:Nat}{rs:List PV}{f:Option Nat}{e:TypeId}(Q:hp j=some (.rows k rs true f e)){row:PV}(E:PV.cR rs i=some row)
 {p:PV} {v:Value} (r:bW p c v) (h1:Nat.beq p.cells.length ti.size=true) (h2:Nat.ble (off+ti.size) row.cells.length=true) (R:PV.oV p.cells=true) {l:PV} (h4:Lc (sd row) row off p.cells=some l)
 {B n:Nat} (T:c.hb j=some (B,n)):∃c',(storeVar t ⟨B,i*k+off,none⟩ v).run P c.w=.ok () c'.w/\cI c c'/\bU S F (da hp j (some (.rows k (PV.eO rs i l) true f e))) c'/\n=k:=by
 rcases O.dK j _ Q with⟨hz,_,_⟩|⟨B',aK,vs,X,b2,b3,Y,D,N,b7,b8,b9⟩
 ·rw[hz]at E;cases E
 rw[X]at T;cases T
 have G:p.cells.length=ti.size:=n9 h1
 have hle:=o9 h2
 have a:=r.cells
 have U:v.cells.toList.length=ti.size:=by rw[a.length,G]
 obtain⟨u,H,q⟩:=Y.cR E
 have I:u.cells.toList.length=k:=by rw[p8];exact D u (i7 H)
 have V:row.cells.length=k:=by rw[<-q.cells.length,I]
 obtain⟨u',s,y⟩:=ahr q a R om h4
 have o:=Yo v.cells.toList (v':=u') off D H y om
 have J:i<vs.length:=(c9.1 H).1
 have K:i*k+off+v.cells.toList.length<=(bV vs).length:=by
  rw[jF D]
  have:=B8 k (show i+1<=vs.length from J)
  rw[D7]at this;omega
 have W:(bV vs).length<=aK.toList.length:=by
  rcases Nat.lt_or_ge aK.toList.length (bV vs).length with L|M
  ·have:=N aK.toList.length _ (j8 L)
   rw[<-w8,M0 (j2 _)]at this;cases this
  ·exact M
 have b:=run_storeCells_at (P:=P) B (i*k+off) e v.cells.toList 0 aK c.w b3 (by rw[D0,<-p8];omega) (a.DS R)
 rw[D0]at b
 generalize d:(aK.toList.take (i*k+off)++v.cells.toList++aK.toList.drop (i*k+off+v.cells.toList.length)).toArray=new at b
 have z:new.size=aK.size:=by
  rw[<-d,A9];simp only[i6,l8,w7,p8]at *;omega
 obtain⟨A,C⟩:=DD O (full':=f) Q X b3 z (aM.eO i Y s) (λx hx=>by
  rcases x6 hx with h|rfl
  ·exact D x h
  ·rw[<-p8,y,i6,i6,l8,w7];omega) (λm x g=>by
  rw[o,Az _ _ _ _ K]at g
  rw[<-d,J5,Az _ _ _ _ om]
  by_cases m1:m<i*k+off
  ·rw[z7 m1]at g⊢;rw[w8];exact N m x g
  ·rw[y8 m1]at g⊢
   by_cases m2:m<i*k+off+v.cells.toList.length
   ·rw[z7 m2]at g⊢;exact g
   ·rw[y8 m2]at g⊢;rw[w8];exact N m x g) (λn h=>by rw[z];exact b9 n h)
 refine⟨⟨c.w.setRow B new,c.Z,c.hb⟩,?_,A,C,rr⟩
 show(storeVar t _ v).run P c.w=_
 unfold storeVar
 simp only[Sem.run_bind,hT.size,Result.andThen_ok]
 rw[<-p8,y8 om,b]
theorem GY{S:dr}{F:Nat->Prop}{hp:Nat->Option aI}(q:bU S F hp c){j k i:Nat}{rs:List PV}{wr:Bool}{f:Option Nat}{e:TypeId}(r:hp j=some (.rows k rs wr f e)){row:PV}(b:PV.cR rs i=some row){B n:Nat}(h:c.hb j=some (B,n)):
 n=k/\∃u,bW row c u/\u.cells.size=k/\∀m y,u.cells.toList[m]? = some y->c.w.cell? ⟨B,i*k+m,none⟩=some y:=by
 rcases q.dK j _ r with⟨s,_,_⟩|⟨B',aK,vs,x,C,z,v,p,A,G,D,E⟩
 ·rw[s]at b;cases b
 rw[x]at h;cases h
 obtain⟨u,l,d⟩:=v.cR b
 have a:=p u (i7 l)
 refine⟨rr,u,d,a,λm y o=>?_⟩
 have g:m<k:=by rw[<-a,<-p8];exact(c9.1 o).1
 rw[cell_of_row _ _ _ _ _ _ z]
 exact A (i*k+m) y (by rw[Bz p l m g];exact o)
end
def aI.adx:aI->Nat
 |.rows k rs _ _ _=>rs.length*k
 |.map _ _ _=>1
def ajD(hp:Nat->Option aI)(c:RC)(l:List Nat)(b o:Nat):Prop:=
 c.Z b o\/∃j x n,j∈l/\hp j=some x/\c.hb j=some (b,n)/\o<x.adx
def jc(hp:Nat->Option aI)(c:RC)(l:List Nat):RC:=⟨c.w,ajD hp c l,c.hb⟩
def RC.only(c:RC)(X:List Nat):RC:=⟨c.w,c.Z,λj=>match cW j X with|true=>c.hb j|false=>none⟩
theorem RC.xT(c:RC):c.only []=c.pure:=rfl
theorem KF(c:RC)(X:List Nat):cI (c.only X) c:=by
 refine⟨λj x h=>?_,λ_ _ h=>h,λ_ _ _=>rfl,λ_ aK _ f h=>⟨aK,f,h,rr⟩,λ_ _ _ _ h=>h⟩;unfold RC.only at h;dsimp only at h;split at h
 ·exact h
 ·cases h
theorem qV(hp:Nat->Option aI)(c:RC)(l:List Nat):cI c (jc hp c l):=
 ⟨λ_ _ h=>h,λ_ _ h=>.inl h,λ_ _ _=>rfl,λ_ aK _ f h=>⟨aK,f,h,rr⟩,λ_ _ _ _ h=>h⟩
theorem Es(hp:Nat->Option aI):∀{l:List Nat} {j:Nat},j∈l->fx hp l j=yy (hp j)
 |i::l,j,h=>by
  unfold fx
  by_cases a:j=i
  ·subst a;exact fc _ _ _
  ·rw[fU _ _ a]
   exact Es hp ((p9.1 h).resolve_left a)
theorem BD(hp:Nat->Option aI):∀{l:List Nat} {j:Nat},j∉l->fx hp l j=hp j
 | [],_,_=>rfl
 |i::l,j,h=>by
  unfold fx
  rw[fU _ _ (by rintro rfl;exact h j6)]
  exact BD hp (λe=>h (j3 _ e))
theorem T'{b b':aI}(h:yy (some b)=some b'):b'.own=false/\(b.own=false->b'=b):=by
 cases b with
 |rows k rs wr f e=>cases h;exact⟨rr,λh=>by cases wr with|false=>rfl|true=>cases h⟩
 |map ks vs wr=>cases h;exact⟨rr,λh=>by cases wr with|false=>rfl|true=>cases h⟩
theorem Fb(hp:Nat->Option aI)(l:List Nat){j:Nat}{b:aI}(h:fx hp l j=some b):∃b',hp j=some b'/\((b=b'/\(b.own=true->j∉l))\/(j∈l/\b'.own=true/\yy (some b')=some b)):=by
 by_cases a:j∈l
 ·rw[Es hp a]at h;cases e:hp j with
  |none=>rw[e]at h;cases h
  |some b'=>
   rw[e]at h;obtain⟨h1,h2⟩:=T' h;cases c:b'.own
   case true=>exact⟨b',rr,.inr ⟨a,c,h⟩⟩
   exact⟨b',rr,.inl ⟨h2 c,λd=>by rw[h1]at d;cases d⟩⟩
 ·rw[BD hp a]at h;exact⟨b,h,.inl ⟨rr,λ_=>a⟩⟩
theorem bU.fx{S:dr}{F:Nat->Prop}{hp:Nat->Option aI}{c:RC}(h:bU S F hp c)(l:List Nat):bU S F (fx hp l) (jc hp c l):=by
 have r:=qV hp c l;refine⟨h.fL,h.bZ.trans r,λb o hb P z=>?_,λb o z=>?_,h.fresh,λj b G=>?_,λi j bi bj hi G H s x y r R=>?_,h.dL,h.mY⟩
 ·rcases z with z|⟨j,x,n,_,h2,a,_⟩
  ·exact h.jU b o hb P z
  ·rcases((h.dK j _ h2).at a).1 with d|d
   ·omega
   ·exact(P d).elim
 ·rcases z with z|⟨j,x,n,_,h2,a,_⟩
  ·exact h.fC b o z
  ·exact((h.dK j _ h2).at a).2.lt
 ·obtain⟨b',g,t⟩:=Fb hp l G;rcases t with⟨rfl,A⟩|⟨Q,s,E⟩
  ·have hb:=h.dK j b g;have C:b.own=true->∀q x w,q∈l->hp q=some x->∀B n,c.hb j=some (B,n)->c.hb q≠some (B,w):=by
    intro s q x w hq I B n T J;have K:q≠j:=by rintro rfl;exact A s hq
    exact h.eW j q b _ g I (λe=>K e.symm) s _ _ T J rr
   cases b with
   |rows k rs wr f e'=>
    rcases hb with⟨h0,h1,h2⟩|⟨B,aK,vs,h1,h2,a,d,p,u,D,v,L⟩
    ·exact .inl ⟨h0,h1,h2⟩
    refine .inr ⟨B,aK,vs,h1,h2,a,aM.ext rs r d,p,u,λm o z=>?_,λm i hi=>.inl (v m i hi),L⟩;rcases z with z|⟨q,x,w,g1,g2,g3,_⟩
    ·exact D m o z
    ·exact C m q x w g1 g2 B k h1 g3
   |map ks ps wr=>
    obtain⟨B,es,cl,h1,h2,a,d,p,u,D,v⟩:=hb;refine⟨B,es,cl,h1,h2,a,d,aM.ext ps r p,λm o z=>?_,λm=>.inl (D m),v⟩;rcases z with z|⟨q,x,w,g1,g2,g3,_⟩
    ·exact u m o z
    ·exact C m q x w g1 g2 B 0 h1 g3
  ·have hb:=h.dK j b' g;cases b' with
   |rows k rs wr f e'=>
    cases E;rcases hb with⟨h0,h1,h2⟩|⟨B,aK,vs,h1,h2,a,d,p,u,D,v,L⟩
    ·exact .inl ⟨h0,h1,h2⟩
    refine .inr ⟨B,aK,vs,h1,h2,a,aM.ext rs r d,p,u,(λh=>by cases h),λ_ i hi=>.inr ⟨j,_,k,Q,g,h1,?_⟩,L⟩;rw[jF p,d.length]at hi;exact hi
   |map ks ps wr=>
    cases E;obtain⟨B,es,cl,h1,h2,a,d,p,u,D,v⟩:=hb;exact⟨B,es,cl,h1,h2,a,d,aM.ext ps r p,(λh=>by cases h),λ_=>.inr ⟨j,_,0,Q,g,h1,Nat.one_pos⟩,v⟩
 ·obtain⟨O,h1,M⟩:=Fb hp l hi;obtain⟨N,a,_⟩:=Fb hp l G;refine h.eW i j O N h1 a H ?_ x y r R;rcases M with⟨rfl,_⟩|⟨_,_,E⟩
  ·exact s
  ·rw[(T' E).1]at s;cases s
theorem Gt{k:Nat}:∀{vs:List Value} (lo len:Nat) (_:∀x∈vs,x.cells.size=k) {i:Nat} {x:Value},(bV ((vs.drop lo).take len))[i]? = some x->(bV vs)[lo*k+i]? = some x
 |vs,lo,0,_,i,x,h=>by simp[bV]at h
 | [],lo,len+1,_,i,x,h=>by simp[bV]at h
 |v::vs,0,len+1,a,i,x,h=>by
  have hv:=a v j6
  simp only[J9,G8,ln]at h
  rw[ln,C9,j7]
  by_cases hi:i<v.cells.toList.length
  ·rw[A8 hi]at h⊢;exact h
  ·rw[A4 om]at h⊢
   have:=Gt (vs:=vs) 0 len (λx b=>a x (j3 _ b)) (by simpa using h)
   simpa using this
 |v::vs,lo+1,len+1,a,i,x,h=>by
  have hv:=a v j6
  rw[N7]at h
  have:=Gt (vs:=vs) lo (len+1) (λx b=>a x (j3 _ b)) h
  rw[ln,A4 (by rw[p8,hv,D7];omega),p8,hv,show(lo+1)*k+i-k=lo*k+i by rw[D7];omega]
  exact this
theorem lO.afJ{w:World}{Z:Nat->Nat->Prop}{cl:Bool}{v:Value}{vs:List Value}(h:lO w Z cl v vs):lO w Z false v vs:=by
 obtain⟨a,cap,h1,h2,_,b⟩:=h;exact⟨a,cap,h1,h2,(λe=>by cases e),b⟩
theorem HH{l m:List Nat}{j:Nat}(h:∀q∈j::l,q∈m):∀q∈l,q∈m:=λq hq=>h q (j3 _ hq)
theorem Cn{α:Type}:∀{l:List α} {i:Nat} {x:α},PV.cR l i=some x->i<l.length
 |_::_,0,_,_=>Nat.succ_pos _
 |_::l,_+1,_,h=>M5 (Cn (l:=l) h)
mutual
theorem Ay{S:dr}{F:Nat->Prop}{hp:Nat->Option aI}{c:RC}(u:bU S F hp c)(m:List Nat):∀(n:Nat) {X:List Nat} {p r:PV} {l:List Nat} {v:Value},bL X n hp p=some (r,l)->(∀q∈l,q∈m)->bW p c v->bW r ((jc hp c m).only X) v
 |0,_,_,_,_,_,h,_,_=>by cases h
 |n+1,X,p,r,l,v,h,o,d=>by
  have z:cI c (jc hp c m):=qV hp c m
  have A:∀j,cW j X=true->((jc hp c m).only X).hb j=c.hb j:=λj g=>by
   show(match cW j X with|true=>c.hb j|false=>none)=_
   rw[g]
  cases p with
  |any=>cases h;exact d
  |agg cs=>
   unfold bL at h;dsimp only at h
   split at h
   ·rename_i cs' l' e
    cases h
    obtain⟨vs,e1,d⟩:=d
    exact⟨vs,e1,mN u m n e o d⟩
   ·cases h
  |sl b rows=>cases h;obtain⟨vs,r1,r2⟩:=d;exact⟨vs,aM.ext rows z.pure r1,(r2.ext z).afJ⟩
  |lp j i off=>
   unfold bL at h;dsimp only at h
   cases g:cW j X
   case true=>
    rw[g]at h;cases h
    obtain⟨B,k',s,hv⟩:=d
    exact⟨B,k',(A j g).trans s,hv⟩
   rw[g]at h;dsimp only at h;exact Xf u m n h o d
  |le j i off=>
   unfold bL at h;dsimp only at h
   cases g:cW j X
   case true=>
    rw[g]at h;cases h
    obtain⟨B,k',s,hv⟩:=d
    exact⟨B,k',(A j g).trans s,hv⟩
   rw[g]at h;dsimp only at h;exact Xf u m n h o d
  |gJ j lo=>
   unfold bL at h;dsimp only at h
   obtain⟨B,k,cap,aK,e,f,h1,h2,C,D,E⟩:=d
   cases g:cW j X
   case true=>
    rw[g]at h;cases h
    exact⟨B,k,cap,aK,e,f,(A j g).trans h1,h2,C,D,E⟩
   rw[g]at h;cases h
   exact⟨[],rr,_,cap,h2,j9 _,(λe=>by cases e),.inl rr⟩
  |aS j lo len=>
   unfold bL at h;dsimp only at h
   cases g:cW j X
   case true=>
    rw[g]at h;cases h
    rcases d with d|⟨B,k,cap,aK,e,f,h1,h2,C,K,D,E⟩
    ·exact .inl d
    ·exact .inr ⟨B,k,cap,aK,e,f,(A j g).trans h1,h2,C,K,D,E⟩
   rw[g]at h;dsimp only at h
   split at h
   ·rename_i k rs wr f e g
    split at h
    ·rename_i rs' l' L e2
     cases h
     have G:=o9 L
     rcases d with⟨h0,a,hv⟩|⟨B,k',cap,U,Z,f0,s,hv,H,_⟩
     ·subst h0
      have e3:PV.sub rs lo 0=[]:=by cases rs<;>rfl
      rw[e3]at e2
      have e4:rs'=[]:=by cases n<;>cases e2<;>rfl
      subst e4
      exact⟨[],rr,a,0,hv,j2 _,(λe=>by cases e),.inl rr⟩
     rcases u.dK j _ g with⟨_,_,M⟩|⟨B',aK,vs,T,Y,V,O,P,W,_⟩
     ·rw[M]at s;cases s
     rw[T]at s;cases s
     have I:=aM.sub lo len O G
     have y:((vs.drop lo).take len).length=len:=by rw[l8,w7];have:=O.length;omega
     refine⟨(vs.drop lo).take len,mN (X:=[]) u m n e2 (HH o) I,some ⟨B,lo*k,none⟩,cap,by rw[y];exact hv,by rw[y];exact H,(λe=>by cases e),.inr ⟨B,lo*k,k,rr,λx z=>P x (B3 (u6 z)),λq x hq=>?_⟩⟩
     have Q:=Gt lo len P hq
     have J:lo*k+q<(bV vs).length:=(c9.1 Q).1
     refine⟨.inr ⟨j,_,k,o j j6,g,T,by rw[jF P,O.length]at J;exact J⟩,?_⟩
     have:=W _ x Q
     show c.w.cell? _=_
     rw[cell_of_row _ _ _ _ _ _ V];exact this
    ·cases h
   ·cases h
  |ip cs off=>
   cases h
   obtain⟨b,bZ,vs,e,r1,R⟩:=d
   exact⟨b,bZ,vs,e,aM.ext cs z.pure r1,λi x hi=>⟨.inl (R i x hi).1,(R i x hi).2⟩⟩
  |fn f ir=>
   unfold bL at h;dsimp only at h
   split at h
   ·rename_i cs' l' e
    cases h
    obtain⟨vs,e1,d⟩:=d
    exact⟨vs,e1,mN u m n e o d⟩
   ·cases h
  |fm t q=>
   unfold bL at h;dsimp only at h
   split at h
   ·rename_i q' l' e
    cases h
    obtain⟨x,e1,d⟩:=d
    exact⟨x,e1,Ay u m n e o d⟩
   ·cases h
  |mv f q=>
   unfold bL at h;dsimp only at h
   split at h
   ·rename_i q' l' e
    cases h
    obtain⟨x,e1,d⟩:=d
    exact⟨x,e1,Ay u m n e o d⟩
   ·cases h
  |aU ps=>
   unfold bL at h;dsimp only at h
   split at h
   ·rename_i cs' l' e
    cases h
    obtain⟨vs,e1,d⟩:=d
    exact⟨vs,e1,mN u m n e o d⟩
   ·cases h
  |mp ks ps=>
   cases h
   obtain⟨rr,es,cl,e,M,h1,o,h2,r⟩:=d
   exact⟨rr,es,cl,e,.inl M,h1,o,h2,aM.ext ps z.pure r⟩
  |iL j=>
   unfold bL at h;dsimp only at h
   cases g:cW j X
   case true=>
    rw[g]at h;cases h
    obtain⟨B,k',s,hv⟩:=d
    exact⟨B,k',(A j g).trans s,hv⟩
   rw[g]at h;dsimp only at h
   split at h
   ·rename_i ks ps wr g
    split at h
    ·rename_i rs' l' e2
     cases h
     obtain⟨B,k',s,hv⟩:=d
     obtain⟨B',es,cl,h1,h2,C,D,E,_,_,N⟩:=u.dK j _ g
     rw[h1]at s;cases s
     exact⟨B,es,cl,hv,.inr ⟨j,_,0,o j j6,g,h1,Nat.one_pos⟩,C,N,D,mN (X:=[]) u m n e2 (HH o) E⟩
    ·cases h
   ·cases h
  |_=>cases h;exact d
theorem Xf{S:dr}{F:Nat->Prop}{hp:Nat->Option aI}{c:RC}(p:bU S F hp c)(m:List Nat):∀(n:Nat) {X:List Nat} {j i off:Nat} {r:PV} {l:List Nat} {v:Value},(match hp j with
 |some (.rows _ rs _ _ _)=>match PV.cR rs i with
  |some row=>match bL [] n hp row with|some (r,l)=>some (PV.ip r.cells off,j::l)|none=>none
  |none=>none
 |_=>none)=some (r,l)->(∀q∈l,q∈m)->(∃B k,c.hb j=some (B,k)/\v=.pointer (some ⟨B,i*k+off,none⟩))->bW r ((jc hp c m).only X) v
 |n,X,j,i,off,r,l,v,h,s,y=>by
  split at h
  ·rename_i k rs wr f e t
   split at h
   ·rename_i row a
    split at h
    ·rename_i r' l' e2
     cases h
     obtain⟨B,k',w,hv⟩:=y
     obtain⟨rfl,u,b,d,z⟩:=GY p t a w
     have g:=Ay (X:=[]) p m n e2 (HH s) b
     refine⟨B,i*k',u.cells.toList,hv,g.cells,λq x hq=>⟨.inr ⟨j,_,k',s j j6,t,w,?_⟩,z q x hq⟩⟩
     have A:q<k':=by rw[<-d,<-p8];exact(c9.1 hq).1
     have o:i<rs.length:=Cn a
     have:=B8 k' (show i+1<=rs.length from o)
     rw[D7]at this
     show i*k'+q<rs.length*k'
     omega
    ·cases h
   ·cases h
  ·cases h
theorem mN{S:dr}{F:Nat->Prop}{hp:Nat->Option aI}{c:RC}(e:bU S F hp c)(m:List Nat):∀(n:Nat) {X:List Nat} {b rs:List PV} {l:List Nat} {vs:List Value},eH X n hp b=some (rs,l)->(∀q∈l,q∈m)->aM b c vs->aM rs ((jc hp c m).only X) vs
 |0,_,_,_,_,_,h,_,_=>by cases h
 |n+1,_,[],rs,l,vs,h,_,a=>by cases h;exact a
 |n+1,_,p::b,rs,l,vs,h,f,a=>by
  unfold eH at h
  split at h
  ·rename_i r l1 rs' l2 e1 e2
   cases h
   obtain⟨v,d,rfl,r1,r2⟩:=a
   exact⟨v,d,rr,Ay e m n e1 (λq hq=>f q (G5 _ hq)) r1,mN e m n e2 (λq hq=>f q (H9 _ hq)) r2⟩
  ·cases h
end
theorem wH(hp:Nat->Option aI):∀l,eY hp (nk hp l)=fx hp l
 | []=>rfl
 |j::l=>by
  show da (eY hp (nk hp l)) j _=da (fx hp l) j _
  rw[wH hp l]
end
section
open Go.RowKit PV
def bT(b:Bool):Tr:=.ok (.at (.bool b)) []
def iT(k:IntKind)(x:Int):Tr:=.int x λy=>.ok (.at (.int k y)) []
def uU(op:BinOp)(b:Bool):Tr:=
 match op with
 |.eql=>.bool b bT
 |.neq=>.bool b λy=>bT (!y)
 |_=>.bF
def zb(op:BinOp)(k:IntKind)(a b:Int):Tr:=
 match op with
 |.shl=>.fV (0<=b) inferInstance (iT k (k.wrap (a*2^(min b.toNat k.bits))))
 |.shr=>.fV (0<=b) inferInstance (iT k (a.fdiv (2^(min b.toNat k.bits))))
 |_=>.bF
def Rs(op:BinOp)(k:IntKind)(a b:Int):Tr:=
 match op with
 |.eql=>.bool (decide (a=b)) bT
 |.neq=>.bool (decide (a=b)) λy=>bT (!y)
 |.lss=>.bool (decide (a<b)) bT
 |.leq=>.bool (decide (a<=b)) bT
 |.gtr=>.bool (decide (b<a)) bT
 |.geq=>.bool (decide (b<=a)) bT
 |.add=>iT k (k.wrap (a+b))
 |.sub=>iT k (k.wrap (a-b))
 |.mul=>iT k (k.wrap (a*b))
 |.quo=>.fV (b≠0) inferInstance (iT k (k.wrap (a.tdiv b)))
 |.rem=>.fV (b≠0) inferInstance (iT k (a.tmod b))
 |.shr=>match decide (b=1)with
  |true=>.fV (b=1) inferInstance (iT k (a.fdiv 2))
  |false=>zb .shr k a b
 |.shl=>zb .shl k a b
 |.and=>iT k (k.wrap ((BitVec.ofInt k.bits a &&& BitVec.ofInt k.bits b).toNat:Int))
 |.xor=>iT k (k.wrap ((BitVec.ofInt k.bits a ^^^ BitVec.ofInt k.bits b).toNat:Int))
 |_=>.bF
def seq(a b:ByteArray):Bool:=a.data.toList==b.data.toList
def dG(a b:ByteArray):Bool:=Op.bytesLess a.data.toList b.data.toList
def aaQ(op:BinOp)(a b:ByteArray):Tr:=
 match op with
 |.add=>.fV (a.size+b.size<=9223372036854775807) inferInstance (.ok (.at (.string (a++b))) [])
 |.eql=>.bool (seq a b) bT
 |.neq=>.bool (seq a b) λy=>bT (!y)
 |.lss=>.bool (dG a b) bT
 |.leq=>.bool (dG a b||seq a b) bT
 |.gtr=>.bool (dG a b||seq a b) λy=>bT (!y)
 |.geq=>.bool (dG a b) λy=>bT (!y)
 |_=>.bF
def nl(lo hi:Bool)(n:Nat)(vs:List PV)(K:Nat->Nat->Tr):Tr:=
 match lo,hi,vs with
 |false,false,[]=>K 0 n
 |true,false,[.at (.int _ a)]=>.fV (0<=a/\a<=n) inferInstance (K a.toNat n)
 |false,true,[.at (.int _ b)]=>.fV (0<=b/\b<=n) inferInstance (K 0 b.toNat)
 |true,true,[.at (.int _ a),.at (.int _ b)]=>.fV (0<=a/\a<=b/\b<=n) inferInstance (K a.toNat b.toNat)
 |_,_,_=>.bF
def ED(T:TT):Kd->Nat->Option (Nat×Nat)
 |.struct fs,i=>match cR fs i with
  |some (o,e)=>match T e with|some te=>some (o,te.size)|none=>none
  |none=>none
 |.aK _ e,i=>match T e with|some te=>some (i*te.size,te.size)|none=>none
 |_,_=>none
def NV(T:TT):Kd->Bool
 |.struct _=>true
 |.aK _ e=>match T e with|some _=>true|none=>false
 |_=>false
def wj(pl:Nat->Option (Nat×Nat))(cells:List PV):List Nat->List PV->Option (List PV)
 | [],[]=>some cells
 |i::is,v::vs=>match pl i with
  |some (o,sz)=>match Nat.beq v.cells.length sz,Nat.ble (o+v.cells.length) cells.length with
   |true,true=>wj pl (put cells o v.cells) is vs
   |_,_=>none
  |none=>none
 |_,_=>none
def BT(k:Nat):List PV->Bool
 | []=>true
 |v::vs=>match Nat.beq v.cells.length k with|true=>BT k vs|false=>false
def Cg:Nat->List Nat->Bool
 |_,[]=>true
 |k,i::is=>match Nat.beq i k with|true=>Cg (k+1) is|false=>false
abbrev uN(rows:List PV)(k:Nat):Prop:=∀r∈rows,r.cells.length=k
abbrev pj(rows:List PV)(k:Nat):Prop:=∀r∈rows,r.cells.length=k/\oV r.cells=true
structure ph(rows ys:List PV)(k:Nat):Prop where
 n:rows.length+ys.length<=67108864
 rows:uN rows k
 ys:pj ys k
def jI:Value->Value->Option Bool
 |.int k a,.int k' b=>match decide (k=k')with|true=>some (decide (a=b))|false=>none
 |.string a,.string b=>some (seq a b)
 |.bool a,.bool b=>some (a==b)
 |_,_=>none
mutual
def rU(T:TT):Nat->TypeId->List PV->List PV->Option Bool
 |0,_,_,_=>none
 |n+1,t,xs,ys=>match T t with
  |some ti=>match ti.Fl,ti.kd with
   |true,.int _=>match xs,ys with | [.at (.int k a)],[.at (.int k' b)]=>jI (.int k a) (.int k' b)|_,_=>none
   |true,.qe=>match xs,ys with | [.at (.string a)],[.at (.string b)]=>some (seq a b)|_,_=>none
   |true,.bool=>match xs,ys with | [.at (.bool a)],[.at (.bool b)]=>some (a==b)|_,_=>none
   |true,.struct fs=>xW T n fs xs ys
   |true,.aK m e=>match T e with|some te=>ye T n e te.size m 0 xs ys|none=>none
   |_,_=>none
  |none=>none
def xW(T:TT):Nat->List (Nat×TypeId)->List PV->List PV->Option Bool
 |0,_,_,_=>none
 |_+1,[],_,_=>some true
 |n+1,(o,e)::fs,xs,ys=>match T e with
  |some te=>match Nat.ble (o+te.size) xs.length,Nat.ble (o+te.size) ys.length with
   |true,true=>match rU T n e (sub xs o te.size) (sub ys o te.size),xW T n fs xs ys with
    |some a,some b=>some (a&&b)
    |_,_=>none
   |_,_=>none
  |none=>none
def ye(T:TT):Nat->TypeId->Nat->Nat->Nat->List PV->List PV->Option Bool
 |0,_,_,_,_,_,_=>none
 |_+1,_,_,0,_,_,_=>some true
 |n+1,e,sz,m+1,o,xs,ys=>match Nat.ble (o+sz) xs.length,Nat.ble (o+sz) ys.length with
   |true,true=>match rU T n e (sub xs o sz) (sub ys o sz),ye T n e sz m (o+sz) xs ys with
    |some a,some b=>some (a&&b)
    |_,_=>none
   |_,_=>none
end
def pc:List Value->List PV->Value->Option PV
 |k::ks,v::vs,x=>match jI x k with|some true=>some v|_=>pc ks vs x
 |_,_,_=>none
def oX:List Value->Value->List Value
 | [],x=>[x]
 |k::ks,x=>match jI x k with|some true=>x::ks|_=>k::oX ks x
def qD:List Value->List PV->Value->PV->List PV
 |k::ks,v::vs,x,p=>match jI x k with|some true=>p::vs|_=>v::qD ks vs x p
 |_,_,_,p=>[p]
abbrev wP(a:List Value)(x:Value):Prop:=∀k∈a,jI x k≠none
def DF:List PV->(List PV->Tr)->Tr
 | [],k=>k []
 |p::l,k=>DF l λl=>k (p::l)
theorem Kf:∀(l:List PV) (k:List PV->Tr),DF l k=k l
 | [],_=>rfl
 |p::l,k=>Kf l λl=>k (p::l)
def Ht(ag:Bool)(cs:List PV)(K:PV->Tr):Tr:=match ag with
 |true=>DF cs λcs=>K (.agg cs)
 |false=>match cs with | [c]=>K c|_=>.bF
theorem Q'(ag:Bool)(cs:List PV)(K:PV->Tr):Ht ag cs K=match kW ag cs with|some v=>K v|none=>.bF:=by
 cases ag with
 |true=>exact Kf cs _
 |false=>match cs with
  | []=>rfl
  | [_]=>rfl
  |_::_::_=>rfl
def Ap(b ag:Bool)(cs:List PV):Tr:=match b with
 |true=>Ht ag cs λv=>.ok v []
 |false=>.bF
theorem Xi(b ag:Bool)(cs:List PV):Ap b ag cs=match b,kW ag cs with|true,some v=>.ok v []|_,_=>.bF:=by
 cases b
 ·rfl
 unfold Ap;dsimp only;rw[Q'];cases kW ag cs<;>rfl
def yo:List PV->Nat->List PV->(List PV->Tr)->Tr
 |l,_,[],K=>K l
 |l,o,v::vs,K=>DF (eO l o v) λl=>yo l (o+1) vs K
theorem BN:∀(vs l:List PV) (o:Nat) (K:List PV->Tr),yo l o vs K=K (put l o vs)
 | [],_,_,_=>rfl
 |v::vs,l,o,K=>by
  unfold yo
  rw[Kf,BN vs]
  rfl
def GG(l:List PV)(off:Nat)(cs:List PV)(K:List PV->Tr):Tr:=match off with
 |0=>(match Nat.beq cs.length l.length with|true=>K cs|false=>yo l 0 cs K)
 |n+1=>yo l (n+1) cs K
theorem akq(l:List PV)(off:Nat)(cs:List PV)(K:List PV->Tr):GG l off cs K=K (vX l off cs):=by
 cases off with
 |zero=>
  unfold GG vX;dsimp only;cases Nat.beq cs.length l.length
  case true=>rfl
  exact BN cs l 0 K
 |succ n=>exact BN cs l (n+1) K
def Gj(a b c ag:Bool)(l:List PV)(off:Nat)(cs:List PV)(K:PV->Tr):Tr:=match a,b,c with
 |true,true,true=>GG l off cs λcs=>Ht ag cs K
 |_,_,_=>.bF
theorem aec(a b c ag:Bool)(l:List PV)(off:Nat)(cs:List PV)(K:PV->Tr):Gj a b c ag l off cs K=match a,b,c,kW ag (vX l off cs)with|true,true,true,some r=>K r|_,_,_,_=>.bF:=by
 cases a<;>cases b<;>cases c<;>try rfl
 unfold Gj;dsimp only;rw[akq,Q'];cases kW ag (vX l off cs)<;>rfl
def BJ(pl:Nat->Option (Nat×Nat)):List PV->List Nat->List PV->(List PV->Tr)->Tr
 |cells,[],[],K=>K cells
 |cells,i::is,v::vs,K=>match pl i with
  |some (o,sz)=>match Nat.beq v.cells.length sz,Nat.ble (o+v.cells.length) cells.length with
   |true,true=>yo cells o v.cells λcells=>BJ pl cells is vs K
   |_,_=>.bF
  |none=>.bF
 |_,_,_,_=>.bF
theorem Qt(pl:Nat->Option (Nat×Nat))(K:List PV->Tr):∀(is:List Nat) (vs cells:List PV),BJ pl cells is vs K=match wj pl cells is vs with|some cs=>K cs|none=>.bF
 | [],[],_=>rfl
 | [],_::_,_=>rfl
 |_::_,[],_=>rfl
 |i::is,v::vs,cells=>by
  unfold BJ wj
  cases pl i with
  |none=>rfl
  |some x=>
   obtain⟨o,sz⟩:=x
   dsimp only
   cases Nat.beq v.cells.length sz<;>cases Nat.ble (o+v.cells.length) cells.length<;>try rfl
   dsimp only
   rw[BN]
   exact Qt pl K is vs _
def Hh(ok:Bool)(pl:Nat->Option (Nat×Nat))(cells:List PV)(is:List Nat)(vs:List PV):Tr:=match ok with
 |true=>BJ pl cells is vs λcs=>.ok (.agg cs) []
 |false=>.bF
theorem aft(ok:Bool)(pl:Nat->Option (Nat×Nat))(cells:List PV)(is:List Nat)(vs:List PV):Hh ok pl cells is vs=match ok,wj pl cells is vs with|true,some cs=>.ok (.agg cs) []|_,_=>.bF:=by
 cases ok
 ·rfl
 unfold Hh;dsimp only;rw[Qt];cases wj pl cells is vs<;>rfl
def wV(T:TT)(t:TypeId)(vs:List PV):Tr:=
 match T t,vs with
 |some ti,[.lp j i off]=>.rd j λb=>match b with
  |some (.rows _ rs _ _ _)=>match cR rs i with
   |some row=>Ap (Nat.ble (off+ti.size) row.cells.length) ti.ag (AW row.cells off ti.size)
   |none=>.bF
  |_=>.bF
 |some ti,[.le j i off]=>.rd j λb=>match b with
  |some (.rows _ rs _ _ _)=>.row rs i λrow=>Ap (Nat.ble (off+ti.size) row.cells.length) ti.ag (AW row.cells off ti.size)
  |_=>.bF
 |some ti,[.ip cs off]=>Ap (Nat.ble (off+ti.size) cs.length) ti.ag (AW cs off ti.size)
 |_,_=>.bF
def BS(ti:TI)(j:Nat)(k i off:Nat)(rs:List PV)(f:Option Nat)(e:TypeId)(row v:PV):Tr:=
 Gj (Nat.beq v.cells.length ti.size) (Nat.ble (off+ti.size) row.cells.length) (oV v.cells) (sd row) row.cells off v.cells λa=>.ok (.aU []) [(j,some (.rows k (eO rs i a) true f e))]
def Ic(T:TT)(t:TypeId)(vs:List PV):Tr:=
 match T t,vs with
 |some ti,[.lp j i off,v]=>.rd j λb=>match b with
  |some (.rows k rs true f e)=>match cR rs i with
   |some row=>BS ti j k i off rs f e row v
   |none=>.bF
  |_=>.bF
 |some ti,[.le j i off,v]=>.rd j λb=>match b with
  |some (.rows k rs true f e)=>.row rs i λrow=>BS ti j k i off rs f e row v
  |_=>.bF
 |_,_=>.bF
def JO(T:TT)(t:TypeId)(f:Nat)(vs:List PV):Tr:=
 match T t,vs with
 |some ⟨_,_,_,.struct fs,_⟩,[p]=>match cR fs f with
  |some (o,_)=>match p with
   |.lp j i off=>.ok (.lp j i (off+o)) []
   |.le j i off=>.ok (.le j i (off+o)) []
   |.ip cs off=>.ok (.ip cs (off+o)) []
   |_=>.bF
  |none=>.bF
 |_,_=>.bF
def Jd(T:TT)(t:TypeId)(vs:List PV):Tr:=
 match T t,vs with
 |some ⟨_,_,_,.aK n e,_⟩,[p,.at (.int _ q)]=>match T e with
  |some te=>.fV (0<=q/\q<n) inferInstance (match p with
   |.lp j i off=>.ok (.lp j i (off+q.toNat*te.size)) []
   |.le j i off=>.ok (.le j i (off+q.toNat*te.size)) []
   |.ip cs off=>.ok (.ip cs (off+q.toNat*te.size)) []
   |_=>.bF)
  |none=>.bF
 |some ⟨_,_,_,.sl e,_⟩,[p,.at (.int _ q)]=>match T e with
  |some te=>match p with
   |.sl _ rows=>.row rows q λrow=>match Nat.beq row.cells.length te.size with|true=>.ok (.ip row.cells 0) []|false=>.bF
   |.aS j lo len=>.fV (0<=q/\q<len) inferInstance (.rd j λb=>match b with
    |some (.rows k _ _ _ _)=>match Nat.beq k te.size with|true=>.ok (.le j (lo+q.toNat) 0) []|false=>.bF
    |_=>.bF)
   |_=>.bF
  |none=>.bF
 |_,_=>.bF
def FP(T:TT)(t:TypeId)(vs:List PV):Tr:=
 match T t,vs with
 |some ⟨_,_,_,.aK n e,_⟩,[.agg xs,.at (.int _ q)]=>match T e with
  |some te=>.fV (0<=q/\q<n) inferInstance (match Nat.ble (q.toNat*te.size+te.size) xs.length,kW te.ag (sub xs (q.toNat*te.size) te.size)with
   |true,some v=>.ok v []
   |_,_=>.bF)
  |none=>.bF
 |some ⟨_,_,_,.qe,_⟩,[.at (.string s),.at (.int _ q)]=>.fV (0<=q/\q<s.size) inferInstance (iT .u8 (s.data.toList.getD q.toNat 0).toNat)
 |_,_=>.bF
def FE(T:TT)(t:TypeId)(f:Nat)(vs:List PV):Tr:=
 match T t,vs with
 |some ⟨_,_,_,.struct fs,_⟩,[.agg xs]=>match cR fs f with
  |some (o,e)=>match T e with
   |some te=>match Nat.ble (o+te.size) xs.length,kW te.ag (sub xs o te.size)with
    |true,some v=>.ok v []
    |_,_=>.bF
   |none=>.bF
  |none=>.bF
 |_,_=>.bF
def Jt(T:TT)(n:Nat)(e:TypeId)(lo hi mx:Bool)(vs:List PV):Tr:=
 match lo,hi,mx,vs,T e with
 |false,false,false,[p],some ⟨1,false,_,_,_⟩=>.bL [p] λrs d=>match rs with
  | [.ip cs 0]=>match Nat.beq cs.length n,PV.oV cs with
   |true,true=>.ok (.sl false cs) d
   |_,_=>.bF
  |_=>.bF
 |_,_,_,_,_=>.bF
def Dz:List PV->Option (List Int)
 | []=>some []
 |.at (.int .u8 n)::l=>match Dz l with|some r=>some (n::r)|none=>none
 |_::_=>none
def xM(l:List Int):ByteArray:=⟨(l.map λn=>UInt8.ofNat n.toNat).toArray⟩
def FI(T:TT)(e:TypeId)(p:PV):Tr:=match T e with
 |some ⟨_,_,_,.int .u8,_⟩=>.bL [p] λrs d=>match rs with
  | [.sl _ (r::rows)]=>match Dz (r::rows)with
   |some l=>.ok (.at (.string (xM l))) d
   |none=>.bF
  |_=>.bF
 |_=>.bF
def EZ(T:TT)(t:TypeId)(lo hi mx:Bool)(vs:List PV):Tr:=
 match mx,T t,vs with
 |false,some ⟨_,_,_,.qe,_⟩,.at (.string s)::vs=>nl lo hi s.size vs λl h=>.ok (.at (.string (s.extract l h))) []
 |false,some ⟨_,_,_,.sl e,_⟩,p::vs=>match T e with
  |some te=>match p with
   |.sl _ rows=>.lM (uN rows te.size) (nl lo hi rows.length vs λl h=>.ok (.sl false ((rows.drop l).take (h-l))) [])
   |.aS j o len=>.rd j λb=>match b with
    |some (.rows k _ _ (some n) _)=>match Nat.beq k te.size,hi,Nat.ble 1 te.size with
     |true,true,true=>.fV (0<len) inferInstance (nl lo true (n-o) vs λl h=>.ok (.aS j (o+l) (h-l)) [])
     |true,false,true=>nl lo false len vs λl h=>.ok (.aS j (o+l) (h-l)) []
     |_,_,_=>.bF
    |some (.rows k rs _ none _)=>match Nat.beq k te.size,lo,hi with
     |true,true,true=>.pP (nl true true len vs λl h=>.ok (.aS j (o+l) (h-l)) []) (.fV (0<len/\0<te.size) inferInstance (nl true true (rs.length-o) vs λl h=>.ok (.aS j (o+l) (h-l)) []))
     |true,true,false=>nl true false len vs λl h=>.ok (.aS j (o+l) (h-l)) []
     |true,false,hi=>nl false hi len vs λ_ h=>.pP (.ok (.aS j o h) []) (.fV (h=0/\0<len) inferInstance (.ok (.gJ j o) []))
     |false,_,_=>.bF
    |_=>.bF
   |.gJ j o=>.rd j λb=>match b with
    |some (.rows k rs _ none _)=>match Nat.beq k te.size,hi with
     |true,true=>.fV (0<te.size) inferInstance (nl lo true (rs.length-o) vs λl h=>.ok (.aS j (o+l) (h-l)) [])
     |_,_=>.bF
    |_=>.bF
   |_=>.bF
  |none=>.bF
 |true,some ⟨_,_,_,.sl e,_⟩,[p,.at (.int _ h),.at (.int _ m)]=>match lo,hi,T e,p with
  |false,true,some te,.sl _ rows=>.lM (uN rows te.size) (.fV (0<=h/\h=m/\m<=rows.length) inferInstance (.ok (.sl true (rows.take h.toNat)) []))
  |_,_,_,_=>.bF
 |true,some ⟨_,_,_,.sl e,_⟩,[.aS _ _ len,.at (.int _ a),.at (.int _ h),.at (.int _ m)]=>match lo,hi,T e with
  |true,true,some _=>.fV (0<=a/\a<=h/\h<=m/\m<=len) inferInstance (.ok .any [])
  |_,_,_=>.bF
 |_,_,_=>.bF
def EX(T:TT)(op:BinOp)(t:TypeId)(y:Operand)(vs:List PV):Tr:=
 match vs with
 | [.at (.int k a),.at (.int k' b)]=>match decide (k=k')with
  |true=>Rs op k a b
  |false=>zb op k a b
 | [.at (.string a),.at (.string b)]=>aaQ op a b
 | [.at (.bool a),.at (.bool b)]=>match T t with
  |some ⟨_,_,_,.bool,_⟩=>uU op (a==b)
  |_=>.bF
 | [.fn _ _,.at .nilFunc]=>match T t with
  |some ⟨_,_,_,.func,_⟩=>uU op false
  |_=>.bF
 | [.at .nilFunc,.at .nilFunc]=>match T t with
  |some ⟨_,_,_,.func,_⟩=>uU op true
  |_=>.bF
 | [.agg xs,.agg ys]=>match T t with
  |some ⟨_,true,_,_,_⟩=>match rU T 100 t xs ys with
   |some b=>uU op b
   |none=>.bF
  |_=>.bF
 | [.sl _ rows,_]=>match T t,y with
  |some ⟨_,_,_,.sl _,_⟩,.const (.slice none 0 0)=>.rM rows.length λb=>uU op b
  |_,_=>.bF
 | [.aS _ _ len,_]=>match T t,y with
  |some ⟨_,_,_,.sl _,_⟩,.const (.slice none 0 0)=>.rM len λb=>uU op b
  |_,_=>.bF
 |_=>.bF
def Lp(T:TT)(t:TypeId)(p:PV):Tr:=
 match p,T t with
 |.at (.string s),some ⟨_,_,_,.qe,_⟩=>.ok (.at (.int .i64 s.size)) []
 |.sl _ rows,some ⟨_,_,_,.sl _,_⟩=>.ok (.at (.int .i64 rows.length)) []
 |.aS _ _ len,some ⟨_,_,_,.sl _,_⟩=>.ok (.at (.int .i64 len)) []
 |.gJ _ _,some ⟨_,_,_,.sl _,_⟩=>.ok (.at (.int .i64 0)) []
 |_,_=>.bF
def FC(T:TT)(nx:Nat)(t t':TypeId)(a:PV)(ys:List PV):Tr:=
 match T t,Nat.beq t t' with
 |some ⟨_,_,_,.sl e,_⟩,true=>match T e with
  |some te=>match Nat.ble 1 te.size,a with
   |true,.sl true rows=>.lM (ph rows ys te.size/\(ys=[]->rows=[])) (.ok (.aS nx 0 (rows.length+ys.length)) [(nx,some (.rows te.size (rows++ys) true none e))])
   |true,.aS j 0 len=>.rd j λb=>match b with
    |some (.rows k rs true none e')=>match Nat.beq k te.size,Nat.beq e' e with
     |true,true=>.pP (.lM (ph rs ys te.size/\len=rs.length) (.ok (.aS nx 0 (len+ys.length)) [(nx,some (.rows te.size (rs++ys) true none e)),(j,none)]))
      (.lM (ph rs ys te.size/\len=rs.length/\rs≠[]/\ys≠[]) (.r_ (λ_=>True) λc=>match c with
        |0=>.ok (.aS j 0 (len+ys.length)) [(j,some (.rows te.size (rs++ys) true none e))]
        |_+1=>.ok (.aS nx 0 (len+ys.length)) [(nx,some (.rows te.size (rs++ys) true none e))]))
     |_,_=>.bF
    |_=>.bF
   |_,_=>.bF
  |none=>.bF
 |_,_=>.bF
def fo(rs:List PV)(lo:Nat)(ns:List PV):List PV:=rs.take lo++ns++rs.drop (lo+ns.length)
def wZ(T:TT)(ex:Bool)(t t':TypeId)(j lo len j' lo' len':Nat):Tr:=
 match T t,Nat.beq t t' with
 |some ⟨_,_,_,.sl e,_⟩,true=>match T e with
  |some te=>.rd j' λb'=>.rd j λb=>match b',b with
   |some (.rows k' rs' _ _ _),some (.rows k rs true cp e')=>match Nat.beq k te.size,Nat.beq k' te.size,Nat.ble 1 te.size with
    |true,true,true=>.fV ((ex=true\/0<len)/\lo+len+len'<=rs.length/\lo'+len'<=rs'.length) inferInstance (.lM (pj (sub rs' lo' len') te.size)
     (.pP (.ok (.aS j lo (len+len')) [(j,some (.rows k (fo rs (lo+len) (sub rs' lo' len')) true cp e'))]) (.fV (len+len'=0) inferInstance (.ok (.gJ j lo) [(j,some (.rows k (fo rs (lo+len) (sub rs' lo' len')) true cp e'))]))))
    |_,_,_=>.bF
   |_,_=>.bF
  |none=>.bF
 |_,_=>.bF
def GL(T:TT)(nx:Nat)(t t':TypeId)(j len:Nat)(q:Int):Tr:=
 match T t,T t' with
 |some ⟨_,_,_,.sl e,_⟩,some ⟨_,_,_,.int _,_⟩=>match T e with
  |some te=>.rd j λb=>match b with
   |some (.rows k rs true (some c) e')=>match Nat.beq k te.size,Nat.beq e' e,Nat.ble 1 te.size with
    |true,true,true=>.fV (0<q/\(c:Int)<len+q/\len<=rs.length/\len+q<=67108864) inferInstance (.ok (.aS nx 0 (len+q.toNat)) [(nx,some (.rows te.size (rs.take len++List.replicate q.toNat te.zero) true none e))])
    |_,_,_=>.bF
   |_=>.bF
  |none=>.bF
 |_,_=>.bF
def Kt(T:TT)(t:TypeId)(p:PV):Tr:=
 match p,T t with
 |.sl true rows,some ⟨_,_,_,.sl _,_⟩=>.ok (.at (.int .i64 rows.length)) []
 |.aS j 0 len,some ⟨_,_,_,.sl e,_⟩=>match T e with
  |some te=>.fV (0<len) inferInstance (.rd j λb=>match b with
   |some (.rows k rs true none e')=>match Nat.beq k te.size,Nat.ble 1 te.size with
    |true,true=>.r_ (λc=>len<=c/\rs.length<=c/\c<=maxLen) λc=>.ok (.at (.int .i64 c)) [(j,some (.rows k rs true (some c) e'))]
    |_,_=>.bF
   |some (.rows k _ true (some c) _)=>match Nat.ble 1 k with
    |true=>.ok (.at (.int .i64 c)) []
    |false=>.bF
   |_=>.bF)
  |none=>.bF
 |_,_=>.bF
def K_(T:TT)(t:TypeId)(p:PV):Tr:=
 match p,T t with
 |.sl _ [],some ⟨_,_,_,.sl _,_⟩=>.ok (.aU []) []
 |.aS j lo len,some ⟨_,_,_,.sl e,_⟩=>match T e with
  |some te=>.rd j λb=>match b with
   |some (.rows k rs true cp e')=>match Nat.beq k te.size,oV te.zero.cells with
    |true,true=>.fV (lo+len<=rs.length) inferInstance (.ok (.aU []) [(j,some (.rows k (fo rs lo (List.replicate len te.zero)) true cp e'))])
    |_,_=>.bF
   |_=>.bF
  |none=>.bF
 |_,_=>.bF
def Ac(a:TI)(j lo len:Nat)(ys:List PV):Tr:=
 .rd j λb=>match b with
  |some (.rows k rs true cp e')=>match Nat.beq k a.size with
   |true=>.lM (pj ys a.size/\lo<=rs.length) (.int (Nat.min ys.length len:Nat) λq=>.ok (.at (.int .i64 q)) [(j,some (.rows k (fo rs lo (ys.take len)) true cp e'))])
   |false=>.bF
  |_=>.bF
def Ik(T:TT)(t:TypeId)(p q:PV):Tr:=
 match p,T t with
 |.aS j lo len,some ⟨_,_,_,.sl e,_⟩=>match T e with
  |some te=>match q with
   |.sl _ ys=>Ac te j lo len ys
   |.aS j' lo' len'=>.rd j' λb=>match b with
    |some (.rows k' rs' _ _ _)=>match Nat.beq k' te.size with
     |true=>.fV (Nat.min len' len<=rs'.length-lo') inferInstance (Ac te j lo len (sub rs' lo' (Nat.min len' len)))
     |false=>.bF
    |_=>.bF
   |_=>.bF
  |none=>.bF
 |.sl _ [],some ⟨_,_,_,.sl e,_⟩=>match T e with
  |some _=>match q with
   |.sl _ _=>.ok (.at (.int .i64 0)) []
   |.aS _ _ _=>.ok (.at (.int .i64 0)) []
   |_=>.bF
  |none=>.bF
 |_,_=>.bF
def Io(T:TT)(nx:Nat)(t:TypeId)(vs:List PV):Tr:=
 match T t,vs with
 |some ⟨_,_,_,.sl e,_⟩,[.at (.int _ n),.at (.int _ m)]=>match T e with
  |some te=>.fV (0<=n/\n=m/\n<=67108864) inferInstance (.ok (.aS nx 0 n.toNat) [(nx,some (.rows te.size (List.replicate n.toNat te.zero) true none e))])
  |none=>.bF
 |_,_=>.bF
def Jj(T:TT)(nx:Nat)(b:Builtin)(c:List TypeId)(vs:List PV):Tr:=
 match b,vs,c with
 |.len,[p],[t]=>Lp T t p
 |.append,[px,.sl _ ys],[t,t']=>FC T nx t t' px ys
 |.append,[.aS j lo len,.aS j' lo' len'],[t,t']=>wZ T false t t' j lo len j' lo' len'
 |.append,[.gJ j lo,.aS j' lo' len'],[t,t']=>wZ T true t t' j lo 0 j' lo' len'
 |.append,[.aS j 0 len,.at (.int _ q)],[t,t']=>GL T nx t t' j len q
 |.cap,[p],[t]=>Kt T t p
 |.clear,[p],[t]=>K_ T t p
 |.copy,[p,q],[t,t']=>match Nat.beq t t' with|true=>Ik T t p q|false=>.bF
 |.min,[.at (.int k a),.at (.int _ b)],_=>iT k (if b<a then b else a)
 |.max,[.at (.int k a),.at (.int _ b)],_=>iT k (if b>a then b else a)
 |_,_,_=>.bF
def GD(T:TT)(t:TypeId)(vs:List PV):Tr:=
 match vs,T t with
 | [v],some ti=>match ti.kd with
  |.fj=>.bF
  |_=>.ok (.fm t v) []
 |_,_=>.bF
def KZ(T:TT)(asserted:TypeId)(commaOk:Bool)(vs:List PV):Tr:=
 match vs,T asserted with
 | [.fm t v],some ti=>match ti.kd with
  |.fj=>.bF
  |_=>match Nat.beq t asserted,commaOk with
   |true,false=>.ok v []
   |true,true=>.ok (.aU [v,.at (.bool true)]) []
   |false,true=>.ok (.aU [ti.zero,.at (.bool false)]) []
   |false,false=>.bF
 |_,_=>.bF
def Ci:Kd->PV->Option Value
 |.int _,.at (.int k a)=>some (.int k a)
 |.qe,.at (.string s)=>some (.string s)
 |_,_=>none
def Kg(b:TI)(commaOk:Bool)(a:List Value)(c:List PV)(x:Value):Tr:=
 .lM (wP a x) (.td (pc a c x) λr=>match r,commaOk with
  |some v,true=>.ok (.aU [v,.at (.bool true)]) []
  |some v,false=>.ok v []
  |none,true=>.ok (.aU [b.zero,.at (.bool false)]) []
  |none,false=>.ok b.zero [])
def EU(T:TT)(t:TypeId)(commaOk:Bool)(vs:List PV):Tr:=
 match T t,vs with
 |some ⟨_,_,_,.map kt e,_⟩,[m,p]=>match T kt,T e with
  |some tk,some te=>match Ci tk.kd p with
   |some x=>match m with
    |.mp ks ps=>Kg te commaOk ks ps x
    |.iL j=>.rd j λb=>match b with
     |some (.map ks ps _)=>Kg te commaOk ks ps x
     |_=>.bF
    |_=>.bF
   |none=>.bF
  |_,_=>.bF
 |_,_=>.bF
def Ju(T:TT)(t:TypeId)(vs:List PV):Tr:=
 match T t,vs with
 |some ⟨_,_,_,.map kt _,_⟩,[.iL j,p,v]=>match T kt with
  |some tk=>match Ci tk.kd p with
   |some x=>.rd j λb=>match b with
    |some (.map ks ps true)=>.lM (wP ks x) (.ok (.aU []) [(j,some (.map (oX ks x) (qD ks ps x v) true))])
    |_=>.bF
   |none=>.bF
  |none=>.bF
 |_,_=>.bF
def tr(T:TT)(nx:Nat)(op:Op)(vs:List PV):Tr:=
 match op with
 |.move _|.assign _=>match vs with | [v]=>.ok v []|_=>.bF
 |.pick _ _ _=>match vs with
  | [.at (.bool true),a,_]=>.ok a []
  | [.at (.bool false),_,b]=>.ok b []
  |_=>.bF
 |.alloc t=>match T t with
  |some i=>.ok (.lp nx 0 0) [(nx,some (.rows i.size [i.zero] true none t))]
  |none=>.bF
 |.box t _=>match T t,vs with
  |some i,[v]=>match Nat.beq v.cells.length i.size with|true=>.ok (.lp nx 0 0) [(nx,some (.rows i.size [v] true none t))]|false=>.bF
  |_,_=>.bF
 |.load t _=>wV T t vs
 |.store t _ _=>Ic T t vs
 |.fieldAddr t _ f=>JO T t f vs
 |.indexAddr t _ _=>Jd T t vs
 |.extract _ i=>match vs with
  | [.aU vs]=>match cR vs i with|some v=>.ok v []|none=>.bF
  |_=>.bF
 |.unOp .not _ _=>match vs with | [.at (.bool b)]=>.ok (.at (.bool (!b))) []|_=>.bF
 |.binOp op t _ y _=>EX T op t y vs
 |.index t _ _=>FP T t vs
 |.field t _ f=>FE T t f vs
 |.slice t _ lo hi mx=>match T t with
  |some ⟨_,_,_,.aK n e,_⟩=>Jt T n e lo.isSome hi.isSome mx.isSome vs
  |_=>EZ T t lo.isSome hi.isSome mx.isSome vs
 |.makeInterface t _=>GD T t vs
 |.nilCheck _=>match vs with
  | [.fn f cs]=>.ok (.fn f cs) []
  | [.lp j i o]=>.ok (.lp j i o) []
  | [.le j i o]=>.ok (.le j i o) []
  | [.ip cs o]=>.ok (.ip cs o) []
  |_=>.bF
 |.call ⟨.builtin b,_,c⟩=>Jj T nx b c.toList vs
 |.build t parts=>match T t with
  |some ti=>Hh (NV T ti.kd) (ED T ti.kd) ti.zero.cells (parts.toList.map (·.1)) vs
  |none=>.bF
 |.buildSlice t len parts=>match T t with
  |some ⟨_,_,_,.sl e,_⟩=>match T e with
   |some te=>match Cg 0 (parts.toList.map (·.1)),Nat.beq vs.length len,BT te.size vs,Nat.ble (len*te.size) 16777216 with
    |true,true,true,true=>.bL vs λrs d=>.ok (.sl true rs) d
    |_,_,_,_=>.bF
   |none=>.bF
  |_=>.bF
 |.makeFunc (.func f) first cs=>match first.toList,cs.toList,vs with
  | [],_,_=>.ok (.fn f vs) []
  | [_],[],[x]=>.ok (.mv f x) []
  |_,_,_=>.bF
 |.convert src dst _=>match T src,T dst,vs with
  |some ⟨_,_,_,.int _,_⟩,some ⟨_,_,_,.int k,_⟩,[.at (.int _ a)]=>iT k (k.wrap a)
  |some ⟨_,_,_,.sl e,_⟩,some ⟨_,_,_,.qe,_⟩,[p]=>FI T e p
  |_,_,_=>.bF
 |.typeAssert _ _ asserted commaOk=>KZ T asserted commaOk vs
 |.makeSlice t _ _=>Io T nx t vs
 |.makeMap t none=>match T t,vs with
  |some ⟨_,_,_,.map _ _,_⟩,[]=>.ok (.iL nx) [(nx,some (.map [] [] true))]
  |_,_=>.bF
 |.lookup t _ _ commaOk=>EU T t commaOk vs
 |.insert t _ _ _|.mapUpdate t _ _ _=>Ju T t vs
 |_=>.bF
def act(T:TT)(nx:Nat)(op:Op)(ev:Operand->Option PV)(hp:Nat->Option aI)(K:PV->cU->Prop):Prop:=
 match gj ev op.operands.toList with
 |some vs=>(tr T nx op vs).wp hp K
 |none=>False
def kJ(bD:Nat->Option PV):Operand->Option PV
 |.tmp t=>bD t
 |.const (.slice none 0 0)=>some (.sl true [])
 |.const v=>match v.oneCell' with|true=>some (.at v)|false=>none
 |.func f=>some (.fn f [])
 |.global _=>none
def AS.ev(s:AS):Operand->Option PV:=kJ s.bD
def AS.put(s:AS)(d:Option Nat)(v:PV):AS:=match d with|some d=>⟨da s.bD d (some v),s.hp⟩|none=>s
end
section
open Go.RowKit
theorem SH:∀(us:List Value) (k off:Nat) (A:Array Value),off+k+us.length<=A.size->(us.zipIdx k).foldl (λcs (x:Value×Nat)=>cs.setIfInBounds (off+x.2) x.1) A=(A.toList.take (off+k)++us++A.toList.drop (off+k+us.length)).toArray
 | [],k,off,A,_=>by simp
 |u::us,k,off,A,h=>by
  rw[List.zipIdx_cons,F5,SH us (k+1) off _ (by simp at h⊢;omega)]
  have:=list_seg_step A.toList (off+k) u us (by simp at h⊢;omega)
  rw[Array.toList_setIfInBounds]
  exact congrArg List.toArray this
theorem Sg(v:Value)(off:Nat)(A:Array Value)(h:off+v.cells.size<=A.size):v.cells.zipIdx.foldl (λcs (x:Value×Nat)=>cs.setIfInBounds (off+x.2) x.1) A=(A.toList.take off++v.cells.toList++A.toList.drop (off+v.cells.toList.length)).toArray:=by
 have:=SH v.cells.toList 0 off A (by rw[p8];omega);rw[<-Array.foldl_toList,Array.toList_zipIdx];exact this
theorem Wq{c:RC}{pl kX:Nat->Option (Nat×Nat)}(a:∀i x,pl i=some x->kX i=some x):∀{is:List Nat} {vs cells cs:List PV} {us zs:List Value},aM cells c zs->aM vs c us->wj pl cells is vs=some cs->
 ∃ys:List Value,Instr.fill kX zs.toArray (is.zip us)=some ys.toArray/\aM cs c ys
 | [],[],_,_,us,zs,r,s,h=>by
  cases h
  rw[show us=[]from s]
  exact⟨zs,rr,r⟩
 | [],_::_,_,_,_,_,_,_,h=>by cases h
 |_::_,[],_,_,_,_,_,_,h=>by cases h
 |i::is,v::vs,cells,cs,us,zs,r,s,h=>by
  obtain⟨u,f,rfl,s1,s2⟩:=s
  unfold wj at h
  split at h
  ·rename_i o sz e
   split at h
   ·rename_i e1 e2
    have h1:=n9 e1
    have h2:=o9 e2
    have b:=s1.cells
    have d:=b.length
    rw[p8]at d
    have g:u.cells.size=sz:=by rw[<-p8,b.length,h1]
    have j:=r.length
    obtain⟨ys,g1,g2⟩:=Wq a (r.put o b h2) s2 h
    refine⟨ys,?_,g2⟩
    rw[List.zip_cons_cons]
    unfold Instr.fill
    rw[a _ _ e]
    have hb:(decide (u.cells.size≠sz)||decide (o+u.cells.size>zs.toArray.size))=false:=by
     simp only[M8,I7,Decidable.not_not,A9]
     exact⟨g,om⟩
    dsimp only
    rw[y8 (by rw[hb];exact I1)]
    rw[<-g1]
    exact congrArg (λz=>Instr.fill kX z (is.zip f)) (Sg u o zs.toArray (by have e9:zs.toArray.size=zs.length:=rfl;omega))
   ·cases h
  ·cases h
theorem Fg(ρ:Operand->Value)(parts:Array (Nat×Operand)):(parts.map fun(i,x)=>(i,ρ x)).toList=(parts.toList.map (·.1)).zip ((parts.toList.map (·.2)).map ρ):=by
 rw[Array.toList_map];generalize parts.toList=l;induction l with
 |nil=>rfl
 |cons x l ih=>simp only[w9,List.zip_cons_cons,ih]
theorem Xc{k:Nat}:∀(is:List Nat) (us:List Value) (q:Nat) (A:Array Value),Cg q is=true->is.length=us.length->(∀u∈us,u.cells.size=k)->(q+us.length)*k<=A.size->
 Instr.fill (λi=>some (i*k,k)) A (is.zip us)=some (A.toList.take (q*k)++bV us++A.toList.drop ((q+us.length)*k)).toArray
 | [],[],q,A,_,_,_,_=>by simp[Instr.fill,bV]
 | [],_::_,_,_,_,h,_,_=>by cases h
 |_::_,[],_,_,_,h,_,_=>by cases h
 |i::is,u::us,q,A,b,j,f,l=>by
  unfold Cg at b
  split at b
  ·rename_i e
   obtain rfl:=n9 e
   have g:=f u j6
   have m:(i+1+us.length)*k<=A.size:=by rw[show i+1+us.length=i+(u::us).length by simp;omega];exact l
   have h1:i*k+k<=A.size:=by
    have:=B8 k (show i+1<=i+1+us.length by omega)
    rw[D7]at this;omega
   rw[List.zip_cons_cons]
   unfold Instr.fill
   dsimp only
   have hb:(decide (u.cells.size≠k)||decide (i*k+u.cells.size>A.size))=false:=by
    simp only[M8,I7,Decidable.not_not]
    exact⟨g,om⟩
   rw[y8 (by rw[hb];exact I1)]
   have:=Sg u (i*k) A om
   have d:=Xc is us (i+1) (A.toList.take (i*k)++u.cells.toList++A.toList.drop (i*k+u.cells.toList.length)).toArray b (by simpa using j) (λx d=>f x (j3 _ d)) (by
    rw[A9,i6,i6,l8,w7]
    simp only[p8]at *;omega)
   refine(congrArg (λz=>Instr.fill _ z (is.zip us)) this).trans (d.trans ?_)
   refine congrArg (λz=>some (List.toArray z)) ?_
   have a:u.cells.toList.length=k:=by rw[p8,g]
   have e1:(A.toList.take (i*k)++u.cells.toList).length=(i+1)*k:=by
    rw[i6,l8,a,p8,D7];omega
   have e2:(i+1+us.length)*k=(A.toList.take (i*k)++u.cells.toList).length+us.length*k:=by rw[e1,G7]
   show List.take ((i+1)*k) (A.toList.take (i*k)++u.cells.toList++_)++bV us++List.drop ((i+1+us.length)*k) (A.toList.take (i*k)++u.cells.toList++_)=_
   rw[e2,List.take_left' e1,N8,K0,ln,a]
   simp only[A7]
   rw[show i*k+k+us.length*k=(i+(u::us).length)*k by rw[w6,G7,D7];omega]
  ·cases b
theorem xV{ev:Operand->Option PV}{ρ:Operand->Value}{c:RC}(a:∀x p,ev x=some p->bW p c (ρ x)):∀{l:List Operand} {b:List PV},gj ev l=some b->aM b c (l.map ρ)
 | [],b,h=>by cases h;rfl
 |o::l,b,h=>by
  unfold gj at h
  cases h1:ev o with
  |none=>rw[h1]at h;cases h
  |some v=>
   cases h2:gj ev l with
   |none=>rw[h1,h2]at h;cases h
   |some vs=>
    rw[h1,h2]at h;cases h
    exact⟨_,_,rr,a o v h1,xV a h2⟩
def HQ(P:Program)(ρ:Operand->Value)(o:Oper)(w:World)(v:Value)(w':World):Prop:=
 (execOp ρ o).run P w=.ok (.value v) w'\/(v=undef/\(execOp ρ o).run P w=.ok .skip w')
def eV(P:Program)(S:dr)(F:Nat->Prop)(hp:Nat->Option aI)(c:RC)(ρ:Operand->Value)(o:Oper)(K:PV->cU->Prop):Prop:=
 ∃p d,K p d/\∃v c',HQ P ρ o c.w v c'.w/\tw S F (eY hp d) c c' p v
section
variable {P:Program}{T:TT}{S:dr}{F:Nat→Prop}{nx:Nat}{hp:Nat→Option aI}{c:RC}{ρ:Operand→Value}{o:Oper}{K:PV→cU→Prop}{vs:List PV}
theorem dl(a:bU S F hp c){p:PV}{v:Value}(b:K p [])(r:bW p c v)(d:HQ P ρ o c.w v c.w):eV P S (dz F nx) hp c ρ o K:=
 ⟨p,[],b,v,c,d,cI.refl c,a.up (λ_ h=>h.1),r⟩
theorem jj{x:Value}{p:PV}(h:aM [p] c [x]):bW p c x:=by obtain⟨v,l,e,r,_⟩:=h;cases e;exact r
theorem gW{x y:Value}{p q:PV}(h:aM [p,q] c [x,y]):bW p c x/\bW q c y:=by obtain⟨v,l,e,r,r2⟩:=h;cases e;exact⟨r,jj r2⟩
theorem zW{x y z:Value}{p q r:PV}(h:aM [p,q,r] c [x,y,z]):bW p c x/\bW q c y/\bW r c z:=by obtain⟨v,l,e,r1,r2⟩:=h;cases e;exact⟨r1,gW r2⟩
theorem Lu(b:bU S F hp c)(x:Operand)(hv:aM vs c [ρ x])(a:o.op=.move x\/o.op=.assign x)(h:(match vs with | [v]=>Tr.ok v []|_=>.bF).wp hp K):eV P S (dz F nx) hp c ρ o K:=by
 split at h
 ·refine dl b h (jj hv) (.inl ?_);rcases a with a|a<;>· unfold execOp;rw[a];rfl
 ·exact False.elim h
theorem abf(e:bU S F hp c)(x a b:Operand)(hv:aM vs c [ρ x,ρ a,ρ b])(f:o.op=.pick x a b)(h:(tr T nx (.pick x a b) vs).wp hp K):eV P S (dz F nx) hp c ρ o K:=by
 simp only[tr]at h;split at h
 ·obtain⟨⟨d,_⟩,h1,h2⟩:=zW hv;exact dl e h h1 (.inl (by unfold execOp;simp[f,d,asBool]))
 ·obtain⟨⟨d,_⟩,h1,h2⟩:=zW hv;exact dl e h h2 (.inl (by unfold execOp;simp[f,d,asBool]))
 ·exact False.elim h
theorem akK(a:dV P T)(b:bU S F hp c)(d:F nx)(t:TypeId)(f:o.op=.alloc t)(h:(tr T nx (.alloc t) vs).wp hp K):eV P S (dz F nx) hp c ρ o K:=by
 simp only[tr]at h;split at h
 ·rename_i ti e;obtain⟨z,g,i,j⟩:=(a t ti e).Ck c;obtain⟨c',k,l⟩:=b.new d j t ti.size i;refine⟨_,_,h,_,c',.inl ?_,l⟩;unfold execOp;simp[f,Instr.alloc,g,newVar,newRow,k]
 ·exact False.elim h
theorem adA(b:bU S F hp c)(d:F nx)(t:TypeId)(x:Operand)(hv:aM vs c [ρ x])(f:o.op=.box t x)(h:(tr T nx (.box t x) vs).wp hp K):eV P S (dz F nx) hp c ρ o K:=by
 simp only[tr]at h;split at h
 ·rename_i ti p e;split at h
  ·rename_i e3;have a:=jj hv;have g:(ρ x).cells.size=ti.size:=by rw[<-p8,a.cells.length];exact n9 e3
   obtain⟨c',i,j⟩:=b.new d a t ti.size g;refine⟨_,_,h,_,c',.inl ?_,j⟩;unfold execOp;simp[f,Instr.box,newVar,newRow,i]
  ·exact False.elim h
 ·exact False.elim h
theorem ais(A:dV P T)(q:bU S F hp c)(t:TypeId)(x:Operand)(hv:aM vs c [ρ x])(C:o.op=.load t x)(h:(wV T t vs).wp hp K):eV P S (dz F nx) hp c ρ o K:=by
 have key:∀{ti:TI} {j i off:Nat} {k:Nat} {rs:List PV} {wr:Bool} {f:Option Nat} {e:TypeId} {row v:PV},T t=some ti->(∃B k,c.hb j=some (B,k)/\ρ x=.pointer (some ⟨B,i*k+off,none⟩))->hp j=some (.rows k rs wr f e)->PV.cR rs i=some row->
  Nat.ble (off+ti.size) row.cells.length=true->PV.kW ti.ag (PV.sub row.cells off ti.size)=some v->K v []->eV P S (dz F nx) hp c ρ o K:=by
  intro ti j i off k rs wr f e row v eT l n a d g D;obtain⟨B,k',E,l⟩:=l;obtain⟨rfl,u,r,G,s⟩:=GY q n a E;obtain⟨w,z,p⟩:=xH (P:=P) (A t ti eT) r.cells d g B (i*k') s;refine dl q D p (.inl ?_);unfold execOp;simp[C,l,Instr.loadAt,Instr.sureAddr,z]
 unfold wV at h;simp only[Sy,Xi]at h;split at h
 ·rename_i ti j i off eT;simp only[Tr.wp]at h;split at h
  ·rename_i k rs wr f e n;split at h
   ·rename_i row a;split at h
    ·rename_i v d g;exact key eT (jj hv) n a d g h
    ·exact False.elim h
   ·exact False.elim h
  ·exact False.elim h
 ·rename_i ti j i off eT;simp only[Tr.wp]at h;split at h
  ·rename_i k rs wr f e n;obtain⟨row,a,_,h⟩:=h;dsimp only at h;split at h
   ·rename_i v d g;exact key eT (jj hv) n (by simpa using a) d g h
   ·exact False.elim h
  ·exact False.elim h
 ·rename_i ti cs off eT;split at h
  ·rename_i v d g;obtain⟨b,bZ,us,l,p,s⟩:=jj hv;obtain⟨w,z,p⟩:=xH (P:=P) (A t ti eT) (aM.ext cs (cI.ng c) p) d g b bZ (λm y H=>(s m y H).2);refine dl q h p (.inl ?_);unfold execOp;simp[C,l,Instr.loadAt,Instr.sureAddr,z]
  ·exact False.elim h
 ·exact False.elim h
theorem afy(p:dV P T)(q:bU S F hp c)(t:TypeId)(x y:Operand)(hv:aM vs c [ρ x,ρ y])(r:o.op=.store t x y)(h:(Ic T t vs).wp hp K):eV P S (dz F nx) hp c ρ o K:=by
 have key:∀{ti:TI} {j i off:Nat} {k:Nat} {rs:List PV} {f:Option Nat} {e:TypeId} {row v:PV},T t=some ti->(∃B k,c.hb j=some (B,k)/\ρ x=.pointer (some ⟨B,i*k+off,none⟩))->bW v c (ρ y)->hp j=some (.rows k rs true f e)->PV.cR rs i=some row->
  (BS ti j k i off rs f e row v).wp hp K->eV P S (dz F nx) hp c ρ o K:=by
  intro ti j i off k rs f e row v eT n s b a d;unfold BS at d;rw[aec]at d;split at d
  ·rename_i row' h1 h2 u w;obtain⟨B,k',z,n⟩:=n;obtain⟨c',g,l,m,rfl⟩:=akZ (p t ti eT) q b a s h1 h2 u w z;refine⟨_,_,d,undef,c',.inr ⟨rr,?_⟩,l,m.up (λ_ h=>h.1),⟨[],rr,rr⟩⟩;unfold execOp;simp[r,n,Instr.storeAt,Instr.sureAddr,g]
  ·exact False.elim d
 unfold Ic at h;split at h
 ·rename_i ti j i off v eT;simp only[Tr.wp]at h;split at h
  ·rename_i k rs f e b;split at h
   ·rename_i row a;exact key eT (gW hv).1 (gW hv).2 b a h
   ·exact False.elim h
  ·exact False.elim h
 ·rename_i ti j i off v eT;simp only[Tr.wp]at h;split at h
  ·rename_i k rs f e b;obtain⟨row,a,_,h⟩:=h;exact key eT (gW hv).1 (gW hv).2 b (by simpa using a) h
  ·exact False.elim h
 ·exact False.elim h
theorem aol{t:TypeId}{i:TypeInfo}(hi:P.info? t=some i)(b:i.size≠0)(a:Addr)(f:Field)(d:f.type=t)(w:World):(fieldPlace a f).run P w=.ok (a.add f.offset) w:=by simp[fieldPlace,sizeOf,typeInfo,d,hi,b]
theorem ady(r:dV P T)(l:bU S F hp c)(t:TypeId)(x:Operand)(f:Nat)(hv:aM vs c [ρ x])(s:o.op=.fieldAddr t x f)(h:(JO T t f vs).wp hp K):eV P S (dz F nx) hp c ρ o K:=by
 have key:∀{sz ag z fs eq off ty},T t=some ⟨sz,ag,z,.struct fs,eq⟩->PV.cR fs f=some (off,ty)->∀a:Addr,ρ x=.pointer (some a)->(execOp ρ o).run P c.w=.ok (.value (.pointer (some (a.add off)))) c.w:=by
  intro sz ag z fs eq off ty e j a g;obtain⟨d,u,_,fields,rfl,_,v⟩:=(r t _ e).de;obtain⟨E,h1,h2,y,i,A,C⟩:=v f off ty j;have D:=run_underlying (P:=P) u c.w;have hp:=aol A C a E y c.w;unfold execOp;simp[s,g,Instr.fieldAt,Instr.sureAddr,D,h1,hp,h2]
 unfold JO at h;split at h
 ·rename_i sz ag z fs eq p e;split at h
  ·rename_i q ty j;have k:=jj hv;split at h
   ·obtain⟨B,n,m,g⟩:=k;refine dl l h ⟨B,n,m,rr⟩ (.inl ?_);rw[key e j _ g,Addr.add_lit,B4]
   ·obtain⟨B,n,m,g⟩:=k;refine dl l h ⟨B,n,m,rr⟩ (.inl ?_);rw[key e j _ g,Addr.add_lit,B4]
   ·obtain⟨b,bZ,vs,g,k⟩:=k;refine dl l h ⟨b,bZ,vs,rr,k⟩ (.inl ?_);rw[key e j _ g,Addr.add_lit,B4]
   ·exact False.elim h
  ·exact False.elim h
 ·exact False.elim h
theorem akT{rows:List PV}{v:Value}{vs:List Value}{cl:Bool}(l:aM rows c.pure vs)(f:lO c.w c.Z cl v vs){q:Nat}{row:PV}(p:PV.cR rows q=some row){m:Nat}(r:row.cells.length=m):
 ∃b off n,v=.slice (some ⟨b,off,none⟩) n (match v with|.slice _ _ cap=>cap|_=>0)/\q<n/\n=rows.length/\bW (.ip row.cells 0) c (.pointer (some ⟨b,off+q*m,none⟩)):=by
 obtain⟨u,e,d⟩:=l.cR p
 have hq:q<vs.length:=(c9.1 e).1
 obtain⟨a,cap,rfl,h1,h2,s⟩:=f
 rcases s with rfl|⟨b,off,k,rfl,g,t⟩
 ·simp at hq
 ·have h:k=m:=by rw[<-g u (i7 e),<-p8,d.cells.length,r]
  subst h
  refine⟨b,off,vs.length,rr,hq,l.length,b,off+q*k,u.cells.toList,rr,d.cells,λi x hi=>?_⟩
  have j:i<k:=by
   have:=(c9.1 hi).1
   rwa [p8,g u (i7 e)]at this
  have:=t (q*k+i) x (by rw[Bz g e i j];exact hi)
  rwa [<-B4]at this
theorem PP{t e:TypeId}{d:TI}(f:P.underlying t=some (.slice e))(a:iR P e d)(b off n cap:Nat)(k:IntKind)(q:Int)(h0:0<=q)(h1:q<n)(w:World):
 (Instr.indexAt t (.slice (some ⟨b,off,none⟩) n cap) (.int k q)).run P w=.ok (.pointer (some ⟨b,off+q.toNat*d.size,none⟩)) w:=by
 have g:=run_underlying (P:=P) f w
 simp[Instr.indexAt,asIntOf,g,a.size,h0,h1,Addr.add_lit]
theorem JQ{t e:TypeId}{d:TI}{n:Nat}(f:P.underlying t=some (.array n e))(a:iR P e d)(b off:Nat)(k:IntKind)(q:Int)(h0:0<=q)(h1:q<n)(w:World):
 (Instr.indexAt t (.pointer (some ⟨b,off,none⟩)) (.int k q)).run P w=.ok (.pointer (some ⟨b,off+q.toNat*d.size,none⟩)) w:=by
 have g:=run_underlying (P:=P) f w
 simp[Instr.indexAt,asIntOf,g,a.size,h0,h1,Addr.add_lit,Instr.sureAddr]
theorem akX(l:dV P T)(r:bU S F hp c)(t:TypeId)(x y:Operand)(hv:aM vs c [ρ x,ρ y])(G:o.op=.indexAddr t x y)(h:(Jd T t vs).wp hp K):eV P S (dz F nx) hp c ρ o K:=by
 have key:∀{v},(Instr.indexAt t (ρ x) (ρ y)).run P c.w=.ok v c.w->(execOp ρ o).run P c.w=.ok (.value v) c.w:=by
  intro v hv;unfold execOp;simp[G,hv]
 unfold Jd at h;split at h
 ·rename_i sz ag z n e eq p k q e1;split at h
  ·rename_i te e4;obtain⟨⟨h0,h1⟩,h⟩:=h;obtain⟨d,s,_,rfl⟩:=(l t _ e1).de;obtain⟨a,u,_⟩:=gW hv;split at h
   ·obtain⟨B,m,i,g⟩:=a;refine dl r h ⟨B,m,i,rr⟩ (.inl (key ?_));rw[g,u,JQ s (l e te e4) B _ k q h0 h1,B4]
   ·obtain⟨B,m,i,g⟩:=a;refine dl r h ⟨B,m,i,rr⟩ (.inl (key ?_));rw[g,u,JQ s (l e te e4) B _ k q h0 h1,B4]
   ·obtain⟨b,bZ,vs,g,a⟩:=a;refine dl r h ⟨b,bZ,vs,rr,a⟩ (.inl (key ?_));rw[g,u,JQ s (l e te e4) b _ k q h0 h1,B4]
   ·exact False.elim h
  ·exact False.elim h
 ·rename_i sz ag z e eq p k q e1;split at h
  ·rename_i te e4;obtain⟨d,s,_,rfl⟩:=(l t _ e1).de;obtain⟨a,u,_⟩:=gW hv;split at h
   ·obtain⟨row,H,h0,A⟩:=h;dsimp only at A;split at A
    ·rename_i e5;obtain⟨vs,r1,r2⟩:=a;obtain⟨b,off,n,g,h1,_,a⟩:=akT r1 r2 H (n9 e5);refine dl r A a (.inl (key ?_));rw[g,u];exact PP s (l e te e4) b off n _ k q h0 om c.w
    ·exact False.elim A
   ·rename_i j lo len;obtain⟨⟨h0,h1⟩,h⟩:=h;simp only[Tr.wp]at h;split at h
    ·rename_i kk rs wr ff ee I;split at h
     ·rename_i e5;rcases a with⟨C,_⟩|⟨B,m,cap,aK,e6,f,i,g,_⟩
      ·omega
      rcases r.dK j _ I with⟨_,_,C⟩|⟨B',E,J,D,_⟩
      ·rw[C]at i;cases i
      rw[D]at i;cases i;refine dl r h ⟨_,_,D,rr⟩ (.inl (key ?_));rw[g,u,PP s (l e te e4) _ _ len cap k q h0 h1,<-n9 e5,G7,D0]
     ·exact False.elim h
    ·exact False.elim h
   ·exact False.elim h
  ·exact False.elim h
 ·exact False.elim h
theorem ajv(b:bU S F hp c)(x:Operand)(i:Nat)(hv:aM vs c [ρ x])(d:o.op=.extract x i)(h:(tr T nx (.extract x i) vs).wp hp K):eV P S (dz F nx) hp c ρ o K:=by
 simp only[tr]at h;split at h
 ·rename_i ps;split at h
  ·rename_i p e;obtain⟨vs,f,g⟩:=jj hv;obtain⟨v,hv,a⟩:=g.cR e;refine dl b h a (.inl ?_);unfold execOp;simp[d,f,Instr.extract,hv]
  ·exact False.elim h
 ·exact False.elim h
theorem aaH(a:bU S F hp c)(u:UnOp)(t:TypeId)(x:Operand)(hv:aM vs c [ρ x])(d:o.op=.unOp u t x)(h:(tr T nx (.unOp u t x) vs).wp hp K):eV P S (dz F nx) hp c ρ o K:=by
 cases u with
 |not=>
  simp only[tr]at h;split at h
  ·rename_i b;obtain⟨e,_⟩:=jj hv;refine dl a h ⟨rr,rr⟩ (.inl ?_);unfold execOp;simp[d,e,Op.unary]
  ·exact False.elim h
 |_=>exact False.elim h
end
section
variable {P:Program}{T:TT}{S:dr}{F:Nat→Prop}{nx:Nat}{hp:Nat→Option aI}{c:RC}{ρ:Operand→Value}{o:Oper}{K:PV→cU→Prop}{vs:List PV}
theorem Lq(d:Nat){t:TypeId}{a b:Array TypeId}{v:Bool}(h:P.underlying t=some (.func a b v))(f:Fn)(x y:Array Value)(w:World):(Op.equalIn (d+1) t (.func f x y) .nilFunc).run P w=.ok false w/\(Op.equalIn (d+1) t .nilFunc .nilFunc).run P w=.ok true w:=by
 have e:=run_underlying (P:=P) h w;constructor<;>simp only[Op.equalIn,Sem.run_bind,e,Result.andThen_ok]<;>rfl
theorem YX{t:TypeId}{a b:Array TypeId}{v:Bool}(h:P.underlying t=some (.func a b v))(f:Fn)(x y:Array Value)(w:World):(Op.equal t (.func f x y) .nilFunc).run P w=.ok false w:=(Lq 9999 h f x y w).1
theorem aer{t:TypeId}{a b:Array TypeId}{v:Bool}(h:P.underlying t=some (.func a b v))(w:World):(Op.equal t .nilFunc .nilFunc).run P w=.ok true w:=(Lq 9999 h (.func 0) #[] #[] w).2
theorem vZ(a:bU S F hp c){b:BinOp}{t t2:TypeId}{x y:Operand}(d:o.op=.binOp b t x y t2){r:Bool}{X Y:Value}(e:ρ x=X)(f:ρ y=Y)
 (g:∀b,(eqGuard b t x y X Y).run P c.w=.ok () c.w) (hq:(Op.equal t X Y).run P c.w=.ok r c.w)
 (h1:binOp .eql t X Y=(do pure (.bool (<-Op.equal t X Y)))) (h2:binOp .neq t X Y=(do pure (.bool (!(<-Op.equal t X Y))))) (h:(uU b r).wp hp K):eV P S (dz F nx) hp c ρ o K:=by
 cases b with
 |eql=>
  obtain⟨q,rfl,h⟩:=h
  refine dl a h ⟨rr,rr⟩ (.inl ?_)
  unfold execOp
  simp[d,e,f,g,h1,hq]
 |neq=>
  obtain⟨q,rfl,h⟩:=h
  refine dl a h ⟨rr,rr⟩ (.inl ?_)
  unfold execOp
  simp[d,e,f,g,h2,hq]
 |_=>exact False.elim h
theorem aef{ag:Bool}{cs:List PV}{vs:List Value}(r:aM cs c vs){off n:Nat}(d:off+n<=cs.length){p:PV}(a:PV.kW ag (PV.sub cs off n)=some p):
 (ag=true/\bW p c (.agg ((vs.drop off).take n).toArray))\/(ag=false/\∃v,vs[off]? = some v/\bW p c v):=by
 have f:=aM.sub off n r d
 cases ag
 case true=>cases a;exact .inl ⟨rr,_,rr,f⟩
 right
 have b:∃q,PV.sub cs off n=[q]/\q=p:=by
  cases e:PV.sub cs off n with
  |nil=>rw[e]at a;cases a
  |cons q l=>
   cases l with
   |nil=>rw[e]at a;exact⟨q,rr,z8 a⟩
   |cons _ _=>rw[e]at a;cases a
 obtain⟨q,e,rfl⟩:=b
 rw[e]at f
 obtain⟨u,g,h,i,j⟩:=f
 obtain rfl:g=[]:=j
 refine⟨rr,u,?_,i⟩
 have h0:((vs.drop off).take n)[0]? = some u:=by rw[h];rfl
 rw[K7]at h0
 split at h0
 ·rw[E7]at h0;simpa using h0
 ·cases h0
theorem ya{t:TypeId}{ti:TI}(a:iR P t ti){cs:List PV}{vs:List Value}(r:aM cs c vs){off:Nat}(h:Nat.ble (off+ti.size) cs.length=true){p:PV}(e:PV.kW ti.ag (PV.sub cs off ti.size)=some p):∃v,(part t vs.toArray off).run P c.w=.ok v c.w/\bW p c v:=by
 rcases aef r (o9 h) e with⟨b,d⟩|⟨b,v,hv,d⟩
 ·refine⟨_,?_,d⟩;simp[part,a.sd,b,a.size]
 ·refine⟨v,?_,d⟩;simp[part,a.sd,b,hv]
theorem amt{d:Nat}{t:TypeId}{k:IntKind}(g:P.underlying t=some (.int k)){f k2:IntKind}{a b:Int}{r:Bool}(h:jI (.int f a) (.int k2 b)=some r)(w:World):(Op.equalIn (d+1) t (.int f a) (.int k2 b)).run P w=.ok r w:=by
 unfold jI at h;dsimp only at h;split at h
 ·rename_i e;obtain rfl:=j5 e;cases h;rw[run_equalIn_int w d t f k a b g];congr 1
 ·cases h
theorem OW(b:dV P T){t:TypeId}{ti:TI}(e:T t=some ti):(∀fs,ti.kd=.struct fs->ti.ag=true)/\(∀n e,ti.kd=.aK n e->ti.ag=true)/\(∀k,ti.kd=.int k->ti.ag=false)/\(ti.kd=.qe->ti.ag=false)/\(ti.kd=.bool->ti.ag=false):=by
 obtain⟨d,g,h1,h2⟩:=(b t ti e).de;refine⟨λfs a=>?_,λn e a=>?_,λk a=>?_,λa=>?_,λa=>?_⟩<;>rw[a]at h2
 ·obtain⟨f,rfl,_⟩:=h2;exact h1
 all_goals (obtain rfl:=h2;exact h1)
theorem Tq(d:dV P T){t:TypeId}{ti:TI}(e:T t=some ti){n:Nat}{xs ys:List PV}{b:Bool}(h:rU T n t xs ys=some b):(∃p,PV.kW ti.ag xs=some p)/\∃q,PV.kW ti.ag ys=some q:=by
 obtain⟨h1,h2,f,g,i⟩:=OW d e;cases n with
 |zero=>unfold rU at h;cases h
 |succ n=>
  unfold rU at h;rw[e]at h;dsimp only at h;split at h
  ·rename_i k _ a;split at h
   ·rw[f _ a];exact⟨⟨_,rr⟩,_,rr⟩
   ·cases h
  ·rename_i _ a;split at h
   ·rw[g a];exact⟨⟨_,rr⟩,_,rr⟩
   ·cases h
  ·rename_i _ a;split at h
   ·rw[i a];exact⟨⟨_,rr⟩,_,rr⟩
   ·cases h
  ·rename_i fs _ a;rw[h1 _ a];exact⟨⟨_,rr⟩,_,rr⟩
  ·rename_i m e2 _ a;rw[h2 _ _ a];exact⟨⟨_,rr⟩,_,rr⟩
  ·cases h
theorem CR{ti:TI}(a:ti.ag=true){xs:List PV}{p:PV}(h:PV.kW ti.ag xs=some p){X:Value}(r:bW p c X):∃us:List Value,X=.agg us.toArray/\aM xs c us:=by rw[a]at h;cases h;exact r
theorem wS{ti:TI}(a:ti.ag=false){x p:PV}(h:PV.kW ti.ag [x]=some p){X:Value}(r:bW p c X):bW x c X:=by rw[a]at h;cases h;exact r
theorem EJ(a b:ByteArray):(a.toList==b.toList)=seq a b:=by unfold seq;rw[ByteArray.toList_eq,ByteArray.toList_eq]
mutual
theorem G'(j:dV P T):∀(n d:Nat) {t:TypeId} {ti:TI} {xs ys:List PV} {b:Bool} {p q:PV} {X Y:Value},n<=d->T t=some ti->rU T n t xs ys=some b->PV.kW ti.ag xs=some p->PV.kW ti.ag ys=some q->bW p c X->bW q c Y->
 (Op.equalIn d t X Y).run P c.w=.ok b c.w
 |0,_,_,_,_,_,_,_,_,_,_,_,_,h,_,_,_,_=>by unfold rU at h;cases h
 |n+1,0,_,_,_,_,_,_,_,_,_,B,_,_,_,_,_,_=>om
 |n+1,d+1,t,ti,xs,ys,b,p,q,X,Y,B,e,h,hp,hq,l,r=>by
  obtain⟨h1,h2,y,z,A⟩:=OW j e
  obtain⟨C,g,_,f⟩:=(j t ti e).de
  unfold rU at h
  rw[e]at h
  dsimp only at h
  split at h
  ·rename_i k s a
   split at h
   ·obtain⟨rfl,_⟩:=wS (y _ a) hp l
    obtain⟨rfl,_⟩:=wS (y _ a) hq r
    rw[a]at f
    obtain rfl:=f
    exact amt g h c.w
   ·cases h
  ·rename_i s a
   split at h
   ·obtain⟨rfl,_⟩:=wS (z a) hp l
    obtain⟨rfl,_⟩:=wS (z a) hq r
    rw[a]at f
    obtain rfl:=f
    cases h
    rw[run_equalIn_string c.w d t _ _ g,EJ]
   ·cases h
  ·rename_i s a
   split at h
   ·obtain⟨rfl,_⟩:=wS (A a) hp l
    obtain⟨rfl,_⟩:=wS (A a) hq r
    rw[a]at f
    obtain rfl:=f
    cases h
    exact run_equalIn_bool c.w d t _ _ g
   ·cases h
  ·rename_i fs s a
   obtain⟨us,rfl,x⟩:=CR (h1 _ a) hp l
   obtain⟨vs,rfl,rv⟩:=CR (h1 _ a) hq r
   obtain⟨g1,g2,g3⟩:=(j t ti e).OB s
   have g4:=g3 C g
   rw[a]at g4
   obtain⟨fields,rfl,g5,g6⟩:=g4
   have u:P.fieldsOf t=fields:=by simp[Program.fieldsOf,g]
   rw[run_equalIn_struct c.w d t _ _ (by rw[u];exact g) g1,u]
   exact MX j n d om g5 g6 h x rv
  ·rename_i m e2 s a
   split at h
   ·rename_i te v
    obtain⟨us,rfl,x⟩:=CR (h2 _ _ a) hp l
    obtain⟨vs,rfl,rv⟩:=CR (h2 _ _ a) hq r
    rw[a]at f
    obtain rfl:=f
    simp only[Op.equalIn,Sem.run_bind,run_underlying g,Result.andThen_ok,(j e2 te v).size]
    have:=VE j n d om (i:=0) v (by rw[C9];exact h) x rv
    rw[Std.Legacy.Range.forIn_eq_forIn_range']
    simp only[Std.Legacy.Range.size,L7,Nat.add_sub_cancel,Nat.div_one]
    rw[this]
    cases b<;>rfl
   ·cases h
  ·cases h
theorem MX(i:dV P T):∀(n d:Nat) {fs:List (Nat×TypeId)} {fields:List Field} {xs ys:List PV} {b:Bool} {us vs:List Value},n<=d->fields.map (λf=>(f.offset,f.type))=fs->(∀f∈fields,f.name≠ "_")->xW T n fs xs ys=some b->aM xs c us->aM ys c vs->
 (Op.eqFields d us.toArray vs.toArray fields).run P c.w=.ok b c.w
 |0,_,_,_,_,_,_,_,_,_,_,_,h,_,_=>by unfold xW at h;cases h
 |n+1,d,fs,fields,xs,ys,b,us,vs,u,k,l,h,m,rv=>by
  cases fields with
  |nil=>
   subst k
   unfold xW at h
   cases h
   rfl
  |cons f fields=>
   subst k
   rw[w9]at h
   unfold xW at h
   split at h
   ·rename_i te e
    split at h
    ·rename_i h1 h2
     split at h
     ·rename_i a b' e1 e2
      cases h
      obtain⟨⟨p,hp⟩,q,hq⟩:=Tq i e e1
      obtain⟨v1,r1,s1⟩:=ya (P:=P) (i _ te e) m h1 hp
      obtain⟨v2,r2,s2⟩:=ya (P:=P) (i _ te e) rv h2 hq
      have r:=G' i n d om e e1 hp hq s1 s2
      have s:=MX i n d om rr (λg t=>l g (j3 _ t)) e2 m rv
      have j:=l f j6
      simp only[Op.eqFields,z7 j,Sem.run_bind,r1,r2,r,Result.andThen_ok]
      cases a
      ·simp
      ·simp[s]
     ·cases h
    ·cases h
   ·cases h
theorem VE(j:dV P T):∀(n d:Nat) {e:TypeId} {g:TI} {m i:Nat} {xs ys:List PV} {b:Bool} {us vs:List Value},n<=d->T e=some g->ye T n e g.size m (i*g.size) xs ys=some b->aM xs c us->aM ys c vs->
 (forIn (m:=Sem) (List.range' i m) ((none,()):Option Bool×Unit) (λi _=>do
   if !(<-Op.equalIn d e (<-part e us.toArray (i*g.size)) (<-part e vs.toArray (i*g.size)))then pure (.done (some false,()))else pure (.yield (none,())))).run P c.w=.ok (if b=true then(none,())else(some false,())) c.w
 |0,_,_,_,_,_,_,_,_,_,_,_,_,h,_,_=>by unfold ye at h;cases h
 |n+1,d,e,g,m,i,xs,ys,b,us,vs,s,f,h,k,rv=>by
  cases m with
  |zero=>unfold ye at h;cases h;rfl
  |succ m=>
   unfold ye at h
   split at h
   ·rename_i h1 h2
    split at h
    ·rename_i a b' e1 e2
     cases h
     obtain⟨⟨p,hp⟩,q,hq⟩:=Tq j f e1
     obtain⟨v1,r1,s1⟩:=ya (P:=P) (j _ g f) k h1 hp
     obtain⟨v2,r2,s2⟩:=ya (P:=P) (j _ g f) rv h2 hq
     have l:=G' j n d om f e1 hp hq s1 s2
     have r:=VE j n d om (i:=i+1) f (by rw[D7];exact e2) k rv
     rw[List.range'_succ,List.forIn_cons]
     simp only[Sem.run_bind,r1,r2,l,Result.andThen_ok]
     cases a
     ·simp
     ·simpa using r
    ·cases h
   ·cases h
end
end
end
end Go.Proofs.YtbnonpbnhenkfaaGreatDoor
