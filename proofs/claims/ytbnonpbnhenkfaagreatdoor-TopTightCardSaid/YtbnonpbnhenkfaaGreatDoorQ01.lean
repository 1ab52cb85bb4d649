/- Part 1 of the proof; the last part says what is proved. -/
import Derived.Test.YtbnonpbnhenkfaaGreatDoorRows
import Derived.WalkKit
import Derived.WalkSpells
import Derived.WalkLawsBesides
import Derived.Lib.Hide
import Derived.Laws.CopyRow
import Derived.Laws.Cells
import Derived.Laws.AppendOwn
set_option linter.all false
set_option maxRecDepth 1000000
set_option maxHeartbeats 8000000
namespace Go.Proofs.YtbnonpbnhenkfaaGreatDoor
def aao:=@List.length_map
def aap:=@List.length_append
def aaq:=@List.getElem?_eq_some_iff
def aar:=@decide_eq_false
def aas:=@Nat.le_refl
def aat:=@of_decide_eq_true
def aau:=@List.mem_of_getElem?
def aav:=@Nat.zero_add
def aaw:=@of_decide_eq_false
def aax:=@List.length_take
def aay:=@List.getElem?_eq_getElem
def aaz:=@List.mem_cons_of_mem
def aaA:=@List.mem_cons_self
def aaB:=@decide_eq_true
def aaC:=@List.map_append
def aaD:=@List.mem_singleton
def aaE:=@Nat.eq_of_beq_eq_true
def aaF:=@Nat.zero_le
def aaG:=@Nat.le_of_ble_eq_true
def aaH:=@List.not_mem_nil
def aaI:=@List.mem_cons
def aaJ:=@Nat.le_trans
def aaK:=@Array.length_toList
def aaL:=@List.length_cons
def aaM:=@List.take_length
def aaN:=@List.mem_append
def aaO:=@List.length_drop
def aaP:=@Array.getElem?_eq_some_iff
def aaQ:=@List.take_of_length_le
def aaR:=@List.drop_eq_nil_of_le
def aaS:=@Nat.lt_of_lt_of_le
def aaT:=@List.getElem?_map
def aaU:=@Array.getElem?_toList
def aaV:=@List.mem_of_mem_take
def aaW:=@List.mem_of_find?_eq_some
def aaX:=@List.drop_eq_getElem_cons
def aaY:=@List.length_set
def aaZ:=@List.map_cons
def aba:=@List.getD_eq_getElem?_getD
def abb:=@if_pos
def abc:=@List.mem_map
def abd:=@List.append_assoc
def abe:=@List.append_nil
def abf:=@List.getElem?_append_right
def abg:=@if_neg
def abh:=@List.length_replicate
def abj:=@Nat.le_add_right
def abk:=@Int.toNat_natCast
def abl:=@Option.some.inj
def abm:=@Bool.and_eq_true
def abn:=@List.all_eq_true
def abo:=@List.length_singleton
def abp:=@List.length_filter_le
def abq:=@decide_eq_decide
def abr:=@List.mem_or_eq_of_mem_set
def abt:=@List.getElem?_append_left
def abu:=@List.eq_nil_of_length_eq_zero
def abv:=@List.size_toArray
def abw:=@List.foldl_append
def abx:=@Nat.mul_le_mul_right
def aby:=@List.mem_of_mem_drop
def abz:=@List.length_eq_zero_iff
def abA:=@Array.getD_eq_getD_getElem?
def abB:=@Nat.add_assoc
def abC:=@List.mem_map_of_mem
def abD:=@List.take_append_drop
def abE:=@Int.natCast_nonneg
def abF:=@Nat.le_of_eq
def abG:=@Int.ofNat_lt
def abH:=@List.getElem?_drop
def abI:=@Nat.zero_mul
def abJ:=@List.getElem?_of_mem
def abK:=@List.eq_of_mem_replicate
def abL:=@Nat.succ_mul
def abM:=@Nat.add_zero
def abN:=@Array.ext'
def abO:=@Nat.min_le_right
def abP:=@List.take_append_of_le_length
def abQ:=@List.length_nil
def abR:=@List.mem_append_left
def abS:=@Int.ofNat_le
def abT:=@List.getElem?_take
def abU:=@Nat.min_eq_left
def abV:=@List.take_succ_cons
def abW:=@Nat.lt_succ_self
def abX:=@List.map_map
def abY:=@ByteArray.size_extract
def abZ:=@List.drop_length
def aca:=@List.cons_append
def acb:=@List.map_congr_left
def acd:=@List.getElem?_set
def ace:=@Array.getElem?_setIfInBounds
def acf:=@UInt8.toNat_lt
def acg:=@decide_eq_false_iff_not
def ach:=@Option.map_some
def aci:=@List.nil_append
def acj:=@List.foldl_cons
def ack:=@Int.eq_ofNat_of_zero_le
def acm:=@Bool.false_ne_true
def acn:=@Nat.sub_self
def aco:=@Nat.mod_eq_of_lt
def acp:=@Int.tdiv_eq_ediv_of_nonneg
def acq:=@List.mem_filter
def acr:=@List.mem_append_right
def acs:=@List.find?_some
def acu:=@List.eraseIdx_sublist
def acv:=@List.filter_append
def acw:=@Nat.add_mul
def acx:=@Option.map_eq_some_iff
def acy:=@List.drop_of_length_le
def acz:=@decide_eq_true_iff
def acA:=@List.mem_iff_getElem?
def acB:=@List.map_take
def acC:=@Prod.mk.inj
def acD:=@Nat.le_succ
def acE:=@Nat.or_lt_two_pow
def acF:=@List.getElem?_take_of_lt
def acG:=@List.ext_getElem?
def acH:=@List.eraseIdx_eq_take_drop_succ
def acI:=@Nat.beq_refl
def acJ:=@List.mem_eraseIdx_iff_getElem?
def acK:=@Option.getD_some
def acL:=@List.filter_cons
def acM:=@Nat.mod_lt
def acN:=@List.mem_range
def acO:=@List.drop_zero
def acP:=@List.length_eq_one_iff
def acQ:=@or_false
def acR:=@Nat.xor_lt_two_pow
def acS:=@List.getElem?_toArray
def acT:=@List.getElem?_eq_none
def acU:=@Int.natCast_pow
def acV:=@Nat.le_of_mul_le_mul_right
def acW:=@List.length_eraseIdx
def acX:=@List.pairwise_iff_getElem
def acY:=@List.nodup_nil
def acZ:=@UInt64.toNat_inj
def ada:=@Nat.succ_lt_succ
def adb:=@Option.isSome_iff_exists
def ade:=@Nat.mul_comm
def adf:=@Nat.lt_of_le_of_lt
def adg:=@List.nodup_cons
def adh:=@List.mem_filterMap
def adi:=@ByteArray.ext
def adj:=@List.getElem?_set_self
def adk:=@Nat.lt_trichotomy
def adl:=@List.any_eq_false
def adm:=@Nat.mul_le_mul
def adn:=@List.drop_drop
def ado:=@Nat.sub_zero
def adp:=@Array.toList_inj
def adq:=@Bool.or_eq_false_iff
def adr:=@List.map_drop
def ads:=@List.cons.inj
def adt:=@Int.ofNat_inj
def adu:=@Nat.min_le_left
def adv:=@Nat.div_le_self
def adw:=@Nat.and_le_left
def adx:=@List.length_pos_iff
def ady:=@List.drop_succ_cons
def adz:=@List.drop_length_add_append
def adA:=@Bool.or_eq_true
def adB:=@Nat.eq_of_mul_eq_mul_right
def adC:=@getElem!_pos
def adD:=@List.take_succ
def adE:=@Iff.rfl
def adF:=@Bool.and_false
def adG:=@Array.getElem?_eq_getElem
def adH:=@decide_eq_true_eq
def adI:=@Option.some.injEq
def adJ:=@Nat.le_succ_of_le
def adK:=@List.take_add_one
def adL:=@List.flatMap_cons
def adM:=@UInt64.toNat_add
def adN:=@Nat.zero_lt_succ
end Go.Proofs.YtbnonpbnhenkfaaGreatDoor
namespace Go.Proofs.YtbnonpbnhenkfaaGreatDoor
section
open Go.RowKit
theorem vv{k:IntKind}{a b:Int}(h:a=b):Ending.returned (.int k a)=.returned (.int k b):=by rw[h]
theorem jj{a b:Bool}(h:a=b):Ending.returned (.bool a)=.returned (.bool b):=by rw[h]
theorem pM{a b:ByteArray}(h:a=b):Ending.returned (.string a)=.returned (.string b):=by rw[h]
theorem YZ(s:ByteArray)(k:Nat)(h:k<s.size):s.data.toList.take (k+1)=s.data.toList.take k++[s[k]]:=by rw[List.take_succ_eq_append_getElem (by simpa using h)];rfl
theorem sz{n:Nat}(h:n≤100000):n≤maxLen:=by unfold maxLen;omega
theorem C4(x:Nat)(h:x<4294967296):bits .xor .u32 IntKind.u32.max (x:Int)=((4294967295 ^^^ x:Nat):Int):=
 u32_xor_nat 4294967295 x (by omega) h
end
end Go.Proofs.YtbnonpbnhenkfaaGreatDoor
section
namespace Go.Proofs.YtbnonpbnhenkfaaGreatDoor
open Go.RowKit
inductive PV where
 |at (v:Value)
 |any
 |agg (cs:List PV)
 |sl (c:Bool) (rows:List PV)
 |lp (j i off:Nat)
 |le (j i off:Nat)
 |aH (j lo len:Nat)
 |eD (j lo:Nat)
 |ip (cells:List PV) (off:Nat)
 |fn (f:FuncId) (fe:List PV)
 |dq (t:TypeId) (v:PV)
 |mv (f:FuncId) (v:PV)
 |aK (vs:List PV)
 |mp (ks:List Value) (vs:List PV)
 |fy (j:Nat)
inductive aA where
 |rows (k:Nat) (rs:List PV) (wr:Bool) (cp:Option Nat) (e:TypeId)
 |map (ks:List Value) (vs:List PV) (wr:Bool)
structure AS where
 env:Nat→Option PV
 hp:Nat→Option aA
inductive Kd where
 |int (k:IntKind)|str|bool|func|sl (e:TypeId)|aB (n:Nat) (e:TypeId)|struct (fs:List (Nat×TypeId))|map (k v:TypeId)|ptr|other
structure TI where
 size:Nat
 ag:Bool
 zero:PV
 kd:Kd
 AE:Bool
abbrev TT:=TypeId→Option TI
abbrev bW:=List (Nat×Option aA)
def ck{α:Type}(f:Nat→Option α)(k:Nat)(v:Option α):Nat→Option α:=fun x=>match Nat.beq x k with|true=>v|false=>f x
namespace PV
def cells:PV→List PV
 |.agg cs=>cs
 |p=>[p]
def nth{α:Type}:List α→Nat→Option α
 | [],_=>none
 |a::_,0=>some a
 |_::l,n+1=>nth l n
def c9{α:Type}:List α→Nat→α→List α
 | [],_,_=>[]
 |_::l,0,x=>x::l
 |a::l,n+1,x=>a::c9 l n x
def sub{α:Type}:List α→Nat→Nat→List α
 |_,_,0=>[]
 | [],_,_+1=>[]
 |a::l,0,n+1=>a::sub l 0 n
 |_::l,o+1,n+1=>sub l o (n+1)
def put{α:Type}(l:List α)(off:Nat):List α→List α
 | []=>l
 |x::xs=>put (c9 l off x) (off+1) xs
def gC(ag:Bool)(cs:List PV):Option PV:=
 match ag,cs with
 |true,cs=>some (.agg cs)
 |false,[c]=>some c
 |_,_=>none
def atom:PV→Bool
 |.at v=>v.oneCell'
 |.agg _=>false
 |.aK _=>false
 |_=>true
def ke:List PV→Bool
 | []=>true
 |p::l=>match p.atom with|true=>ke l|false=>false
mutual
def bare:PV→Bool
 |.at _=>true
 |.agg cs=>tL cs
 |.aK cs=>tL cs
 |_=>false
def tL:List PV→Bool
 | []=>true
 |p::l=>match bare p with|true=>tL l|false=>false
end
end PV
open PV
def cf(t:Nat):List Nat→Bool
 | []=>false
 |x::l=>match Nat.beq t x with|true=>true|false=>cf t l
def pQ(l:List PV)(off:Nat)(cs:List PV):List PV:=match off with
 |0=>(match Nat.beq cs.length l.length with|true=>cs|false=>put l 0 cs)
 |n+1=>put l (n+1) cs
theorem Of(l:List PV)(off:Nat)(cs:List PV):pQ l off cs=put l off cs:=by
 have key:∀(cs a l:List PV),cs.length=l.length→put (a++l) a.length cs=a++cs:=by
  intro cs;induction cs with
  |nil=>intro a l h;obtain rfl:l=[]:=abu h.symm;rfl
  |cons x cs ih=>
   intro a l h;cases l with
   |nil=>cases h
   |cons y l=>
    have e:∀a:List PV,c9 (a++y::l) a.length x=(a++[x])++l:=by
     intro a;induction a with
     |nil=>rfl
     |cons z a ih2=>exact congrArg (z::·) ih2
    show put (c9 (a++y::l) a.length x) (a.length+1) cs=_
    rw[e];have:=ih (a++[x]) l (Nat.succ.inj h);rw[aap]at this;rw[show a.length+1=a.length+[x].length from rfl,this,abd];rfl
 cases off with
 |succ n=>rfl
 |zero=>
  unfold pQ;dsimp only;split
  ·rename_i h;exact(key cs [] l (aaE h)).symm
  ·rfl
def tF(l:List PV)(off n:Nat):List PV:=match off with
 |0=>(match Nat.beq n l.length with|true=>l|false=>sub l 0 n)
 |m+1=>sub l (m+1) n
theorem DK(l:List PV)(off n:Nat):tF l off n=sub l off n:=by
 have key:∀l:List PV,l=sub l 0 l.length:=by
  intro l;induction l with
  |nil=>rfl
  |cons x l ih=>exact congrArg (x::·) ih
 cases off with
 |succ m=>rfl
 |zero=>
  unfold tF;dsimp only;split
  ·rename_i h;rw[aaE h];exact key l
  ·rfl
def Bo(ag:Bool)(row:PV)(off:Nat)(cs:List PV):Option PV:=gC ag (pQ row.cells off cs)
def nj:PV→Bool
 |.agg _=>true
 |_=>false
def dZ(ev:Operand→Option PV):List Operand→Option (List PV)
 | []=>some []
 |o::l=>match ev o,dZ ev l with|some v,some vs=>some (v::vs)|_,_=>none
mutual
def br:List Nat→Nat→(Nat→Option aA)→PV→Option (PV×List Nat)
 |_,0,_,_=>none
 |X,n+1,hp,p=>match p with
  |.agg cs=>match cY X n hp cs with|some (cs,l)=>some (.agg cs,l)|none=>none
  |.sl _ rows=>some (.sl false rows,[])
  |.lp j i off=>match cf j X with
   |true=>some (.lp j i off,[])
   |false=>match hp j with
    |some (.rows _ rs _ _ _)=>match nth rs i with
     |some row=>match br [] n hp row with|some (r,l)=>some (.ip r.cells off,j::l)|none=>none
     |none=>none
    |_=>none
  |.le j i off=>match cf j X with
   |true=>some (.le j i off,[])
   |false=>match hp j with
    |some (.rows _ rs _ _ _)=>match nth rs i with
     |some row=>match br [] n hp row with|some (r,l)=>some (.ip r.cells off,j::l)|none=>none
     |none=>none
    |_=>none
  |.eD j lo=>match cf j X with
   |true=>some (.eD j lo,[])
   |false=>some (.sl false [],[])
  |.aH j lo len=>match cf j X with
   |true=>some (.aH j lo len,[])
   |false=>match hp j with
    |some (.rows _ rs _ _ _)=>match Nat.ble (lo+len) rs.length,cY [] n hp (sub rs lo len)with|true,some (rs,l)=>some (.sl false rs,j::l)|_,_=>none
    |_=>none
  |.fn f fe=>match cY X n hp fe with|some (cs,l)=>some (.fn f cs,l)|none=>none
  |.dq t v=>match br X n hp v with|some (v,l)=>some (.dq t v,l)|none=>none
  |.mv f v=>match br X n hp v with|some (v,l)=>some (.mv f v,l)|none=>none
  |.aK vs=>match cY X n hp vs with|some (vs,l)=>some (.aK vs,l)|none=>none
  |.fy j=>match cf j X with
   |true=>some (.fy j,[])
   |false=>match hp j with
    |some (.map ks vs _)=>match cY [] n hp vs with|some (vs,l)=>some (.mp ks vs,j::l)|none=>none
    |_=>none
  |p=>some (p,[])
def cY:List Nat→Nat→(Nat→Option aA)→List PV→Option (List PV×List Nat)
 |_,0,_,_=>none
 |_,_+1,_,[]=>some ([],[])
 |X,n+1,hp,p::ps=>match br X n hp p,cY X n hp ps with
  |some (r,l),some (rs,l')=>some (r::rs,l++l')
  |_,_=>none
end
def tQ:Option aA→Option aA
 |some (.rows k rs _ f e)=>some (.rows k rs false f e)
 |some (.map ks vs _)=>some (.map ks vs false)
 |none=>none
def dE(hp:Nat→Option aA):List Nat→(Nat→Option aA)
 | []=>hp
 |j::l=>ck (dE hp l) j (tQ (hp j))
def jt(hp:Nat→Option aA)(l:List Nat):bW:=l.map fun j=>(j,tQ (hp j))
def dh(hp:Nat→Option aA):bW→(Nat→Option aA)
 | []=>hp
 |(j,b)::d=>ck (dh hp d) j b
inductive Tr where
 |ok (p:PV) (d:bW)
 |bad
 |rd (j:Nat) (k:Option aA→Tr)
 |br (ps:List PV) (k:List PV→bW→Tr)
 |int (x:Int) (k:Int→Tr)
 |bool (x:Bool) (k:Bool→Tr)
 |dO (p:Prop) (dp:Decidable p) (k:Tr)
 |il (p:Prop) (k:Tr)
 |row (rows:List PV) (q:Int) (k:PV→Tr)
 |mT (n:Nat) (k:Bool→Tr)
 |look (x:Option PV) (k:Option PV→Tr)
 |mR (p:Nat→Prop) (k:Nat→Tr)
 |lu (a b:Tr)
structure dC(rows:List PV)(q:Int)(k:PV→Prop):Prop where
 h:∃row,nth rows q.toNat=some row∧0≤q∧k row
theorem dC.intro{rows:List PV}{q:Int}{k:PV→Prop}(row:PV)(h:nth rows q.toNat=some row)(h0:0≤q)(hk:k row):dC rows q k:=⟨row,h,h0,hk⟩
structure ak(b:Prop)(k:Prop):Prop where
 h:b
 k:k
structure bN(x:Int)(k:Int→Prop):Prop where
 h:∃y,x=y∧k y
theorem bN.intro{x:Int}{k:Int→Prop}(y:Int)(h:x=y)(hk:k y):bN x k:=⟨y,h,hk⟩
structure ae(x:Bool)(k:Bool→Prop):Prop where
 h:∃y,x=y∧k y
theorem ae.is{x:Bool}{k:Bool→Prop}(y:Bool)(h:x=y)(hk:k y):ae x k:=⟨y,h,hk⟩
theorem ae.t{p:Prop}[Decidable p]{k:Bool→Prop}(h:p)(hk:k true):ae (decide p) k:=⟨true,aaB h,hk⟩
theorem ae.f{p:Prop}[Decidable p]{k:Bool→Prop}(h:¬p)(hk:k false):ae (decide p) k:=⟨false,aar h,hk⟩
theorem ae.two{x:Bool}{k:Bool→Prop}(ht:x=true→k true)(hf:x=false→k false):ae x k:=by
 cases x with
 |true=>exact⟨true,rfl,ht rfl⟩
 |false=>exact⟨false,rfl,hf rfl⟩
structure qq(n:Nat)(k:Bool→Prop):Prop where
 h1:n≠0→k false
 h2:n=0→∀b,k b
theorem qq.some{n:Nat}{k:Bool→Prop}(h:n≠0)(hk:k false):qq n k:=⟨fun _=>hk,fun e=>absurd e h⟩
structure cU(x:Option PV)(k:Option PV→Prop):Prop where
 h:∃y,x=y∧k y
structure xW(p:Nat→Prop)(k:Nat→Prop):Prop where
 h:∀n,p n→k n
structure db(a b:Prop):Prop where
 h:a∨b
theorem db.l{a b:Prop}(h:a):db a b:=⟨.inl h⟩
theorem db.r{a b:Prop}(h:b):db a b:=⟨.inr h⟩
theorem cU.is{x:Option PV}{k:Option PV→Prop}(y:Option PV)(h:x=y)(hk:k y):cU x k:=⟨y,h,hk⟩
namespace Tr
def wp(hp:Nat→Option aA):Tr→(PV→bW→Prop)→Prop
 |.ok p d,K=>K p d
 |.bad,_=>False
 |.rd j k,K=>(k (hp j)).wp hp K
 |.br ps k,K=>match cY [] 200 hp ps with|some (rs,l)=>(k rs (jt hp l)).wp hp K|none=>False
 |.int x k,K=>bN x fun y=>(k y).wp hp K
 |.bool x k,K=>ae x fun y=>(k y).wp hp K
 |.dO p _ k,K=>ak p (k.wp hp K)
 |.il p k,K=>ak p (k.wp hp K)
 |.row rows q k,K=>dC rows q fun r=>(k r).wp hp K
 |.mT n k,K=>qq n fun b=>(k b).wp hp K
 |.look x k,K=>cU x fun y=>(k y).wp hp K
 |.mR p k,K=>xW p fun n=>(k n).wp hp K
 |.lu a b,K=>db (a.wp hp K) (b.wp hp K)
def fj(hp:Nat→Option aA):Tr→(PV→bW→List Nat→Prop)→Prop
 |.ok p d,K=>K p d []
 |.bad,_=>False
 |.rd j k,K=>(k (hp j)).fj hp fun p d l=>K p d (j::l)
 |.br ps k,K=>match cY [] 200 hp ps with|some (rs,l)=>(k rs (jt hp l)).fj hp fun p d l'=>K p d (l++l')|none=>False
 |.int x k,K=>bN x fun y=>(k y).fj hp K
 |.bool x k,K=>ae x fun y=>(k y).fj hp K
 |.dO p _ k,K=>ak p (k.fj hp K)
 |.il p k,K=>ak p (k.fj hp K)
 |.row rows q k,K=>dC rows q fun r=>(k r).fj hp K
 |.mT n k,K=>ak (n≠0) ((k false).fj hp K)
 |.look x k,K=>cU x fun y=>(k y).fj hp K
 |.mR _ _,_=>False
 |.lu a b,K=>db (a.fj hp K) (b.fj hp K)
def run(hp:Nat→Option aA):Tr→Option (PV×bW)
 |.ok p d=>some (p,d)
 |.bad=>none
 |.rd j k=>(k (hp j)).run hp
 |.br ps k=>match cY [] 200 hp ps with|some (rs,l)=>(k rs (jt hp l)).run hp|none=>none
 |.int x k=>(k x).run hp
 |.bool x k=>(k x).run hp
 |.dO _ dp k=>match dp with|.isTrue _=>k.run hp|.isFalse _=>none
 |.il _ _=>none
 |.row rows q k=>match q with
  |.ofNat n=>match nth rows n with
   |some r=>(k r).run hp
   |none=>none
  |.negSucc _=>none
 |.mT n k=>match n with|0=>none|_+1=>(k false).run hp
 |.look x k=>(k x).run hp
 |.mR _ _=>none
 |.lu a _=>a.run hp
theorem wp_mono{hp:Nat→Option aA}:∀{t:Tr} {K K':PV→bW→Prop},(∀p d,K p d→K' p d)→t.wp hp K→t.wp hp K'
 |.ok _ _,_,_,hk,h=>hk _ _ h
 |.bad,_,_,_,h=>h
 |.rd j k,_,_,hk,h=>wp_mono (t:=k (hp j)) hk h
 |.br ps k,_,_,hk,h=>by
  unfold wp at h⊢
  split
  ·rename_i rs l e;rw[e]at h;exact wp_mono hk h
  ·rename_i e;rw[e]at h;exact h
 |.int _ _,_,_,hk,⟨y,e,h⟩=>⟨y,e,wp_mono hk h⟩
 |.bool _ _,_,_,hk,⟨y,e,h⟩=>⟨y,e,wp_mono hk h⟩
 |.dO _ _ _,_,_,hk,⟨e,h⟩=>⟨e,wp_mono hk h⟩
 |.il _ _,_,_,hk,⟨e,h⟩=>⟨e,wp_mono hk h⟩
 |.row _ _ _,_,_,hk,⟨y,e,e2,h⟩=>⟨y,e,e2,wp_mono hk h⟩
 |.mT _ _,_,_,hk,⟨h1,h2⟩=>⟨fun e=>wp_mono hk (h1 e),fun e b=>wp_mono hk (h2 e b)⟩
 |.look _ _,_,_,hk,⟨y,e,h⟩=>⟨y,e,wp_mono hk h⟩
 |.mR _ _,_,_,hk,⟨h⟩=>⟨fun n hn=>wp_mono hk (h n hn)⟩
 |.lu _ _,_,_,hk,⟨h⟩=>⟨h.imp (wp_mono hk) (wp_mono hk)⟩
theorem jL{hp:Nat→Option aA}:∀{t:Tr} {K K':PV→bW→List Nat→Prop},(∀p d l,K p d l→K' p d l)→t.fj hp K→t.fj hp K'
 |.ok _ _,_,_,hk,h=>hk _ _ _ h
 |.bad,_,_,_,h=>h
 |.rd j k,_,_,hk,h=>jL (t:=k (hp j)) (fun p d l=>hk p d _) h
 |.br ps k,_,_,hk,h=>by
  unfold fj at h⊢
  split
  ·rename_i rs l e;rw[e]at h;exact jL (fun p d l=>hk p d _) h
  ·rename_i e;rw[e]at h;exact h
 |.int _ _,_,_,hk,⟨y,e,h⟩=>⟨y,e,jL hk h⟩
 |.bool _ _,_,_,hk,⟨y,e,h⟩=>⟨y,e,jL hk h⟩
 |.dO _ _ _,_,_,hk,⟨e,h⟩=>⟨e,jL hk h⟩
 |.il _ _,_,_,hk,⟨e,h⟩=>⟨e,jL hk h⟩
 |.row _ _ _,_,_,hk,⟨y,e,e2,h⟩=>⟨y,e,e2,jL hk h⟩
 |.mT _ _,_,_,hk,⟨e,h⟩=>⟨e,jL hk h⟩
 |.look _ _,_,_,hk,⟨y,e,h⟩=>⟨y,e,jL hk h⟩
 |.mR _ _,_,_,_,h=>h.elim
 |.lu _ _,_,_,hk,⟨h⟩=>⟨h.imp (jL hk) (jL hk)⟩
theorem lJ{hp:Nat→Option aA}:∀{t:Tr} {K:PV→bW→List Nat→Prop} {K':PV→bW→Prop},(∀p d l,K p d l→K' p d)→t.fj hp K→t.wp hp K'
 |.ok _ _,_,_,hk,h=>hk _ _ _ h
 |.bad,_,_,_,h=>h
 |.rd j k,_,_,hk,h=>lJ (t:=k (hp j)) (fun p d l=>hk p d _) h
 |.br ps k,_,_,hk,h=>by
  unfold wp
  unfold fj at h
  split
  ·rename_i rs l e;rw[e]at h;exact lJ (fun p d l=>hk p d _) h
  ·rename_i e;rw[e]at h;exact h
 |.int _ _,_,_,hk,⟨y,e,h⟩=>⟨y,e,lJ hk h⟩
 |.bool _ _,_,_,hk,⟨y,e,h⟩=>⟨y,e,lJ hk h⟩
 |.dO _ _ _,_,_,hk,⟨e,h⟩=>⟨e,lJ hk h⟩
 |.il _ _,_,_,hk,⟨e,h⟩=>⟨e,lJ hk h⟩
 |.row _ _ _,_,_,hk,⟨y,e,e2,h⟩=>⟨y,e,e2,lJ hk h⟩
 |.mT _ _,_,_,hk,⟨e,h⟩=>⟨fun _=>lJ hk h,fun e2=>absurd e2 e⟩
 |.look _ _,_,_,hk,⟨y,e,h⟩=>⟨y,e,lJ hk h⟩
 |.mR _ _,_,_,_,h=>h.elim
 |.lu _ _,_,_,hk,⟨h⟩=>⟨h.imp (lJ hk) (lJ hk)⟩
theorem jh{hp:Nat→Option aA}:∀{t:Tr} {K:PV→bW→List Nat→Prop},t.fj hp K→∃p d l,K p d l∧t.fj hp fun p' d' l'=>p'=p∧d'=d∧l'=l
 |.ok p d,_,h=>⟨p,d,[],h,rfl,rfl,rfl⟩
 |.bad,_,h=>h.elim
 |.rd j k,_,h=>by
  obtain⟨p,d,l,h1,h2⟩:=jh (t:=k (hp j)) h
  exact⟨p,d,_,h1,jL (t:=k (hp j)) (fun p' d' l' ⟨a,b,c⟩=>⟨a,b,by rw[c]⟩) h2⟩
 |.br ps k,_,h=>by
  unfold fj at h⊢
  split at h
  ·rename_i rs l e
   obtain⟨p,d,l2,h1,h2⟩:=jh h
   exact⟨p,d,_,h1,jL (fun p' d' l' ⟨a,b,c⟩=>⟨a,b,by rw[c]⟩) h2⟩
  ·exact h.elim
 |.int _ _,_,⟨y,e,h⟩=>by obtain⟨p,d,l,h1,h2⟩:=jh h;exact⟨p,d,l,h1,y,e,h2⟩
 |.bool _ _,_,⟨y,e,h⟩=>by obtain⟨p,d,l,h1,h2⟩:=jh h;exact⟨p,d,l,h1,y,e,h2⟩
 |.dO _ _ _,_,⟨e,h⟩=>by obtain⟨p,d,l,h1,h2⟩:=jh h;exact⟨p,d,l,h1,e,h2⟩
 |.il _ _,_,⟨e,h⟩=>by obtain⟨p,d,l,h1,h2⟩:=jh h;exact⟨p,d,l,h1,e,h2⟩
 |.row _ _ _,_,⟨y,e,e2,h⟩=>by obtain⟨p,d,l,h1,h2⟩:=jh h;exact⟨p,d,l,h1,y,e,e2,h2⟩
 |.mT _ _,_,⟨e,h⟩=>by obtain⟨p,d,l,h1,h2⟩:=jh h;exact⟨p,d,l,h1,e,h2⟩
 |.look _ _,_,⟨y,e,h⟩=>by obtain⟨p,d,l,h1,h2⟩:=jh h;exact⟨p,d,l,h1,y,e,h2⟩
 |.mR _ _,_,h=>h.elim
 |.lu _ _,_,⟨h⟩=>by
  rcases h with h|h
  ·obtain⟨p,d,l,h1,h2⟩:=jh h;exact⟨p,d,l,h1,.l h2⟩
  ·obtain⟨p,d,l,h1,h2⟩:=jh h;exact⟨p,d,l,h1,.r h2⟩
end Tr
mutual
theorem tJ{hp hp':Nat→Option aA}:∀(n:Nat) {X:List Nat} {p r:PV} {l:List Nat},br X n hp p=some (r,l)→(∀j∈l,hp' j=hp j)→br X n hp' p=some (r,l)
 |0,_,_,_,_,h,_=>by unfold br at h;cases h
 |n+1,X,p,r,l,h,hk=>by
  cases p with
  |agg cs=>
   unfold br at h⊢;dsimp only at h⊢
   split at h
   ·rename_i cs' l' e;cases h;rw[om n e hk]
   ·cases h
  |fn f cs=>
   unfold br at h⊢;dsimp only at h⊢
   split at h
   ·rename_i cs' l' e;cases h;rw[om n e hk]
   ·cases h
  |aK cs=>
   unfold br at h⊢;dsimp only at h⊢
   split at h
   ·rename_i cs' l' e;cases h;rw[om n e hk]
   ·cases h
  |dq t v=>
   unfold br at h⊢;dsimp only at h⊢
   split at h
   ·rename_i cs' l' e;cases h;rw[tJ n e hk]
   ·cases h
  |mv f v=>
   unfold br at h⊢;dsimp only at h⊢
   split at h
   ·rename_i cs' l' e;cases h;rw[tJ n e hk]
   ·cases h
  |lp j i off=>
   unfold br at h⊢;dsimp only at h⊢
   cases hm:cf j X with
   |true=>rw[hm]at h;exact h
   |false=>
    rw[hm]at h;dsimp only at h⊢
    split at h
    ·rename_i e
     split at h
     ·rename_i row e2
      split at h
      ·rename_i r' l' e3
       cases h
       rw[hk j aaA,e]
       dsimp only
       rw[e2];dsimp only
       rw[tJ n e3 fun q hq=>hk q (aaz _ hq)]
      ·cases h
     ·cases h
    ·cases h
  |le j i off=>
   unfold br at h⊢;dsimp only at h⊢
   cases hm:cf j X with
   |true=>rw[hm]at h;exact h
   |false=>
    rw[hm]at h;dsimp only at h⊢
    split at h
    ·rename_i e
     split at h
     ·rename_i row e2
      split at h
      ·rename_i r' l' e3
       cases h
       rw[hk j aaA,e]
       dsimp only
       rw[e2];dsimp only
       rw[tJ n e3 fun q hq=>hk q (aaz _ hq)]
      ·cases h
     ·cases h
    ·cases h
  |eD j lo=>unfold br at h⊢;exact h
  |aH j lo len=>
   unfold br at h⊢;dsimp only at h⊢
   cases hm:cf j X with
   |true=>rw[hm]at h;exact h
   |false=>
    rw[hm]at h;dsimp only at h⊢
    split at h
    ·rename_i e
     split at h
     ·rename_i rs' l' e1 e3
      cases h
      rw[hk j aaA,e]
      dsimp only
      rw[e1,om n e3 fun q hq=>hk q (aaz _ hq)]
     ·cases h
    ·cases h
  |fy j=>
   unfold br at h⊢;dsimp only at h⊢
   cases hm:cf j X with
   |true=>rw[hm]at h;exact h
   |false=>
    rw[hm]at h;dsimp only at h⊢
    split at h
    ·rename_i e
     split at h
     ·rename_i rs' l' e3
      cases h
      rw[hk j aaA,e]
      dsimp only
      rw[om n e3 fun q hq=>hk q (aaz _ hq)]
     ·cases h
    ·cases h
  |_=>exact h
theorem om{hp hp':Nat→Option aA}:∀(n:Nat) {X:List Nat} {ps rs:List PV} {l:List Nat},cY X n hp ps=some (rs,l)→(∀j∈l,hp' j=hp j)→cY X n hp' ps=some (rs,l)
 |0,_,_,_,_,h,_=>by unfold cY at h;cases h
 |n+1,_,[],_,_,h,_=>by unfold cY at h⊢;exact h
 |n+1,_,p::ps,_,_,h,hk=>by
  unfold cY at h⊢
  split at h
  ·rename_i r l rs l' e1 e2
   cases h
   rw[tJ n e1 fun q hq=>hk q (aaN.2 (.inl hq)),om n e2 fun q hq=>hk q (aaN.2 (.inr hq))]
  ·cases h
end
theorem yT{hp hp':Nat→Option aA}{l:List Nat}(h:∀j∈l,hp' j=hp j):jt hp' l=jt hp l:=acb fun j hj=>by rw[h j hj]
theorem Tr.kT{hp hp':Nat→Option aA}:∀{t:Tr} {K:PV→bW→List Nat→Prop},(∀p d l,K p d l→∀j∈l,hp' j=hp j)→t.fj hp K→t.fj hp' K
 |.ok _ _,_,_,h=>h
 |.bad,_,_,h=>h
 |.rd j k,K,hk,h=>by
  obtain⟨p,d,l,h1,_⟩:=jh (t:=.rd j k) h
  obtain⟨p2,d2,l2,h2,_⟩:=jh (t:=k (hp j)) h
  have e:=hk _ _ _ h2 j aaA
  show(k (hp' j)).fj hp' _
  rw[e]
  exact kT (t:=k (hp j)) (fun p d l hK q hq=>hk p d _ hK q (aaz _ hq)) h
 |.br ps k,K,hk,h=>by
  unfold fj at h⊢
  split at h
  ·rename_i rs l e
   obtain⟨p2,d2,l2,h2,_⟩:=jh h
   have e1:∀j∈l,hp' j=hp j:=fun j hj=>hk _ _ _ h2 j (aaN.2 (.inl hj))
   rw[om 200 e e1]
   dsimp only
   rw[yT e1]
   exact kT (fun p d l hK q hq=>hk p d _ hK q (aaN.2 (.inr hq))) h
  ·exact h.elim
 |.int _ _,_,hk,⟨y,e,h⟩=>⟨y,e,kT hk h⟩
 |.bool _ _,_,hk,⟨y,e,h⟩=>⟨y,e,kT hk h⟩
 |.dO _ _ _,_,hk,⟨e,h⟩=>⟨e,kT hk h⟩
 |.il _ _,_,hk,⟨e,h⟩=>⟨e,kT hk h⟩
 |.row _ _ _,_,hk,⟨y,e,e2,h⟩=>⟨y,e,e2,kT hk h⟩
 |.mT _ _,_,hk,⟨e,h⟩=>⟨e,kT hk h⟩
 |.look _ _,_,hk,⟨y,e,h⟩=>⟨y,e,kT hk h⟩
 |.mR _ _,_,_,h=>h.elim
 |.lu _ _,_,hk,⟨h⟩=>⟨h.imp (kT hk) (kT hk)⟩
end Go.Proofs.YtbnonpbnhenkfaaGreatDoor
end
namespace Go.Proofs.YtbnonpbnhenkfaaGreatDoor
section
open Go.RowKit
structure RC where
 w:World
 Z:Nat→Nat→Prop
 hb:Nat→Option (Nat×Nat)
def RC.pure(c:RC):RC:=⟨c.w,c.Z,fun _=>none⟩
def gY(es:Array MapEntry)(cl:Nat):Prop:=cl=es.size∧∀(i:Nat) (e:MapEntry),es[i]? = some e→e.born=i
abbrev dl(w:World)(b:Nat)(aB:Array Value)(e:TypeId)(f:Nat×Nat):Prop:=w.heap[b]? = some (.cells aB e f)
abbrev lv(w:World)(r:Nat)(es:Array MapEntry)(cl:Nat):Prop:=w.heap[r]? = some (.map es cl)
def flat(vs:List Value):List Value:=vs.flatMap fun v=>v.cells.toList
def iB(w:World)(Z:Nat→Nat→Prop)(cl:Bool)(v:Value)(vs:List Value):Prop:=
 ∃a cap,v=.slice a vs.length cap∧vs.length≤cap∧(cl=true→cap=vs.length)∧
  (vs=[]∨∃b off k,a=some ⟨b,off,none⟩∧(∀x∈vs,x.cells.size=k)∧∀i x,(flat vs)[i]? = some x→Z b (off+i)∧w.cell? ⟨b,off+i,none⟩=some x)
mutual
def Rel:PV→RC→Value→Prop
 |.at x,_,v=>v=x∧x.oneCell'=true
 |.any,_,v=>v.oneCell'=true
 |.agg cs,c,v=>∃vs:List Value,v=.agg vs.toArray∧aC cs c vs
 |.sl b rows,c,v=>∃vs,aC rows c.pure vs∧iB c.w c.Z b v vs
 |.lp j i off,c,v=>∃B k,c.hb j=some (B,k)∧v=.pointer (some ⟨B,i*k+off,none⟩)
 |.le j i off,c,v=>∃B k,c.hb j=some (B,k)∧v=.pointer (some ⟨B,i*k+off,none⟩)
 |.eD j lo,c,v=>∃B k cap aB e f,c.hb j=some (B,k)∧v=.slice (some ⟨B,lo*k,none⟩) 0 cap∧cap≤maxLen∧dl c.w B aB e f∧(lo+cap)*k=aB.size
 |.aH j lo len,c,v=>(len=0∧∃a,v=.slice a 0 0)∨∃B k cap aB e f,c.hb j=some (B,k)∧v=.slice (some ⟨B,lo*k,none⟩) len cap∧len≤cap∧cap≤maxLen∧dl c.w B aB e f∧(lo+cap)*k=aB.size
 |.ip cs off,c,v=>∃b base vs,v=.pointer (some ⟨b,base+off,none⟩)∧aC cs c.pure vs∧∀i x,vs[i]? = some x→c.Z b (base+i)∧c.w.cell? ⟨b,base+i,none⟩=some x
 |.fn f fe,c,v=>∃vs:List Value,v=.func (.func f) #[] vs.toArray∧aC fe c vs
 |.dq t p,c,v=>∃x,v=.iface t x∧Rel p c x
 |.mv f p,c,v=>∃x,v=.func (.func f) #[x] #[]∧Rel p c x
 |.aK ps,c,v=>∃vs:List Value,v=.tuple vs.toArray∧aC ps c vs
 |.mp ks ps,c,v=>∃r es clock,v=.map (some r)∧c.Z r 0∧lv c.w r es clock∧gY es clock∧es.toList.map (·.key)=ks∧aC ps c.pure (es.toList.map (·.val))
 |.fy j,c,v=>∃B k,c.hb j=some (B,k)∧v=.map (some B)
def aC:List PV→RC→List Value→Prop
 | [],_,vs=>vs=[]
 |p::ps,c,vs=>∃v vs',vs=v::vs'∧Rel p c v∧aC ps c vs'
end
structure Ext(c d:RC):Prop where
 hb:∀j x,c.hb j=some x→d.hb j=some x
 z:∀b o,c.Z b o→d.Z b o
 cell:∀b o,c.Z b o→d.w.cell? ⟨b,o,none⟩=c.w.cell? ⟨b,o,none⟩
 shape:∀b aB e f,dl c.w b aB e f→∃arr' f',dl d.w b arr' e f'∧arr'.size=aB.size
 mW:∀r es cl,c.Z r 0→lv c.w r es cl→lv d.w r es cl
theorem Ext.refl(c:RC):Ext c c:=⟨fun _ _ h=>h,fun _ _ h=>h,fun _ _ _=>rfl,fun _ aB _ f h=>⟨aB,f,h,rfl⟩,fun _ _ _ _ h=>h⟩
theorem Ext.trans{a b c:RC}(h:Ext a b)(k:Ext b c):Ext a c:=
 ⟨fun j x e=>k.hb j x (h.hb j x e),fun b o e=>k.z b o (h.z b o e),fun b o e=>(k.cell b o (h.z b o e)).trans (h.cell b o e),
  fun b aB e f he=>by
   obtain⟨a1,f1,h1,h2⟩:=h.shape b aB e f he
   obtain⟨a2,f2,h3,h4⟩:=k.shape b a1 e f1 h1
   exact⟨a2,f2,h3,h4.trans h2⟩,fun r es cl z e=>k.mW r es cl (h.z r 0 z) (h.mW r es cl z e)⟩
theorem Ext.pure{c d:RC}(h:Ext c d):Ext c.pure d.pure:=⟨fun _ _ e=>(by cases e),h.z,h.cell,h.shape,h.mW⟩
theorem iB.ext{c d:RC}(h:Ext c d){cl:Bool}{v:Value}{vs:List Value}(s:iB c.w c.Z cl v vs):iB d.w d.Z cl v vs:=by
 obtain⟨a,cap,h1,h2,h3,h4⟩:=s;refine⟨a,cap,h1,h2,h3,?_⟩;rcases h4 with h4|⟨b,off,k,e,hk,hc⟩
 ·exact .inl h4
 ·exact .inr ⟨b,off,k,e,hk,fun i x hx=>⟨h.z _ _ (hc i x hx).1,(h.cell _ _ (hc i x hx).1).trans (hc i x hx).2⟩⟩
mutual
theorem Rel.ext:∀(p:PV) {c d:RC} (_:Ext c d) {v:Value},Rel p c v→Rel p d v
 |.at _,_,_,_,_,r=>r
 |.any,_,_,_,_,r=>r
 |.agg cs,_,_,h,_,r=>by
  obtain⟨vs,e,r⟩:=r
  exact⟨vs,e,aC.ext cs h r⟩
 |.sl _ rows,_,_,h,_,r=>by
  obtain⟨vs,r,s⟩:=r
  exact⟨vs,aC.ext rows h.pure r,s.ext h⟩
 |.lp _ _ _,_,_,h,_,r=>by
  obtain⟨B,k,h1,h2⟩:=r
  exact⟨B,k,h.hb _ _ h1,h2⟩
 |.le _ _ _,_,_,h,_,r=>by
  obtain⟨B,k,h1,h2⟩:=r
  exact⟨B,k,h.hb _ _ h1,h2⟩
 |.eD _ _,_,_,h,_,r=>by
  obtain⟨B,k,cap,aB,e,f,h1,h2,h3,h4,h5⟩:=r
  obtain⟨arr',f',h7,h8⟩:=h.shape _ _ _ _ h4
  exact⟨B,k,cap,arr',e,f',h.hb _ _ h1,h2,h3,h7,by rw[h8];exact h5⟩
 |.aH _ _ _,_,_,h,_,r=>by
  rcases r with r|⟨B,k,cap,aB,e,f,h1,h2,h3,h3',h4,h5⟩
  ·exact .inl r
  obtain⟨arr',f',h7,h8⟩:=h.shape _ _ _ _ h4
  exact .inr ⟨B,k,cap,arr',e,f',h.hb _ _ h1,h2,h3,h3',h7,by rw[h8];exact h5⟩
 |.ip cs _,_,_,h,_,r=>by
  obtain⟨b,base,vs,e,r,hc⟩:=r
  exact⟨b,base,vs,e,aC.ext cs h.pure r,fun i x hx=>⟨h.z _ _ (hc i x hx).1,(h.cell _ _ (hc i x hx).1).trans (hc i x hx).2⟩⟩
 |.fn _ fe,_,_,h,_,r=>by
  obtain⟨vs,e,r⟩:=r
  exact⟨vs,e,aC.ext fe h r⟩
 |.dq t p,_,_,h,_,r=>by
  obtain⟨x,e,r⟩:=r
  exact⟨x,e,Rel.ext p h r⟩
 |.mv _ p,_,_,h,_,r=>by
  obtain⟨x,e,r⟩:=r
  exact⟨x,e,Rel.ext p h r⟩
 |.aK ps,_,_,h,_,r=>by
  obtain⟨vs,e,r⟩:=r
  exact⟨vs,e,aC.ext ps h r⟩
 |.mp _ ps,_,_,h,_,r=>by
  obtain⟨rr,es,cl,e,hz,h1,hm,h2,r⟩:=r
  exact⟨rr,es,cl,e,h.z _ _ hz,h.mW _ _ _ hz h1,hm,h2,aC.ext ps h.pure r⟩
 |.fy _,_,_,h,_,r=>by
  obtain⟨B,k,h1,h2⟩:=r
  exact⟨B,k,h.hb _ _ h1,h2⟩
theorem aC.ext:∀(ps:List PV) {c d:RC} (_:Ext c d) {vs:List Value},aC ps c vs→aC ps d vs
 | [],_,_,_,_,r=>r
 |p::ps,_,_,h,_,r=>by
  obtain⟨v,vs',e,r1,r2⟩:=r
  exact⟨v,vs',e,Rel.ext p h r1,aC.ext ps h r2⟩
end
theorem aC.length:∀{ps:List PV} {c:RC} {vs:List Value},aC ps c vs→vs.length=ps.length
 | [],_,vs,r=>by rw[show vs=[]from r];rfl
 |_::ps,_,_,r=>by
  obtain⟨v,vs',rfl,_,r2⟩:=r
  simp[aC.length r2]
theorem aC.nth:∀{ps:List PV} {c:RC} {vs:List Value},aC ps c vs→∀{i p},PV.nth ps i=some p→∃v,vs[i]? = some v∧Rel p c v
 | [],_,_,_,i,p,h=>by cases i<;>cases h
 |q::ps,_,_,r,i,p,h=>by
  obtain⟨v,vs',rfl,r1,r2⟩:=r
  cases i with
  |zero=>cases h;exact⟨v,rfl,r1⟩
  |succ i=>exact(aC.nth r2 h)
theorem aC.od:∀{ps qs:List PV} {c:RC} {vs us:List Value},aC ps c vs→aC qs c us→aC (ps++qs) c (vs++us)
 | [],_,_,vs,_,r,s=>by rw[show vs=[]from r];exact s
 |_::ps,_,_,_,_,r,s=>by
  obtain⟨v,vs',rfl,r1,r2⟩:=r
  exact⟨v,vs'++_,rfl,r1,aC.od r2 s⟩
theorem aC.sub:∀{ps:List PV} {c:RC} {vs:List Value} (off n:Nat),aC ps c vs→off+n≤ps.length→aC (PV.sub ps off n) c ((vs.drop off).take n)
 |ps,c,vs,off,0,_,_=>by cases ps<;>simp[PV.sub,aC]
 | [],_,_,_,n+1,_,h=>by simp at h
 |p::ps,_,_,0,n+1,r,h=>by
  obtain⟨v,vs',rfl,r1,r2⟩:=r
  exact⟨v,vs'.take n,by simp,r1,by have:=aC.sub 0 n r2 (by simp at h;omega);simpa using this⟩
 |p::ps,_,_,o+1,n+1,r,h=>by
  obtain⟨v,vs',rfl,r1,r2⟩:=r
  have:=aC.sub o (n+1) r2 (by simp at h;omega)
  simpa[PV.sub]using this
theorem aC.c9:∀{ps:List PV} {c:RC} {vs:List Value} (i:Nat) {p:PV} {v:Value},aC ps c vs→Rel p c v→aC (PV.c9 ps i p) c (vs.set i v)
 | [],_,vs,i,_,_,r,_=>by rw[show vs=[]from r];cases i<;>exact rfl
 |_::ps,_,_,0,_,_,r,h=>by
  obtain⟨v,vs',rfl,r1,r2⟩:=r
  exact⟨_,vs',rfl,h,r2⟩
 |_::ps,_,_,i+1,_,_,r,h=>by
  obtain⟨v,vs',rfl,r1,r2⟩:=r
  exact⟨v,_,rfl,r1,aC.c9 i r2 h⟩
theorem ry{v:Value}(h:v.oneCell'=true):v.cells.toList=[v]:=by cases v<;>first|rfl|cases h
theorem Rel.cells{p:PV}{c:RC}{v:Value}(r:Rel p c v):aC p.cells c v.cells.toList:=by
 cases p with
 |agg cs=>obtain⟨vs,rfl,h⟩:=r;exact h
 |any=>rw[ry r];exact⟨_,[],rfl,r,rfl⟩
 |sl b rows=>obtain⟨vs,r1,a,cap,rfl,r2⟩:=r;exact⟨_,[],rfl,⟨vs,r1,a,cap,rfl,r2⟩,rfl⟩
 |lp j i off=>obtain⟨B,k,h1,rfl⟩:=r;exact⟨_,[],rfl,⟨B,k,h1,rfl⟩,rfl⟩
 |le j i off=>obtain⟨B,k,h1,rfl⟩:=r;exact⟨_,[],rfl,⟨B,k,h1,rfl⟩,rfl⟩
 |eD j lo=>obtain⟨B,k,cap,aB,e,f,h1,rfl,h3⟩:=r;exact⟨_,[],rfl,⟨B,k,cap,aB,e,f,h1,rfl,h3⟩,rfl⟩
 |aH j lo len=>
  rcases r with⟨h0,a,rfl⟩|⟨B,k,cap,aB,e,f,h1,rfl,h3⟩
  ·exact⟨_,[],rfl,.inl ⟨h0,a,rfl⟩,rfl⟩
  ·exact⟨_,[],rfl,.inr ⟨B,k,cap,aB,e,f,h1,rfl,h3⟩,rfl⟩
 |ip cs off=>obtain⟨b,base,vs,rfl,h⟩:=r;exact⟨_,[],rfl,⟨b,base,vs,rfl,h⟩,rfl⟩
 |fn f fe=>obtain⟨vs,rfl,h⟩:=r;exact⟨_,[],rfl,⟨vs,rfl,h⟩,rfl⟩
 |dq t p=>obtain⟨x,rfl,h⟩:=r;exact⟨_,[],rfl,⟨x,rfl,h⟩,rfl⟩
 |mv f p=>obtain⟨x,rfl,h⟩:=r;exact⟨_,[],rfl,⟨x,rfl,h⟩,rfl⟩
 |aK ps=>obtain⟨vs,rfl,h⟩:=r;exact⟨_,[],rfl,⟨vs,rfl,h⟩,rfl⟩
 |mp ks ps=>obtain⟨rr,es,cl,rfl,h⟩:=r;exact⟨_,[],rfl,⟨rr,es,cl,rfl,h⟩,rfl⟩
 |fy j=>obtain⟨B,k,h1,rfl⟩:=r;exact⟨_,[],rfl,⟨B,k,h1,rfl⟩,rfl⟩
 |_=>obtain⟨rfl,h⟩:=r;rw[ry h];exact⟨_,[],rfl,⟨rfl,h⟩,rfl⟩
theorem Rel.one{p:PV}{c:RC}{v:Value}(r:Rel p c v)(h:p.atom=true):v.oneCell'=true:=by
 cases p with
 |agg cs=>cases h
 |any=>exact r
 |sl b rows=>obtain⟨vs,r1,a,cap,rfl,r2⟩:=r;rfl
 |lp j i off=>obtain⟨B,k,h1,rfl⟩:=r;rfl
 |le j i off=>obtain⟨B,k,h1,rfl⟩:=r;rfl
 |eD j lo=>obtain⟨B,k,cap,aB,e,f,h1,rfl,h3⟩:=r;rfl
 |aH j lo len=>rcases r with⟨h0,a,rfl⟩|⟨B,k,cap,aB,e,f,h1,rfl,h3⟩<;>rfl
 |ip cs off=>obtain⟨b,base,vs,rfl,h⟩:=r;rfl
 |fn f fe=>obtain⟨vs,rfl,h⟩:=r;rfl
 |dq t p=>obtain⟨x,rfl,h⟩:=r;rfl
 |mv f p=>obtain⟨x,rfl,h⟩:=r;rfl
 |aK ps=>cases h
 |mp ks ps=>obtain⟨rr,es,cl,rfl,h⟩:=r;rfl
 |fy j=>obtain⟨B,k,h1,rfl⟩:=r;rfl
 |_=>obtain⟨rfl,h⟩:=r;exact h
theorem aC.wD:∀{ps:List PV} {c:RC} {vs:List Value},aC ps c vs→PV.ke ps=true→∀v∈vs,v.oneCell'=true
 | [],_,vs,r,_=>by rw[show vs=[]from r];intro v h;cases h
 |p::ps,_,_,r,h=>by
  obtain⟨v,vs',rfl,r1,r2⟩:=r
  unfold PV.ke at h
  cases hp:p.atom with
  |false=>rw[hp]at h;cases h
  |true=>
   rw[hp]at h
   intro x hx
   rcases aaI.1 hx with rfl|hx
   ·exact r1.one hp
   ·exact aC.wD r2 h x hx
theorem Ext.jz(c:RC):Ext c.pure c:=⟨fun _ _ e=>(by cases e),fun _ _ h=>h,fun _ _ _=>rfl,fun _ aB _ f h=>⟨aB,f,h,rfl⟩,fun _ _ _ _ h=>h⟩
theorem Z9:∀(p:PV) {c d:RC} {v:Value},p.bare=true→Rel p c v→Rel p d v:=by
 intro p c d v h r;exact(go p h r).1 d
where
 go:∀(p:PV) {c:RC} {v:Value},p.bare=true→Rel p c v→(∀d,Rel p d v)∧True
 |.at _,_,_,_,r=>⟨fun _=>r,trivial⟩
 |.agg cs,_,_,h,r=>by
  obtain⟨vs,e,r⟩:=r;exact⟨fun d=>⟨vs,e,goL cs h r d⟩,trivial⟩
 |.aK cs,_,_,h,r=>by
  obtain⟨vs,e,r⟩:=r;exact⟨fun d=>⟨vs,e,goL cs h r d⟩,trivial⟩
 |.any,_,_,h,_|.sl _ _,_,_,h,_|.lp _ _ _,_,_,h,_|.le _ _ _,_,_,h,_|.aH _ _ _,_,_,h,_|.eD _ _,_,_,h,_|.ip _ _,_,_,h,_|.fn _ _,_,_,h,_|.dq _ _,_,_,h,_|.mv _ _,_,_,h,_|.mp _ _,_,_,h,_|.fy _,_,_,h,_=>by cases h
 goL:∀(ps:List PV) {c:RC} {vs:List Value},PV.tL ps=true→aC ps c vs→∀d,aC ps d vs
 | [],_,_,_,r,_=>r
 |p::ps,_,_,h,r,d=>by
  obtain⟨v,vs',e,r1,r2⟩:=r;unfold PV.tL at h;cases hp:p.bare with
  |false=>rw[hp]at h;cases h
  |true=>rw[hp]at h;exact⟨v,vs',e,(go p hp r1).1 d,goL ps h r2 d⟩
theorem aC.put:∀{xs:List PV} {ps:List PV} {c:RC} {vs us:List Value} (off:Nat),aC ps c vs→aC xs c us→off+xs.length≤ps.length→aC (PV.put ps off xs) c (vs.take off++us++vs.drop (off+us.length))
 | [],ps,c,vs,us,off,r,s,_=>by
  rw[show us=[]from s]
  simpa[PV.put]using r
 |x::xs,ps,c,vs,us,off,r,s,h=>by
  obtain⟨u,us',rfl,s1,s2⟩:=s
  have hl:=r.length
  have key:=aC.put (off+1) (aC.c9 off r s1) s2 (by rw[← (aC.c9 off r s1).length];simp at h⊢;omega)
  have e:=list_seg_step vs off u us' (by have:=s2.length;simp at h⊢;omega)
  rw[show off+(u::us').length=off+1+us'.length by simp;omega]
  have e2:vs.take off++(u::us')++vs.drop (off+1+us'.length)=(vs.set off u).take (off+1)++us'++(vs.set off u).drop (off+1+us'.length):=by rw[e];congr 2<;>omega
  rw[e2]
  exact key
mutual
def PV.aO:PV→Bool
 |.agg cs=>PV.lQ cs
 |.lp _ _ _=>false
 |.le _ _ _=>false
 |.aH _ _ _=>false
 |.eD _ _=>false
 |.fy _=>false
 |.fn _ cs=>PV.lQ cs
 |.dq _ v=>PV.aO v
 |.mv _ v=>PV.aO v
 |.aK vs=>PV.lQ vs
 |_=>true
def PV.lQ:List PV→Bool
 | []=>true
 |p::l=>match PV.aO p with|true=>PV.lQ l|false=>false
end
abbrev cE(rs:List PV):Prop:=∀r∈rs,r.aO=true
theorem Iq{α:Type}{f:α→PV}(h:∀x,(f x).aO=true)(l:List α):cE (l.map f):=fun r hr=>by
 obtain⟨x,_,rfl⟩:=abc.1 hr
 exact h x
mutual
theorem vO:∀(p:PV) {c:RC} {v:Value},p.aO=true→Rel p c v→Rel p c.pure v
 |.at _,_,_,_,r=>r
 |.any,_,_,_,r=>r
 |.agg cs,_,_,h,r=>by obtain⟨vs,e,r⟩:=r;exact⟨vs,e,rE cs h r⟩
 |.sl _ _,_,_,_,r=>r
 |.ip _ _,_,_,_,r=>r
 |.fn _ cs,_,_,h,r=>by obtain⟨vs,e,r⟩:=r;exact⟨vs,e,rE cs h r⟩
 |.dq _ p,_,_,h,r=>by obtain⟨x,e,r⟩:=r;exact⟨x,e,vO p h r⟩
 |.mv _ p,_,_,h,r=>by obtain⟨x,e,r⟩:=r;exact⟨x,e,vO p h r⟩
 |.aK cs,_,_,h,r=>by obtain⟨vs,e,r⟩:=r;exact⟨vs,e,rE cs h r⟩
 |.mp _ _,_,_,_,r=>r
 |.lp _ _ _,_,_,h,_|.le _ _ _,_,_,h,_|.aH _ _ _,_,_,h,_|.eD _ _,_,_,h,_|.fy _,_,_,h,_=>by cases h
theorem rE:∀(ps:List PV) {c:RC} {vs:List Value},PV.lQ ps=true→aC ps c vs→aC ps c.pure vs
 | [],_,_,_,r=>r
 |p::ps,_,_,h,r=>by
  obtain⟨v,vs',e,r1,r2⟩:=r
  unfold PV.lQ at h
  cases hp:p.aO with
  |false=>rw[hp]at h;cases h
  |true=>rw[hp]at h;exact⟨v,vs',e,vO p hp r1,rE ps h r2⟩
end
theorem cE.rel:∀{ps:List PV} {c:RC} {vs:List Value},cE ps→aC ps c vs→aC ps c.pure vs
 | [],_,_,_,r=>r
 |p::ps,_,_,h,r=>by
  obtain⟨v,vs',e,r1,r2⟩:=r
  exact⟨v,vs',e,vO p (h p aaA) r1,cE.rel (fun q hq=>h q (aaz _ hq)) r2⟩
theorem dm{α:Type}(f:Nat→Option α)(k:Nat)(v:Option α):ck f k v k=v:=by unfold ck;rw[acI]
theorem dR{α:Type}(f:Nat→Option α){k x:Nat}(v:Option α)(h:x≠k):ck f k v x=f x:=by
 unfold ck;cases e:Nat.beq x k with
 |true=>exact absurd (aaE e) h
 |false=>rfl
def E6:TypeDesc→Bool
 |.struct _|.array _ _=>true
 |_=>false
def FF(P:Program)(d:TypeDesc):Kd→Prop
 |.struct fs=>∃fields,d=.struct fields∧(∃places,fields.toList.mapM (fun f=>(P.info? f.type).map fun i=>(f.offset,i.size))=some places∧∀n o t i,PV.nth fs n=some (o,t)→P.info? t=some i→places[n]? = some (o,i.size))∧∀n o t,PV.nth fs n=some (o,t)→∃f,fields[n]? = some f∧f.offset=o∧f.type=t∧∃i,P.info? t=some i∧i.size≠0
 |.aB n e=>d=.array n e
 |.sl e=>d=.slice e
 |.int k=>d=.int k
 |.str=>d=.string
 |.bool=>d=.bool
 |.func=>∃a b v,d=.func a b v
 |.map k v=>d=.map k v
 |.ptr=>∃e,d=.pointer e
 |.other=>True
def Hr(d:TypeDesc):Kd→Prop
 |.struct fs=>∃fields,d=.struct fields∧fields.toList.map (fun f=>(f.offset,f.type))=fs∧∀f∈fields.toList,f.name≠ "_"
 |_=>True
structure fz(P:Program)(t:TypeId)(ti:TI):Prop where
 ex:∃i z,P.info? t=some i∧i.size=ti.size∧i.zero=some z∧z.cells.size=ti.size∧i.bytes≤1048576∧∀c,Rel ti.zero c z
 de:∃d,P.underlying t=some d∧ti.ag=E6 d∧FF P d ti.kd
 F4:ti.AE=true→P.stoodInHeld t=false∧P.eqGuardType P.depth t=false∧∀d,P.underlying t=some d→Hr d ti.kd
def cL(P:Program)(T:TT):Prop:=∀t ti,T t=some ti→fz P t ti
section
variable {P:Program}{t:TypeId}{ti:TI}
theorem fz.size(h:fz P t ti)(w:World):(sizeOf t).run P w=.ok ti.size w:=by
 obtain⟨i,z,h1,h2,_⟩:=h.ex;simp[sizeOf,typeInfo,h1,h2]
theorem fz.nj(h:fz P t ti)(w:World):(isAgg t).run P w=.ok ti.ag w:=by
 obtain⟨d,h1,h2,_⟩:=h.de;have hu:=run_underlying (P:=P) h1 w;rw[h2];simp only[isAgg,Sem.run_bind,hu,Result.andThen_ok];cases d<;>rfl
theorem fz.zeroV(h:fz P t ti)(c:RC):∃z,(zeroValue t).run P c.w=.ok z c.w∧z.cells.size=ti.size∧Rel ti.zero c z:=by
 obtain⟨i,z,h1,_,h3,h4,_,h5⟩:=h.ex;exact⟨z,by simp[zeroValue,typeInfo,h1,h3],h4,h5 c⟩
end
structure e_(L:Nat→Prop)(w w':World):Prop where
 os:w'.os=w.os
 tape:w'.tape=w.tape
 output:w'.output=w.output
 size:w.heap.size≤w'.heap.size
 block:∀k,k<w.heap.size→¬L k→w'.heap[k]? = w.heap[k]?
theorem e_.refl(L:Nat→Prop)(w:World):e_ L w w:=⟨rfl,rfl,rfl,aas _,fun _ _ _=>rfl⟩
theorem e_.step{L M:Nat→Prop}{a b c:World}(h:e_ L a b)(k:e_ M b c)(hm:∀i,i<a.heap.size→M i→L i):e_ L a c:=
 ⟨k.os.trans h.os,k.tape.trans h.tape,k.output.trans h.output,aaJ h.size k.size,fun i hi hl=>(k.block i (aaS hi h.size) fun e=>hl (hm i hi e)).trans (h.block i hi hl)⟩
theorem e_.of{L:Nat→Prop}{w w':World}(h:Below w.heap.size w w'):e_ L w w':=⟨h.os,h.tape,h.output,h.size,fun k hk _=>h.block k hk⟩
theorem e_.below{w w':World}(h:e_ (fun _=>False) w w'):Below w.heap.size w w':=⟨h.os,h.tape,h.output,h.size,fun k hk=>h.block k hk id⟩
structure ct where
 w0:World
 Z0:Nat→Nat→Prop
 M:Nat
 cI:Nat→Option (Nat×Nat)
 L:Nat→Prop
 G:World→Prop
 hG:∀{w:World},e_ L w0 w→G w
 D:List Deferred
def ct.rc(S:ct):RC:=⟨S.w0,S.Z0,fun _=>none⟩
abbrev ct.Own(S:ct)(B:Nat):Prop:=S.w0.heap.size≤B∨S.L B
def fh(S:ct)(c:RC)(j:Nat):aA→Prop
 |.rows k rs wr cp e=>(rs=[]∧cp=none∧c.hb j=none)∨∃(B:Nat) (aB:Array Value) (vs:List Value),c.hb j=some (B,k)∧S.Own B∧dl c.w B aB e (0,0)∧aC rs c vs∧(∀x∈vs,x.cells.size=k)∧(∀(i:Nat) (x:Value),(flat vs)[i]? = some x→aB[i]? = some x)∧
   (wr=true→∀o,¬c.Z B o)∧(wr=false→∀i,i<(flat vs).length→c.Z B i)∧(∀n,cp=some n→aB.size=n*k)
 |.map ks ps wr=>∃(B:Nat) (es:Array MapEntry) (cl:Nat),c.hb j=some (B,0)∧S.Own B∧lv c.w B es cl∧es.toList.map (·.key)=ks∧aC ps c (es.toList.map (·.val))∧(wr=true→∀o,¬c.Z B o)∧(wr=false→c.Z B 0)∧gY es cl
def aA.own:aA→Bool
 |.rows _ _ wr _ _=>wr
 |.map _ _ wr=>wr
abbrev ge(n:Nat):Nat→Prop:=fun j=>n≤j
abbrev less(F:Nat→Prop)(n:Nat):Nat→Prop:=fun j=>F j∧j≠n
structure Sat(S:ct)(F:Nat→Prop)(hp:Nat→Option aA)(c:RC):Prop where
 keeps:e_ S.L S.w0 c.w
 base:Ext S.rc c
 gd:∀b o,b<S.w0.heap.size→¬S.L b→c.Z b o→S.Z0 b o
 dG:∀b o,c.Z b o→b<c.w.heap.size
 fresh:∀j,F j→c.hb j=none
 cD:∀j b,hp j=some b→fh S c j b
 sep:∀i j bi bj,hp i=some bi→hp j=some bj→i≠j→bi.own=true→∀x y,c.hb i=some x→c.hb j=some y→x.1≠y.1
 low:∀j,j<S.M→c.hb j=S.cI j
 jw:∀j,F j→S.M≤j
theorem Sat.up{S:ct}{F F':Nat→Prop}{hp:Nat→Option aA}{c:RC}(h:Sat S F hp c)(hm:∀j,F' j→F j):Sat S F' hp c:=
 ⟨h.keeps,h.base,h.gd,h.dG,fun j hj=>h.fresh j (hm j hj),h.cD,h.sep,h.low,fun j hj=>h.jw j (hm j hj)⟩
def vZ(w:World)(B:Nat):Prop:=(∃aB e,dl w B aB e (0,0))∨∃es cl,lv w B es cl
theorem vZ.lt{w:World}{B:Nat}(h:vZ w B):B<w.heap.size:=by
 rcases h with⟨aB,e,h⟩|⟨es,cl,h⟩
 ·exact(aaP.1 h).1
 ·exact(aaP.1 h).1
theorem fh.at{S:ct}{c:RC}{j:Nat}{b:aA}(h:fh S c j b){B n:Nat}(hB:c.hb j=some (B,n)):S.Own B∧vZ c.w B:=by
 cases b with
 |rows k rs wr f e=>
  rcases h with⟨_,_,h⟩|⟨B',aB,vs,h1,h2,h3,_⟩
  ·rw[h]at hB;cases hB
  ·rw[h1]at hB;cases hB;exact⟨h2,.inl ⟨aB,e,h3⟩⟩
 |map ks ps wr=>obtain⟨B',es,cl,h1,h2,h3,_⟩:=h;rw[h1]at hB;cases hB;exact⟨h2,.inr ⟨es,cl,h3⟩⟩
theorem fh.aQ{S:ct}{c d:RC}{j:Nat}{b:aA}(h:fh S c j b)(x:Ext c d)(hn:c.hb j=none→d.hb j=none)(hk:∀B n,c.hb j=some (B,n)→d.w.heap[B]? = c.w.heap[B]?∧∀o,d.Z B o↔c.Z B o):fh S d j b:=by
 cases b with
 |rows k rs wr f e=>
  rcases h with⟨h0,h1,h2⟩|⟨B,aB,vs,h1,h2,h3,h4,h5,h6,h7,h8,h9⟩
  ·exact .inl ⟨h0,h1,hn h2⟩
  obtain⟨k1,k2⟩:=hk B k h1;exact .inr ⟨B,aB,vs,x.hb _ _ h1,h2,k1.trans h3,aC.ext rs x h4,h5,h6,fun e o hz=>h7 e o ((k2 o).1 hz),fun e i hi=>(k2 i).2 (h8 e i hi),h9⟩
 |map ks ps wr=>
  obtain⟨B,es,cl,h1,h2,h3,h4,h5,h6,h7,h8⟩:=h;obtain⟨k1,k2⟩:=hk B 0 h1;exact⟨B,es,cl,x.hb _ _ h1,h2,k1.trans h3,h4,aC.ext ps x h5,fun e o hz=>h6 e o ((k2 o).1 hz),fun e=>(k2 0).2 (h7 e),h8⟩
structure Good(S:ct)(F:Nat→Prop)(hp':Nat→Option aA)(c c':RC)(p:PV)(v:Value):Prop where
 x:Ext c c'
 s:Sat S F hp' c'
 r:Rel p c' v
theorem Gt(w:World)(o:Obj):Below w.heap.size w (w.alloc o):=(Below.refl _ _).alloc (aas _) _
theorem pT{c:RC}{w':World}{Z':Nat→Nat→Prop}(hlt:∀b o,c.Z b o→b<c.w.heap.size)(hb:Below c.w.heap.size c.w w')(hz:∀b o,c.Z b o→Z' b o):Ext c ⟨w',Z',c.hb⟩:=
 ⟨fun _ _ h=>h,hz,fun b o z=>hb.cell (p:=⟨b,o,none⟩) (hlt b o z),
  fun b aB _ f h=>⟨aB,f,(hb.block b (aaP.1 h).1).trans h,rfl⟩,fun r _ _ _ h=>(hb.block r (aaP.1 h).1).trans h⟩
theorem qH{S:ct}{F:Nat→Prop}{hp:Nat→Option aA}{c:RC}{w':World}{Z':Nat→Nat→Prop}(h:Sat S F hp c)(hb:Below c.w.heap.size c.w w')(hz:∀b o,c.Z b o→Z' b o)(hz2:∀b o,Z' b o→c.Z b o∨(c.w.heap.size≤b∧b<w'.heap.size)):
 Sat S F hp ⟨w',Z',c.hb⟩:=by
 have hx:=pT h.dG hb hz
 have hsz:=h.keeps.size
 refine⟨h.keeps.step (e_.of (L:=fun _=>False) hb) (fun _ _ h=>h.elim),h.base.trans hx,fun b o hlo hl z=>?_,fun b o z=>?_,h.fresh,fun j b hj=>(h.cD j b hj).aQ hx id fun B n hB=>?_,h.sep,h.low,h.jw⟩
 ·rcases hz2 b o z with z|⟨z,_⟩
  ·exact h.gd b o hlo hl z
  ·omega
 ·rcases hz2 b o z with z|⟨_,z⟩
  ·exact aaS (h.dG b o z) hb.size
  ·exact z
 ·have hlt:=((h.cD j b hj).at hB).2.lt
  refine⟨hb.block _ hlt,fun o=>⟨fun z=>?_,fun z=>hz _ _ z⟩⟩
  rcases hz2 _ _ z with z|⟨z,_⟩
  ·exact z
  ·omega
def RC.named(c:RC)(nx:Nat)(x:Option (Nat×Nat)):RC:=⟨c.w,c.Z,ck c.hb nx x⟩
theorem qk{c:RC}{nx:Nat}{x:Option (Nat×Nat)}(h:c.hb nx=none):Ext c (c.named nx x):=
 ⟨fun j y e=>(dR _ _ (by rintro rfl;rw[h]at e;cases e)).trans e,fun _ _ z=>z,fun _ _ _=>rfl,fun _ aB _ f h=>⟨aB,f,h,rfl⟩,fun _ _ _ _ h=>h⟩
theorem qC{S:ct}{F:Nat→Prop}{hp:Nat→Option aA}{c:RC}{nx:Nat}{x:Option (Nat×Nat)}{b:aA}(h:Sat S F hp c)(hF:F nx)(hb:fh S (c.named nx x) nx b)
 (hsep:∀j bj y z,j≠nx→hp j=some bj→c.hb j=some y→x=some z→y.1≠z.1):Sat S (less F nx) (ck hp nx (some b)) (c.named nx x):=by
 have hext:=qk (x:=x) (h.fresh _ hF)
 refine⟨h.keeps,h.base.trans hext,h.gd,h.dG,fun j hj=>(dR _ _ hj.2).trans (h.fresh j hj.1),fun j bj hj=>?_,fun i j bi bj hi hj hne hoi y z hy hz=>?_,fun j hj=>(dR _ _ (by have:=h.jw nx hF;omega)).trans (h.low j hj),fun j hj=>h.jw j hj.1⟩
 ·by_cases e:j=nx
  ·subst e
   rw[dm]at hj;cases hj;exact hb
  ·rw[dR _ _ e]at hj
   exact(h.cD j bj hj).aQ hext (fun hz=>(dR _ _ e).trans hz) fun B n hB=>⟨rfl,fun _=>adE⟩
 ·replace hy:ck c.hb nx x i=some y:=hy
  replace hz:ck c.hb nx x j=some z:=hz
  by_cases ei:i=nx
  ·subst ei
   rw[dm]at hy
   have ej:j≠i:=fun e=>hne e.symm
   rw[dR _ _ ej]at hz hj
   exact fun e=>hsep j bj z y ej hj hz hy e.symm
  ·rw[dR _ _ ei]at hy hi
   by_cases ej:j=nx
   ·subst ej
    rw[dm]at hz
    exact hsep i bi y z ei hi hy hz
   ·rw[dR _ _ ej]at hz hj
    exact h.sep i j bi bj hi hj hne hoi y z hy hz
theorem DD{S:ct}{F:Nat→Prop}{hp:Nat→Option aA}{c:RC}(h:Sat S F hp c)(j:Nat):Sat S F (ck hp j none) c:=by
 have old:∀{i b},ck hp j none i=some b→hp i=some b∧i≠j:=by
  intro i b hi;by_cases e:i=j
  ·subst e;rw[dm]at hi;cases hi
  ·rw[dR _ _ e]at hi;exact⟨hi,e⟩
 exact⟨h.keeps,h.base,h.gd,h.dG,h.fresh,fun i b hi=>h.cD i b (old hi).1,fun i k bi bk hi hk=>h.sep i k bi bk (old hi).1 (old hk).1,h.low,h.jw⟩
theorem Sat.xD{S:ct}{F:Nat→Prop}{nx:Nat}{hp:Nat→Option aA}{c:RC}(h:Sat S F hp c)(hF:F nx){w1:World}(hb1:Below c.w.heap.size c.w w1)(hs1:w1.heap.size=c.w.heap.size){rs:List PV}{vs:List Value}(r:aC rs c vs)(aB:Array Value)(t:TypeId)(k:Nat)(hk:∀x∈vs,x.cells.size=k)
 (harr:∀(i:Nat) (x:Value),(flat vs)[i]? = some x→aB[i]? = some x) (full:Option Nat) (hfull:∀n,full=some n→aB.size=n*k):
 ∃c',c'.w=w1.alloc (.cells aB t)∧c'.Z=c.Z∧c'.hb=ck c.hb nx (some (c.w.heap.size,k))∧Ext c c'∧Sat S (less F nx) (ck hp nx (some (.rows k rs true full t))) c':=by
 have hbel:Below c.w.heap.size c.w (w1.alloc (.cells aB t)):=hb1.alloc (by rw[hs1];exact aas _) _
 have hx1:=pT (Z':=c.Z) h.dG hbel (fun _ _ z=>z)
 have hs:=qH (Z':=c.Z) h hbel (fun _ _ z=>z) (fun _ _ z=>.inl z)
 have hx2:=qk (c:=⟨w1.alloc (.cells aB t),c.Z,c.hb⟩) (x:=some (c.w.heap.size,k)) (hs.fresh _ hF)
 have hrow:dl (w1.alloc (.cells aB t)) c.w.heap.size aB t (0,0):=by rw[← hs1];exact heap_alloc_new w1 _
 refine⟨RC.named ⟨w1.alloc (.cells aB t),c.Z,c.hb⟩ nx (some (c.w.heap.size,k)),rfl,rfl,rfl,hx1.trans hx2,qC hs hF ?_ ?_⟩
 ·exact .inr ⟨c.w.heap.size,aB,vs,dm _ _ _,.inl h.keeps.size,hrow,aC.ext rs (hx1.trans hx2) r,hk,harr,fun _ o z=>Nat.lt_irrefl _ (h.dG _ o z),(fun h=>by cases h),hfull⟩
 ·intro j bj y z hj hpj hy hz
  cases hz
  have:=((h.cD j bj hpj).at (B:=y.1) (n:=y.2) hy).2.lt
  show y.1≠c.w.heap.size
  omega
theorem Sat.new{S:ct}{F:Nat→Prop}{nx:Nat}{hp:Nat→Option aA}{c:RC}(h:Sat S F hp c)(hF:F nx){row:PV}{v:Value}(r:Rel row c v)(t:TypeId)(k:Nat)(hk:v.cells.size=k):
 ∃c',c'.w=c.w.alloc (.cells v.cells t)∧Good S (less F nx) (ck hp nx (some (.rows k [row] true none t))) c c' (.lp nx 0 0) (.pointer (some ⟨c.w.heap.size,0,none⟩)):=by
 obtain⟨c',h1,h2,h3,h4,h5⟩:=h.xD hF (Below.refl _ _) rfl (rs:=[row]) (vs:=[v]) ⟨v,[],rfl,r,rfl⟩ v.cells t k (by simp[hk]) (fun i x hx=>by simpa[flat]using hx) none (fun _ e=>by cases e)
 exact⟨c',h1,h4,h5,c.w.heap.size,k,by rw[h3];exact dm _ _ _,by simp⟩
theorem tU(A us:List Value)(o m:Nat)(h:o+us.length≤A.length):
 (A.take o++us++A.drop (o+us.length))[m]? = if m<o then A[m]? else if m<o+us.length then us[m-o]? else A[m]?:=by
 have hl:(A.take o).length=o:=by rw[aax];omega
 by_cases h1:m<o
 ·rw[abb h1,abd,abt (by omega),acF h1]
 ·rw[abg h1]
  by_cases h2:m<o+us.length
  ·rw[abb h2,abt (by rw[aap];omega),abf (by omega),hl]
  ·rw[abg h2,abf (by rw[aap];omega),aap,hl,abH]
   congr 1;omega
theorem gV(v:Value)(vs:List Value):flat (v::vs)=v.cells.toList++flat vs:=rfl
theorem f_{k:Nat}:∀{vs:List Value},(∀x∈vs,x.cells.size=k)→(flat vs).length=vs.length*k
 | [],_=>by simp[flat]
 |v::vs,h=>by
  rw[gV,aap,f_ (fun x hx=>h x (aaz _ hx)),aaK,h v aaA,aaL,abL];omega
theorem wa{k:Nat}:∀{vs:List Value} {i:Nat} {v:Value} (_:∀x∈vs,x.cells.size=k) (_:vs[i]? = some v) (o:Nat) (_:o<k),(flat vs)[i*k+o]? = v.cells.toList[o]?
 | [],i,v,_,h,_,_=>by simp at h
 |u::vs,0,v,hk,h,o,ho=>by
  simp at h;subst h
  rw[gV,abI,aav,abt (by rw[aaK,hk _ aaA];exact ho)]
 |u::vs,i+1,v,hk,h,o,ho=>by
  have hu:=hk u aaA
  rw[gV,abf (by rw[aaK,hu,abL];omega),aaK,hu,show(i+1)*k+o-k=i*k+o by rw[abL];omega]
  exact wa (fun x hx=>hk x (aaz _ hx)) (by simpa using h) o ho
theorem Gq{k:Nat}(us:List Value):∀{vs:List Value} {i:Nat} {v v':Value} (off:Nat) (_:∀x∈vs,x.cells.size=k) (_:vs[i]? = some v) (_:v'.cells.toList=v.cells.toList.take off++us++v.cells.toList.drop (off+us.length)) (_:off+us.length≤k),
 flat (vs.set i v')=(flat vs).take (i*k+off)++us++(flat vs).drop (i*k+off+us.length)
 | [],i,v,_,_,_,h,_,_=>by simp at h
 |u::vs,0,v,v',off,hk,h,e,hl=>by
  simp at h;subst h
  have hu:=hk u aaA
  have hul:u.cells.toList.length=k:=by rw[aaK,hu]
  rw[List.set_cons_zero,gV,gV,e,abI,aav,abP (by omega),List.drop_append_of_le_length (by omega)]
  simp
 |u::vs,i+1,v,v',off,hk,h,e,hl=>by
  have hu:=hk u aaA
  have hul:u.cells.toList.length=k:=by rw[aaK,hu]
  have ih:=Gq us (i:=i) off (fun x hx=>hk x (aaz _ hx)) (by simpa using h) e hl
  have e1:(i+1)*k+off=u.cells.toList.length+(i*k+off):=by rw[hul,abL];omega
  have e2:(i+1)*k+off+us.length=u.cells.toList.length+(i*k+off+us.length):=by omega
  rw[List.set_cons_succ,gV,ih,gV,e2,e1,List.take_length_add_append,adz]
  simp[abd]
section
variable {P:Program}{t:TypeId}{ti:TI}{c:RC}
theorem r8(hT:fz P t ti){cs:List PV}{vs:List Value}(r:aC cs c vs){off:Nat}(h:Nat.ble (off+ti.size) cs.length=true){p:PV}(ho:PV.gC ti.ag (PV.sub cs off ti.size)=some p)
 (b base:Nat) (hc:∀i x,vs[i]? = some x→c.w.cell? ⟨b,base+i,none⟩=some x):∃v,(loadVar t ⟨b,base+off,none⟩).run P c.w=.ok v c.w∧Rel p c v:=by
 have hle:=aaG h
 have hl:=r.length
 have hs:=aC.sub off ti.size r hle
 have hus:((vs.drop off).take ti.size).length=ti.size:=by rw[aax,aaO];omega
 have hcell:∀j v,((vs.drop off).take ti.size)[j]? = some v→c.w.cell? ((⟨b,base+off,none⟩:Addr).add j)=some v:=by
  intro j v hj
  rw[Addr.add_lit,abB]
  rw[abT]at hj
  split at hj
  ·rw[abH]at hj;exact hc _ _ hj
  ·cases hj
 generalize(vs.drop off).take ti.size=us at hs hus hcell
 cases ha:ti.ag with
 |true=>
  rw[ha]at ho
  cases ho
  refine⟨.agg us.toArray,?_,us,rfl,hs⟩
  have:=run_loadCells_list (P:=P) c.w ⟨b,base+off,none⟩ us hcell
  rw[hus]at this
  simp[loadVar,hT.nj,ha,hT.size,this]
 |false=>
  rw[ha]at ho
  have hone:∃q,PV.sub cs off ti.size=[q]∧q=p:=by
   cases e:PV.sub cs off ti.size with
   |nil=>rw[e]at ho;cases ho
   |cons q l=>
    cases l with
    |nil=>rw[e]at ho;exact⟨q,rfl,abl ho⟩
    |cons _ _=>rw[e]at ho;cases ho
  obtain⟨q,e,rfl⟩:=hone
  rw[e]at hs
  obtain⟨u,us',rfl,hr,hn⟩:=hs
  obtain rfl:us'=[]:=hn
  refine⟨u,?_,hr⟩
  have:=hcell 0 u rfl
  have e0:(⟨b,base+off,none⟩:Addr).add 0=⟨b,base+off,none⟩:=rfl
  rw[e0]at this
  simp[loadVar,hT.nj,ha,this]
theorem yF{row:PV}(h:nj row=false):row.cells=[row]:=by cases row<;>first|rfl|cases h
theorem Tj{row:PV}{v:Value}(r:Rel row c v){us:List Value}{cs:List PV}(s:aC cs c us)(ha:PV.ke cs=true){off:Nat}(hl:off+cs.length≤row.cells.length){row':PV}(h:Bo (nj row) row off cs=some row'):
 ∃v',Rel row' c v'∧v'.cells.toList=v.cells.toList.take off++us++v.cells.toList.drop (off+us.length):=by
 have hp:=aC.put off r.cells s hl
 unfold Bo at h
 rw[Of]at h
 cases e:nj row with
 |true=>
  rw[e]at h;cases h
  exact⟨.agg (v.cells.toList.take off++us++v.cells.toList.drop (off+us.length)).toArray,⟨_,rfl,hp⟩,by simp[Value.cells]⟩
 |false=>
  rw[e,yF e]at h
  rw[yF e]at hl
  cases cs with
  |nil=>
   obtain rfl:us=[]:=s
   obtain rfl:row=row':=abl h
   exact⟨v,r,by simp⟩
  |cons x l=>
   simp only[aaL,abQ]at hl
   obtain rfl:off=0:=by omega
   obtain rfl:l=[]:=abu (by omega)
   obtain rfl:x=row':=abl h
   obtain⟨u,us',rfl,s1,s2⟩:=s
   obtain rfl:us'=[]:=s2
   have hx:x.atom=true:=by unfold PV.ke at ha;cases hh:x.atom with|true=>rfl|false=>rw[hh]at ha;cases ha
   have hv:v.cells.toList.length=1:=by rw[r.cells.length,yF e];rfl
   exact⟨u,s1,by rw[ry (s1.one hx)];simp[aaR (by omega:v.cells.toList.length≤1)]⟩
theorem N8{c:RC}{B:Nat}{aB new:Array Value}{e:TypeId}(hr:dl c.w B aB e (0,0))(hns:new.size=aB.size)(hk:∀o,c.Z B o→new[o]? = aB[o]?):Ext c ⟨c.w.setRow B new,c.Z,c.hb⟩:=by
 refine⟨fun _ _ h=>h,fun _ _ h=>h,fun b o z=>?_,fun b a2 e2 f2 hr2=>?_,fun r2 es cl _ hm=>?_⟩
 ·by_cases hb:b=B
  ·subst hb;rw[cell_of_row _ _ _ _ _ _ (setRow_heap _ _ _ _ _ _ hr),cell_of_row _ _ _ _ _ _ hr];exact hk o z
  ·exact World.cell?_of_block (setRow_other _ _ _ _ hb)
 ·by_cases hb:b=B
  ·subst hb;have h9:dl c.w b aB e (0,0):=hr;rw[dl]at h9 hr2;rw[h9]at hr2;cases hr2;exact⟨new,(0,0),setRow_heap _ _ _ _ _ _ hr,hns⟩
  ·exact⟨a2,f2,(setRow_other _ _ _ _ hb).trans hr2,rfl⟩
 ·have hne:r2≠B:=by
   rintro rfl;have h9:dl c.w r2 aB e (0,0):=hr;rw[dl]at h9;rw[lv]at hm;rw[h9]at hm;cases hm
  exact(setRow_other _ _ _ _ hne).trans hm
theorem wq{S:ct}{F:Nat→Prop}{hp:Nat→Option aA}{c:RC}(hs:Sat S F hp c){j k:Nat}{rs rs':List PV}{full full':Option Nat}{e:TypeId}(hj:hp j=some (.rows k rs true full e)){B:Nat}{aB new:Array Value}(hB:c.hb j=some (B,k))(hr:dl c.w B aB e (0,0))
 (hns:new.size=aB.size) {vs':List Value} (hrs:aC rs' c vs') (hk:∀x∈vs',x.cells.size=k) (hnew:∀(i:Nat) (x:Value),(flat vs')[i]? = some x→new[i]? = some x) (hfull:∀n,full'=some n→new.size=n*k):
 Ext c ⟨c.w.setRow B new,c.Z,c.hb⟩∧Sat S F (ck hp j (some (.rows k rs' true full' e))) ⟨c.w.setRow B new,c.Z,c.hb⟩:=by
 have cI:=hs.cD j _ hj
 obtain⟨hown,_⟩:=cI.at hB
 have hnz:∀o,¬c.Z B o:=by
  rcases cI with⟨_,_,h⟩|⟨B',a',v',b1,_,_,_,_,_,b7,_⟩
  ·rw[h]at hB;cases hB
  ·rw[b1]at hB;cases hB;exact b7 rfl
 have hext:=N8 hr hns (fun o z=>(hnz o z).elim)
 refine⟨hext,?_⟩
 have hkeep:e_ (fun i=>i=B) c.w (c.w.setRow B new):=⟨rfl,rfl,rfl,by simp,fun q _ hq=>setRow_other _ _ _ _ hq⟩
 refine⟨hs.keeps.step hkeep (fun i hi h=>?_),hs.base.trans hext,hs.gd,fun b o z=>by rw[show(RC.mk (c.w.setRow B new) c.Z c.hb).w.heap.size=c.w.heap.size from size_setRow _ _ _];exact hs.dG b o z,hs.fresh,fun q b hq=>?_,fun a b ba bb ha hb hne ho x y hx hy=>?_,hs.low,hs.jw⟩
 ·subst h;rcases hown with h|h
  ·omega
  ·exact h
 ·by_cases hqj:q=j
  ·subst hqj
   rw[dm]at hq;cases hq
   exact .inr ⟨B,new,vs',hB,hown,setRow_heap _ _ _ _ _ _ hr,aC.ext _ hext hrs,hk,hnew,fun _=>hnz,(fun h=>by cases h),hfull⟩
  ·rw[dR _ _ hqj]at hq
   refine(hs.cD q b hq).aQ hext id fun B2 n2 h2=>⟨setRow_other _ _ _ _ ?_,fun _=>adE⟩
   exact fun e=>hs.sep j q _ b hj hq (fun e=>hqj e.symm) rfl _ _ hB h2 e.symm
 ·have old:∀{q b},ck hp j (some (.rows k rs' true full' e)) q=some b→∃b',hp q=some b'∧b'.own=b.own:=by
   intro q b hq
   by_cases hqj:q=j
   ·subst hqj;rw[dm]at hq;cases hq;exact⟨_,hj,rfl⟩
   ·rw[dR _ _ hqj]at hq;exact⟨b,hq,rfl⟩
  obtain⟨ba',ha',hoa⟩:=old ha
  obtain⟨bb',hb',_⟩:=old hb
  exact hs.sep a b ba' bb' ha' hb' hne (hoa.trans ho) x y hx hy
theorem WB{S:ct}{F:Nat→Prop}{hp:Nat→Option aA}(hT:fz P t ti)(hs:Sat S F hp c){j i off k:Nat}{rs:List PV}{f:Option Nat}{e:TypeId}(hj:hp j=some (.rows k rs true f e)){row:PV}(hr:PV.nth rs i=some row)
 {p:PV} {v:Value} (r:Rel p c v) (h1:Nat.beq p.cells.length ti.size=true) (h2:Nat.ble (off+ti.size) row.cells.length=true) (h3:PV.ke p.cells=true) {row':PV} (h4:Bo (nj row) row off p.cells=some row')
 {B n:Nat} (hB:c.hb j=some (B,n)):∃c',(storeVar t ⟨B,i*k+off,none⟩ v).run P c.w=.ok () c'.w∧Ext c c'∧Sat S F (ck hp j (some (.rows k (PV.c9 rs i row') true f e))) c'∧n=k:=by
 rcases hs.cD j _ hj with⟨hz,_,_⟩|⟨B',aB,vs,b1,b2,b3,b4,b5,b6,b7,b8,b9⟩
 ·rw[hz]at hr;cases hr
 rw[b1]at hB;cases hB
 have hsz:p.cells.length=ti.size:=aaE h1
 have hle:=aaG h2
 have hcells:=r.cells
 have hlen:v.cells.toList.length=ti.size:=by rw[hcells.length,hsz]
 obtain⟨u,hu,hru⟩:=b4.nth hr
 have huk:u.cells.toList.length=k:=by rw[aaK];exact b5 u (aau hu)
 have hrow:row.cells.length=k:=by rw[← hru.cells.length,huk]
 obtain⟨u',hcu',hcu⟩:=Tj hru hcells h3 (by omega) h4
 have hflat:=Gq v.cells.toList (v':=u') off b5 hu hcu (by omega)
 have hiv:i<vs.length:=(aaq.1 hu).1
 have hfl:i*k+off+v.cells.toList.length≤(flat vs).length:=by
  rw[f_ b5]
  have:=abx k (show i+1≤vs.length from hiv)
  rw[abL]at this;omega
 have harr:(flat vs).length≤aB.toList.length:=by
  rcases Nat.lt_or_ge aB.toList.length (flat vs).length with hlt|hge
  ·have:=b6 aB.toList.length _ (aay hlt)
   rw[← aaU,acT (aas _)]at this;cases this
  ·exact hge
 have hrun:=run_storeCells_at (P:=P) B (i*k+off) e v.cells.toList 0 aB c.w b3 (by rw[abM,← aaK];omega) (hcells.wD h3)
 rw[abM]at hrun
 generalize hnew:(aB.toList.take (i*k+off)++v.cells.toList++aB.toList.drop (i*k+off+v.cells.toList.length)).toArray=new at hrun
 have hns:new.size=aB.size:=by
  rw[← hnew,abv];simp only[aap,aax,aaO,aaK]at *;omega
 obtain⟨hext,hsat⟩:=wq hs (full':=f) hj b1 b3 hns (aC.c9 i b4 hcu') (fun x hx=>by
  rcases abr hx with h|rfl
  ·exact b5 x h
  ·rw[← aaK,hcu,aap,aap,aax,aaO];omega) (fun m x hm=>by
  rw[hflat,tU _ _ _ _ hfl]at hm
  rw[← hnew,acS,tU _ _ _ _ (by omega)]
  by_cases m1:m<i*k+off
  ·rw[abb m1]at hm⊢;rw[aaU];exact b6 m x hm
  ·rw[abg m1]at hm⊢
   by_cases m2:m<i*k+off+v.cells.toList.length
   ·rw[abb m2]at hm⊢;exact hm
   ·rw[abg m2]at hm⊢;rw[aaU];exact b6 m x hm) (fun n h=>by rw[hns];exact b9 n h)
 refine⟨⟨c.w.setRow B new,c.Z,c.hb⟩,?_,hext,hsat,rfl⟩
 show(storeVar t _ v).run P c.w=_
 unfold storeVar
 simp only[Sem.run_bind,hT.size,Result.andThen_ok]
 rw[← aaK,abg (by omega),hrun]
theorem zM{S:ct}{F:Nat→Prop}{hp:Nat→Option aA}(hs:Sat S F hp c){j k i:Nat}{rs:List PV}{wr:Bool}{f:Option Nat}{e:TypeId}(hj:hp j=some (.rows k rs wr f e)){row:PV}(hr:PV.nth rs i=some row){B n:Nat}(hB:c.hb j=some (B,n)):
 n=k∧∃u,Rel row c u∧u.cells.size=k∧∀m y,u.cells.toList[m]? = some y→c.w.cell? ⟨B,i*k+m,none⟩=some y:=by
 rcases hs.cD j _ hj with⟨hz,_,_⟩|⟨B',aB,vs,b1,b2,b3,b4,b5,b6,b7,b8,b9⟩
 ·rw[hz]at hr;cases hr
 rw[b1]at hB;cases hB
 obtain⟨u,hu,hru⟩:=b4.nth hr
 have huk:=b5 u (aau hu)
 refine⟨rfl,u,hru,huk,fun m y hm=>?_⟩
 have hlt:m<k:=by rw[← huk,← aaK];exact(aaq.1 hm).1
 rw[cell_of_row _ _ _ _ _ _ b3]
 exact b6 (i*k+m) y (by rw[wa b5 hu m hlt];exact hm)
end
def aA.span:aA→Nat
 |.rows k rs _ _ _=>rs.length*k
 |.map _ _ _=>1
def Sl(hp:Nat→Option aA)(c:RC)(l:List Nat)(b o:Nat):Prop:=
 c.Z b o∨∃j x n,j∈l∧hp j=some x∧c.hb j=some (b,n)∧o<x.span
def fK(hp:Nat→Option aA)(c:RC)(l:List Nat):RC:=⟨c.w,Sl hp c l,c.hb⟩
def RC.only(c:RC)(X:List Nat):RC:=⟨c.w,c.Z,fun j=>match cf j X with|true=>c.hb j|false=>none⟩
theorem RC.rq(c:RC):c.only []=c.pure:=rfl
theorem JU(c:RC)(X:List Nat):Ext (c.only X) c:=by
 refine⟨fun j x h=>?_,fun _ _ h=>h,fun _ _ _=>rfl,fun _ aB _ f h=>⟨aB,f,h,rfl⟩,fun _ _ _ _ h=>h⟩;unfold RC.only at h;dsimp only at h;split at h
 ·exact h
 ·cases h
theorem m_(hp:Nat→Option aA)(c:RC)(l:List Nat):Ext c (fK hp c l):=
 ⟨fun _ _ h=>h,fun _ _ h=>.inl h,fun _ _ _=>rfl,fun _ aB _ f h=>⟨aB,f,h,rfl⟩,fun _ _ _ _ h=>h⟩
theorem wT(hp:Nat→Option aA):∀{l:List Nat} {j:Nat},j∈l→dE hp l j=tQ (hp j)
 |i::l,j,h=>by
  unfold dE
  by_cases hij:j=i
  ·subst hij;exact dm _ _ _
  ·rw[dR _ _ hij]
   exact wT hp ((aaI.1 h).resolve_left hij)
theorem wO(hp:Nat→Option aA):∀{l:List Nat} {j:Nat},j∉l→dE hp l j=hp j
 | [],_,_=>rfl
 |i::l,j,h=>by
  unfold dE
  rw[dR _ _ (by rintro rfl;exact h aaA)]
  exact wO hp (fun e=>h (aaz _ e))
theorem Gg{b b':aA}(h:tQ (some b)=some b'):b'.own=false∧(b.own=false→b'=b):=by
 cases b with
 |rows k rs wr f e=>cases h;exact⟨rfl,fun h=>by cases wr with|false=>rfl|true=>cases h⟩
 |map ks vs wr=>cases h;exact⟨rfl,fun h=>by cases wr with|false=>rfl|true=>cases h⟩
theorem yK(hp:Nat→Option aA)(l:List Nat){j:Nat}{b:aA}(h:dE hp l j=some b):∃b',hp j=some b'∧((b=b'∧(b.own=true→j∉l))∨(j∈l∧b'.own=true∧tQ (some b')=some b)):=by
 by_cases hj:j∈l
 ·rw[wT hp hj]at h;cases e:hp j with
  |none=>rw[e]at h;cases h
  |some b'=>
   rw[e]at h;obtain⟨h1,h2⟩:=Gg h;cases ho:b'.own with
   |true=>exact⟨b',rfl,.inr ⟨hj,ho,h⟩⟩
   |false=>exact⟨b',rfl,.inl ⟨h2 ho,fun h3=>by rw[h1]at h3;cases h3⟩⟩
 ·rw[wO hp hj]at h;exact⟨b,h,.inl ⟨rfl,fun _=>hj⟩⟩
theorem Sat.dE{S:ct}{F:Nat→Prop}{hp:Nat→Option aA}{c:RC}(h:Sat S F hp c)(l:List Nat):Sat S F (dE hp l) (fK hp c l):=by
 have hx:=m_ hp c l;refine⟨h.keeps,h.base.trans hx,fun b o hb hl z=>?_,fun b o z=>?_,h.fresh,fun j b hj=>?_,fun i j bi bj hi hj hne ho x y hx hy=>?_,h.low,h.jw⟩
 ·rcases z with z|⟨j,x,n,_,h2,h3,_⟩
  ·exact h.gd b o hb hl z
  ·rcases((h.cD j _ h2).at h3).1 with h4|h4
   ·omega
   ·exact(hl h4).elim
 ·rcases z with z|⟨j,x,n,_,h2,h3,_⟩
  ·exact h.dG b o z
  ·exact((h.cD j _ h2).at h3).2.lt
 ·obtain⟨b',hpj,hcase⟩:=yK hp l hj;rcases hcase with⟨rfl,hown⟩|⟨hm,ho,hf⟩
  ·have hb:=h.cD j b hpj;have hnl:b.own=true→∀q x nq,q∈l→hp q=some x→∀B n,c.hb j=some (B,n)→c.hb q≠some (B,nq):=by
    intro ho q x nq hq hpq B n hB hB2;have hqj:q≠j:=by rintro rfl;exact hown ho hq
    exact h.sep j q b _ hpj hpq (fun e=>hqj e.symm) ho _ _ hB hB2 rfl
   cases b with
   |rows k rs wr f e'=>
    rcases hb with⟨h0,h1,h2⟩|⟨B,aB,vs,h1,h2,h3,h4,h5,h6,h7,h8,h9⟩
    ·exact .inl ⟨h0,h1,h2⟩
    refine .inr ⟨B,aB,vs,h1,h2,h3,aC.ext rs hx h4,h5,h6,fun hw o z=>?_,fun hw i hi=>.inl (h8 hw i hi),h9⟩;rcases z with z|⟨q,x,nq,g1,g2,g3,_⟩
    ·exact h7 hw o z
    ·exact hnl hw q x nq g1 g2 B k h1 g3
   |map ks ps wr=>
    obtain⟨B,es,cl,h1,h2,h3,h4,h5,h6,h7,h8⟩:=hb;refine⟨B,es,cl,h1,h2,h3,h4,aC.ext ps hx h5,fun hw o z=>?_,fun hw=>.inl (h7 hw),h8⟩;rcases z with z|⟨q,x,nq,g1,g2,g3,_⟩
    ·exact h6 hw o z
    ·exact hnl hw q x nq g1 g2 B 0 h1 g3
  ·have hb:=h.cD j b' hpj;cases b' with
   |rows k rs wr f e'=>
    cases hf;rcases hb with⟨h0,h1,h2⟩|⟨B,aB,vs,h1,h2,h3,h4,h5,h6,h7,h8,h9⟩
    ·exact .inl ⟨h0,h1,h2⟩
    refine .inr ⟨B,aB,vs,h1,h2,h3,aC.ext rs hx h4,h5,h6,(fun h=>by cases h),fun _ i hi=>.inr ⟨j,_,k,hm,hpj,h1,?_⟩,h9⟩;rw[f_ h5,h4.length]at hi;exact hi
   |map ks ps wr=>
    cases hf;obtain⟨B,es,cl,h1,h2,h3,h4,h5,h6,h7,h8⟩:=hb;exact⟨B,es,cl,h1,h2,h3,h4,aC.ext ps hx h5,(fun h=>by cases h),fun _=>.inr ⟨j,_,0,hm,hpj,h1,Nat.one_pos⟩,h8⟩
 ·obtain⟨bi',h1,hi'⟩:=yK hp l hi;obtain⟨bj',h3,_⟩:=yK hp l hj;refine h.sep i j bi' bj' h1 h3 hne ?_ x y hx hy;rcases hi' with⟨rfl,_⟩|⟨_,_,hf⟩
  ·exact ho
  ·rw[(Gg hf).1]at ho;cases ho
theorem BT{k:Nat}:∀{vs:List Value} (lo len:Nat) (_:∀x∈vs,x.cells.size=k) {i:Nat} {x:Value},(flat ((vs.drop lo).take len))[i]? = some x→(flat vs)[lo*k+i]? = some x
 |vs,lo,0,_,i,x,h=>by simp[flat]at h
 | [],lo,len+1,_,i,x,h=>by simp[flat]at h
 |v::vs,0,len+1,hk,i,x,h=>by
  have hv:=hk v aaA
  simp only[acO,abV,gV]at h
  rw[gV,abI,aav]
  by_cases hi:i<v.cells.toList.length
  ·rw[abt hi]at h⊢;exact h
  ·rw[abf (by omega)]at h⊢
   have:=BT (vs:=vs) 0 len (fun x hx=>hk x (aaz _ hx)) (by simpa using h)
   simpa using this
 |v::vs,lo+1,len+1,hk,i,x,h=>by
  have hv:=hk v aaA
  rw[ady]at h
  have:=BT (vs:=vs) lo (len+1) (fun x hx=>hk x (aaz _ hx)) h
  rw[gV,abf (by rw[aaK,hv,abL];omega),aaK,hv,show(lo+1)*k+i-k=lo*k+i by rw[abL];omega]
  exact this
theorem iB.NU{w:World}{Z:Nat→Nat→Prop}{cl:Bool}{v:Value}{vs:List Value}(h:iB w Z cl v vs):iB w Z false v vs:=by
 obtain⟨a,cap,h1,h2,_,h4⟩:=h;exact⟨a,cap,h1,h2,(fun e=>by cases e),h4⟩
theorem yt{l m:List Nat}{j:Nat}(h:∀q∈j::l,q∈m):∀q∈l,q∈m:=fun q hq=>h q (aaz _ hq)
theorem xK{α:Type}:∀{l:List α} {i:Nat} {x:α},PV.nth l i=some x→i<l.length
 |_::_,0,_,_=>Nat.succ_pos _
 |_::l,_+1,_,h=>ada (xK (l:=l) h)
mutual
theorem w_{S:ct}{F:Nat→Prop}{hp:Nat→Option aA}{c:RC}(hs:Sat S F hp c)(m:List Nat):∀(n:Nat) {X:List Nat} {p r:PV} {l:List Nat} {v:Value},br X n hp p=some (r,l)→(∀q∈l,q∈m)→Rel p c v→Rel r ((fK hp c m).only X) v
 |0,_,_,_,_,_,h,_,_=>by cases h
 |n+1,X,p,r,l,v,h,hm,hr=>by
  have hx:Ext c (fK hp c m):=m_ hp c m
  have hX:∀j,cf j X=true→((fK hp c m).only X).hb j=c.hb j:=fun j hj=>by
   show(match cf j X with|true=>c.hb j|false=>none)=_
   rw[hj]
  cases p with
  |any=>cases h;exact hr
  |agg cs=>
   unfold br at h;dsimp only at h
   split at h
   ·rename_i cs' l' e
    cases h
    obtain⟨vs,e1,hr⟩:=hr
    exact⟨vs,e1,jA hs m n e hm hr⟩
   ·cases h
  |sl b rows=>cases h;obtain⟨vs,r1,r2⟩:=hr;exact⟨vs,aC.ext rows hx.pure r1,(r2.ext hx).NU⟩
  |lp j i off=>
   unfold br at h;dsimp only at h
   cases hj:cf j X with
   |true=>
    rw[hj]at h;cases h
    obtain⟨B,k',hB,hv⟩:=hr
    exact⟨B,k',(hX j hj).trans hB,hv⟩
   |false=>rw[hj]at h;dsimp only at h;exact Gb hs m n h hm hr
  |le j i off=>
   unfold br at h;dsimp only at h
   cases hj:cf j X with
   |true=>
    rw[hj]at h;cases h
    obtain⟨B,k',hB,hv⟩:=hr
    exact⟨B,k',(hX j hj).trans hB,hv⟩
   |false=>rw[hj]at h;dsimp only at h;exact Gb hs m n h hm hr
  |eD j lo=>
   unfold br at h;dsimp only at h
   obtain⟨B,k,cap,aB,e,f,h1,h2,h3,h4,h5⟩:=hr
   cases hj:cf j X with
   |true=>
    rw[hj]at h;cases h
    exact⟨B,k,cap,aB,e,f,(hX j hj).trans h1,h2,h3,h4,h5⟩
   |false=>
    rw[hj]at h;cases h
    exact⟨[],rfl,_,cap,h2,aaF _,(fun e=>by cases e),.inl rfl⟩
  |aH j lo len=>
   unfold br at h;dsimp only at h
   cases hj:cf j X with
   |true=>
    rw[hj]at h;cases h
    rcases hr with hr|⟨B,k,cap,aB,e,f,h1,h2,h3,h3',h4,h5⟩
    ·exact .inl hr
    ·exact .inr ⟨B,k,cap,aB,e,f,(hX j hj).trans h1,h2,h3,h3',h4,h5⟩
   |false=>
   rw[hj]at h;dsimp only at h
   split at h
   ·rename_i k rs wr f e hj
    split at h
    ·rename_i rs' l' hle e2
     cases h
     have hle':=aaG hle
     rcases hr with⟨h0,a,hv⟩|⟨B,k',cap,arr0,e0,f0,hB,hv,hcap,_⟩
     ·subst h0
      have e3:PV.sub rs lo 0=[]:=by cases rs<;>rfl
      rw[e3]at e2
      have e4:rs'=[]:=by cases n<;>cases e2<;>rfl
      subst e4
      exact⟨[],rfl,a,0,hv,aas _,(fun e=>by cases e),.inl rfl⟩
     rcases hs.cD j _ hj with⟨_,_,hz⟩|⟨B',aB,vs,b1,b2,b3,b4,b5,b6,_⟩
     ·rw[hz]at hB;cases hB
     rw[b1]at hB;cases hB
     have hsub:=aC.sub lo len b4 hle'
     have hlen:((vs.drop lo).take len).length=len:=by rw[aax,aaO];have:=b4.length;omega
     refine⟨(vs.drop lo).take len,jA (X:=[]) hs m n e2 (yt hm) hsub,some ⟨B,lo*k,none⟩,cap,by rw[hlen];exact hv,by rw[hlen];exact hcap,(fun e=>by cases e),.inr ⟨B,lo*k,k,rfl,fun x hx=>b5 x (aby (aaV hx)),fun q x hq=>?_⟩⟩
     have hf:=BT lo len b5 hq
     have hlt:lo*k+q<(flat vs).length:=(aaq.1 hf).1
     refine⟨.inr ⟨j,_,k,hm j aaA,hj,b1,by rw[f_ b5,b4.length]at hlt;exact hlt⟩,?_⟩
     have:=b6 _ x hf
     show c.w.cell? _=_
     rw[cell_of_row _ _ _ _ _ _ b3];exact this
    ·cases h
   ·cases h
  |ip cs off=>
   cases h
   obtain⟨b,base,vs,e,r1,hc⟩:=hr
   exact⟨b,base,vs,e,aC.ext cs hx.pure r1,fun i x hi=>⟨.inl (hc i x hi).1,(hc i x hi).2⟩⟩
  |fn f fe=>
   unfold br at h;dsimp only at h
   split at h
   ·rename_i cs' l' e
    cases h
    obtain⟨vs,e1,hr⟩:=hr
    exact⟨vs,e1,jA hs m n e hm hr⟩
   ·cases h
  |dq t q=>
   unfold br at h;dsimp only at h
   split at h
   ·rename_i q' l' e
    cases h
    obtain⟨x,e1,hr⟩:=hr
    exact⟨x,e1,w_ hs m n e hm hr⟩
   ·cases h
  |mv f q=>
   unfold br at h;dsimp only at h
   split at h
   ·rename_i q' l' e
    cases h
    obtain⟨x,e1,hr⟩:=hr
    exact⟨x,e1,w_ hs m n e hm hr⟩
   ·cases h
  |aK ps=>
   unfold br at h;dsimp only at h
   split at h
   ·rename_i cs' l' e
    cases h
    obtain⟨vs,e1,hr⟩:=hr
    exact⟨vs,e1,jA hs m n e hm hr⟩
   ·cases h
  |mp ks ps=>
   cases h
   obtain⟨rr,es,cl,e,hz,h1,hm,h2,r⟩:=hr
   exact⟨rr,es,cl,e,.inl hz,h1,hm,h2,aC.ext ps hx.pure r⟩
  |fy j=>
   unfold br at h;dsimp only at h
   cases hj:cf j X with
   |true=>
    rw[hj]at h;cases h
    obtain⟨B,k',hB,hv⟩:=hr
    exact⟨B,k',(hX j hj).trans hB,hv⟩
   |false=>
   rw[hj]at h;dsimp only at h
   split at h
   ·rename_i ks ps wr hj
    split at h
    ·rename_i rs' l' e2
     cases h
     obtain⟨B,k',hB,hv⟩:=hr
     obtain⟨B',es,cl,h1,h2,h3,h4,h5,_,_,hmk⟩:=hs.cD j _ hj
     rw[h1]at hB;cases hB
     exact⟨B,es,cl,hv,.inr ⟨j,_,0,hm j aaA,hj,h1,Nat.one_pos⟩,h3,hmk,h4,jA (X:=[]) hs m n e2 (yt hm) h5⟩
    ·cases h
   ·cases h
  |_=>cases h;exact hr
theorem Gb{S:ct}{F:Nat→Prop}{hp:Nat→Option aA}{c:RC}(hs:Sat S F hp c)(m:List Nat):∀(n:Nat) {X:List Nat} {j i off:Nat} {r:PV} {l:List Nat} {v:Value},(match hp j with
 |some (.rows _ rs _ _ _)=>match PV.nth rs i with
  |some row=>match br [] n hp row with|some (r,l)=>some (PV.ip r.cells off,j::l)|none=>none
  |none=>none
 |_=>none)=some (r,l)→(∀q∈l,q∈m)→(∃B k,c.hb j=some (B,k)∧v=.pointer (some ⟨B,i*k+off,none⟩))→Rel r ((fK hp c m).only X) v
 |n,X,j,i,off,r,l,v,h,hm,hr=>by
  split at h
  ·rename_i k rs wr f e hj
   split at h
   ·rename_i row hrow
    split at h
    ·rename_i r' l' e2
     cases h
     obtain⟨B,k',hB,hv⟩:=hr
     obtain⟨rfl,u,hru,huk,hc⟩:=zM hs hj hrow hB
     have hrr:=w_ (X:=[]) hs m n e2 (yt hm) hru
     refine⟨B,i*k',u.cells.toList,hv,hrr.cells,fun q x hq=>⟨.inr ⟨j,_,k',hm j aaA,hj,hB,?_⟩,hc q x hq⟩⟩
     have hlt:q<k':=by rw[← huk,← aaK];exact(aaq.1 hq).1
     have hiv:i<rs.length:=xK hrow
     have:=abx k' (show i+1≤rs.length from hiv)
     rw[abL]at this
     show i*k'+q<rs.length*k'
     omega
    ·cases h
   ·cases h
  ·cases h
theorem jA{S:ct}{F:Nat→Prop}{hp:Nat→Option aA}{c:RC}(hs:Sat S F hp c)(m:List Nat):∀(n:Nat) {X:List Nat} {ps rs:List PV} {l:List Nat} {vs:List Value},cY X n hp ps=some (rs,l)→(∀q∈l,q∈m)→aC ps c vs→aC rs ((fK hp c m).only X) vs
 |0,_,_,_,_,_,h,_,_=>by cases h
 |n+1,_,[],rs,l,vs,h,_,hr=>by cases h;exact hr
 |n+1,_,p::ps,rs,l,vs,h,hm,hr=>by
  unfold cY at h
  split at h
  ·rename_i r l1 rs' l2 e1 e2
   cases h
   obtain⟨v,vs',rfl,r1,r2⟩:=hr
   exact⟨v,vs',rfl,w_ hs m n e1 (fun q hq=>hm q (abR _ hq)) r1,jA hs m n e2 (fun q hq=>hm q (acr _ hq)) r2⟩
  ·cases h
end
theorem pI(hp:Nat→Option aA):∀l,dh hp (jt hp l)=dE hp l
 | []=>rfl
 |j::l=>by
  show ck (dh hp (jt hp l)) j _=ck (dE hp l) j _
  rw[pI hp l]
end
section
open Go.RowKit PV
def bT(b:Bool):Tr:=.ok (.at (.bool b)) []
def iT(k:IntKind)(x:Int):Tr:=.int x fun y=>.ok (.at (.int k y)) []
def pB(op:BinOp)(b:Bool):Tr:=
 match op with
 |.eql=>.bool b bT
 |.neq=>.bool b fun y=>bT (!y)
 |_=>.bad
def sq(op:BinOp)(k:IntKind)(a b:Int):Tr:=
 match op with
 |.shl=>.dO (0≤b) inferInstance (iT k (k.wrap (a*2^(min b.toNat k.bits))))
 |.shr=>.dO (0≤b) inferInstance (iT k (a.fdiv (2^(min b.toNat k.bits))))
 |_=>.bad
def E3(op:BinOp)(k:IntKind)(a b:Int):Tr:=
 match op with
 |.eql=>.bool (decide (a=b)) bT
 |.neq=>.bool (decide (a=b)) fun y=>bT (!y)
 |.lss=>.bool (decide (a<b)) bT
 |.leq=>.bool (decide (a≤b)) bT
 |.gtr=>.bool (decide (b<a)) bT
 |.geq=>.bool (decide (b≤a)) bT
 |.add=>iT k (k.wrap (a+b))
 |.sub=>iT k (k.wrap (a-b))
 |.mul=>iT k (k.wrap (a*b))
 |.quo=>.dO (b≠0) inferInstance (iT k (k.wrap (a.tdiv b)))
 |.rem=>.dO (b≠0) inferInstance (iT k (a.tmod b))
 |.shr=>match decide (b=1)with
  |true=>.dO (b=1) inferInstance (iT k (a.fdiv 2))
  |false=>sq .shr k a b
 |.shl=>sq .shl k a b
 |.and=>iT k (k.wrap ((BitVec.ofInt k.bits a &&& BitVec.ofInt k.bits b).toNat:Int))
 |.xor=>iT k (k.wrap ((BitVec.ofInt k.bits a ^^^ BitVec.ofInt k.bits b).toNat:Int))
 |_=>.bad
def seq(a b:ByteArray):Bool:=a.data.toList==b.data.toList
def dL(a b:ByteArray):Bool:=Op.bytesLess a.data.toList b.data.toList
def W4(op:BinOp)(a b:ByteArray):Tr:=
 match op with
 |.add=>.dO (a.size+b.size≤9223372036854775807) inferInstance (.ok (.at (.string (a++b))) [])
 |.eql=>.bool (seq a b) bT
 |.neq=>.bool (seq a b) fun y=>bT (!y)
 |.lss=>.bool (dL a b) bT
 |.leq=>.bool (dL a b||seq a b) bT
 |.gtr=>.bool (dL a b||seq a b) fun y=>bT (!y)
 |.geq=>.bool (dL a b) fun y=>bT (!y)
 |_=>.bad
def jf(lo hi:Bool)(n:Nat)(vs:List PV)(K:Nat→Nat→Tr):Tr:=
 match lo,hi,vs with
 |false,false,[]=>K 0 n
 |true,false,[.at (.int _ a)]=>.dO (0≤a∧a≤n) inferInstance (K a.toNat n)
 |false,true,[.at (.int _ b)]=>.dO (0≤b∧b≤n) inferInstance (K 0 b.toNat)
 |true,true,[.at (.int _ a),.at (.int _ b)]=>.dO (0≤a∧a≤b∧b≤n) inferInstance (K a.toNat b.toNat)
 |_,_,_=>.bad
def u7(T:TT):Kd→Nat→Option (Nat×Nat)
 |.struct fs,i=>match nth fs i with
  |some (o,e)=>match T e with|some te=>some (o,te.size)|none=>none
  |none=>none
 |.aB _ e,i=>match T e with|some te=>some (i*te.size,te.size)|none=>none
 |_,_=>none
def IZ(T:TT):Kd→Bool
 |.struct _=>true
 |.aB _ e=>match T e with|some _=>true|none=>false
 |_=>false
def qh(pl:Nat→Option (Nat×Nat))(cells:List PV):List Nat→List PV→Option (List PV)
 | [],[]=>some cells
 |i::is,v::vs=>match pl i with
  |some (o,sz)=>match Nat.beq v.cells.length sz,Nat.ble (o+v.cells.length) cells.length with
   |true,true=>qh pl (put cells o v.cells) is vs
   |_,_=>none
  |none=>none
 |_,_=>none
def vk(k:Nat):List PV→Bool
 | []=>true
 |v::vs=>match Nat.beq v.cells.length k with|true=>vk k vs|false=>false
def xz:Nat→List Nat→Bool
 |_,[]=>true
 |k,i::is=>match Nat.beq i k with|true=>xz (k+1) is|false=>false
abbrev pq(rows:List PV)(k:Nat):Prop:=∀r∈rows,r.cells.length=k
abbrev lj(rows:List PV)(k:Nat):Prop:=∀r∈rows,r.cells.length=k∧ke r.cells=true
structure mj(rows ys:List PV)(k:Nat):Prop where
 n:rows.length+ys.length≤67108864
 rows:pq rows k
 ys:lj ys k
def fS:Value→Value→Option Bool
 |.int k a,.int k' b=>match decide (k=k')with|true=>some (decide (a=b))|false=>none
 |.string a,.string b=>some (seq a b)
 |.bool a,.bool b=>some (a==b)
 |_,_=>none
mutual
def mP(T:TT):Nat→TypeId→List PV→List PV→Option Bool
 |0,_,_,_=>none
 |n+1,t,xs,ys=>match T t with
  |some ti=>match ti.AE,ti.kd with
   |true,.int _=>match xs,ys with | [.at (.int k a)],[.at (.int k' b)]=>fS (.int k a) (.int k' b)|_,_=>none
   |true,.str=>match xs,ys with | [.at (.string a)],[.at (.string b)]=>some (seq a b)|_,_=>none
   |true,.bool=>match xs,ys with | [.at (.bool a)],[.at (.bool b)]=>some (a==b)|_,_=>none
   |true,.struct fs=>qZ T n fs xs ys
   |true,.aB m e=>match T e with|some te=>rm T n e te.size m 0 xs ys|none=>none
   |_,_=>none
  |none=>none
def qZ(T:TT):Nat→List (Nat×TypeId)→List PV→List PV→Option Bool
 |0,_,_,_=>none
 |_+1,[],_,_=>some true
 |n+1,(o,e)::fs,xs,ys=>match T e with
  |some te=>match Nat.ble (o+te.size) xs.length,Nat.ble (o+te.size) ys.length with
   |true,true=>match mP T n e (sub xs o te.size) (sub ys o te.size),qZ T n fs xs ys with
    |some a,some b=>some (a&&b)
    |_,_=>none
   |_,_=>none
  |none=>none
def rm(T:TT):Nat→TypeId→Nat→Nat→Nat→List PV→List PV→Option Bool
 |0,_,_,_,_,_,_=>none
 |_+1,_,_,0,_,_,_=>some true
 |n+1,e,sz,m+1,o,xs,ys=>match Nat.ble (o+sz) xs.length,Nat.ble (o+sz) ys.length with
   |true,true=>match mP T n e (sub xs o sz) (sub ys o sz),rm T n e sz m (o+sz) xs ys with
    |some a,some b=>some (a&&b)
    |_,_=>none
   |_,_=>none
end
def lr:List Value→List PV→Value→Option PV
 |k::ks,v::vs,x=>match fS x k with|some true=>some v|_=>lr ks vs x
 |_,_,_=>none
def kL:List Value→Value→List Value
 | [],x=>[x]
 |k::ks,x=>match fS x k with|some true=>x::ks|_=>k::kL ks x
def me:List Value→List PV→Value→PV→List PV
 |k::ks,v::vs,x,p=>match fS x k with|some true=>p::vs|_=>v::me ks vs x p
 |_,_,_,p=>[p]
abbrev ql(ks:List Value)(x:Value):Prop:=∀k∈ks,fS x k≠none
def xy:List PV→(List PV→Tr)→Tr
 | [],k=>k []
 |p::l,k=>xy l fun l=>k (p::l)
theorem zH:∀(l:List PV) (k:List PV→Tr),xy l k=k l
 | [],_=>rfl
 |p::l,k=>zH l fun l=>k (p::l)
def yH(ag:Bool)(cs:List PV)(K:PV→Tr):Tr:=match ag with
 |true=>xy cs fun cs=>K (.agg cs)
 |false=>match cs with | [c]=>K c|_=>.bad
theorem Hj(ag:Bool)(cs:List PV)(K:PV→Tr):yH ag cs K=match gC ag cs with|some v=>K v|none=>.bad:=by
 cases ag with
 |true=>exact zH cs _
 |false=>match cs with
  | []=>rfl
  | [_]=>rfl
  |_::_::_=>rfl
def loadT(b ag:Bool)(cs:List PV):Tr:=match b with
 |true=>yH ag cs fun v=>.ok v []
 |false=>.bad
theorem E5(b ag:Bool)(cs:List PV):loadT b ag cs=match b,gC ag cs with|true,some v=>.ok v []|_,_=>.bad:=by
 cases b with
 |false=>rfl
 |true=>unfold loadT;dsimp only;rw[Hj];cases gC ag cs<;>rfl
def qY:List PV→Nat→List PV→(List PV→Tr)→Tr
 |l,_,[],K=>K l
 |l,o,v::vs,K=>xy (c9 l o v) fun l=>qY l (o+1) vs K
theorem wW:∀(vs l:List PV) (o:Nat) (K:List PV→Tr),qY l o vs K=K (put l o vs)
 | [],_,_,_=>rfl
 |v::vs,l,o,K=>by
  unfold qY
  rw[zH,wW vs]
  rfl
def Cg(l:List PV)(off:Nat)(cs:List PV)(K:List PV→Tr):Tr:=match off with
 |0=>(match Nat.beq cs.length l.length with|true=>K cs|false=>qY l 0 cs K)
 |n+1=>qY l (n+1) cs K
theorem Va(l:List PV)(off:Nat)(cs:List PV)(K:List PV→Tr):Cg l off cs K=K (pQ l off cs):=by
 cases off with
 |zero=>
  unfold Cg pQ;dsimp only;cases Nat.beq cs.length l.length with
  |true=>rfl
  |false=>exact wW cs l 0 K
 |succ n=>exact wW cs l (n+1) K
def BU(a b c ag:Bool)(l:List PV)(off:Nat)(cs:List PV)(K:PV→Tr):Tr:=match a,b,c with
 |true,true,true=>Cg l off cs fun cs=>yH ag cs K
 |_,_,_=>.bad
theorem OM(a b c ag:Bool)(l:List PV)(off:Nat)(cs:List PV)(K:PV→Tr):BU a b c ag l off cs K=match a,b,c,gC ag (pQ l off cs)with|true,true,true,some r=>K r|_,_,_,_=>.bad:=by
 cases a<;>cases b<;>cases c<;>try rfl
 unfold BU;dsimp only;rw[Va,Hj];cases gC ag (pQ l off cs)<;>rfl
def wB(pl:Nat→Option (Nat×Nat)):List PV→List Nat→List PV→(List PV→Tr)→Tr
 |cells,[],[],K=>K cells
 |cells,i::is,v::vs,K=>match pl i with
  |some (o,sz)=>match Nat.beq v.cells.length sz,Nat.ble (o+v.cells.length) cells.length with
   |true,true=>qY cells o v.cells fun cells=>wB pl cells is vs K
   |_,_=>.bad
  |none=>.bad
 |_,_,_,_=>.bad
theorem Ht(pl:Nat→Option (Nat×Nat))(K:List PV→Tr):∀(is:List Nat) (vs cells:List PV),wB pl cells is vs K=match qh pl cells is vs with|some cs=>K cs|none=>.bad
 | [],[],_=>rfl
 | [],_::_,_=>rfl
 |_::_,[],_=>rfl
 |i::is,v::vs,cells=>by
  unfold wB qh
  cases pl i with
  |none=>rfl
  |some x=>
   obtain⟨o,sz⟩:=x
   dsimp only
   cases Nat.beq v.cells.length sz<;>cases Nat.ble (o+v.cells.length) cells.length<;>try rfl
   dsimp only
   rw[wW]
   exact Ht pl K is vs _
def Bd(ok:Bool)(pl:Nat→Option (Nat×Nat))(cells:List PV)(is:List Nat)(vs:List PV):Tr:=match ok with
 |true=>wB pl cells is vs fun cs=>.ok (.agg cs) []
 |false=>.bad
theorem Rt(ok:Bool)(pl:Nat→Option (Nat×Nat))(cells:List PV)(is:List Nat)(vs:List PV):Bd ok pl cells is vs=match ok,qh pl cells is vs with|true,some cs=>.ok (.agg cs) []|_,_=>.bad:=by
 cases ok with
 |false=>rfl
 |true=>
  unfold Bd;dsimp only;rw[Ht];cases qh pl cells is vs<;>rfl
def rS(T:TT)(t:TypeId)(vs:List PV):Tr:=
 match T t,vs with
 |some ti,[.lp j i off]=>.rd j fun b=>match b with
  |some (.rows _ rs _ _ _)=>match nth rs i with
   |some row=>loadT (Nat.ble (off+ti.size) row.cells.length) ti.ag (tF row.cells off ti.size)
   |none=>.bad
  |_=>.bad
 |some ti,[.le j i off]=>.rd j fun b=>match b with
  |some (.rows _ rs _ _ _)=>.row rs i fun row=>loadT (Nat.ble (off+ti.size) row.cells.length) ti.ag (tF row.cells off ti.size)
  |_=>.bad
 |some ti,[.ip cs off]=>loadT (Nat.ble (off+ti.size) cs.length) ti.ag (tF cs off ti.size)
 |_,_=>.bad
def vX(ti:TI)(j:Nat)(k i off:Nat)(rs:List PV)(f:Option Nat)(e:TypeId)(row v:PV):Tr:=
 BU (Nat.beq v.cells.length ti.size) (Nat.ble (off+ti.size) row.cells.length) (ke v.cells) (nj row) row.cells off v.cells fun row'=>.ok (.aK []) [(j,some (.rows k (c9 rs i row') true f e))]
def Ah(T:TT)(t:TypeId)(vs:List PV):Tr:=
 match T t,vs with
 |some ti,[.lp j i off,v]=>.rd j fun b=>match b with
  |some (.rows k rs true f e)=>match nth rs i with
   |some row=>vX ti j k i off rs f e row v
   |none=>.bad
  |_=>.bad
 |some ti,[.le j i off,v]=>.rd j fun b=>match b with
  |some (.rows k rs true f e)=>.row rs i fun row=>vX ti j k i off rs f e row v
  |_=>.bad
 |_,_=>.bad
def Aj(T:TT)(t:TypeId)(f:Nat)(vs:List PV):Tr:=
 match T t,vs with
 |some ⟨_,_,_,.struct fs,_⟩,[p]=>match nth fs f with
  |some (o,_)=>match p with
   |.lp j i off=>.ok (.lp j i (off+o)) []
   |.le j i off=>.ok (.le j i (off+o)) []
   |.ip cs off=>.ok (.ip cs (off+o)) []
   |_=>.bad
  |none=>.bad
 |_,_=>.bad
def yC(T:TT)(t:TypeId)(vs:List PV):Tr:=
 match T t,vs with
 |some ⟨_,_,_,.aB n e,_⟩,[p,.at (.int _ q)]=>match T e with
  |some te=>.dO (0≤q∧q<n) inferInstance (match p with
   |.lp j i off=>.ok (.lp j i (off+q.toNat*te.size)) []
   |.le j i off=>.ok (.le j i (off+q.toNat*te.size)) []
   |.ip cs off=>.ok (.ip cs (off+q.toNat*te.size)) []
   |_=>.bad)
  |none=>.bad
 |some ⟨_,_,_,.sl e,_⟩,[p,.at (.int _ q)]=>match T e with
  |some te=>match p with
   |.sl _ rows=>.row rows q fun row=>match Nat.beq row.cells.length te.size with|true=>.ok (.ip row.cells 0) []|false=>.bad
   |.aH j lo len=>.dO (0≤q∧q<len) inferInstance (.rd j fun b=>match b with
    |some (.rows k _ _ _ _)=>match Nat.beq k te.size with|true=>.ok (.le j (lo+q.toNat) 0) []|false=>.bad
    |_=>.bad)
   |_=>.bad
  |none=>.bad
 |_,_=>.bad
def Af(T:TT)(t:TypeId)(vs:List PV):Tr:=
 match T t,vs with
 |some ⟨_,_,_,.aB n e,_⟩,[.agg xs,.at (.int _ q)]=>match T e with
  |some te=>.dO (0≤q∧q<n) inferInstance (match Nat.ble (q.toNat*te.size+te.size) xs.length,gC te.ag (sub xs (q.toNat*te.size) te.size)with
   |true,some v=>.ok v []
   |_,_=>.bad)
  |none=>.bad
 |some ⟨_,_,_,.str,_⟩,[.at (.string s),.at (.int _ q)]=>.dO (0≤q∧q<s.size) inferInstance (iT .u8 (s.data.toList.getD q.toNat 0).toNat)
 |_,_=>.bad
def AU(T:TT)(t:TypeId)(f:Nat)(vs:List PV):Tr:=
 match T t,vs with
 |some ⟨_,_,_,.struct fs,_⟩,[.agg xs]=>match nth fs f with
  |some (o,e)=>match T e with
   |some te=>match Nat.ble (o+te.size) xs.length,gC te.ag (sub xs o te.size)with
    |true,some v=>.ok v []
    |_,_=>.bad
   |none=>.bad
  |none=>.bad
 |_,_=>.bad
def yI(T:TT)(n:Nat)(e:TypeId)(lo hi mx:Bool)(vs:List PV):Tr:=
 match lo,hi,mx,vs,T e with
 |false,false,false,[p],some ⟨1,false,_,_,_⟩=>.br [p] fun rs d=>match rs with
  | [.ip cs 0]=>match Nat.beq cs.length n,PV.ke cs with
   |true,true=>.ok (.sl false cs) d
   |_,_=>.bad
  |_=>.bad
 |_,_,_,_,_=>.bad
def vU:List PV→Option (List Int)
 | []=>some []
 |.at (.int .u8 n)::l=>match vU l with|some r=>some (n::r)|none=>none
 |_::_=>none
def bytesOf(l:List Int):ByteArray:=⟨(l.map fun n=>UInt8.ofNat n.toNat).toArray⟩
def zD(T:TT)(e:TypeId)(p:PV):Tr:=match T e with
 |some ⟨_,_,_,.int .u8,_⟩=>.br [p] fun rs d=>match rs with
  | [.sl _ (r::rows)]=>match vU (r::rows)with
   |some l=>.ok (.at (.string (bytesOf l))) d
   |none=>.bad
  |_=>.bad
 |_=>.bad
def yG(T:TT)(t:TypeId)(lo hi mx:Bool)(vs:List PV):Tr:=
 match mx,T t,vs with
 |false,some ⟨_,_,_,.str,_⟩,.at (.string s)::vs=>jf lo hi s.size vs fun l h=>.ok (.at (.string (s.extract l h))) []
 |false,some ⟨_,_,_,.sl e,_⟩,p::vs=>match T e with
  |some te=>match p with
   |.sl _ rows=>.il (pq rows te.size) (jf lo hi rows.length vs fun l h=>.ok (.sl false ((rows.drop l).take (h-l))) [])
   |.aH j o len=>.rd j fun b=>match b with
    |some (.rows k _ _ (some n) _)=>match Nat.beq k te.size,hi,Nat.ble 1 te.size with
     |true,true,true=>.dO (0<len) inferInstance (jf lo true (n-o) vs fun l h=>.ok (.aH j (o+l) (h-l)) [])
     |true,false,true=>jf lo false len vs fun l h=>.ok (.aH j (o+l) (h-l)) []
     |_,_,_=>.bad
    |some (.rows k rs _ none _)=>match Nat.beq k te.size,lo,hi with
     |true,true,true=>.lu (jf true true len vs fun l h=>.ok (.aH j (o+l) (h-l)) []) (.dO (0<len∧0<te.size) inferInstance (jf true true (rs.length-o) vs fun l h=>.ok (.aH j (o+l) (h-l)) []))
     |true,true,false=>jf true false len vs fun l h=>.ok (.aH j (o+l) (h-l)) []
     |true,false,hi=>jf false hi len vs fun _ h=>.lu (.ok (.aH j o h) []) (.dO (h=0∧0<len) inferInstance (.ok (.eD j o) []))
     |false,_,_=>.bad
    |_=>.bad
   |.eD j o=>.rd j fun b=>match b with
    |some (.rows k rs _ none _)=>match Nat.beq k te.size,hi with
     |true,true=>.dO (0<te.size) inferInstance (jf lo true (rs.length-o) vs fun l h=>.ok (.aH j (o+l) (h-l)) [])
     |_,_=>.bad
    |_=>.bad
   |_=>.bad
  |none=>.bad
 |true,some ⟨_,_,_,.sl e,_⟩,[p,.at (.int _ h),.at (.int _ m)]=>match lo,hi,T e,p with
  |false,true,some te,.sl _ rows=>.il (pq rows te.size) (.dO (0≤h∧h=m∧m≤rows.length) inferInstance (.ok (.sl true (rows.take h.toNat)) []))
  |_,_,_,_=>.bad
 |true,some ⟨_,_,_,.sl e,_⟩,[.aH _ _ len,.at (.int _ a),.at (.int _ h),.at (.int _ m)]=>match lo,hi,T e with
  |true,true,some _=>.dO (0≤a∧a≤h∧h≤m∧m≤len) inferInstance (.ok .any [])
  |_,_,_=>.bad
 |_,_,_=>.bad
def BM(T:TT)(op:BinOp)(t:TypeId)(y:Operand)(vs:List PV):Tr:=
 match vs with
 | [.at (.int k a),.at (.int k' b)]=>match decide (k=k')with
  |true=>E3 op k a b
  |false=>sq op k a b
 | [.at (.string a),.at (.string b)]=>W4 op a b
 | [.at (.bool a),.at (.bool b)]=>match T t with
  |some ⟨_,_,_,.bool,_⟩=>pB op (a==b)
  |_=>.bad
 | [.fn _ _,.at .nilFunc]=>match T t with
  |some ⟨_,_,_,.func,_⟩=>pB op false
  |_=>.bad
 | [.at .nilFunc,.at .nilFunc]=>match T t with
  |some ⟨_,_,_,.func,_⟩=>pB op true
  |_=>.bad
 | [.agg xs,.agg ys]=>match T t with
  |some ⟨_,true,_,_,_⟩=>match mP T 100 t xs ys with
   |some b=>pB op b
   |none=>.bad
  |_=>.bad
 | [.sl _ rows,_]=>match T t,y with
  |some ⟨_,_,_,.sl _,_⟩,.const (.slice none 0 0)=>.mT rows.length fun b=>pB op b
  |_,_=>.bad
 | [.aH _ _ len,_]=>match T t,y with
  |some ⟨_,_,_,.sl _,_⟩,.const (.slice none 0 0)=>.mT len fun b=>pB op b
  |_,_=>.bad
 |_=>.bad
def Gz(T:TT)(t:TypeId)(p:PV):Tr:=
 match p,T t with
 |.at (.string s),some ⟨_,_,_,.str,_⟩=>.ok (.at (.int .i64 s.size)) []
 |.sl _ rows,some ⟨_,_,_,.sl _,_⟩=>.ok (.at (.int .i64 rows.length)) []
 |.aH _ _ len,some ⟨_,_,_,.sl _,_⟩=>.ok (.at (.int .i64 len)) []
 |.eD _ _,some ⟨_,_,_,.sl _,_⟩=>.ok (.at (.int .i64 0)) []
 |_,_=>.bad
def zc(T:TT)(nx:Nat)(t t':TypeId)(px:PV)(ys:List PV):Tr:=
 match T t,Nat.beq t t' with
 |some ⟨_,_,_,.sl e,_⟩,true=>match T e with
  |some te=>match Nat.ble 1 te.size,px with
   |true,.sl true rows=>.il (mj rows ys te.size∧(ys=[]→rows=[])) (.ok (.aH nx 0 (rows.length+ys.length)) [(nx,some (.rows te.size (rows++ys) true none e))])
   |true,.aH j 0 len=>.rd j fun b=>match b with
    |some (.rows k rs true none e')=>match Nat.beq k te.size,Nat.beq e' e with
     |true,true=>.lu (.il (mj rs ys te.size∧len=rs.length) (.ok (.aH nx 0 (len+ys.length)) [(nx,some (.rows te.size (rs++ys) true none e)),(j,none)]))
      (.il (mj rs ys te.size∧len=rs.length∧rs≠[]∧ys≠[]) (.mR (fun _=>True) fun c=>match c with
        |0=>.ok (.aH j 0 (len+ys.length)) [(j,some (.rows te.size (rs++ys) true none e))]
        |_+1=>.ok (.aH nx 0 (len+ys.length)) [(nx,some (.rows te.size (rs++ys) true none e))]))
     |_,_=>.bad
    |_=>.bad
   |_,_=>.bad
  |none=>.bad
 |_,_=>.bad
def dr(rs:List PV)(lo:Nat)(ns:List PV):List PV:=rs.take lo++ns++rs.drop (lo+ns.length)
def qM(T:TT)(ex:Bool)(t t':TypeId)(j lo len j' lo' len':Nat):Tr:=
 match T t,Nat.beq t t' with
 |some ⟨_,_,_,.sl e,_⟩,true=>match T e with
  |some te=>.rd j' fun b'=>.rd j fun b=>match b',b with
   |some (.rows k' rs' _ _ _),some (.rows k rs true cp e')=>match Nat.beq k te.size,Nat.beq k' te.size,Nat.ble 1 te.size with
    |true,true,true=>.dO ((ex=true∨0<len)∧lo+len+len'≤rs.length∧lo'+len'≤rs'.length) inferInstance (.il (lj (sub rs' lo' len') te.size)
     (.lu (.ok (.aH j lo (len+len')) [(j,some (.rows k (dr rs (lo+len) (sub rs' lo' len')) true cp e'))]) (.dO (len+len'=0) inferInstance (.ok (.eD j lo) [(j,some (.rows k (dr rs (lo+len) (sub rs' lo' len')) true cp e'))]))))
    |_,_,_=>.bad
   |_,_=>.bad
  |none=>.bad
 |_,_=>.bad
def AL(T:TT)(nx:Nat)(t t':TypeId)(j len:Nat)(q:Int):Tr:=
 match T t,T t' with
 |some ⟨_,_,_,.sl e,_⟩,some ⟨_,_,_,.int _,_⟩=>match T e with
  |some te=>.rd j fun b=>match b with
   |some (.rows k rs true (some c) e')=>match Nat.beq k te.size,Nat.beq e' e,Nat.ble 1 te.size with
    |true,true,true=>.dO (0<q∧(c:Int)<len+q∧len≤rs.length∧len+q≤67108864) inferInstance (.ok (.aH nx 0 (len+q.toNat)) [(nx,some (.rows te.size (rs.take len++List.replicate q.toNat te.zero) true none e))])
    |_,_,_=>.bad
   |_=>.bad
  |none=>.bad
 |_,_=>.bad
def Cm(T:TT)(t:TypeId)(p:PV):Tr:=
 match p,T t with
 |.sl true rows,some ⟨_,_,_,.sl _,_⟩=>.ok (.at (.int .i64 rows.length)) []
 |.aH j 0 len,some ⟨_,_,_,.sl e,_⟩=>match T e with
  |some te=>.dO (0<len) inferInstance (.rd j fun b=>match b with
   |some (.rows k rs true none e')=>match Nat.beq k te.size,Nat.ble 1 te.size with
    |true,true=>.mR (fun c=>len≤c∧rs.length≤c∧c≤maxLen) fun c=>.ok (.at (.int .i64 c)) [(j,some (.rows k rs true (some c) e'))]
    |_,_=>.bad
   |some (.rows k _ true (some c) _)=>match Nat.ble 1 k with
    |true=>.ok (.at (.int .i64 c)) []
    |false=>.bad
   |_=>.bad)
  |none=>.bad
 |_,_=>.bad
def zo(T:TT)(t:TypeId)(p:PV):Tr:=
 match p,T t with
 |.sl _ [],some ⟨_,_,_,.sl _,_⟩=>.ok (.aK []) []
 |.aH j lo len,some ⟨_,_,_,.sl e,_⟩=>match T e with
  |some te=>.rd j fun b=>match b with
   |some (.rows k rs true cp e')=>match Nat.beq k te.size,ke te.zero.cells with
    |true,true=>.dO (lo+len≤rs.length) inferInstance (.ok (.aK []) [(j,some (.rows k (dr rs lo (List.replicate len te.zero)) true cp e'))])
    |_,_=>.bad
   |_=>.bad
  |none=>.bad
 |_,_=>.bad
def tI(te:TI)(j lo len:Nat)(ys:List PV):Tr:=
 .rd j fun b=>match b with
  |some (.rows k rs true cp e')=>match Nat.beq k te.size with
   |true=>.il (lj ys te.size∧lo≤rs.length) (.int (Nat.min ys.length len:Nat) fun q=>.ok (.at (.int .i64 q)) [(j,some (.rows k (dr rs lo (ys.take len)) true cp e'))])
   |false=>.bad
  |_=>.bad
def Bb(T:TT)(t:TypeId)(p q:PV):Tr:=
 match p,T t with
 |.aH j lo len,some ⟨_,_,_,.sl e,_⟩=>match T e with
  |some te=>match q with
   |.sl _ ys=>tI te j lo len ys
   |.aH j' lo' len'=>.rd j' fun b=>match b with
    |some (.rows k' rs' _ _ _)=>match Nat.beq k' te.size with
     |true=>.dO (Nat.min len' len≤rs'.length-lo') inferInstance (tI te j lo len (sub rs' lo' (Nat.min len' len)))
     |false=>.bad
    |_=>.bad
   |_=>.bad
  |none=>.bad
 |.sl _ [],some ⟨_,_,_,.sl e,_⟩=>match T e with
  |some _=>match q with
   |.sl _ _=>.ok (.at (.int .i64 0)) []
   |.aH _ _ _=>.ok (.at (.int .i64 0)) []
   |_=>.bad
  |none=>.bad
 |_,_=>.bad
def AO(T:TT)(nx:Nat)(t:TypeId)(vs:List PV):Tr:=
 match T t,vs with
 |some ⟨_,_,_,.sl e,_⟩,[.at (.int _ n),.at (.int _ m)]=>match T e with
  |some te=>.dO (0≤n∧n=m∧n≤67108864) inferInstance (.ok (.aH nx 0 n.toNat) [(nx,some (.rows te.size (List.replicate n.toNat te.zero) true none e))])
  |none=>.bad
 |_,_=>.bad
def Ch(T:TT)(nx:Nat)(b:Builtin)(tys:List TypeId)(vs:List PV):Tr:=
 match b,vs,tys with
 |.len,[p],[t]=>Gz T t p
 |.append,[px,.sl _ ys],[t,t']=>zc T nx t t' px ys
 |.append,[.aH j lo len,.aH j' lo' len'],[t,t']=>qM T false t t' j lo len j' lo' len'
 |.append,[.eD j lo,.aH j' lo' len'],[t,t']=>qM T true t t' j lo 0 j' lo' len'
 |.append,[.aH j 0 len,.at (.int _ q)],[t,t']=>AL T nx t t' j len q
 |.cap,[p],[t]=>Cm T t p
 |.clear,[p],[t]=>zo T t p
 |.copy,[p,q],[t,t']=>match Nat.beq t t' with|true=>Bb T t p q|false=>.bad
 |.min,[.at (.int k a),.at (.int _ b)],_=>iT k (if b<a then b else a)
 |.max,[.at (.int k a),.at (.int _ b)],_=>iT k (if b>a then b else a)
 |_,_,_=>.bad
def yo(T:TT)(t:TypeId)(vs:List PV):Tr:=
 match vs,T t with
 | [v],some ti=>match ti.kd with
  |.other=>.bad
  |_=>.ok (.dq t v) []
 |_,_=>.bad
def zi(T:TT)(asserted:TypeId)(commaOk:Bool)(vs:List PV):Tr:=
 match vs,T asserted with
 | [.dq t v],some ti=>match ti.kd with
  |.other=>.bad
  |_=>match Nat.beq t asserted,commaOk with
   |true,false=>.ok v []
   |true,true=>.ok (.aK [v,.at (.bool true)]) []
   |false,true=>.ok (.aK [ti.zero,.at (.bool false)]) []
   |false,false=>.bad
 |_,_=>.bad
def vC:Kd→PV→Option Value
 |.int _,.at (.int k a)=>some (.int k a)
 |.str,.at (.string s)=>some (.string s)
 |_,_=>none
def B6(te:TI)(commaOk:Bool)(ks:List Value)(ps:List PV)(x:Value):Tr:=
 .il (ql ks x) (.look (lr ks ps x) fun r=>match r,commaOk with
  |some v,true=>.ok (.aK [v,.at (.bool true)]) []
  |some v,false=>.ok v []
  |none,true=>.ok (.aK [te.zero,.at (.bool false)]) []
  |none,false=>.ok te.zero [])
def Bn(T:TT)(t:TypeId)(commaOk:Bool)(vs:List PV):Tr:=
 match T t,vs with
 |some ⟨_,_,_,.map kt e,_⟩,[m,p]=>match T kt,T e with
  |some tk,some te=>match vC tk.kd p with
   |some x=>match m with
    |.mp ks ps=>B6 te commaOk ks ps x
    |.fy j=>.rd j fun b=>match b with
     |some (.map ks ps _)=>B6 te commaOk ks ps x
     |_=>.bad
    |_=>.bad
   |none=>.bad
  |_,_=>.bad
 |_,_=>.bad
def zk(T:TT)(t:TypeId)(vs:List PV):Tr:=
 match T t,vs with
 |some ⟨_,_,_,.map kt _,_⟩,[.fy j,p,v]=>match T kt with
  |some tk=>match vC tk.kd p with
   |some x=>.rd j fun b=>match b with
    |some (.map ks ps true)=>.il (ql ks x) (.ok (.aK []) [(j,some (.map (kL ks x) (me ks ps x v) true))])
    |_=>.bad
   |none=>.bad
  |none=>.bad
 |_,_=>.bad
def tr(T:TT)(nx:Nat)(op:Op)(vs:List PV):Tr:=
 match op with
 |.move _|.assign _=>match vs with | [v]=>.ok v []|_=>.bad
 |.pick _ _ _=>match vs with
  | [.at (.bool true),a,_]=>.ok a []
  | [.at (.bool false),_,b]=>.ok b []
  |_=>.bad
 |.alloc t=>match T t with
  |some i=>.ok (.lp nx 0 0) [(nx,some (.rows i.size [i.zero] true none t))]
  |none=>.bad
 |.box t _=>match T t,vs with
  |some i,[v]=>match Nat.beq v.cells.length i.size with|true=>.ok (.lp nx 0 0) [(nx,some (.rows i.size [v] true none t))]|false=>.bad
  |_,_=>.bad
 |.load t _=>rS T t vs
 |.store t _ _=>Ah T t vs
 |.fieldAddr t _ f=>Aj T t f vs
 |.indexAddr t _ _=>yC T t vs
 |.extract _ i=>match vs with
  | [.aK vs]=>match nth vs i with|some v=>.ok v []|none=>.bad
  |_=>.bad
 |.unOp .not _ _=>match vs with | [.at (.bool b)]=>.ok (.at (.bool (!b))) []|_=>.bad
 |.binOp op t _ y _=>BM T op t y vs
 |.index t _ _=>Af T t vs
 |.field t _ f=>AU T t f vs
 |.slice t _ lo hi mx=>match T t with
  |some ⟨_,_,_,.aB n e,_⟩=>yI T n e lo.isSome hi.isSome mx.isSome vs
  |_=>yG T t lo.isSome hi.isSome mx.isSome vs
 |.makeInterface t _=>yo T t vs
 |.nilCheck _=>match vs with
  | [.fn f cs]=>.ok (.fn f cs) []
  | [.lp j i o]=>.ok (.lp j i o) []
  | [.le j i o]=>.ok (.le j i o) []
  | [.ip cs o]=>.ok (.ip cs o) []
  |_=>.bad
 |.call ⟨.builtin b,_,tys⟩=>Ch T nx b tys.toList vs
 |.build t parts=>match T t with
  |some ti=>Bd (IZ T ti.kd) (u7 T ti.kd) ti.zero.cells (parts.toList.map (·.1)) vs
  |none=>.bad
 |.buildSlice t len parts=>match T t with
  |some ⟨_,_,_,.sl e,_⟩=>match T e with
   |some te=>match xz 0 (parts.toList.map (·.1)),Nat.beq vs.length len,vk te.size vs,Nat.ble (len*te.size) 16777216 with
    |true,true,true,true=>.br vs fun rs d=>.ok (.sl true rs) d
    |_,_,_,_=>.bad
   |none=>.bad
  |_=>.bad
 |.makeFunc (.func f) first cs=>match first.toList,cs.toList,vs with
  | [],_,_=>.ok (.fn f vs) []
  | [_],[],[x]=>.ok (.mv f x) []
  |_,_,_=>.bad
 |.convert src dst _=>match T src,T dst,vs with
  |some ⟨_,_,_,.int _,_⟩,some ⟨_,_,_,.int k,_⟩,[.at (.int _ a)]=>iT k (k.wrap a)
  |some ⟨_,_,_,.sl e,_⟩,some ⟨_,_,_,.str,_⟩,[p]=>zD T e p
  |_,_,_=>.bad
 |.typeAssert _ _ asserted commaOk=>zi T asserted commaOk vs
 |.makeSlice t _ _=>AO T nx t vs
 |.makeMap t none=>match T t,vs with
  |some ⟨_,_,_,.map _ _,_⟩,[]=>.ok (.fy nx) [(nx,some (.map [] [] true))]
  |_,_=>.bad
 |.lookup t _ _ commaOk=>Bn T t commaOk vs
 |.insert t _ _ _|.mapUpdate t _ _ _=>zk T t vs
 |_=>.bad
def act(T:TT)(nx:Nat)(op:Op)(ev:Operand→Option PV)(hp:Nat→Option aA)(K:PV→bW→Prop):Prop:=
 match dZ ev op.operands.toList with
 |some vs=>(tr T nx op vs).wp hp K
 |none=>False
def gD(env:Nat→Option PV):Operand→Option PV
 |.tmp t=>env t
 |.const (.slice none 0 0)=>some (.sl true [])
 |.const v=>match v.oneCell' with|true=>some (.at v)|false=>none
 |.func f=>some (.fn f [])
 |.global _=>none
def AS.ev(s:AS):Operand→Option PV:=gD s.env
def AS.put(s:AS)(d:Option Nat)(v:PV):AS:=match d with|some d=>⟨ck s.env d (some v),s.hp⟩|none=>s
end
section
open Go.RowKit
theorem JO:∀(us:List Value) (k off:Nat) (A:Array Value),off+k+us.length≤A.size→(us.zipIdx k).foldl (fun cs (x:Value×Nat)=>cs.setIfInBounds (off+x.2) x.1) A=(A.toList.take (off+k)++us++A.toList.drop (off+k+us.length)).toArray
 | [],k,off,A,_=>by simp
 |u::us,k,off,A,h=>by
  rw[List.zipIdx_cons,acj,JO us (k+1) off _ (by simp at h⊢;omega)]
  have:=list_seg_step A.toList (off+k) u us (by simp at h⊢;omega)
  rw[Array.toList_setIfInBounds]
  exact congrArg List.toArray this
theorem Ma(v:Value)(off:Nat)(A:Array Value)(h:off+v.cells.size≤A.size):v.cells.zipIdx.foldl (fun cs (x:Value×Nat)=>cs.setIfInBounds (off+x.2) x.1) A=(A.toList.take off++v.cells.toList++A.toList.drop (off+v.cells.toList.length)).toArray:=by
 have:=JO v.cells.toList 0 off A (by rw[aaK];omega);rw[← Array.foldl_toList,Array.toList_zipIdx];exact this
theorem C7{c:RC}{pl place:Nat→Option (Nat×Nat)}(hpl:∀i x,pl i=some x→place i=some x):∀{is:List Nat} {vs cells cs:List PV} {us zs:List Value},aC cells c zs→aC vs c us→qh pl cells is vs=some cs→
 ∃ys:List Value,Instr.fill place zs.toArray (is.zip us)=some ys.toArray∧aC cs c ys
 | [],[],_,_,us,zs,r,s,h=>by
  cases h
  rw[show us=[]from s]
  exact⟨zs,rfl,r⟩
 | [],_::_,_,_,_,_,_,_,h=>by cases h
 |_::_,[],_,_,_,_,_,_,h=>by cases h
 |i::is,v::vs,cells,cs,us,zs,r,s,h=>by
  obtain⟨u,us',rfl,s1,s2⟩:=s
  unfold qh at h
  split at h
  ·rename_i o sz e
   split at h
   ·rename_i e1 e2
    have h1:=aaE e1
    have h2:=aaG e2
    have hc:=s1.cells
    have hcl:=hc.length
    rw[aaK]at hcl
    have hl:u.cells.size=sz:=by rw[← aaK,hc.length,h1]
    have hz:=r.length
    obtain⟨ys,g1,g2⟩:=C7 hpl (r.put o hc h2) s2 h
    refine⟨ys,?_,g2⟩
    rw[List.zip_cons_cons]
    unfold Instr.fill
    rw[hpl _ _ e]
    have hb:(decide (u.cells.size≠sz)||decide (o+u.cells.size>zs.toArray.size))=false:=by
     simp only[adq,acg,Decidable.not_not,abv]
     exact⟨hl,by omega⟩
    dsimp only
    rw[abg (by rw[hb];exact acm)]
    rw[← g1]
    exact congrArg (fun z=>Instr.fill place z (is.zip us')) (Ma u o zs.toArray (by have e9:zs.toArray.size=zs.length:=rfl;omega))
   ·cases h
  ·cases h
theorem zN(ρ:Operand→Value)(parts:Array (Nat×Operand)):(parts.map fun(i,x)=>(i,ρ x)).toList=(parts.toList.map (·.1)).zip ((parts.toList.map (·.2)).map ρ):=by
 rw[Array.toList_map];generalize parts.toList=l;induction l with
 |nil=>rfl
 |cons x l ih=>simp only[aaZ,List.zip_cons_cons,ih]
theorem C5{k:Nat}:∀(is:List Nat) (us:List Value) (q:Nat) (A:Array Value),xz q is=true→is.length=us.length→(∀u∈us,u.cells.size=k)→(q+us.length)*k≤A.size→
 Instr.fill (fun i=>some (i*k,k)) A (is.zip us)=some (A.toList.take (q*k)++flat us++A.toList.drop ((q+us.length)*k)).toArray
 | [],[],q,A,_,_,_,_=>by simp[Instr.fill,flat]
 | [],_::_,_,_,_,h,_,_=>by cases h
 |_::_,[],_,_,_,h,_,_=>by cases h
 |i::is,u::us,q,A,hu,hl,hk,hA=>by
  unfold xz at hu
  split at hu
  ·rename_i e
   obtain rfl:=aaE e
   have hs:=hk u aaA
   have hA':(i+1+us.length)*k≤A.size:=by rw[show i+1+us.length=i+(u::us).length by simp;omega];exact hA
   have h1:i*k+k≤A.size:=by
    have:=abx k (show i+1≤i+1+us.length by omega)
    rw[abL]at this;omega
   rw[List.zip_cons_cons]
   unfold Instr.fill
   dsimp only
   have hb:(decide (u.cells.size≠k)||decide (i*k+u.cells.size>A.size))=false:=by
    simp only[adq,acg,Decidable.not_not]
    exact⟨hs,by omega⟩
   rw[abg (by rw[hb];exact acm)]
   have:=Ma u (i*k) A (by omega)
   have hx:=C5 is us (i+1) (A.toList.take (i*k)++u.cells.toList++A.toList.drop (i*k+u.cells.toList.length)).toArray hu (by simpa using hl) (fun x hx=>hk x (aaz _ hx)) (by
    rw[abv,aap,aap,aax,aaO]
    simp only[aaK]at *;omega)
   refine(congrArg (fun z=>Instr.fill _ z (is.zip us)) this).trans (hx.trans ?_)
   refine congrArg (fun z=>some (List.toArray z)) ?_
   have hul:u.cells.toList.length=k:=by rw[aaK,hs]
   have e1:(A.toList.take (i*k)++u.cells.toList).length=(i+1)*k:=by
    rw[aap,aax,hul,aaK,abL];omega
   have e2:(i+1+us.length)*k=(A.toList.take (i*k)++u.cells.toList).length+us.length*k:=by rw[e1,acw]
   show List.take ((i+1)*k) (A.toList.take (i*k)++u.cells.toList++_)++flat us++List.drop ((i+1+us.length)*k) (A.toList.take (i*k)++u.cells.toList++_)=_
   rw[e2,List.take_left' e1,adz,adn,gV,hul]
   simp only[abd]
   rw[show i*k+k+us.length*k=(i+(u::us).length)*k by rw[aaL,acw,abL];omega]
  ·cases hu
theorem rP{ev:Operand→Option PV}{ρ:Operand→Value}{c:RC}(hev:∀x p,ev x=some p→Rel p c (ρ x)):∀{l:List Operand} {ps:List PV},dZ ev l=some ps→aC ps c (l.map ρ)
 | [],ps,h=>by cases h;rfl
 |o::l,ps,h=>by
  unfold dZ at h
  cases h1:ev o with
  |none=>rw[h1]at h;cases h
  |some v=>
   cases h2:dZ ev l with
   |none=>rw[h1,h2]at h;cases h
   |some vs=>
    rw[h1,h2]at h;cases h
    exact⟨_,_,rfl,hev o v h1,rP hev h2⟩
def yU(P:Program)(ρ:Operand→Value)(o:Oper)(w:World)(v:Value)(w':World):Prop:=
 (execOp ρ o).run P w=.ok (.value v) w'∨(v=undef∧(execOp ρ o).run P w=.ok .skip w')
def Sound(P:Program)(S:ct)(F:Nat→Prop)(hp:Nat→Option aA)(c:RC)(ρ:Operand→Value)(o:Oper)(K:PV→bW→Prop):Prop:=
 ∃p d,K p d∧∃v c',yU P ρ o c.w v c'.w∧Good S F (dh hp d) c c' p v
section
variable {P:Program}{T:TT}{S:ct}{F:Nat→Prop}{nx:Nat}{hp:Nat→Option aA}{c:RC}{ρ:Operand→Value}{o:Oper}{K:PV→bW→Prop}{vs:List PV}
theorem cm(hs:Sat S F hp c){p:PV}{v:Value}(hk:K p [])(r:Rel p c v)(hr:yU P ρ o c.w v c.w):Sound P S (less F nx) hp c ρ o K:=
 ⟨p,[],hk,v,c,hr,Ext.refl c,hs.up (fun _ h=>h.1),r⟩
theorem fP{x:Value}{p:PV}(h:aC [p] c [x]):Rel p c x:=by obtain⟨v,l,e,r,_⟩:=h;cases e;exact r
theorem eV{x y:Value}{p q:PV}(h:aC [p,q] c [x,y]):Rel p c x∧Rel q c y:=by obtain⟨v,l,e,r,r2⟩:=h;cases e;exact⟨r,fP r2⟩
theorem uz{x y z:Value}{p q r:PV}(h:aC [p,q,r] c [x,y,z]):Rel p c x∧Rel q c y∧Rel r c z:=by obtain⟨v,l,e,r1,r2⟩:=h;cases e;exact⟨r1,eV r2⟩
theorem Gw(hs:Sat S F hp c)(x:Operand)(hv:aC vs c [ρ x])(ho:o.op=.move x∨o.op=.assign x)(h:(match vs with | [v]=>Tr.ok v []|_=>.bad).wp hp K):Sound P S (less F nx) hp c ρ o K:=by
 split at h
 ·refine cm hs h (fP hv) (.inl ?_);rcases ho with ho|ho<;>· unfold execOp;rw[ho];rfl
 ·exact False.elim h
theorem OD(hs:Sat S F hp c)(x a b:Operand)(hv:aC vs c [ρ x,ρ a,ρ b])(ho:o.op=.pick x a b)(h:(tr T nx (.pick x a b) vs).wp hp K):Sound P S (less F nx) hp c ρ o K:=by
 simp only[tr]at h;split at h
 ·obtain⟨⟨hx,_⟩,h1,h2⟩:=uz hv;exact cm hs h h1 (.inl (by unfold execOp;simp[ho,hx,asBool]))
 ·obtain⟨⟨hx,_⟩,h1,h2⟩:=uz hv;exact cm hs h h2 (.inl (by unfold execOp;simp[ho,hx,asBool]))
 ·exact False.elim h
theorem Wm(hT:cL P T)(hs:Sat S F hp c)(hF:F nx)(t:TypeId)(ho:o.op=.alloc t)(h:(tr T nx (.alloc t) vs).wp hp K):Sound P S (less F nx) hp c ρ o K:=by
 simp only[tr]at h;split at h
 ·rename_i ti e;obtain⟨z,hz,hk,hr⟩:=(hT t ti e).zeroV c;obtain⟨c',hw,hg⟩:=hs.new hF hr t ti.size hk;refine⟨_,_,h,_,c',.inl ?_,hg⟩;unfold execOp;simp[ho,Instr.alloc,hz,newVar,newRow,hw]
 ·exact False.elim h
theorem MT(hs:Sat S F hp c)(hF:F nx)(t:TypeId)(x:Operand)(hv:aC vs c [ρ x])(ho:o.op=.box t x)(h:(tr T nx (.box t x) vs).wp hp K):Sound P S (less F nx) hp c ρ o K:=by
 simp only[tr]at h;split at h
 ·rename_i ti p e;split at h
  ·rename_i e3;have hr:=fP hv;have hk:(ρ x).cells.size=ti.size:=by rw[← aaK,hr.cells.length];exact aaE e3
   obtain⟨c',hw,hg⟩:=hs.new hF hr t ti.size hk;refine⟨_,_,h,_,c',.inl ?_,hg⟩;unfold execOp;simp[ho,Instr.box,newVar,newRow,hw]
  ·exact False.elim h
 ·exact False.elim h
theorem Pa(hT:cL P T)(hs:Sat S F hp c)(t:TypeId)(x:Operand)(hv:aC vs c [ρ x])(ho:o.op=.load t x)(h:(rS T t vs).wp hp K):Sound P S (less F nx) hp c ρ o K:=by
 have key:∀{ti:TI} {j i off:Nat} {k:Nat} {rs:List PV} {wr:Bool} {f:Option Nat} {e:TypeId} {row v:PV},T t=some ti→(∃B k,c.hb j=some (B,k)∧ρ x=.pointer (some ⟨B,i*k+off,none⟩))→hp j=some (.rows k rs wr f e)→PV.nth rs i=some row→
  Nat.ble (off+ti.size) row.cells.length=true→PV.gC ti.ag (PV.sub row.cells off ti.size)=some v→K v []→Sound P S (less F nx) hp c ρ o K:=by
  intro ti j i off k rs wr f e row v eT hx hj hrow hle ho2 hK;obtain⟨B,k',hB,hx⟩:=hx;obtain⟨rfl,u,hru,huk,hc⟩:=zM hs hj hrow hB;obtain⟨w,hw,hr⟩:=r8 (P:=P) (hT t ti eT) hru.cells hle ho2 B (i*k') hc;refine cm hs hK hr (.inl ?_);unfold execOp;simp[ho,hx,Instr.loadAt,Instr.sureAddr,hw]
 unfold rS at h;simp only[DK,E5]at h;split at h
 ·rename_i ti j i off eT;simp only[Tr.wp]at h;split at h
  ·rename_i k rs wr f e hj;split at h
   ·rename_i row hrow;split at h
    ·rename_i v hle ho2;exact key eT (fP hv) hj hrow hle ho2 h
    ·exact False.elim h
   ·exact False.elim h
  ·exact False.elim h
 ·rename_i ti j i off eT;simp only[Tr.wp]at h;split at h
  ·rename_i k rs wr f e hj;obtain⟨row,hrow,_,h⟩:=h;dsimp only at h;split at h
   ·rename_i v hle ho2;exact key eT (fP hv) hj (by simpa using hrow) hle ho2 h
   ·exact False.elim h
  ·exact False.elim h
 ·rename_i ti cs off eT;split at h
  ·rename_i v hle ho2;obtain⟨b,base,us,hx,hr,hc⟩:=fP hv;obtain⟨w,hw,hr⟩:=r8 (P:=P) (hT t ti eT) (aC.ext cs (Ext.jz c) hr) hle ho2 b base (fun m y hm=>(hc m y hm).2);refine cm hs h hr (.inl ?_);unfold execOp;simp[ho,hx,Instr.loadAt,Instr.sureAddr,hw]
  ·exact False.elim h
 ·exact False.elim h
theorem Wa(hT:cL P T)(hs:Sat S F hp c)(t:TypeId)(x y:Operand)(hv:aC vs c [ρ x,ρ y])(ho:o.op=.store t x y)(h:(Ah T t vs).wp hp K):Sound P S (less F nx) hp c ρ o K:=by
 have key:∀{ti:TI} {j i off:Nat} {k:Nat} {rs:List PV} {f:Option Nat} {e:TypeId} {row v:PV},T t=some ti→(∃B k,c.hb j=some (B,k)∧ρ x=.pointer (some ⟨B,i*k+off,none⟩))→Rel v c (ρ y)→hp j=some (.rows k rs true f e)→PV.nth rs i=some row→
  (vX ti j k i off rs f e row v).wp hp K→Sound P S (less F nx) hp c ρ o K:=by
  intro ti j i off k rs f e row v eT hx hy hj hrow hK;unfold vX at hK;rw[OM]at hK;split at hK
  ·rename_i row' h1 h2 h3 h4;obtain⟨B,k',hB,hx⟩:=hx;obtain⟨c',hrun,hext,hsat,rfl⟩:=WB (hT t ti eT) hs hj hrow hy h1 h2 h3 h4 hB;refine⟨_,_,hK,undef,c',.inr ⟨rfl,?_⟩,hext,hsat.up (fun _ h=>h.1),⟨[],rfl,rfl⟩⟩;unfold execOp;simp[ho,hx,Instr.storeAt,Instr.sureAddr,hrun]
  ·exact False.elim hK
 unfold Ah at h;split at h
 ·rename_i ti j i off v eT;simp only[Tr.wp]at h;split at h
  ·rename_i k rs f e hj;split at h
   ·rename_i row hrow;exact key eT (eV hv).1 (eV hv).2 hj hrow h
   ·exact False.elim h
  ·exact False.elim h
 ·rename_i ti j i off v eT;simp only[Tr.wp]at h;split at h
  ·rename_i k rs f e hj;obtain⟨row,hrow,_,h⟩:=h;exact key eT (eV hv).1 (eV hv).2 hj (by simpa using hrow) h
  ·exact False.elim h
 ·exact False.elim h
theorem aan{t:TypeId}{i:TypeInfo}(hi:P.info? t=some i)(hz:i.size≠0)(a:Addr)(f:Field)(hf:f.type=t)(w:World):(fieldPlace a f).run P w=.ok (a.add f.offset) w:=by simp[fieldPlace,sizeOf,typeInfo,hf,hi,hz]
theorem RL(hT:cL P T)(hs:Sat S F hp c)(t:TypeId)(x:Operand)(f:Nat)(hv:aC vs c [ρ x])(ho:o.op=.fieldAddr t x f)(h:(Aj T t f vs).wp hp K):Sound P S (less F nx) hp c ρ o K:=by
 have key:∀{sz ag z fs eq off ty},T t=some ⟨sz,ag,z,.struct fs,eq⟩→PV.nth fs f=some (off,ty)→∀a:Addr,ρ x=.pointer (some a)→(execOp ρ o).run P c.w=.ok (.value (.pointer (some (a.add off)))) c.w:=by
  intro sz ag z fs eq off ty e hn a hx;obtain⟨d,hd,_,fields,rfl,_,hf⟩:=(hT t _ e).de;obtain⟨fl,h1,h2,h3,i,h4,h5⟩:=hf f off ty hn;have hu:=run_underlying (P:=P) hd c.w;have hp:=aan h4 h5 a fl h3 c.w;unfold execOp;simp[ho,hx,Instr.fieldAt,Instr.sureAddr,hu,h1,hp,h2]
 unfold Aj at h;split at h
 ·rename_i sz ag z fs eq p e;split at h
  ·rename_i q ty hn;have hr:=fP hv;split at h
   ·obtain⟨B,n,hB,hx⟩:=hr;refine cm hs h ⟨B,n,hB,rfl⟩ (.inl ?_);rw[key e hn _ hx,Addr.add_lit,abB]
   ·obtain⟨B,n,hB,hx⟩:=hr;refine cm hs h ⟨B,n,hB,rfl⟩ (.inl ?_);rw[key e hn _ hx,Addr.add_lit,abB]
   ·obtain⟨b,base,vs,hx,hr⟩:=hr;refine cm hs h ⟨b,base,vs,rfl,hr⟩ (.inl ?_);rw[key e hn _ hx,Addr.add_lit,abB]
   ·exact False.elim h
  ·exact False.elim h
 ·exact False.elim h
theorem UI{rows:List PV}{v:Value}{vs:List Value}{cl:Bool}(hr:aC rows c.pure vs)(hsl:iB c.w c.Z cl v vs){q:Nat}{row:PV}(hn:PV.nth rows q=some row){m:Nat}(hm:row.cells.length=m):
 ∃b off n,v=.slice (some ⟨b,off,none⟩) n (match v with|.slice _ _ cap=>cap|_=>0)∧q<n∧n=rows.length∧Rel (.ip row.cells 0) c (.pointer (some ⟨b,off+q*m,none⟩)):=by
 obtain⟨u,hu,hru⟩:=hr.nth hn
 have hq:q<vs.length:=(aaq.1 hu).1
 obtain⟨a,cap,rfl,h1,h2,h3⟩:=hsl
 rcases h3 with rfl|⟨b,off,k,rfl,hk,hc⟩
 ·simp at hq
 ·have hkm:k=m:=by rw[← hk u (aau hu),← aaK,hru.cells.length,hm]
  subst hkm
  refine⟨b,off,vs.length,rfl,hq,hr.length,b,off+q*k,u.cells.toList,rfl,hru.cells,fun i x hi=>?_⟩
  have hlt:i<k:=by
   have:=(aaq.1 hi).1
   rwa [aaK,hk u (aau hu)]at this
  have:=hc (q*k+i) x (by rw[wa hk hu i hlt];exact hi)
  rwa [← abB]at this
theorem FG{t e:TypeId}{te:TI}(hd:P.underlying t=some (.slice e))(hte:fz P e te)(b off n cap:Nat)(k:IntKind)(q:Int)(h0:0≤q)(h1:q<n)(w:World):
 (Instr.indexAt t (.slice (some ⟨b,off,none⟩) n cap) (.int k q)).run P w=.ok (.pointer (some ⟨b,off+q.toNat*te.size,none⟩)) w:=by
 have hu:=run_underlying (P:=P) hd w
 simp[Instr.indexAt,asIntOf,hu,hte.size,h0,h1,Addr.add_lit]
theorem yM{t e:TypeId}{te:TI}{n:Nat}(hd:P.underlying t=some (.array n e))(hte:fz P e te)(b off:Nat)(k:IntKind)(q:Int)(h0:0≤q)(h1:q<n)(w:World):
 (Instr.indexAt t (.pointer (some ⟨b,off,none⟩)) (.int k q)).run P w=.ok (.pointer (some ⟨b,off+q.toNat*te.size,none⟩)) w:=by
 have hu:=run_underlying (P:=P) hd w
 simp[Instr.indexAt,asIntOf,hu,hte.size,h0,h1,Addr.add_lit,Instr.sureAddr]
theorem ZR(hT:cL P T)(hs:Sat S F hp c)(t:TypeId)(x y:Operand)(hv:aC vs c [ρ x,ρ y])(ho:o.op=.indexAddr t x y)(h:(yC T t vs).wp hp K):Sound P S (less F nx) hp c ρ o K:=by
 have key:∀{v},(Instr.indexAt t (ρ x) (ρ y)).run P c.w=.ok v c.w→(execOp ρ o).run P c.w=.ok (.value v) c.w:=by
  intro v hv;unfold execOp;simp[ho,hv]
 unfold yC at h;split at h
 ·rename_i sz ag z n e eq p k q e1;split at h
  ·rename_i te e4;obtain⟨⟨h0,h1⟩,h⟩:=h;obtain⟨d,hd,_,rfl⟩:=(hT t _ e1).de;obtain⟨hr,hy,_⟩:=eV hv;split at h
   ·obtain⟨B,m,hB,hx⟩:=hr;refine cm hs h ⟨B,m,hB,rfl⟩ (.inl (key ?_));rw[hx,hy,yM hd (hT e te e4) B _ k q h0 h1,abB]
   ·obtain⟨B,m,hB,hx⟩:=hr;refine cm hs h ⟨B,m,hB,rfl⟩ (.inl (key ?_));rw[hx,hy,yM hd (hT e te e4) B _ k q h0 h1,abB]
   ·obtain⟨b,base,vs,hx,hr⟩:=hr;refine cm hs h ⟨b,base,vs,rfl,hr⟩ (.inl (key ?_));rw[hx,hy,yM hd (hT e te e4) b _ k q h0 h1,abB]
   ·exact False.elim h
  ·exact False.elim h
 ·rename_i sz ag z e eq p k q e1;split at h
  ·rename_i te e4;obtain⟨d,hd,_,rfl⟩:=(hT t _ e1).de;obtain⟨hr,hy,_⟩:=eV hv;split at h
   ·obtain⟨row,hn,h0,hk⟩:=h;dsimp only at hk;split at hk
    ·rename_i e5;obtain⟨vs,r1,r2⟩:=hr;obtain⟨b,off,n,hx,h1,_,hr⟩:=UI r1 r2 hn (aaE e5);refine cm hs hk hr (.inl (key ?_));rw[hx,hy];exact FG hd (hT e te e4) b off n _ k q h0 (by omega) c.w
    ·exact False.elim hk
   ·rename_i j lo len;obtain⟨⟨h0,h1⟩,h⟩:=h;simp only[Tr.wp]at h;split at h
    ·rename_i kk rs wr ff ee hj;split at h
     ·rename_i e5;rcases hr with⟨hz,_⟩|⟨B,m,cap,aB,e6,f,hB,hx,_⟩
      ·omega
      rcases hs.cD j _ hj with⟨_,_,hz⟩|⟨B',arr',vs',b1,_⟩
      ·rw[hz]at hB;cases hB
      rw[b1]at hB;cases hB;refine cm hs h ⟨_,_,b1,rfl⟩ (.inl (key ?_));rw[hx,hy,FG hd (hT e te e4) _ _ len cap k q h0 h1,← aaE e5,acw,abM]
     ·exact False.elim h
    ·exact False.elim h
   ·exact False.elim h
  ·exact False.elim h
 ·exact False.elim h
theorem Mz(hs:Sat S F hp c)(x:Operand)(i:Nat)(hv:aC vs c [ρ x])(ho:o.op=.extract x i)(h:(tr T nx (.extract x i) vs).wp hp K):Sound P S (less F nx) hp c ρ o K:=by
 simp only[tr]at h;split at h
 ·rename_i ps;split at h
  ·rename_i p hn;obtain⟨vs,hx,hr⟩:=fP hv;obtain⟨v,hv,hrv⟩:=hr.nth hn;refine cm hs h hrv (.inl ?_);unfold execOp;simp[ho,hx,Instr.extract,hv]
  ·exact False.elim h
 ·exact False.elim h
theorem Yf(hs:Sat S F hp c)(u:UnOp)(t:TypeId)(x:Operand)(hv:aC vs c [ρ x])(ho:o.op=.unOp u t x)(h:(tr T nx (.unOp u t x) vs).wp hp K):Sound P S (less F nx) hp c ρ o K:=by
 cases u with
 |not=>
  simp only[tr]at h;split at h
  ·rename_i b;obtain⟨hx,_⟩:=fP hv;refine cm hs h ⟨rfl,rfl⟩ (.inl ?_);unfold execOp;simp[ho,hx,Op.unary]
  ·exact False.elim h
 |_=>exact False.elim h
end
section
variable {P:Program}{T:TT}{S:ct}{F:Nat→Prop}{nx:Nat}{hp:Nat→Option aA}{c:RC}{ρ:Operand→Value}{o:Oper}{K:PV→bW→Prop}{vs:List PV}
theorem Kr(d:Nat){t:TypeId}{a b:Array TypeId}{v:Bool}(h:P.underlying t=some (.func a b v))(f:Fn)(x y:Array Value)(w:World):(Op.equalIn (d+1) t (.func f x y) .nilFunc).run P w=.ok false w∧(Op.equalIn (d+1) t .nilFunc .nilFunc).run P w=.ok true w:=by
 have hu:=run_underlying (P:=P) h w;constructor<;>simp only[Op.equalIn,Sem.run_bind,hu,Result.andThen_ok]<;>rfl
theorem Ow{t:TypeId}{a b:Array TypeId}{v:Bool}(h:P.underlying t=some (.func a b v))(f:Fn)(x y:Array Value)(w:World):(Op.equal t (.func f x y) .nilFunc).run P w=.ok false w:=(Kr 9999 h f x y w).1
theorem RE{t:TypeId}{a b:Array TypeId}{v:Bool}(h:P.underlying t=some (.func a b v))(w:World):(Op.equal t .nilFunc .nilFunc).run P w=.ok true w:=(Kr 9999 h (.func 0) #[] #[] w).2
theorem pJ(hs:Sat S F hp c){b:BinOp}{t t2:TypeId}{x y:Operand}(ho:o.op=.binOp b t x y t2){r:Bool}{X Y:Value}(hx:ρ x=X)(hy:ρ y=Y)
 (hg:∀b,(eqGuard b t x y X Y).run P c.w=.ok () c.w) (hq:(Op.equal t X Y).run P c.w=.ok r c.w)
 (h1:binOp .eql t X Y=(do pure (.bool (← Op.equal t X Y)))) (h2:binOp .neq t X Y=(do pure (.bool (!(← Op.equal t X Y))))) (h:(pB b r).wp hp K):Sound P S (less F nx) hp c ρ o K:=by
 cases b with
 |eql=>
  obtain⟨q,rfl,h⟩:=h
  refine cm hs h ⟨rfl,rfl⟩ (.inl ?_)
  unfold execOp
  simp[ho,hx,hy,hg,h1,hq]
 |neq=>
  obtain⟨q,rfl,h⟩:=h
  refine cm hs h ⟨rfl,rfl⟩ (.inl ?_)
  unfold execOp
  simp[ho,hx,hy,hg,h2,hq]
 |_=>exact False.elim h
theorem VG{ag:Bool}{cs:List PV}{vs:List Value}(r:aC cs c vs){off n:Nat}(hle:off+n≤cs.length){p:PV}(ho:PV.gC ag (PV.sub cs off n)=some p):
 (ag=true∧Rel p c (.agg ((vs.drop off).take n).toArray))∨(ag=false∧∃v,vs[off]? = some v∧Rel p c v):=by
 have hs:=aC.sub off n r hle
 cases ag with
 |true=>cases ho;exact .inl ⟨rfl,_,rfl,hs⟩
 |false=>
  right
  have hone:∃q,PV.sub cs off n=[q]∧q=p:=by
   cases e:PV.sub cs off n with
   |nil=>rw[e]at ho;cases ho
   |cons q l=>
    cases l with
    |nil=>rw[e]at ho;exact⟨q,rfl,abl ho⟩
    |cons _ _=>rw[e]at ho;cases ho
  obtain⟨q,e,rfl⟩:=hone
  rw[e]at hs
  obtain⟨u,us',hu,hr,hn⟩:=hs
  obtain rfl:us'=[]:=hn
  refine⟨rfl,u,?_,hr⟩
  have h0:((vs.drop off).take n)[0]? = some u:=by rw[hu];rfl
  rw[abT]at h0
  split at h0
  ·rw[abH]at h0;simpa using h0
  ·cases h0
theorem qD{t:TypeId}{ti:TI}(hT:fz P t ti){cs:List PV}{vs:List Value}(r:aC cs c vs){off:Nat}(h:Nat.ble (off+ti.size) cs.length=true){p:PV}(ho:PV.gC ti.ag (PV.sub cs off ti.size)=some p):∃v,(part t vs.toArray off).run P c.w=.ok v c.w∧Rel p c v:=by
 rcases VG r (aaG h) ho with⟨ha,hr⟩|⟨ha,v,hv,hr⟩
 ·refine⟨_,?_,hr⟩;simp[part,hT.nj,ha,hT.size]
 ·refine⟨v,?_,hr⟩;simp[part,hT.nj,ha,hv]
theorem QI{d:Nat}{t:TypeId}{k:IntKind}(hd:P.underlying t=some (.int k)){k1 k2:IntKind}{a b:Int}{r:Bool}(h:fS (.int k1 a) (.int k2 b)=some r)(w:World):(Op.equalIn (d+1) t (.int k1 a) (.int k2 b)).run P w=.ok r w:=by
 unfold fS at h;dsimp only at h;split at h
 ·rename_i e;obtain rfl:=aat e;cases h;rw[run_equalIn_int w d t k1 k a b hd];congr 1
 ·cases h
theorem DZ(hT:cL P T){t:TypeId}{ti:TI}(e:T t=some ti):(∀fs,ti.kd=.struct fs→ti.ag=true)∧(∀n e,ti.kd=.aB n e→ti.ag=true)∧(∀k,ti.kd=.int k→ti.ag=false)∧(ti.kd=.str→ti.ag=false)∧(ti.kd=.bool→ti.ag=false):=by
 obtain⟨d,hd,h1,h2⟩:=(hT t ti e).de;refine⟨fun fs hk=>?_,fun n e hk=>?_,fun k hk=>?_,fun hk=>?_,fun hk=>?_⟩<;>rw[hk]at h2
 ·obtain⟨f,rfl,_⟩:=h2;exact h1
 all_goals (obtain rfl:=h2;exact h1)
theorem Gn(hT:cL P T){t:TypeId}{ti:TI}(e:T t=some ti){n:Nat}{xs ys:List PV}{b:Bool}(h:mP T n t xs ys=some b):(∃p,PV.gC ti.ag xs=some p)∧∃q,PV.gC ti.ag ys=some q:=by
 obtain⟨h1,h2,h3,h4,h5⟩:=DZ hT e;cases n with
 |zero=>unfold mP at h;cases h
 |succ n=>
  unfold mP at h;rw[e]at h;dsimp only at h;split at h
  ·rename_i k _ hk;split at h
   ·rw[h3 _ hk];exact⟨⟨_,rfl⟩,_,rfl⟩
   ·cases h
  ·rename_i _ hk;split at h
   ·rw[h4 hk];exact⟨⟨_,rfl⟩,_,rfl⟩
   ·cases h
  ·rename_i _ hk;split at h
   ·rw[h5 hk];exact⟨⟨_,rfl⟩,_,rfl⟩
   ·cases h
  ·rename_i fs _ hk;rw[h1 _ hk];exact⟨⟨_,rfl⟩,_,rfl⟩
  ·rename_i m e2 _ hk;rw[h2 _ _ hk];exact⟨⟨_,rfl⟩,_,rfl⟩
  ·cases h
theorem xH{ti:TI}(ha:ti.ag=true){xs:List PV}{p:PV}(h:PV.gC ti.ag xs=some p){X:Value}(r:Rel p c X):∃us:List Value,X=.agg us.toArray∧aC xs c us:=by rw[ha]at h;cases h;exact r
theorem rJ{ti:TI}(ha:ti.ag=false){x p:PV}(h:PV.gC ti.ag [x]=some p){X:Value}(r:Rel p c X):Rel x c X:=by rw[ha]at h;cases h;exact r
theorem xk(a b:ByteArray):(a.toList==b.toList)=seq a b:=by unfold seq;rw[ByteArray.toList_eq,ByteArray.toList_eq]
mutual
theorem Aa(hT:cL P T):∀(n d:Nat) {t:TypeId} {ti:TI} {xs ys:List PV} {b:Bool} {p q:PV} {X Y:Value},n≤d→T t=some ti→mP T n t xs ys=some b→PV.gC ti.ag xs=some p→PV.gC ti.ag ys=some q→Rel p c X→Rel q c Y→
 (Op.equalIn d t X Y).run P c.w=.ok b c.w
 |0,_,_,_,_,_,_,_,_,_,_,_,_,h,_,_,_,_=>by unfold mP at h;cases h
 |n+1,0,_,_,_,_,_,_,_,_,_,hd,_,_,_,_,_,_=>by omega
 |n+1,d+1,t,ti,xs,ys,b,p,q,X,Y,hd,e,h,hp,hq,hX,hY=>by
  obtain⟨h1,h2,h3,h4,h5⟩:=DZ hT e
  obtain⟨dd,hu,_,hk⟩:=(hT t ti e).de
  unfold mP at h
  rw[e]at h
  dsimp only at h
  split at h
  ·rename_i k he hkd
   split at h
   ·obtain⟨rfl,_⟩:=rJ (h3 _ hkd) hp hX
    obtain⟨rfl,_⟩:=rJ (h3 _ hkd) hq hY
    rw[hkd]at hk
    obtain rfl:=hk
    exact QI hu h c.w
   ·cases h
  ·rename_i he hkd
   split at h
   ·obtain⟨rfl,_⟩:=rJ (h4 hkd) hp hX
    obtain⟨rfl,_⟩:=rJ (h4 hkd) hq hY
    rw[hkd]at hk
    obtain rfl:=hk
    cases h
    rw[run_equalIn_string c.w d t _ _ hu,xk]
   ·cases h
  ·rename_i he hkd
   split at h
   ·obtain⟨rfl,_⟩:=rJ (h5 hkd) hp hX
    obtain⟨rfl,_⟩:=rJ (h5 hkd) hq hY
    rw[hkd]at hk
    obtain rfl:=hk
    cases h
    exact run_equalIn_bool c.w d t _ _ hu
   ·cases h
  ·rename_i fs he hkd
   obtain⟨us,rfl,ru⟩:=xH (h1 _ hkd) hp hX
   obtain⟨vs,rfl,rv⟩:=xH (h1 _ hkd) hq hY
   obtain⟨g1,g2,g3⟩:=(hT t ti e).F4 he
   have g4:=g3 dd hu
   rw[hkd]at g4
   obtain⟨fields,rfl,g5,g6⟩:=g4
   have hfo:P.fieldsOf t=fields:=by simp[Program.fieldsOf,hu]
   rw[run_equalIn_struct c.w d t _ _ (by rw[hfo];exact hu) g1,hfo]
   exact H3 hT n d (by omega) g5 g6 h ru rv
  ·rename_i m e2 he hkd
   split at h
   ·rename_i te hte
    obtain⟨us,rfl,ru⟩:=xH (h2 _ _ hkd) hp hX
    obtain⟨vs,rfl,rv⟩:=xH (h2 _ _ hkd) hq hY
    rw[hkd]at hk
    obtain rfl:=hk
    simp only[Op.equalIn,Sem.run_bind,run_underlying hu,Result.andThen_ok,(hT e2 te hte).size]
    have:=Li hT n d (by omega) (i:=0) hte (by rw[abI];exact h) ru rv
    rw[Std.Legacy.Range.forIn_eq_forIn_range']
    simp only[Std.Legacy.Range.size,ado,Nat.add_sub_cancel,Nat.div_one]
    rw[this]
    cases b<;>rfl
   ·cases h
  ·cases h
theorem H3(hT:cL P T):∀(n d:Nat) {fs:List (Nat×TypeId)} {fields:List Field} {xs ys:List PV} {b:Bool} {us vs:List Value},n≤d→fields.map (fun f=>(f.offset,f.type))=fs→(∀f∈fields,f.name≠ "_")→qZ T n fs xs ys=some b→aC xs c us→aC ys c vs→
 (Op.eqFields d us.toArray vs.toArray fields).run P c.w=.ok b c.w
 |0,_,_,_,_,_,_,_,_,_,_,_,h,_,_=>by unfold qZ at h;cases h
 |n+1,d,fs,fields,xs,ys,b,us,vs,hd,hf,hn,h,ru,rv=>by
  cases fields with
  |nil=>
   subst hf
   unfold qZ at h
   cases h
   rfl
  |cons f fields=>
   subst hf
   rw[aaZ]at h
   unfold qZ at h
   split at h
   ·rename_i te hte
    split at h
    ·rename_i h1 h2
     split at h
     ·rename_i a b' e1 e2
      cases h
      obtain⟨⟨p,hp⟩,q,hq⟩:=Gn hT hte e1
      obtain⟨v1,r1,s1⟩:=qD (P:=P) (hT _ te hte) ru h1 hp
      obtain⟨v2,r2,s2⟩:=qD (P:=P) (hT _ te hte) rv h2 hq
      have h3:=Aa hT n d (by omega) hte e1 hp hq s1 s2
      have h4:=H3 hT n d (by omega) rfl (fun g hg=>hn g (aaz _ hg)) e2 ru rv
      have hnm:=hn f aaA
      simp only[Op.eqFields,abb hnm,Sem.run_bind,r1,r2,h3,Result.andThen_ok]
      cases a
      ·simp
      ·simp[h4]
     ·cases h
    ·cases h
   ·cases h
theorem Li(hT:cL P T):∀(n d:Nat) {e:TypeId} {te:TI} {m i:Nat} {xs ys:List PV} {b:Bool} {us vs:List Value},n≤d→T e=some te→rm T n e te.size m (i*te.size) xs ys=some b→aC xs c us→aC ys c vs→
 (forIn (m:=Sem) (List.range' i m) ((none,()):Option Bool×Unit) (fun i _=>do
   if !(← Op.equalIn d e (← part e us.toArray (i*te.size)) (← part e vs.toArray (i*te.size)))then pure (.done (some false,()))else pure (.yield (none,())))).run P c.w=.ok (if b=true then(none,())else(some false,())) c.w
 |0,_,_,_,_,_,_,_,_,_,_,_,_,h,_,_=>by unfold rm at h;cases h
 |n+1,d,e,te,m,i,xs,ys,b,us,vs,hd,hte,h,ru,rv=>by
  cases m with
  |zero=>unfold rm at h;cases h;rfl
  |succ m=>
   unfold rm at h
   split at h
   ·rename_i h1 h2
    split at h
    ·rename_i a b' e1 e2
     cases h
     obtain⟨⟨p,hp⟩,q,hq⟩:=Gn hT hte e1
     obtain⟨v1,r1,s1⟩:=qD (P:=P) (hT _ te hte) ru h1 hp
     obtain⟨v2,r2,s2⟩:=qD (P:=P) (hT _ te hte) rv h2 hq
     have h3:=Aa hT n d (by omega) hte e1 hp hq s1 s2
     have h4:=Li hT n d (by omega) (i:=i+1) hte (by rw[abL];exact e2) ru rv
     rw[List.range'_succ,List.forIn_cons]
     simp only[Sem.run_bind,r1,r2,h3,Result.andThen_ok]
     cases a
     ·simp
     ·simpa using h4
    ·cases h
   ·cases h
end
end
end
end Go.Proofs.YtbnonpbnhenkfaaGreatDoor
