/- Part 11 -/
import Derived.Test.YtbnonpbnhenkfaaGreatDoorQ10
import Derived.OrdersIn
import Derived.ProofKit
import Derived.OpenShut
import Derived.Deep.Slices
import Derived.SizedLaws
import Derived.Lib.LaidTab
import Derived.Lib.LaidU8
import Derived.Deep.RegionWith
set_option linter.all false
set_option maxRecDepth 1000000
set_option maxHeartbeats 8000000
namespace Go.Proofs.YtbnonpbnhenkfaaGreatDoor
section
open Go.RowKit Go.Proofs.Tryz
def LY{t:ay}(h:t.d.down=false):PC 163 [t.pv] (·=.aU [t.pv,i64 15]):=by
 rcases t with⟨key,⟨size,h0,s0,h1,s1,down,cy,bx⟩,s,file,dR⟩
 dsimp only at h;subst h;exact aw func163<|an<|ah
abbrev jM:ay->ay×bn:=λt=>(t,.ef 15)
def LZ{t:ay}(h:t.d.down=false):so jM t:=by
 have a:=LY h;exact aw func86<|ak a rfl<|ah
def cN.Mp{o:aC}(h:cN o):wT o:=
 ⟨⟨by have:=h.xp;omega,λt a=>by
  have:=h.dv t a
  exact⟨om,λv hv=>by grind⟩⟩,λp hp=>by have:=h.gS p hp;omega⟩
theorem su(e:cK)(a:e.aD.size<=1000000)(hk:e.kind≠4):gN (e,none):=⟨a,λh=>absurd h hk,λ_ _ h=>by cases h⟩
def aoL(e:cK)(a:e.aD.size<=1000000)(hb:e.bytes.size=2):gN (e,none):=⟨a,λ_=>af7 hb,λ_ _ h=>by cases h⟩
theorem OH{t:cr}{o:aC}(h1:t.aD.size<=32)(h2:t.bY.length<=8)(b:t.gY.size<=32)(a:cN o):gN (fr t o):=by
 refine⟨j9 _,λ_=>?_,λk o' e=>?_⟩
 ·exact amC t o h1 a.Mp (by grind [RZ,yn])
 ·obtain⟨rfl,_⟩:=Lj e;omega
theorem Sc{key aD:BA}{o:aC}(h:aD.size<=32)(a:cN o):gN (fr (cr.new key aD) o):=by grind [cr.new,Mc.wQ,OH]
def aih{t:cr}{c:cP}{o:aC}(h:t.aD.size<=32)(h2:t.bY.length=0)(a:cN o):gN (fr (t.zg c) o):=
 OH h (by show(t.bY++[c]).length<=8;simp_all) (by show(Mc.nA t.gY c.put).size<=32;grind [Mc.wQ]) a
theorem Hq{name:BA}{o:aC}(h:name.size<=32)(a:cN o):gN (fr (fQ name) o):=Sc h a
def agh(x:bN):x.name.size<=2:=oc _
theorem ID(x:bN)(loss:Bool):gN (x.fK loss):=by
 have b:=agh x;have a:=qY x;unfold bN.fK;generalize x.kind.toNat%24=k;unfold bN.eX;cases decide (k<4)
 case true=>exact su _ (j9 _) (by simp_all)
 dsimp only;cases decide (k=4)&&loss
 case true=>grind [su]
 dsimp only;cases decide (k=5)&&loss
 case true=>grind [su]
 dsimp only;cases decide (k=6)&&loss
 case true=>exact su _ (j9 _) (by simp_all)
 dsimp only;cases decide (k<10)&&loss
 case true=>grind [su]
 dsimp only;cases decide (k=10)
 case true=>exact su _ (by have:(pick [sA,sD,Hy,vE] (x.n.toNat%4)).size<=4:=wB (by decide) _;grind) (by simp_all)
 dsimp only;cases decide (k=11)
 case true=>grind [Sc,oc]
 dsimp only;cases decide (k=12)
 case true=>exact aih (by show x.name.size<=32;omega) rr a
 dsimp only;cases decide (k=13)
 case true=>exact aoL _ (by grind) rr
 grind [su,Hq]
theorem adw{name:BA}(h:name.size<=32){o:aC}(a:cN o):gN (mJ name o):=by grind [mJ,Hq,su]
def FO(size:Int){name:BA}(h:name.size<=32):∀x∈rY size name,gN x:=λx a=>by
 rcases p9.1 a with rfl|a
 ·grind [su]
 grind [adw,Ce]
theorem JC(size:Int):∀x∈lr size,gN x:=λx a=>by
 rcases s8.1 a with a|a
 ·exact FO size (by decide) x a
 ·rcases s8.1 a with a|a
  ·exact FO size (by decide) x a
  ·exact FO size (by decide) x a
theorem aaL:gN rq:=su _ (j9 _) (by simp_all)
end
section
open Go.RowKit
def JE.rz:JE->Bool
 |.fK e=>decide (e.kind=1)
 |.fG _ _=>false
def zE(l:List JE)(name:BA):Bool:=((lI [] (l.filter JE.rz)).1.find? λx:dB=>seq x.name name).isSome
def Hb(dm:List JE)(name:BA):JE->Bool
 |.fK _=>false
 |.fG n _=>match seq n name with
  |false=>false
  |true=>zE dm name
def JE.kind:JE->Int
 |.fK e=>e.kind
 |.fG _ _=>4
def Hk(name:BA)(dm:List JE)(j:JE):Bool:=match decide (j.kind=4)with
 |false=>true
 |true=>Hb dm name j
def AV(p:List JE->JE->Bool)(dm:List JE):List JE->List JE
 | []=>[]
 |x::l=>match p dm x with
  |true=>x::AV p (dm++[x]) l
  |false=>AV p (dm++[x]) l
def abV(name:BA):JE->Bool
 |.fK e=>match seq e.aD name with
  |true=>true
  |false=>!qz e.kind
 |.fG _ _=>true
def pS(l:List JE)(name:BA):List JE:=(AV (Hk name) [] l).filter (abV name)
def vk(l:List JE):Prop:=∀j∈l,∀e,j=.fK e->e.kind=1->e.key=ew++e.aD
def amh(l:List JE):(l.map JE.cL).filter il=(l.filter JE.rz).map JE.cL:=by
 rw[List.filter_map];congr 1;refine List.filter_congr λj _=>?_
 cases j with
 |fK e=>rfl
 |fG n o=>show decide ((4:Int)=1)=false;decide
theorem aiX{M:Nat}{R:ay->ay×bn}(s:∀t,t.d.down=false->R t=(t,.ef 15))(l:List JE)(hk:vk l)(e:∀x∈l.map JE.cL,ic M x)(w:549+l.length*329<=M)(name:BA):
 (zE l name=false/\(jR R (l.map JE.cL) name).2=false)\/(zE l name=true/\jR R (l.map JE.cL) name=(ew++name,true)):=by
 have c:∀j∈l.filter JE.rz,j∈l:=λj b=>(C5.1 b).1
 have f:(l.filter JE.rz).length<=l.length:=C6 ..
 have p:(l.filter JE.rz).length*(320+9)<=l.length*329:=B8 _ f
 have h0:iI M 220 [] []:=⟨rr,λn q=>(o7 q).elim⟩
 have r:=(xc (K:=320) s om ((l.filter JE.rz).map JE.cL) h0 (λy k=>by
  obtain⟨j,b,rfl⟩:=y9.1 k
  exact(e _ (C8 (c j b))).yL) om (by grind)).1
 have b:=zu (l.filter JE.rz) (i:=[]) (λx e=>(o7 e).elim) λj b=>hk j (c j b)
 have o:nN (lI [] (l.filter JE.rz)).1:=by
  have key:∀(m:List JE) (i:List dB),nN i->vk m->nN (lI i m).1:=by
   intro m
   induction m with
   |nil=>intro i h _;exact h
   |cons j m ih=>intro i h g;exact ih _ (QR h (g j j6)) λy k=>g y (j3 _ k)
  exact key _ _ (λx e=>(o7 e).elim) λj b=>hk j (c j b)
 rw[b]at r
 unfold jR
 rw[amh]
 unfold zE
 have a:=KH (cY R [] ((l.filter JE.rz).map JE.cL)).1 name
 rw[r.eq]at a
 unfold f_
 cases u:(cY R [] ((l.filter JE.rz).map JE.cL)).1.find? (λn=>seq n.name name)with
 |none=>
  simp_all
 |some n=>
  rw[u]at a
  rw[a]
  refine .inr ⟨rr,?_⟩
  have g:=x7 a
  have q:=G9 a
  have v:=o _ g
  grind [kZ,eI]
def aeb{M:Nat}{R:ay->ay×bn}(a:∀t,t.d.down=false->R t=(t,.ef 15))(dm:List JE)(hk:vk dm)(b:∀x∈dm.map JE.cL,ic M x)(c:549+dm.length*329<=M)(name:BA)(j:JE):mM R name (dm.map JE.cL) j.cL=Hk name dm j:=by
 cases j with
 |fK e=>rfl
 |fG n o=>
  show tf R (dm.map JE.cL) (JE.fG n o).cL name=Hb dm name (.fG n o)
  unfold tf Hb;show(match seq (fQ n).aD name with|false=>false|true=>match jR R (dm.map JE.cL) name with|(_,false)=>false|(key,true)=>(fQ n).check key)=(match seq n name with|false=>false|true=>zE dm name)
  grind [CL,eI,aiX,Ub]
def VG{M:Nat}{R:ay->ay×bn}(a:∀t,t.d.down=false->R t=(t,.ef 15))(name:BA):∀(l dm:List JE),vk (dm++l)->(∀x∈(dm++l).map JE.cL,ic M x)->549+(dm++l).length*329<=M->gv (mM R name) (dm.map JE.cL) (l.map JE.cL)=(AV (Hk name) dm l).map JE.cL
 | [],_,_,_,_=>rfl
 |j::l,dm,hk,b,f=>by
  have e:dm++j::l=dm++[j]++l:=by simp_all
  have g:=aeb (M:=M) a dm (λy c=>hk y (G5 _ c)) (λx h=>b x (by grind)) (by grind) name j
  have i:=VG a name l (dm++[j]) (by grind) (by rw[<-e];exact b) (by grind)
  grind [gv,AV]
def abu{M:Nat}{R:ay->ay×bn}(a:∀t,t.d.down=false->R t=(t,.ef 15))(name:BA)(l:List JE)(hk:vk l)(b:∀x∈l.map JE.cL,ic M x)(c:549+l.length*329<=M):kI R (l.map JE.cL) name=(pS l name).map JE.cL:=by
 unfold kI vv pS;have h:=VG a name l [] hk b c;rw[show gv (mM R name) [] (l.map JE.cL)=_ from h,List.filter_map];congr 1;refine List.filter_congr λj _=>?_
 cases j with
 |fK e=>rfl
 |fG n o=>
  show(match seq aA name with|true=>true|false=>!qz 4)=true
  cases seq aA name<;>rfl
def Fy(name:BA)(o:aC):JE:=match decide (o.kind=3)with
 |true=>.fG name o
 |false=>.fK {cK.z with kind:=2,aD:=name,o:=o}
def yU(size:Int)(name:BA):List JE:=.fK {cK.z with kind:=1,aD:=name,key:=ew++name,n:=size}::mH.map (Fy name)
def JK(size:Int):List JE:=yU size sA++(yU size sB++yU size vE)
def Ji{name:BA}{o:aC}(h:d_ name=true)(a:o.right=true):fr (fQ name) o=(JE.fG name o).cL:=by
 have b:=adg h;show({cK.z with kind:=4,bytes:=ov (fQ name) o},zl (fQ name) o)=_
 unfold zl;rw[b,a];rfl
def ab2:∀o∈mH,o.right=true:=by
 intro o h;unfold mH at h;simp only[p9,o7,H3]at h;rcases h with rfl|rfl|rfl|rfl|rfl|rfl<;>kernel_rfl
def GA(size:Int){name:BA}(h:d_ name=true):rY size name=(yU size name).map JE.cL:=by
 unfold rY yU;rw[w9,F3];congr 1;refine C4 λo a=>?_
 show mJ name o=(Fy name o).cL
 unfold mJ Fy;cases decide (o.kind=3)
 case true=>exact Ji h (ab2 o a)
 rfl
def RM(size:Int):lr size=(JK size).map JE.cL:=by
 unfold lr JK;rw[GA size wN,GA size E',GA size agS,l6,l6]
def aX:bM:=⟨sA,⟨5,0,0,0⟩,1,1,4,[]⟩
def aY:bM:={aX with bC:=5}
def nJ(x:bM):aC:={aC.z with kind:=1,x:=x}
def yW:aC:={aC.z with kind:=4,id:=2}
def yx:aC:={aC.z with kind:=5}
def fO:List JE:=JK 20000++[.fG sA (nJ aX),.fG sA (nJ aY),.fK rq.1]
def jK:List JE:=fO++[.fG sA yW,.fG sB yx]
def wO:List dB×List (List dg):=lI [] jK
def ahO:wO.2.length=26:=by kernel_rfl
def anT:(wO.2[24]?).map (λr=>r.map λx=>(x.a.lX,x.a.al.map λb=>b.data.toList))=some [(2,[[110,50]])]:=by kernel_rfl
def ZM:(wO.2[25]?).map (λr=>r.map λx=>x.a.gx.length)=some [0]:=by kernel_rfl
def vR(name:BA):Option dB:=wO.1.find? λx=>seq x.name name
def akt:(vR sA).map (λx=>(x.s.round,x.s.ar.places.map (λp=>(p.aZ,p.node.data.toList,p.v.a,p.v.b)),x.s.ae.length))=some (1,[(2,[110,50],5,0)],2):=by kernel_rfl
def aac:(vR sB).map (λx=>(x.s.round,x.s.ae.length))=some (1,0):=by kernel_rfl
theorem abz:gu sB (lI [] fO).2=gu sB (lI [] (pS fO sB)).2:=by kernel_rfl
theorem afD:(pS fO sB).length=10:=by kernel_rfl
def xy:List ax->(UInt64->Int)->UInt64->Int
 | [],f=>f
 |j::m,f=>xy m (match j.bB with
  |true=>λid=>match decide (id=j.id)with|true=>j.x.count|false=>f id
  |false=>f)
def oY(s:af):List dt->(UInt64->Int)->Option (UInt64->Int)
 | [],f=>some f
 |x::m,f=>match decide (f x.aZ<1)with
  |true=>none
  |false=>match V4.same x.v (bK s.ae x.aZ).1.x.cT with
   |false=>none
   |true=>oY s m λid=>match decide (id=x.aZ)with|true=>f id-1|false=>f id
def af.oe(s:af):Bool:=match oY s s.ar.places (xy s.ae λ_=>0)with
 |none=>false
 |some f=>s.ae.all λj=>match j.bB with|true=>decide (f j.id=0)|false=>true
def af.right(s:af):Bool:=CW s s.oe
def aaX:(vR sA).map (λx=>x.s.right)=some true:=by kernel_rfl
def abr:(vR sA).map (λx=>(bK x.s.ae 1).1.bB)=some false:=by kernel_rfl
end
section
open Go.RowKit Go.Proofs.Tryz
def Aa:∀x n hp,bL [] (n+40) hp (cq x)=some (cq x,[]):=λ_ _ _=>rfl
end
section
open Go.RowKit
def Vl(x:bM)(h:x.aa.size<=6)(a:x.dv=[]):cN (nJ x):=⟨j9 _,h,by show x.dv.length<=1;rw[a];exact j9 _,λt b=>(by rw[show(nJ x).x.dv=[]from a]at b;exact(o7 b).elim),j9 _,λ_ h=>(o7 h).elim⟩
def St:cN (nJ aX):=Vl aX (by decide) rr
def Se:cN (nJ aY):=Vl aY (by decide) rr
def Yt:cN yW:=cN.z.with 4 2 0 V4.z
def Nz:cN yx:=cN.z.with 5 0 0 V4.z
def BR(M:Nat){name:BA}{o:aC}(b:name.size<=32)(h:d_ name=true)(c:o.right=true)(a:cN o):ic M (JE.fG name o).cL/\gN (JE.fG name o).cL:=by
 rw[<-Ji h c];exact⟨Pu M _ a,Hq b a⟩
def Bt:jK.map JE.cL=lr 20000++[(JE.fG sA (nJ aX)).cL,(JE.fG sA (nJ aY)).cL,rq]++[(JE.fG sA yW).cL,(JE.fG sB yx).cL]:=by
 unfold jK fO;rw[l6,l6,<-RM];rfl
def UD:fO.map JE.cL=lr 20000++[(JE.fG sA (nJ aX)).cL,(JE.fG sA (nJ aY)).cL,rq]:=by
 unfold fO;rw[l6,<-RM];rfl
def xf:∀x∈jK.map JE.cL,ic 10000 x/\gN x:=λx a=>by
 rw[Bt]at a
 rcases s8.1 a with a|a
 ·rcases s8.1 a with a|a
  ·exact⟨adP (by decide) x a,JC _ x a⟩
  ·simp only[p9,o7,H3]at a
   rcases a with rfl|rfl|rfl
   ·exact BR _ (by decide) wN (by kernel_rfl) St
   ·exact BR _ (by decide) wN (by kernel_rfl) Se
   ·exact⟨adI _,aaL⟩
 ·simp only[p9,o7,H3]at a
  rcases a with rfl|rfl
  ·exact BR _ (by decide) wN (by kernel_rfl) Yt
  ·exact BR _ (by decide) E' (by kernel_rfl) Nz
theorem Al:(jK.map JE.cL).length=26:=by rw[Bt,i6,i6,EO];rfl
def agU:PC 13 [sl cq (jK.map JE.cL)] (·=.aU [sl aO.pv (cY jM [] (jK.map JE.cL)).1,.sl false ((cY jM [] (jK.map JE.cL)).2.map λr=>sl dg.pv r)]):=
 agD (M:=10000) (R:=jM) (λ_ _=>rfl) (λ_ h=>h) _ (by rw[Al];decide) (λx a=>(xf x a).1) (λx a=>(xf x a).2) (by rw[Al];decide) λt b _=>LZ b
def VY:JE->Bool
 |.fK e=>!decide (e.kind=1)||seq e.key (ew++e.aD)
 |.fG _ _=>true
def GW{l:List JE}(h:l.all VY=true):vk l:=λj a e b hk=>by
 subst b
 have:(!decide (e.kind=1)||seq e.key (ew++e.aD))=true:=A3.1 h _ a
 rw[l9 hk]at this
 exact eI.1 this
def ag5:vk jK:=GW (by kernel_rfl)
def X':vk fO:=GW (by kernel_rfl)
def Qn:ls [] (jK.map JE.cL)=wO:=zu jK (λx a=>(o7 a).elim) ag5
def ald:ls [] (fO.map JE.cL)=lI [] fO:=zu fO (λx a=>(o7 a).elim) X'
def CP:∀x∈fO.map JE.cL,ic 10000 x/\gN x:=λx a=>xf x (by
 rw[Bt,<-UD]
 exact G5 _ a)
theorem KT:fO.length=24:=by kernel_rfl
theorem Xr:kI jM (fO.map JE.cL) sB=(pS fO sB).map JE.cL:=abu (M:=10000) (λ_ _=>rfl) sB fO X' (λx a=>(CP x a).1) (by rw[KT];decide)
def alP:iI 10000 10000 (cY jM [] (jK.map JE.cL)).1 (ls [] (jK.map JE.cL)).1/\(cY jM [] (jK.map JE.cL)).2=(ls [] (jK.map JE.cL)).2:=by
 have h0:iI 10000 220 [] []:=⟨rr,λn a=>(o7 a).elim⟩;have c:=Al;have:=xc (K:=320) (R:=jM) (λ_ _=>rfl) om (jK.map JE.cL) h0 (λy b=>(xf y b).1.yL) om om;exact⟨this.1.le om,this.2⟩
abbrev Wd(ro:Option Nat):Fence:={Fence.wide with round:=ro}
theorem afh{ro:Option Nat}{n:Nat}{P:Program}{f:FuncId}{args:Array Value}{w:World}{R:Ending->World->Prop}(h:Calls P f args w R):CallsIn (Wd ro) n P f args w R:=callsIn_wide (n:=n).2 h
def qQ(o:Oper):Bool:=match o.op with|.defer _=>false|_=>true
theorem Q_{o:Oper}(h:qQ o=true):∀c,o.op≠.defer c:=λc e=>by unfold qQ at h;rw[e]at h;cases h
def Jf(t:Nat)(o:Oper):Bool:=match o.dst with|some d=>Nat.beq d t|none=>false
theorem AR{o:Oper}{t:Nat}(h:Jf t o=false)(a:Act)(v:Value):(a.put o.dst v).tmps[t]? = a.tmps[t]?:=by
 unfold Jf at h;cases f:o.dst with
 |none=>rfl
 |some d=>
  rw[f]at h;have c:d≠t:=nbeq' h;simp[Act.put,c]
where nbeq' {a b:Nat} (h:Nat.beq a b=false):a≠b:=λe=>by rw[e,I6]at h;cases h
def agp(p:Nat->Bool)(a a':Act):Prop:=∀t,p t=false->a'.tmps[t]? = a.tmps[t]?
theorem ahR{ro:Option Nat}{n:Nat}{P:Program}{o:Oper}{a:Act}{w:World}{next:Act->World->Prop}{Q:Exit->Act->World->Prop}(hd:qQ o=true)(h:o.wp P a w next Q):
 o.wpIn (Wd ro) n P a w (λa' w'=>next a' w'/\agp (λt=>Jf t o) a a') Q:=by
 unfold Oper.wpIn
 refine⟨λ_ _=>trivial,?_⟩
 rw[Oper.semAt_plain _ _ _ (Q_ hd)]
 unfold Oper.wp at h
 generalize(execOp a.eval o).run P w=r at h⊢
 cases r with
 |ok x w'=>
  cases x with
  |value v=>exact⟨h,λt ht=>AR ht a v⟩
  |skip=>exact⟨h,λt ht=>AR ht a undef⟩
  |defer d=>exact⟨h,λt ht=>AR (o:=o) ht {a with defers:=d::a.defers} undef⟩
  |enter f args=>
   refine⟨λh=>(by cases h),(afh h).mono λe w'' he=>?_⟩
   cases e with
   |returned v=>exact⟨he,λt ht=>AR ht a v⟩
   |panicked _=>exact he
   |outgrown=>exact he
  |row row args=>
   refine⟨λh=>(by cases h),λc cs _=>?_⟩
   obtain⟨v,w'',h1,h2⟩:=h c cs
   exact⟨v,w'',⟨h1,λt ht=>AR ht a v⟩,stepsIn_wide.2 h2⟩
  |_=>exact h.elim
 |halt x w'=>cases x<;>exact h
section
variable {P:Program}{G:World→Prop}{T:TT}{S:dr}
theorem CQ{ro:Option Nat}{fn:Nat}{md:Region.Mode}{ops:Array Oper}{Q:Exit->Act->World->Prop}(d:¬LetsOut Q)(e:ops.toList.all qQ=true):∀(b:Nat) (c:Array Bool) (a:Act) (w:World),wpAny P md ops Q b c a w->wpAnyIn (Wd ro) fn P md ops Q b c a w
 |0,_,_,_,h=>h
 |b+1,c,a,w,h=>by
  refine⟨h.1,λi hi=>?_⟩
  have h2:=h.2 i hi
  unfold wpOp at h2
  unfold wpOpIn
  cases f:ops[i]? with
  |none=>rw[f]at h2;exact CQ d e b _ _ _ h2
  |some o=>
   rw[f]at h2
   dsimp only at h2⊢
   have g:qQ o=true:=A3.1 e o (i7 (by rw[w8];exact f))
   split
   ·rename_i j
    rw[z7 j]at h2
    rcases h2 with h2|h2
    ·exact Oper.wpIn_mono (λa' w' h=>CQ d e b _ a' w' h.1) (ahR g h2)
    ·exact absurd h2.2 d
   ·rename_i j
    rw[y8 j]at h2
    exact⟨λ_ _=>trivial,CQ d e b _ _ _ h2⟩
theorem ua{ro:Option Nat}{fn id:Nat}{ops:Array Oper}{Q:Exit->Act->World->Prop}{a:Act}{w:World}(h:wpListIn (Wd ro) fn P ops Q ops.toList a w):(Code.region id ops false).wpIn (Wd ro) fn P Q a w:=by
 refine wpIn_region ?_;rw[List.range_eq_range',<-p8,wpOpsIn_eq_wpListIn ops.toList 0 (by simp)];exact h
end
end
section
open Go.RowKit Go.Shelf Go.Proofs.Tryz
section
variable {F:Fence}{n:Nat}{P:Program}(w:World){ops:Array Oper}{rest:List Oper}{o:Oper}{a:Act}{Q:Exit→Act→World→Prop}
theorem BI(s:Region.wanted o (yielded ops a.tmps)=true){t:TypeId}{x:Operand}(d:o.op=.load t x){ti:TI}(u:iR P t ti)(g:ti.ag=true){cs:List Value}(r:cs.length=ti.size){b off:Nat}(A:a.eval x=.pointer (some ⟨b,off,none⟩))
 (B:∀(i:Nat) y,cs[i]? = some y->w.cell? ⟨b,off+i,none⟩=some y) (h1:∀y∈cs,y.oneCell'=true) (C:wpListIn F n P ops Q rest (a.put o.dst (.agg cs.toArray)) w):wpListIn F n P ops Q (o::rest) a w:=by
 unfold wpListIn
 rw[z7 s]
 unfold Oper.wpIn
 refine⟨by simp[Oper.about,d],?_⟩
 rw[Oper.semAt_plain F _ _ (by rw[d];intro c j;cases j)]
 have D:∀(l:List Value),(∀y∈l,y.oneCell'=true)->∀c,aM (l.map PV.at) c l:=λl=>by
  induction l with
  |nil=>intro _ _;rfl
  |cons y l m=>exact λh c=>⟨y,l,rr,⟨rr,h y j6⟩,m (λz E=>h z (j3 _ E)) c⟩
 have e:PV.sub (cs.map PV.at) 0 ti.size=cs.map PV.at:=by
  have:=OM (cs.map PV.at)
  rwa [c8,r]at this
 obtain⟨v,hv,f⟩:=xH (c:=⟨w,λ_ _=>True,λ_=>none⟩) (ti:=ti) (p:=.agg (cs.map PV.at)) u (D cs h1 _) (off:=0) (by rw[c8,r,j7];exact Nat.ble_self_eq_true _) (by rw[e,g];rfl) b off B
 obtain⟨vs,rfl,k⟩:=f
 have G:∀(l vs:List Value) c,aM (l.map PV.at) c vs->vs=l:=λl=>by
  induction l with
  |nil=>exact λvs c h=>h
  |cons y l m=>
   rintro vs c ⟨v,q,rfl,⟨rfl,_⟩,h⟩
   rw[m q c h]
 rw[G _ _ _ k,D0]at hv
 simp[execOp,d,A,Instr.loadAt,Instr.sureAddr,hv,Result.andThen]
 exact C
theorem Le{o2:Oper}(B:o.guard=none)(l:o2.guard=none){t:TypeId}{d:Nat}(C:o.dst=some d){y:Operand}(f:o.op=.alloc t)(b:o2.op=.store t (.tmp d) y){ti:TI}(D:iR P t ti){cs:List Value}(A:cs.length=ti.size)(m:d<a.tmps.size)
 (E:(a.put (some d) (.pointer (some ⟨w.heap.size,0,none⟩))).eval y=.agg cs.toArray) (h1:∀y∈cs,y.oneCell'=true)
 (G:∀W2,w.grownBy W2 none->W2.heap.size=w.heap.size+1->W2.heap[w.heap.size]? = some (.cells cs.toArray t (0,0))->wpListIn F n P ops Q rest ((a.put (some d) (.pointer (some ⟨w.heap.size,0,none⟩))).put o2.dst undef) W2):wpListIn F n P ops Q (o::o2::rest) a w:=by
 obtain⟨i,z,hi,p,H,q,_,_⟩:=D.ex
 refine wpListIn_plain B λK r=>?_
 unfold Oper.wpIn
 refine⟨by simp[Oper.about,f],?_⟩
 rw[Oper.semAt_plain F _ _ (by rw[f];intro c g;cases g)]
 have j:(execOp a.eval o).run P w=.ok (.value (.pointer (some ⟨w.heap.size,0,none⟩))) (w.alloc (.cells z.cells t)):=by
  unfold execOp
  have s:(zeroValue t).run P w=.ok z w:=by simp[zeroValue,typeInfo,hi,H]
  simp[f,Instr.alloc,s,newVar,newRow,run_newObj_alloc,Result.andThen]
 rw[j]
 refine r _ _ ?_
 rw[C]
 refine wpListIn_plain l λJ u=>?_
 unfold Oper.wpIn
 refine⟨by simp[Oper.about,b],?_⟩
 rw[Oper.semAt_plain F _ _ (by rw[b];intro c g;cases g)]
 have v:(a.put (some d) (.pointer (some ⟨w.heap.size,0,none⟩))).eval (.tmp d)=.pointer (some ⟨w.heap.size,0,none⟩):=by
  simp[Act.put,Act.eval,m]
 have e:(w.alloc (.cells z.cells t)).heap[w.heap.size]? = some (.cells z.cells t (0,0)):=World.alloc_heap_new _ _
 have h:(execOp (a.put (some d) (.pointer (some ⟨w.heap.size,0,none⟩))).eval o2).run P (w.alloc (.cells z.cells t))=.ok .skip ((w.alloc (.cells z.cells t)).setRow w.heap.size cs.toArray):=by
  unfold execOp
  simp only[b,v,E,Instr.storeAt,Instr.sureAddr,Sem.run_bind,Sem.run_pure,Result.andThen_ok]
  rw[run_storeVar_row _ _ t t z.cells cs.toArray e (by rw[hi];simp[p,A]) (by simp[q,A]) (by rw[Array.all_eq_true_iff_forall_mem];intro x I;exact h1 x (by simpa using I))]
  rfl
 rw[h]
 refine u _ _ (G _ ?_ ?_ ?_)
 ·have h1:=(Below.refl w.heap.size w).alloc (j2 _) (.cells z.cells t)
  refine⟨rr,rr,rr,?_,λk hk _=>?_⟩
  ·show _<=(Array.modify _ _ _).size
   rw[Array.size_modify,World.size_alloc];omega
  ·refine Eq.trans ?_ (h1.block k hk)
   show(Array.modify _ _ _)[k]? = _
   rw[Array.getElem?_modify,y8 om]
 ·show(Array.modify _ _ _).size=_
  rw[Array.size_modify,World.size_alloc]
 ·exact setRow_heap _ _ _ _ _ _ e
end
def pp(C:Nat->Nat->Value->Prop)(W:World):Prop:=∀b o v,C b o v->W.cell? ⟨b,o,none⟩=some v
def Aj(C:Nat->Nat->Value->Prop)(k:Nat)(v:Value)(vs:List (List Value)):Prop:=
 ∃a cap,v=.slice a vs.length cap/\(∀cs∈vs,cs.length=k/\∀y∈cs,y.oneCell'=true)/\∀(i:Nat) cs,vs[i]? = some cs->∃b off,a=some ⟨b,off,none⟩/\∀(m:Nat) y,cs[m]? = some y->C b (off+i*k+m) y
theorem pp.grown{C:Nat->Nat->Value->Prop}{W d:World}(h:pp C W)(c:W.grownBy d none):pp C d:=λb o v f=>
 have hb:Below W.heap.size W d:=⟨c.os,c.tape,c.output,c.size,λk hk=>c.block k hk (λe=>by cases e)⟩
 (hb.cell (p:=⟨b,o,none⟩) (vK (h b o v f))).trans (h b o v f)
theorem Cj{W:World}{B:Nat}{cs:List Value}{t:TypeId}(h:W.heap[B]? = some (.cells cs.toArray t (0,0)))(i:Nat)(y:Value)(hi:cs[i]? = some y):W.cell? ⟨B,i,none⟩=some y:=by simp[World.cell?,h,hi]
section
variable {β:Type}(cells:β→List Value)(name:BA)
def uC(x:BA×β):List Value:=.string x.1::cells x.2
def nR(xs:List (BA×β)):List β:=(xs.filter λx=>seq x.1 name).map (·.2)
def kR(b:List (List (BA×β))):List β:=b.flatMap (nR name)
theorem QQ{b:List (List (BA×β))}{k:Nat}{xs:List (BA×β)}(h:b[k]? = some xs):kR name (b.take (k+1))=kR name (b.take k)++nR name xs:=by
 unfold kR;rw[L6,h,List.flatMap_append];simp
theorem J_{xs:List (BA×β)}{q:Nat}{x:BA×β}(h:xs[q]? = some x):nR name (xs.take (q+1))=match seq x.1 name with|true=>nR name (xs.take q)++[x.2]|false=>nR name (xs.take q):=by
 unfold nR;rw[L6,h,D6,l6];show _++List.map _ (List.filter _ [x])=_
 rw[I9,J6];cases seq x.1 name<;>simp
theorem aaF(xs:List (BA×β))(q:Nat):nR name xs=nR name (xs.take q)++nR name (xs.drop q):=by
 unfold nR;rw[<-l6,<-D6,A5]
theorem ah0{b:List (List (BA×β))}{k q:Nat}{xs:List (BA×β)}{x:BA×β}(h:b[k]? = some xs)(c:xs[q]? = some x)(d:seq x.1 name=true):(kR name (b.take k)++nR name (xs.take q)).length<(kR name b).length:=by
 have h1:=QQ name h;have h2:=J_ name c;rw[d]at h2;have f:=aaF name xs (q+1);have g:kR name b=kR name (b.take (k+1))++kR name (b.drop (k+1)):=by
  unfold kR;rw[<-List.flatMap_append,A5]
 have e:=congrArg List.length g;rw[h1,f,h2]at e;simp only[i6,w6,B9]at e⊢;omega
theorem ac0(xss:List (List (BA×β)))(hl:xss.length<=60000000)(hls:∀xs∈xss,xs.length<=60000000)(hc14:∀x:β,(cells x).length=14/\∀y∈cells x,y.oneCell'=true)(C:Nat->Nat->Value->Prop)(l b1 o1 b2 o2:Nat)(V:Value)(vs:List Value)
 (hV:C b1 o1 V) (hN:C b2 o2 (.string name)) (hS:Aj C 1 V (vs.map λv=>[v])) (hvl:vs.length=xss.length) (hSi:∀(i:Nat) v xs,vs[i]? = some v->xss[i]? = some xs->Aj C 15 v (xs.map (uC cells)))
 (Kp:World->World->Prop) (hKp:∀A B,Kp A B->pp C A->pp C B) (J Jx:List (Nat×β)->World->Prop)
 (hY:∀pre x W,J pre W->pre.length<(kR name xss).length->YieldAt Fence.wide (1-1) prog l #[.int .i64 (x.1:Int),.agg (cells x.2).toArray] W λe W'=>(e=.returned (.bool true)/\J (pre++[x]) W'/\Kp W W')\/(e=.returned (.bool false)/\Jx (pre++[x]) W'))
 (W:World) (hJ:AbidesFrom W.heap.size J) (hCW:pp C W) (h0:J [] W):
 CallsIn Fence.wide 1 prog 151 #[.func (.yield l) #[] #[],.pointer (some ⟨b1,o1,none⟩),.pointer (some ⟨b2,o2,none⟩)] W λe W'=>(∃v,e=.returned v)/\((∃ys,ys.map (·.2)=kR name xss/\J ys W')\/∃pre,True/\Jx pre W'):=by
 refine callsIn_of_wp func151 rr trivial ?_ rr
 simp only[ntmps151,A9,w6,B9,Nat.reduceAdd,Nat.reduceSub,Array.replicate_succ,Array.replicate_zero,List.push_toArray,List.append_toArray,D4,E4]
 obtain⟨aV,capV,rfl,hV1,hV2⟩:=hS
 rw[c8]at hV
 have hc1:=hCW _ _ _ hV
 gi_wp2
 gi_loopw [10] (λi wr=>∃(k:Nat) (pre:List (Nat×β)),k<=xss.length/\i=.int .i64 k/\pre.map (·.2)=kR name (xss.take k)/\J pre wr/\pp C wr)
  (λi _=>xss.length-(intOf i).toNat)
 case atStart=>exact⟨0,[],j9 _,rr,rr,h0,hCW⟩
 case round=>
  obtain⟨k,pre,hk,rfl,hpre,hJs,hCs⟩:=hrel
  by_cases hlt:k<xss.length
  ·obtain⟨xs,hxs⟩:∃xs,xss[k]? = some xs:=⟨_,j8 hlt⟩
   have hltv:k<vs.length:=om
   obtain⟨v,hv⟩:∃v,vs[k]? = some v:=⟨_,j8 hltv⟩
   obtain⟨ba,oa,rfl,hcell⟩:=hV2 k [v] (by rw[A6,hv];rfl)
   have hcv:=hCs _ _ _ (hcell 0 v rr)
   rw[Nat.mul_one,D0]at hcv
   obtain⟨ai,capi,rfl,hi1,hi2⟩:=hSi k v xs hv hxs
   rw[c8]at hcv
   have hlx:=hls xs (i7 hxs)
   gi_wp2
   gi_loopw [17] (λi wr=>∃(q:Nat) (pre:List (Nat×β)),q<=xs.length/\i=.int .i64 q/\pre.map (·.2)=kR name (xss.take k)++nR name (xs.take q)/\J pre wr/\pp C wr)
    (λi _=>xs.length-(intOf i).toNat)
   case atStart=>exact⟨0,pre,j9 _,rr,by rw[hpre];exact(A2 _).symm,hJs,hCs⟩
   case round=>
    obtain⟨q,pre2,hq,rfl,hpre2,hJs2,hCs2⟩:=hrel
    by_cases hlq:q<xs.length
    ·obtain⟨⟨t,x⟩,hx⟩:∃x,xs[q]? = some x:=⟨_,j8 hlq⟩
     obtain⟨bi,oi,rfl,hrow⟩:=hi2 q (uC cells (t,x)) (by rw[A6,hx];rfl)
     have hname:=hCs2 _ _ _ hN
     have h15:(uC cells (t,x)).length=15:=by show(cells x).length+1=15;rw[(hc14 x).1]
     have h1c:∀y∈uC cells (t,x),y.oneCell'=true:=λy hy=>by
      rcases p9.1 hy with rfl|hy
      ·rfl
      ·exact(hc14 x).2 y hy
     cases hs:seq t name
     case true=>
      have hroom:pre2.length<(kR name xss).length:=by
       have:=ah0 name hxs hx hs
       rwa [<-hpre2,c8]at this
      have hn1:=J_ name hx
      have hse:(ByteArray.toList t==ByteArray.toList name)=true:=(EJ t name).trans hs
      rw[show seq (t,x).1 name=true from hs]at hn1
      gi_wp2_with (first
       |(refine BI _ (t:=97) rr rr (cz _ _ rr) rr h15 rr (λi y h=>hCs2 _ _ _ (hrow i y h)) h1c ?_)
       |(refine Le _ (t:=97) rr rr rr rr rr (cz _ _ rr) h15 (o9 rr) rr h1c ?_;intro W2 hg2 hz2 hn2;have hC2:=hCs2.grown hg2;have hname2:=hC2 _ _ _ hN;have hten:=Cj hn2 0 _ rr;have hans:∀(i:Nat) y,(cells x)[i]? = some y->W2.cell? ⟨wr.heap.size,1+i,none⟩=some y:=λi y h=>Cj hn2 (1+i) y (by rw[Nat.add_comm];exact h);obtain⟨fn,tmps,assign,body,hy,hR⟩:=hY pre2 (k,x) W2 (hJ pre2 wr W2 none hJs2 hg2 (λr e=>by cases e)) hroom)
       |(refine BI _ (t:=95) rr rr (cz _ _ rr) rr (hc14 x).1 rr hans (hc14 x).2 ?_)
       |gi_in)
      refine hR.mono ?_
      rintro e W3 (⟨rfl,hJ3,hk3⟩|⟨rfl,hJx3⟩)
      ·have hC3:=hKp _ _ hk3 hC2
       gi_wp2
       refine⟨⟨q+1,pre2++[(k,x)],om,by simp,?_,hJ3,hC3⟩,by simp[intOf];omega⟩
       rw[l6,hpre2,hn1,A7];rfl
      ·gi_wp2
       exact bodyPost_ret (results_none rr _ _ _) rfl<|⟨⟨_,rr⟩,.inr ⟨_,trivial,hJx3⟩⟩
     have hn1:=J_ name hx
     have hse:(ByteArray.toList t==ByteArray.toList name)=false:=(EJ t name).trans hs
     rw[show seq (t,x).1 name=false from hs]at hn1
     gi_wp2_with (first
      |(refine wpListIn_skip rr rr ?_)
      |(refine BI _ (t:=97) rr rr (cz _ _ rr) rr h15 rr (λi y h=>hCs2 _ _ _ (hrow i y h)) h1c ?_)
      |(refine Le _ (t:=97) rr rr rr rr rr (cz _ _ rr) h15 (o9 rr) rr h1c ?_;intro W2 hg2 hz2 hn2;have hC2:=hCs2.grown hg2;have hname2:=hC2 _ _ _ hN;have hten:=Cj hn2 0 _ rr;have hans:∀(i:Nat) y,(cells x)[i]? = some y->W2.cell? ⟨wr.heap.size,1+i,none⟩=some y:=λi y h=>Cj hn2 (1+i) y (by rw[Nat.add_comm];exact h))
      |(refine BI _ (t:=95) rr rr (cz _ _ rr) rr (hc14 x).1 rr hans (hc14 x).2 ?_)
      |gi_in)
     refine⟨⟨q+1,pre2,om,by simp,by rw[hpre2,hn1],hJ pre2 wr W2 none hJs2 hg2 (λr e=>by cases e),hC2⟩,by simp[intOf];omega⟩
    ·obtain rfl:q=xs.length:=om
     gi_wp2
     refine⟨⟨k+1,pre2,om,by simp,?_,hJs2,hCs2⟩,by simp[intOf];omega⟩
     rw[hpre2,QQ name hxs,s9]
  ·obtain rfl:k=xss.length:=om
   gi_wp2
   go_end0
   rw[s9]at hpre
   exact⟨⟨_,rr⟩,.inl ⟨pre,hpre,hJs⟩⟩
end
def DW{c:RC}{W':World}{row:Option Nat}(d:∀b o,c.Z b o->b<c.w.heap.size/\some b≠row)(a:c.w.grownBy W' row)(g:∀r,row=some r->∃o:Obj,c.w.heap[r]? = some o/\o.isCells=false):cI c ⟨W',c.Z,c.hb⟩:=by
 refine⟨λ_ _ h=>h,λ_ _ h=>h,λb o z=>?_,λb aK e f h=>⟨aK,f,?_,rr⟩,λr es cl z h=>?_⟩
 ·obtain⟨h1,h2⟩:=d b o z;show W'.cell? _=c.w.cell? _
  unfold World.cell?;rw[a.block b h1 h2]
 ·refine(a.block b (u7.1 h).1 λe=>?_).trans h;obtain⟨o,h1,h2⟩:=g b e.symm;rw[show c.w.heap[b]? = _ from h]at h1;cases h1;cases h2
 ·obtain⟨h1,h2⟩:=d r 0 z;exact(a.block r h1 h2).trans h
def alN{S:dr}{W W':World}{row:Option Nat}(h:ie S.L S.w0 W)(a:W.grownBy W' row)(c:∀r,row=some r->S.w0.heap.size<=r):ie S.L S.w0 W':=
 h.step ⟨a.os,a.tape,a.output,a.size,λk hk d=>a.block k hk λe=>d e⟩ (M:=λb=>some b=row) λi hi e=>absurd (c i e.symm) om
def XL{S:dr}{F:Nat->Prop}{hp:Nat->Option aI}{c:RC}{W':World}{row:Option Nat}(h:bU S F hp c)(i:∀j b,hp j=some b->∀ks vs w,b≠.map ks vs w)(s:∀b o,c.Z b o->some b≠row)(d:c.w.grownBy W' row)(l:∀r,row=some r->S.w0.heap.size<=r/\∃o:Obj,c.w.heap[r]? = some o/\o.isCells=false):bU S F hp ⟨W',c.Z,c.hb⟩:=by
 have q:=DW (λb o z=>⟨h.fC b o z,s b o z⟩) d λr e=>(l r e).2
 refine⟨alN h.fL d λr e=>(l r e).1,h.bZ.trans q,h.jU,λb o z=>u9 (h.fC b o z) d.size,h.fresh,λj b g=>(h.dK j b g).bx q id λB n a=>⟨?_,λ_=>O7⟩,h.eW,h.dL,h.mY⟩;have m:=((h.dK j b g).at a).2;refine d.block B m.lt λe=>?_
 obtain⟨o,h1,h2⟩:=(l B e.symm).2;cases b with
 |map ks vs w=>exact i j _ g ks vs w rr
 |rows k rs wr f ty=>
  rcases h.dK j _ g with⟨_,_,p⟩|⟨B',aK,vs,p,_,t,_⟩
  ·rw[p]at a;cases a
  ·rw[p]at a;cases a;rw[show c.w.heap[B]? = _ from t]at h1;cases h1;cases h2
def SN(told:List BA):Nat->Option aI
 |0=>some (.rows 1 [.aS 1 0 told.length] true none 25)
 |1=>some (.rows 1 (told.map st) true none 9)
 |_=>none
def qk(B:Nat)(x:Option (Nat×Nat)):Nat->Option (Nat×Nat)
 |0=>some (B,1)
 |1=>x
 |_=>none
def vN(S:dr)(Z:Nat->Nat->Prop)(B:Nat)(told:List BA)(W:World):Prop:=∃x,bU S (ge 2) (SN told) ⟨W,Z,qk B x⟩
def aik{S:dr}{Z:Nat->Nat->Prop}{B N:Nat}(d:S.w0.heap.size<=N)(g:∀b o,Z b o->b<N){α:Type}(f:α->List BA):OwnFrom N (λpre W=>vN S Z B (f pre) W):=by
 rintro s W W' row ⟨x,h⟩ i a;refine⟨x,XL h (λj b c ks vs w e=>?_) (λb o z e=>?_) i λr e=>⟨r8 d (a r e).1,(a r e).2⟩⟩
 ·subst e;match j with
  |0=>cases c
  |1=>cases c
  |j+2=>cases c
 ·have:=g b o z;have:=(a b e.symm).1;omega
def ry(B:Nat)(x:Option (Nat×Nat))(a:Nat):Nat->Option (Nat×Nat)
 |0=>some (B,1)
 |1=>x
 |2=>some (a,14)
 |_=>none
def tm(told:List BA)(a:bn):Nat->Option aI
 |0=>some (.rows 1 [.aS 1 0 told.length] true none 25)
 |1=>some (.rows 1 (told.map st) true none 9)
 |2=>some (.rows 14 [a.pv] true none 95)
 |_=>none
def YR{S:dr}{Z:Nat->Nat->Prop}{B N:Nat}{x:Option (Nat×Nat)}{told:List BA}{W:World}(U:S.w0.heap.size<=N)(O:∀b o,Z b o->b<N)(h:bU S (ge 2) (SN told) ⟨W,Z,qk B x⟩){a:bn}{cs:List Value}{g:Nat}(A:aM a.pv.cells ⟨W,Z,λ_=>none⟩ cs)(V:N<=g)(k:W.heap[g]? = some (.cells cs.toArray 95 (0,0)))(P:cs.length=14)
 {L:Nat->Prop} (C:L B) (D:∀y,x=some y->L y.1) (E:L g) {G:World->Prop} (hG:∀{w:World},ie L W w->G w):
 bU ⟨W,Z,3,ry B x g,L,G,hG,[]⟩ (ge 3) (tm told a) ⟨W,Z,ry B x g⟩:=by
 have T:im S ⟨W,Z,qk B x⟩ 0 (.rows 1 [.aS 1 0 told.length] true none 25):=h.dK 0 _ rr
 have M:im S ⟨W,Z,qk B x⟩ 1 (.rows 1 (told.map st) true none 9):=h.dK 1 _ rr
 have F:∀j y,qk B x j=some y->ry B x g j=some y:=λj y e=>by
  match j with
  |0=>exact e
  |1=>exact e
  |j+2=>cases e
 have q:cI ⟨W,Z,qk B x⟩ ⟨W,Z,ry B x g⟩:=⟨F,λ_ _ z=>z,λ_ _ _=>rfl,λ_ aK _ f h=>⟨aK,f,h,rr⟩,λ_ _ _ _ h=>h⟩
 have r:cI ⟨W,Z,λ_=>none⟩ ⟨W,Z,ry B x g⟩:=⟨λ_ _ e=>(by cases e),λ_ _ z=>z,λ_ _ _=>rfl,λ_ aK _ f h=>⟨aK,f,h,rr⟩,λ_ _ _ _ h=>h⟩
 obtain⟨v,K,r0,l⟩:∃aK vs,fe W B aK 25 (0,0)/\(aM [.aS 1 0 told.length] ⟨W,Z,qk B x⟩ vs/\(∀y∈vs,y.cells.size=1)/\(∀(i:Nat) y,(bV vs)[i]? = some y->aK[i]? = some y)/\∀o,¬Z B o):=by
  rcases T with⟨h1,_⟩|⟨B',aK,vs,h1,h2,m,H,I,J,k,_⟩
  ·cases h1
  ·cases h1;exact⟨aK,vs,m,H,I,J,k rr⟩
 refine⟨ie.refl _ _,r,λ_ _ _ _ z=>z,h.fC,λj c=>?_,λj b c=>?_,λi j bi bj hi c n X y z d p=>?_,λ_ _=>rfl,λ_ h=>h⟩
 ·match j,c with
  |0,c=>exact absurd c (by decide)
  |1,c=>exact absurd c (by decide)
  |2,c=>exact absurd c (by decide)
  |j+3,_=>rfl
 ·match j with
  |0=>
   cases c
   exact .inr ⟨B,v,K,rr,.inr C,r0,aM.ext _ q l.1,l.2.1,l.2.2.1,λ_=>l.2.2.2,λe=>(by cases e),λ_ e=>(by cases e)⟩
  |1=>
   cases c
   rcases M with⟨h1,h2,m⟩|⟨B',aK,vs,h1,h2,m,H,I,J,k,Q,R⟩
   ·exact .inl ⟨h1,h2,m⟩
   ·exact .inr ⟨B',aK,vs,h1,.inr (D _ h1),m,aM.ext _ q H,I,J,k,Q,R⟩
  |2=>
   cases c
   refine .inr ⟨g,cs.toArray,[.agg cs.toArray],rr,.inr E,k,⟨_,[],rr,⟨cs,rr,aM.ext _ r A⟩,rr⟩,λy d=>?_,λi y d=>?_,λ_ o z=>?_,λe=>(by cases e),λ_ e=>(by cases e)⟩
   ·rw[o6.1 d];show cs.toArray.size=14;rw[A9,P]
   ·have:bV [Value.agg cs.toArray]=cs:=by unfold bV;simp[Value.cells]
    rw[this]at d
    rw[J5];exact d
   ·have:=O _ _ z
    omega
  |j+3=>cases c
 ·have s:∀y:Nat×Nat,x=some y->y.1≠B:=λy e=>λe2=>h.eW 0 1 _ _ rr rr (by decide) rr (B,1) y rr e e2.symm
  have t:B≠g:=λe=>by
   subst e
   rw[show W.heap[B]? = _ from r0]at k
   cases k
  have u:∀y:Nat×Nat,x=some y->y.1≠g:=λy e e2=>by
   rcases M with⟨_,_,m⟩|⟨B',aK,vs,h1,_,m,_⟩
   ·rw[show x=none from m]at e;cases e
   ·rw[show x=_ from h1]at e
    cases e
    subst e2
    rw[show W.heap[_]? = _ from m]at k
    cases k
  match i,j with
  |0,0=>exact absurd rr n
  |1,1=>exact absurd rr n
  |2,2=>exact absurd rr n
  |0,1=>cases d;exact(s z p).symm
  |1,0=>cases p;exact s y d
  |0,2=>cases d;cases p;exact t
  |2,0=>cases d;cases p;exact t.symm
  |1,2=>cases p;exact u y d
  |2,1=>cases d;exact(u z p).symm
  |i+3,_=>cases hi
  |_,j+3=>cases c
def Jz{c d:RC}:∀{l:List BA} {vs:List Value},aM (l.map st) c vs->aM (l.map st) d vs
 | [],_,h=>h
 |_::_,_,⟨v,a,e,h1,h2⟩=>⟨v,a,e,h1,Jz h2⟩
def ahv{c:RC}{w':World}{Z':Nat->Nat->Prop}{hb:Nat->Option (Nat×Nat)}(h:cI ⟨c.w,c.Z,λ_=>none⟩ ⟨w',Z',λ_=>none⟩):cI ⟨c.w,c.Z,λ_=>none⟩ ⟨w',Z',hb⟩:=⟨λ_ _ e=>(by cases e),h.z,h.cell,h.shape,h.rB⟩
def Vv:Nat->Option PV
 |5=>some (.lp 0 0 0)
 |7=>some (.lp 2 0 0)
 |_=>none
theorem adO{S:dr}{Z:Nat→Nat→Prop}{B N:Nat}{told:List BA}{W:World}(hSG:S.G=GT)(hM:S.M=0)(hN:S.w0.heap.size≤N)(hZ:∀b o,Z b o→b<N)(h:vN S Z B told W){a:bn}{cs:List Value}{B7:Nat}(hcs:aM a.pv.cells ⟨W,Z,fun _=>none⟩ cs)(hB:N≤B7)
 (h7:W.heap[B7]? = some (.cells cs.toArray 95 (0,0))) (hl:cs.length=14) {a':Act} (hsz:a'.tmps.size=22) (hdf:a'.defers=[]) (h5:a'.tmps[5]? = some (.pointer (some ⟨B,0,none⟩))) (h77:a'.tmps[7]? = some (.pointer (some ⟨B7,0,none⟩)))
 {l n id:Nat} {ops:Array Oper} (hnd:ops.toList.all qQ=true)
 (hv:tD Tryz.prog GT tt 22 ops.toList ops.toList 3 ⟨Vv,tm told a⟩ [] fun cA s'=>yA ops.toList cA=true∧∃j,j≠0∧s'.hp 0=some (.rows 1 [.aS j 0 (told++[a.put]).length] true none 25)∧s'.hp j=some (.rows 1 ((told++[a.put]).map st) true none 9)):
 (Code.region id ops true).wpIn (Wd (some l)) n Tryz.prog (fun e _ W'=>e=.normal∧KeepsFrom N W W'∧cI ⟨W,Z,fun _=>none⟩ ⟨W',Z,fun _=>none⟩∧vN S Z B (told++[a.put]) W') a' W:=by
 obtain⟨x,hs⟩:=h
 have b0:im S ⟨W,Z,qk B x⟩ 0 (.rows 1 [.aS 1 0 told.length] true none 25):=hs.dK 0 _ rfl
 have b1:im S ⟨W,Z,qk B x⟩ 1 (.rows 1 (told.map st) true none 9):=hs.dK 1 _ rfl
 have o0:S.Own B∧(∀o,¬Z B o)∧∃aK,fe W B aK 25 (0,0):=by
  rcases b0 with⟨h1,_⟩|⟨B',aK,vs,h1,h2,h3,h4,h5,h6,h7,_⟩
  ·cases h1
  ·cases h1;exact⟨h2,h7 rfl,aK,h3⟩
 have o1:∀y,x=some y→S.Own y.1∧∃aK,fe W y.1 aK 9 (0,0):=fun y e=>by
  rcases b1 with⟨_,_,h3⟩|⟨B',aK,vs,h1,h2,h3,_⟩
  ·rw[show x=none from h3]at e;cases e
  ·rw[show x=_ from h1]at e;cases e;exact⟨h2,aK,h3⟩
 obtain⟨L,hL⟩:∃L:Nat→Prop,L=fun b=>b=B∨(∃y,x=some y∧b=y.1)∨b=B7:=⟨_,rfl⟩
 have hLo:∀i,i<S.w0.heap.size→L i→S.L i:=fun i hi e=>by
  rw[hL]at e
  rcases e with rfl|⟨y,e1,rfl⟩|rfl
  ·exact o0.1.resolve_left (by omega)
  ·exact(o1 y e1).1.resolve_left (by omega)
  ·omega
 have hLc:∀i,L i→∃aK e,fe W i aK e (0,0):=fun i e=>by
  rw[hL]at e
  rcases e with rfl|⟨y,e1,rfl⟩|rfl
  ·exact⟨_,_,o0.2.2.choose_spec⟩
  ·exact⟨_,_,(o1 y e1).2.choose_spec⟩
  ·exact⟨_,_,h7⟩
 have hG:∀{w:World},ie L W w→S.G w:=fun hk=>S.hG (hs.fL.step hk hLo)
 have h3:=YR hN hZ hs hcs hB h7 hl (L:=L) (by rw[hL];exact .inl rfl) (fun y e=>by rw[hL];exact .inr (.inl ⟨y,e,rfl⟩)) (by rw[hL];exact .inr (.inr rfl)) hG
 have hm:eM ⟨W,Z,3,ry B x B7,L,S.G,hG,[]⟩ 22 (ge 3) ⟨Vv,tm told a⟩ a' ⟨W,Z,ry B x B7⟩:=by
  refine⟨h3,hsz,fun t p e=>?_,hdf⟩
  match t with
  |5=>cases e;exact⟨_,h5,B,1,rfl,rfl⟩
  |7=>cases e;exact⟨_,h77,B7,14,rfl,rfl⟩
  |0|1|2|3|4|6=>cases e
  |t+8=>cases e
 refine wpIn_region_any cM (CQ (by rintro⟨_,_,h,_⟩;cases h) hnd _ _ _ _ (Nw (S:=⟨W,Z,3,ry B x B7,L,S.G,hG,[]⟩) cz hSG hm.drew hv fun s' a'' c' hk hm'=>?_))
 obtain⟨j,hj0,hp0,hpj⟩:=hk
 have hs':=hm'.dT
 have hx:cI ⟨W,Z,fun _=>none⟩ ⟨c'.w,Z,fun _=>none⟩:=⟨fun _ _ e=>(by cases e),fun _ _ z=>z,hs'.bZ.cell,hs'.bZ.shape,hs'.bZ.rB⟩
 have hkp:ie L W c'.w:=hs'.fL
 have d0:im _ c' 0 (.rows 1 [.aS j 0 (told++[a.put]).length] true none 25):=hs'.dK 0 _ hp0
 have d1:im _ c' j (.rows 1 ((told++[a.put]).map st) true none 9):=hs'.dK j _ hpj
 have hown:∀b,(W.heap.size≤b∨L b)→S.Own b:=fun b e=>by
  rcases e with e|e
  ·have:=hs.fL.size
   exact .inl (r8 this e)
  ·by_cases hb:b<S.w0.heap.size
   ·exact .inr (hLo b hb e)
   ·exact .inl (by omega)
 refine⟨rfl,⟨hkp.size,fun k o hk ho hc=>(hkp.block k (u7.1 ho).1 fun e=>?_).trans ho⟩,hx,c'.hb j,?_⟩
 ·obtain⟨aK,e,h1⟩:=hLc k e
  rw[show W.heap[k]? = _ from h1]at ho
  cases ho;cases hc
 have hbase:cI S.rc ⟨W,Z,fun _=>none⟩:=⟨fun _ _ e=>(by cases e),hs.bZ.z,hs.bZ.cell,hs.bZ.shape,hs.bZ.rB⟩
 have e0:c'.hb 0=some (B,1):=hs'.dL 0 (show 0<3 by decide)
 refine⟨hs.fL.step hkp hLo,hbase.trans (ahv (c:=⟨W,Z,fun _=>none⟩) hx),hs.jU,fun b o z=>u9 (hs.fC b o z) hkp.size,fun i hi=>?_,fun i b hi=>?_,fun i1 i2 bi bj hi hj hne ho y z hy hz=>?_,fun i hi=>absurd hi (by omega),fun i _=>by omega⟩
 ·match i,hi with
  |0,hi=>exact absurd hi (by decide)
  |1,hi=>exact absurd hi (by decide)
  |i+2,_=>rfl
 ·match i with
  |0=>
   cases hi
   rcases d0 with⟨h1,_⟩|⟨B',aK,vs,h1,h2,h3,h4,h5,h6,_⟩
   ·cases h1
   ·rw[e0]at h1
    cases h1
    refine .inr ⟨B,aK,vs,rfl,o0.1,h3,?_,h5,h6,fun _=>o0.2.1,fun e=>(by cases e),fun _ e=>(by cases e)⟩
    obtain⟨v,vs',rfl,hv,hr⟩:=h4
    exact⟨v,vs',rfl,hv,hr⟩
  |1=>
   cases hi
   rcases d1 with⟨h1,h2,h3⟩|⟨B',aK,vs,h1,h2,h3,h4,h5,h6,h7,h8,h9⟩
   ·exact .inl ⟨h1,h2,h3⟩
   ·exact .inr ⟨B',aK,vs,h1,hown B' h2,h3,Jz h4,h5,h6,fun _ o z=>h7 rfl o (hs'.bZ.z _ _ z),fun e=>(by cases e),h9⟩
  |i+2=>cases hi
 ·match i1,i2 with
  |0,0=>exact absurd rfl hne
  |1,1=>exact absurd rfl hne
  |0,1=>cases hy;exact hs'.eW 0 j _ _ hp0 hpj hj0.symm rfl _ _ e0 hz
  |1,0=>cases hz;exact(hs'.eW 0 j _ _ hp0 hpj hj0.symm rfl _ _ e0 hy).symm
  |i+2,_=>cases hi
  |_,i+2=>cases hj
def akb{S:dr}{Z:Nat->Nat->Prop}{B:Nat}{told:List BA}{W W':World}(h:vN S Z B told W)(A:∀b,¬S.L b){Z':Nat->Nat->Prop}(C:∀b o,S.w0.heap.size<=b->b<W.heap.size->Z' b o)(D:∀b aK e f,fe W b aK e f->fe W' b aK e f):
 ∃v,v.oneCell'=true/\W.cell? ⟨B,0,none⟩=some v/\bW (sl st told) ⟨W',Z',λ_=>none⟩ v:=by
 obtain⟨x,s⟩:=h
 have I:im S ⟨W,Z,qk B x⟩ 0 (.rows 1 [.aS 1 0 told.length] true none 25):=s.dK 0 _ rr
 have J:im S ⟨W,Z,qk B x⟩ 1 (.rows 1 (told.map st) true none 9):=s.dK 1 _ rr
 rcases I with⟨h1,_⟩|⟨B',aK,vs,h1,h2,n,⟨v,M,rfl,hv,rfl⟩,N,E,_⟩
 ·cases h1
 cases h1
 have c:v.oneCell'=true->W.cell? ⟨B,0,none⟩=some v:=λh1=>by
  have:=E 0 v (by
   have:bV [v]=[v]:=Gq λy p=>by rw[o6.1 p];exact h1
   rw[this];rfl)
  simp only[World.cell?,show W.heap[B]? = _ from n]
  simpa using this
 rcases hv with⟨h0,a,rfl⟩|⟨g,k,cap,K,e,f,m,rfl,t,u,w,F⟩
 ·refine⟨_,rr,c rr,[],?_,a,0,rr,j2 _,λ_=>rfl,.inl rr⟩
  rw[B0 h0];rfl
 ·refine⟨_,rr,c rr,?_⟩
  rcases J with⟨h1,_,n⟩|⟨B',z,us,q,G,j,d,hk,r,_⟩
  ·rw[show x=none from n]at m;cases m
  ·rw[show x=_ from q]at m
   cases m
   have l:us.length=told.length:=by have:=d.length;rw[c8]at this;exact this
   refine⟨us,Jz d,_,cap,by rw[l],om,λe=>(by cases e),?_⟩
   by_cases H:us=[]
   ·exact .inl H
   ·refine .inr ⟨g,0,1,by rw[C9],hk,λi y p=>⟨C _ _ (G.resolve_right (A _)) (u7.1 j).1,?_⟩⟩
    have:=r i y p
    show W'.cell? _=_
    simp only[World.cell?,show W'.heap[g]? = _ from D _ _ _ _ j,j7]
    simpa using this
def aom{S:dr}{F:Nat->Prop}{hp:Nat->Option aI}{c:RC}(A:S.M=0)(h:bU S F hp c){j B k:Nat}(d:hp j=some (.rows 1 [.sl true []] true none 25))(m:c.hb j=some (B,k)):k=1/\vN S c.Z B [] c.w:=by
 have hb:im S c j (.rows 1 [.sl true []] true none 25):=h.dK j _ d;rcases hb with⟨h1,_⟩|⟨B',aK,vs,h1,h2,n,⟨v,x,rfl,⟨us,f,a,cap,rfl,C,g,o⟩,rfl⟩,p,q,r,_⟩
 ·cases h1
 rw[m]at h1;cases h1;obtain rfl:us=[]:=f;obtain rfl:cap=0:=g rfl;refine⟨rr,none,h.fL,⟨λ_ _ e=>(by cases e),h.bZ.z,h.bZ.cell,h.bZ.shape,h.bZ.rB⟩,h.jU,h.fC,λi hi=>?_,λi b hi=>?_,λu i2 bi bj hi d l D y z s t=>?_,λi hi=>absurd hi om,λi _=>om⟩
 ·match i,hi with
  |0,hi=>exact absurd hi (by decide)
  |1,hi=>exact absurd hi (by decide)
  |i+2,_=>rfl
 ·match i with
  |0=>cases hi;exact .inr ⟨B,aK,_,rr,h2,n,⟨_,[],rr,.inl ⟨rr,a,rr⟩,rr⟩,p,q,r,λe=>(by cases e),λ_ e=>(by cases e)⟩
  |1=>cases hi;exact .inl ⟨rr,rr,rr⟩
  |i+2=>cases hi
 ·match u,i2 with
  |0,0=>exact absurd rr l
  |0,1=>cases t
  |1,_=>cases s
  |0,i+2=>cases d
  |i+2,_=>cases hi
def alG{β:Type}(cells:β->List Value)(name:BA)(a:List (List (BA×β)))(q:a.length<=60000000)(d:∀xs∈a,xs.length<=60000000)(c:∀x:β,(cells x).length=14/\∀y∈cells x,y.oneCell'=true)(C:Nat->Nat->Value->Prop)(k o1 m o2:Nat)(V:Value)(vs:List Value)
 (r:C k o1 V) (s:C m o2 (.string name)) (t:Aj C 1 V (vs.map λv=>[v])) (e:vs.length=a.length) (f:∀(i:Nat) v xs,vs[i]? = some v->a[i]? = some xs->Aj C 15 v (xs.map (uC cells)))
 (j:World->World->Prop) (g:∀A B,j A B->pp C A->pp C B) (w:World) (n:pp C w):
 SeqStopsK Fence.wide 1 prog 151 #[.pointer (some ⟨k,o1,none⟩),.pointer (some ⟨m,o2,none⟩)] (λx:Nat×β=>#[.int .i64 (x.1:Int),.agg (cells x.2).toArray]) j (λys=>ys.map (·.2)=kR name a) (λ_=>True) (kR name a).length w:=λl J Jx W u z _ D h0=>
 ac0 cells name a q d c C l k o1 m o2 V vs r s t e f j g J Jx D W z (λb o v h=>(u.cell (p:=⟨b,o,none⟩) (vK (n b o v h))).trans (n b o v h)) h0
def ag0(l:List (List dg))(name:BA):PC 69 [.sl false (l.map λrs=>sl dg.pv rs),st name] (·=.fn 151 [.ip [.sl false (l.map λrs=>sl dg.pv rs)] 0,.ip [st name] 0]):=aw func69<|ah
def adb(l:List (List dg))(name:BA)(b:name.size<=4294967280)(a:d_ name=false):PC 32 [.sl false (l.map λrs=>sl dg.pv rs),st name] (·=sl st (lW name l)):=by
 unfold lW;rw[a];refine aw func32<|ak (qO name b) rr ?_;rw[a];exact an<|ah
def aoA{F:Fence}{n:Nat}{P:Program}(w:World){ops:Array Oper}{rest:List Oper}{o:Oper}{a:Act}{Q:Exit->Act->World->Prop}(k:o.guard=none){t:TypeId}{x:Operand}(d:o.op=.load t x){ti:TI}(l:iR P t ti)(f:ti.ag=false)(j:ti.size=1){v:Value}{b off:Nat}(m:a.eval x=.pointer (some ⟨b,off,none⟩))
 (q:w.cell? ⟨b,off,none⟩=some v) (h1:v.oneCell'=true) (r:wpListIn F n P ops Q rest (a.put o.dst v) w):wpListIn F n P ops Q (o::rest) a w:=by
 refine wpListIn_plain k λK g=>?_
 unfold Oper.wpIn
 refine⟨by simp[Oper.about,d],?_⟩
 rw[Oper.semAt_plain F _ _ (by rw[d];intro c h;cases h)]
 obtain⟨v',hv,e⟩:=xH (c:=⟨w,λ_ _=>True,λ_=>none⟩) (ti:=ti) (p:=.at v) l (cs:=[.at v]) (vs:=[v]) ⟨v,[],rfl,⟨rfl,h1⟩,rfl⟩ (off:=0) (by rw[j];rfl) (by rw[j,f];rfl) b off (λi y hi=>by
  cases i with
  |zero=>cases hi;exact q
  |succ i=>cases hi)
 obtain⟨rfl,_⟩:=e
 rw[D0]at hv
 simp[execOp,d,m,Instr.loadAt,Instr.sureAddr,hv,Result.andThen]
 exact g _ _ r
def CZ{F:Fence}{n:Nat}{P:Program}(w:World){ops:Array Oper}{rest:List Oper}{o:Oper}{a:Act}{Q:Exit->Act->World->Prop}(f:o.guard=none){x:Operand}(b:o.op=.assign x)(g:wpListIn F n P ops Q rest (a.put o.dst (a.eval x)) w):wpListIn F n P ops Q (o::rest) a w:=by
 refine wpListIn_plain f λK d=>?_
 unfold Oper.wpIn;refine⟨by simp[Oper.about,b],?_⟩;rw[Oper.semAt_plain F _ _ (by rw[b];intro c e;cases e)];simp[execOp,b];exact d _ _ g
def Lm{S:dr}{n:Nat}{F:Nat->Prop}{s s2:AS}{a:Act}{c:RC}(h:eM S n F s a c)(f:∀t p,s2.bD t=some p->s.bD t=some p)(d:∀j b,s2.hp j=some b->s.hp j=some b):eM S n F s2 a c:=
 ⟨⟨h.dT.fL,h.dT.bZ,h.dT.jU,h.dT.fC,h.dT.fresh,λj b e=>h.dT.dK j b (d j b e),λi j bi bj e1 e2=>h.dT.eW i j bi bj (d i bi e1) (d j bj e2),h.dT.dL,h.dT.mY⟩,h.size,λt p e=>h.bD t p (f t p e),h.defers⟩
structure jS(Z:Nat->Nat->Prop)(W:World) where
 a:bn
 cs:List Value
 rel:aM a.pv.cells ⟨W,Z,λ_=>none⟩ cs
 len:cs.length=14
 one:∀y∈cs,y.oneCell'=true
 sz:a.al.length<=67108864/\(∀n∈a.al,n.size<=1000000)/\a.gx.length<=67108864
def jS.row{Z:Nat->Nat->Prop}{W:World}(x:BA×jS Z W):Value:=.agg (uC jS.cs x).toArray
def acg{Z:Nat->Nat->Prop}{W:World}{r:dg}{u:Value}(h:bW r.pv ⟨W,Z,λ_=>none⟩ u)(j:r.a.al.length<=67108864/\(∀n∈r.a.al,n.size<=1000000)/\r.a.gx.length<=67108864):∃b:jS Z W,u=jS.row (r.aD,b)/\b.a=r.a:=by
 obtain⟨vs,rfl,v0,cs,rfl,⟨rfl,_⟩,d⟩:=h;have k:=d.length;refine⟨⟨r.a,cs,d,k.trans rr,?_,j⟩,rr,rr⟩;have e:∀(b:Bool) rows c v,bW (.sl b rows) c v->v.oneCell'=true:=λb rows c v h=>by
  obtain⟨_,_,_,_,rfl,_⟩:=h;rfl
 obtain⟨v1,_,rfl,⟨rfl,_⟩,v2,_,rfl,⟨rfl,_⟩,v3,_,rfl,⟨rfl,_⟩,v4,_,rfl,⟨rfl,_⟩,v5,_,rfl,⟨rfl,_⟩,v6,_,rfl,⟨rfl,_⟩,o,_,rfl,⟨rfl,_⟩,p,_,rfl,⟨rfl,_⟩,v9,_,rfl,⟨rfl,_⟩,v10,_,rfl,⟨rfl,_⟩,v11,_,rfl,⟨rfl,_⟩,v12,_,rfl,⟨rfl,_⟩,l,_,rfl,f,m,_,rfl,g,rfl⟩:=d;intro y i;simp only[p9,o7,H3]at i;rcases i with rfl|rfl|rfl|rfl|rfl|rfl|rfl|rfl|rfl|rfl|rfl|rfl|rfl|rfl<;>first|rfl|exact e _ _ _ _ f|exact e _ _ _ _ g
def Ni{Z:Nat->Nat->Prop}{W:World}:∀{rs:List dg} {us:List Value},aM (rs.map dg.pv) ⟨W,Z,λ_=>none⟩ us->(∀r∈rs,r.a.al.length<=67108864/\(∀n∈r.a.al,n.size<=1000000)/\r.a.gx.length<=67108864)->
 ∃xs:List (BA×jS Z W),us=xs.map jS.row/\xs.map (λx=>(x.1,x.2.a))=rs.map λr=>(r.aD,r.a)
 | [],_,h,_=>⟨[],h,rr⟩
 |r::rs,_,⟨u,us,rr,h1,h2⟩,c=>by
  obtain⟨b,rfl,hb⟩:=acg h1 (c r j6)
  obtain⟨xs,rfl,d⟩:=Ni h2 λr e=>c r (j3 _ e)
  exact⟨(r.aD,b)::xs,rr,by rw[w9,w9,d,hb]⟩
theorem QI{Z:Nat→Nat→Prop}{W:World}:∀{l:List (List dg)} {vs:List Value},aM (l.map fun rs=>sl dg.pv rs) ⟨W,Z,fun _=>none⟩ vs→(∀rs∈l,∀r∈rs,r.a.al.length≤67108864∧(∀n∈r.a.al,n.size≤1000000)∧r.a.gx.length≤67108864)→
 ∃xss:List (List (BA×jS Z W)),xss.map (fun xs=>xs.map fun x=>(x.1,x.2.a))=l.map (fun rs=>rs.map fun r=>(r.aD,r.a))∧vs.length=xss.length∧∀(i:Nat) v xs,vs[i]? = some v→xss[i]? = some xs→lO W Z false v (xs.map jS.row)
 | [],_,h,_=>⟨[],rfl,by rw[show _=[]from h];rfl,fun i v xs _ h=>by cases h⟩
 |rs::l,_,⟨v,vs,rfl,⟨us,h1,h1'⟩,h2⟩,hs=>by
  obtain⟨xs,rfl,hx⟩:=Ni h1 (hs rs j6)
  obtain⟨xss,hx2,hlen,hall⟩:=QI h2 fun r hr=>hs r (j3 _ hr)
  refine⟨xs::xss,by rw[w9,w9,hx2,hx],by rw[w6,w6,hlen],fun i v' xs' e1 e2=>?_⟩
  cases i with
  |zero=>cases e1;cases e2;exact h1'
  |succ i=>exact hall i v' xs' e1 e2
def MS{k:Nat}:∀{vs:List Value} (_:∀x∈vs,x.cells.size=k) {i m:Nat} {x y:Value},vs[i]? = some x->x.cells[m]? = some y->(bV vs)[i*k+m]? = some y
 | [],_,_,_,_,_,h,_=>by cases h
 |v::vs,hk,i,m,x,y,h,b=>by
  have hv:=hk v j6
  have a:v.cells.toList.length=k:=by rw[p8];exact hv
  rw[ln]
  cases i with
  |zero=>
   cases h
   rw[C9,j7]
   have:=(u7.1 b).1
   rw[A8 (by rw[a];omega),w8];exact b
  |succ i=>
   rw[A4 (by rw[a,D7];omega),a,show(i+1)*k+m-k=i*k+m by rw[D7];omega]
   exact MS (λx c=>hk x (j3 _ c)) h b
def MI{W:World}{Z:Nat->Nat->Prop}{cl:Bool}{k:Nat}{v:Value}{us:List Value}{c:List (List Value)}(h:lO W Z cl v us)(hk:∀cs∈c,cs.length=k/\∀y∈cs,y.oneCell'=true)(l:us.length=c.length)(n:∀(i:Nat) u cs,us[i]? = some u->c[i]? = some cs->u.cells.toList=cs):
 Aj (λb o v=>Z b o/\W.cell? ⟨b,o,none⟩=some v) k v c:=by
 obtain⟨a,cap,rfl,_,_,p⟩:=h
 refine⟨a,cap,by rw[l],hk,λi cs hi=>?_⟩
 have q:=(c9.1 hi).1
 rcases p with rfl|⟨b,off,k',rfl,g,f⟩
 ·rw[B9]at l;omega
 ·obtain⟨u,d⟩:∃u,us[i]? = some u:=⟨_,j8 om⟩
  have e:=n i u cs d hi
  have j:k'=k:=by
   rw[<-g u (i7 d),<-p8,e]
   exact(hk cs (i7 hi)).1
  subst j
  refine⟨b,off,rr,λm y r=>?_⟩
  rw[B4]
  exact f _ _ (MS g d (by rw[<-w8,e];exact r))
def ahf{Z:Nat->Nat->Prop}{W:World}(name:BA):∀{b:List (List (BA×jS Z W))} {l:List (List dg)},b.map (λxs=>xs.map λx=>(x.1,x.2.a))=l.map (λrs=>rs.map λr=>(r.aD,r.a))->(kR name b).map jS.a=gu name l:=by
 have h1:∀{xs:List (BA×jS Z W)} {rs:List dg},xs.map (λx=>(x.1,x.2.a))=rs.map (λr=>(r.aD,r.a))->(nR name xs).map jS.a=(rs.filter λr=>seq r.aD name).map dg.a:=fun{xs}=>by
  induction xs with
  |nil=>intro rs h;cases rs with|nil=>rfl|cons=>cases h
  |cons x xs ih=>
   intro rs h;cases rs with
   |nil=>cases h
   |cons r rs=>
    rw[w9,w9]at h;have d:=(List.cons.inj h).1;have c:=ih (List.cons.inj h).2;have e1:x.1=r.aD:=congrArg Prod.fst d;have e2:x.2.a=r.a:=congrArg Prod.snd d;unfold nR at c⊢;rw[I9,I9,e1];cases seq r.aD name
    case true=>show x.2.a::_=r.a::_;rw[e2,<-c]
    exact c
 intro b;induction b with
 |nil=>intro l h;cases l with|nil=>rfl|cons=>cases h
 |cons xs b ih=>
  intro l h;cases l with
  |nil=>cases h
  |cons rs l=>
   rw[w9,w9]at h;have e:=h1 (List.cons.inj h).1;have a2:=ih (List.cons.inj h).2;unfold kR gu at a2⊢;rw[P1,P1,l6,e,a2]
def aiH(l:List (List dg))(name:BA)(hn:name.size<=4294967280)(hw:d_ name=true)(hl:l.length<=60000000)(hls:∀rs∈l,rs.length<=60000000)(hT:(gu name l).length<=67108864)
 (hA:∀rs∈l,∀r∈rs,r.a.al.length<=67108864/\(∀n∈r.a.al,n.size<=1000000)/\r.a.gx.length<=67108864):PC 32 [.sl false (l.map λrs=>sl dg.pv rs),st name] (·=sl st (lW name l)):=by
 refine⟨enters_of func32 (by kernel_rfl) rr,λw Z vs Q hz hr=>?_⟩
 obtain⟨S,hS⟩:∃S:dr,S=⟨w,Z,0,λ_=>none,λ_=>False,GT,λhb=>jz.below Q hb.below,[]⟩:=⟨_,rfl⟩
 have J:S.G=GT:=by rw[hS]
 have hM:S.M=0:=by rw[hS]
 have hD:S.D=[]:=by rw[hS]
 have hL:∀b,¬S.L b:=λb h=>by rw[hS]at h;exact h
 have hw0:S.w0=w:=by rw[hS]
 have hs0:bU S (ge 0) (λ_=>none) ⟨w,Z,λ_=>none⟩:=by
  rw[hS]
  exact⟨ie.refl _ _,cI.refl _,λ_ _ _ _ h=>h,hz,λ_ _=>rfl,(λ_ _ h=>by cases h),(λ_ _ _ _ h=>by cases h),λ_ h=>(by cases h),λ_ _=>j9 _⟩
 refine callsIn_wide.1 (callsIn_of_wp_marks (F:=Fence.wide) (n:=2) func32 rr trivial ?_ rr)
 have hm0:=IV (n:=22) hD hs0 hr (show 2<=22 by decide)
 refine wpIn_seq (wpIn_wide.2 (mE cz cM J hM _ hm0 (k:=λex m s=>ex=.normal/\m=_/\s=_) ⟨rr,rr,rr⟩ ?_))
 rintro _ _ _ a1 c1 ⟨rfl,rfl,rfl⟩ hm1
 refine wpIn_seq (wpIn_wide.2 (mE cz cM J hM _ hm1 (k:=λex m s=>ex=.normal/\m=4/\s.bD 0=some (.sl false (l.map λrs=>sl dg.pv rs))/\s.bD 1=some (st name)) ?_ ?_))
 ·refine ak (qO name hn) rr ?_
  rw[hw]
  exact ab<|⟨rr,rr,rr,rr⟩
 rintro _ _ s2 a2 c2 ⟨rfl,rfl,e0,e1⟩ hm2
 replace hm2:=Lm (s2:=⟨mf [.sl false (l.map λrs=>sl dg.pv rs),st name] 0,λ_=>none⟩) hm2 (λt p e=>by
  match t with
  |0=>exact e0.trans e
  |1=>exact e1.trans e
  |t+2=>cases e) λ_ _ e=>(by cases e)
 refine wpIn_seq (wpIn_wide.2 (mE cz cM J hM _ hm2 (k:=λex m s=>ex=.normal/\m=_/\s=_) ⟨rr,rr,rr⟩ ?_))
 rintro _ _ _ a3 c3 ⟨rfl,rfl,rfl⟩ hm3
 refine wpIn_seq (wpIn_seq (wpIn_wide.2 (mE cz cM J hM _ hm3 (k:=λex m s=>ex=.normal/\m=8/\s.bD 13=some (.fn 151 [.ip [.sl false (l.map λrs=>sl dg.pv rs)] 0,.ip [st name] 0])/\s.bD 5=some (.lp 4 0 0)/\s.hp 4=some (.rows 1 [.sl true []] true none 25)) ?_ ?_)))
 ·exact ak (ag0 l name) rfl<|⟨rr,rr,rr,rr,rr⟩
 rintro _ _ s4 a4 ⟨w1,d,hb1⟩ ⟨rfl,rfl,e13,e5,eb⟩ j
 refine wpIn_block ?_
 obtain⟨v13,ht13,⟨cs13,rfl,p1,_,rfl,⟨b1,N,ws1,rfl,⟨V,_,rfl,hV,rfl⟩,hc1⟩,p2,_,rfl,⟨b2,O,ws2,rfl,⟨N2,_,rfl,⟨rfl,_⟩,rfl⟩,hc2⟩,rfl⟩⟩:=j.bD 13 _ e13
 obtain⟨v5,ht5,⟨B,k5,hB,rfl⟩⟩:=j.bD 5 _ e5
 obtain⟨ws,hws,hSl⟩:=hV
 obtain⟨H,hx1,hx2,hx3⟩:=QI (Z:=d) (W:=w1) hws hA
 have hN:S.w0.heap.size<=w1.heap.size:=j.dT.fL.size
 have C:∀b o,d b o->b<w1.heap.size:=j.dT.fC
 obtain⟨rfl,h0⟩:=aom hM j.dT eb hB
 have g:=j.size
 have hd4:=j.defers
 rw[hD]at hd4
 have hxl:H.length=l.length:=by have:=congrArg List.length hx1;rwa [c8,c8]at this
 have hxls:∀xs∈H,xs.length<=60000000:=λxs hxs=>by
  have:xs.map (λx=>(x.1,x.2.a))∈l.map λrs=>rs.map λr=>(r.aD,r.a):=hx1▸C8 (f:=λxs:List (BA×jS d w1)=>xs.map λx=>(x.1,x.2.a)) hxs
  obtain⟨rs,hrs,e⟩:=y9.1 this
  have:=congrArg List.length e
  rw[c8,c8]at this
  have:=hls rs hrs
  omega
 have U:=ahf name hx1
 have hlt:(kR name H).length<=67108864:=by
  have:=congrArg List.length U
  rw[c8]at this
  omega
 have row15:∀x:BA×jS d w1,(uC jS.cs x).length=15/\∀y∈uC jS.cs x,y.oneCell'=true:=λx=>by
  refine⟨by show x.2.cs.length+1=15;rw[x.2.len],λy hy=>?_⟩
  rcases p9.1 hy with rfl|hy
  ·rfl
  ·exact x.2.one y hy
 have wsl:∀(i:Nat) v,ws[i]? = some v->∃xs,H[i]? = some xs/\lO w1 d false v (xs.map jS.row):=λi v e=>by
  have h1:=(c9.1 e).1
  have h2:i<H.length:=om
  exact⟨_,j8 h2,hx3 i v _ e (j8 h2)⟩
 have wone:∀v∈ws,v.oneCell'=true:=λv hv=>by
  obtain⟨i,hi⟩:=A0 hv
  obtain⟨xs,_,a,cap,rfl,_⟩:=wsl i v hi
  rfl
 have hseq:=alG jS.cs name H om hxls (λx=>⟨x.len,x.one⟩) (λb o v=>d b o/\w1.cell? ⟨b,o,none⟩=some v) b1 (N+0) b2 (O+0) V ws (hc1 0 V rr) (hc2 0 _ rr)
  (MI hSl (λcs hcs=>by
    obtain⟨v,hv,rfl⟩:=y9.1 hcs
    exact⟨rr,λy hy=>by rw[o6.1 hy];exact wone v hv⟩) (by rw[c8]) (λi u cs e1 e2=>by
    rw[A6,e1]at e2
    cases e2
    exact yq (wone u (i7 e1)))) hx2
  (λi v xs e1 e2=>MI (hx3 i v xs e1 e2) (λcs hcs=>by
    obtain⟨x,hx,rfl⟩:=y9.1 hcs
    exact row15 x) (by rw[c8,c8]) (λq u cs f1 f2=>by
    rw[A6]at f1 f2
    cases hq:xs[q]? with
    |none=>rw[hq]at f1;cases f1
    |some x=>rw[hq]at f1 f2;cases f1;cases f2;rfl))
  (λA B=>cI ⟨A,d,λ_=>none⟩ ⟨B,d,λ_=>none⟩) (λA B hx hC b o v h=>(hx.cell b o h.1).trans (hC b o v h)) w1 (λb o v h=>h.2)
 have X:OwnFrom w1.heap.size (fun(pre:List (Nat×jS d w1)) W=>vN S d B (pre.map λx=>x.2.a.put) W/\cI ⟨w1,d,λ_=>none⟩ ⟨W,d,λ_=>none⟩/\w1.heap.size<=W.heap.size):=by
  rintro pre W W' row ⟨h1,h2,h3⟩ Q hr
  refine⟨aik hN C _ pre W W' row h1 Q hr,h2.trans (DW (c:=⟨W,d,λ_=>none⟩) (λb o z=>⟨u9 (C b o z) h3,λe=>?_⟩) Q λr e=>(hr r e).2),r8 h3 Q.size⟩
  have:=(hr b e.symm).1
  have:=C b o z
  omega
 refine wpIn_rangeFunc_ownH (F:=Fence.wide) (n:=2) rr (by decide) (gf:=151) (lb:=#[.pointer (some ⟨b1,N+0,none⟩),.pointer (some ⟨b2,O+0,none⟩)]) ?Q trivial (enters_of func151 (by kernel_rfl) rr) hseq (λh k=>h.trans k)
  (λW q o o' hl1 hl2 hl3 hl4=>DW (c:=⟨W,d,λ_=>none⟩) (row:=some q) (λb o z=>?hz) (grownBy_putObj' W q o') (λr e=>by cases e;exact⟨o,hl2,hl3⟩)) (Below.refl _ _) (λ_=>rfl)
  (λpre W=>vN S d B (pre.map λx=>x.2.a.put) W/\cI ⟨w1,d,λ_=>none⟩ ⟨W,d,λ_=>none⟩/\w1.heap.size<=W.heap.size) (λ_ _ _=>False) X (λ_ _ _ _ _ hs _ _=>hs) ⟨h0,cI.refl _,j2 _⟩
  (λx a' W=>a'.tmps.size=22/\a'.defers=[]/\a'.tmps[5]? = some (.pointer (some ⟨B,0,none⟩))/\∃Y,w1.heap.size<=Y/\a'.tmps[7]? = some (.pointer (some ⟨Y,0,none⟩))/\W.heap[Y]? = some (.cells x.2.cs.toArray 95 (0,0))) ?hAx ?assign ?body ?done ?stop
 case Q=>
  show a4.tmps.getD 13 undef=_
  rw[B6,ht13];rfl
 case hz=>
  have h1:=(u7.1 hl2).1
  have hl1:w1.heap.size<=q:=hl1
  have h2:=C b o z
  exact⟨show b<W.heap.size by omega,λe=>by cases e;omega⟩
 case hAx=>
  rintro x a' _ W W' row ⟨h1,h2,h3,Y,h4,h5,h6⟩ Q hr
  refine⟨h1,h2,h3,Y,h4,h5,(Q.block Y (u7.1 h6).1 λe=>?_).trans h6⟩
  obtain⟨_,o,h7,h8⟩:=hr Y e.symm
  rw[h6]at h7
  cases h7;cases h8
 case assign=>
  intro q pre x W K I hK
  refine ua (ro:=some q) (Le W (t:=95) rr rr rr rr rr (cz _ _ rr) x.2.len ?_ ?_ x.2.one λW2 R hz2 hn2=>?_)
  ·simp[g]
  ·simp[Act.put,Act.eval,g]
  ·have hk2:KeepsFrom w1.heap.size W W2:=⟨R.size,λk o _ ho _=>(R.block k (u7.1 ho).1 (λe=>by cases e)).trans ho⟩
   have hI2:=X pre W W2 none I R (λ_ e=>by cases e)
   refine hK _ _ hk2 (DW (c:=⟨W,d,λ_=>none⟩) (row:=none) (λb o z=>⟨u9 (C b o z) I.2.2,λe=>by cases e⟩) R (λ_ e=>by cases e)) hI2 ⟨?_,rr,?_,W.heap.size,I.2.2,?_,hn2⟩
   ·simp[Act.put,g]
   ·simp[Act.put,ht5]
   ·simp[Act.put,g]
 case body=>
  intro q pre x a' W hq hloop I ⟨h1,h2,h3,Y,h4,h5,h6⟩ hlen
  refine wpIn_block (wpIn_mono (adO (a:=x.2.a) J hM hN C I.1 (aM.ext _ I.2.1 x.2.rel) h4 h6 x.2.len h1 h2 h3 h5 (by kernel_rfl) ?_) ?_)
  ·have P:(pre.map λx=>x.2.a.put).length<67108864:=by rw[c8];omega
   generalize(pre.map λx=>x.2.a.put)=T at P
   refine aJ (ams x.2.a x.2.sz.1 x.2.sz.2.1 x.2.sz.2.2) rfl<|dS.l (aq.mk (eE gC T x.2.a.put P) ?_)
   refine⟨rr,7,by decide,?_,?_⟩
   ·rw[i6];rfl
   ·rw[l6];rfl
  ·rintro e a'' W' ⟨rfl,hk,hx,ht⟩
   exact⟨hk,hx,by rw[l6];exact ht,I.2.1.trans hx,r8 I.2.2 hk.size⟩
 case done=>
  rintro D xs W hD2 hS2 ⟨I,hx,hsz⟩ hK
  have hD3:w1.heap.size<=D:=hD2
  have hput:(xs.map λx=>x.2.a.put)=lW name l:=by
   unfold lW
   rw[hw,<-U,<-hS2,F3,F3];rfl
  rw[hput]at I
  obtain⟨v,hv1,hcell,hrel⟩:=akb (W':=W.putObj D (.deferred none)) (Z':=od w (W.putObj D (.deferred none)) Z) I hL (λb o h1 h2=>.inr ⟨by rw[<-hw0];exact h1,by simpa using h2⟩) (λb aK e f h=>(World.putObj_heap_other (λe=>by
   subst e
   rw[show W.heap[_]? = _ from h]at hK
   cases hK)).trans h)
  show Code.wpIn Fence.wide 2 _ (Code.seq _ Code.ret) _ _ W
  refine wpIn_seq (ua (ro:=none) (aoA W rr rr (cz _ _ rr) rr rr (b:=B) (off:=0) ?_ hcell hv1 (CZ W rr rr ?_)))
  ·show a4.tmps.getD 5 undef=_
   rw[B6,ht5];simp
  refine wpIn_ret<|⟨by simp,.inl ⟨_,_,rr,run_takeDeferred hK,?_⟩⟩
  show LeavesInM Fence.wide 2 _ _ _ _ a4.defers _ _
  rw[hd4]
  refine⟨v,?_,_,v,rr,rr,hrel,?_⟩
  ·simp[results,results32,go_sem,Act.put,Act.eval,g]
  ·have E:ie S.L S.w0 W:=I.choose_spec.fL
   rw[hw0]at E hN
   refine⟨E.os,E.tape,E.output,?_,λb hb=>?_⟩
   ·simpa using E.size
   ·exact(World.putObj_heap_other (show b≠D by omega)).trans (E.block b hb (hL b))
 case stop=>
  intro D c pre W _ _ h _
  exact h.elim
def amd(l:List (List dg))(name:BA)(c:name.size<=4294967280)(e:l.length<=60000000)(b:∀rs∈l,rs.length<=60000000)(f:(gu name l).length<=67108864)
 (g:∀rs∈l,∀r∈rs,r.a.al.length<=67108864/\(∀n∈r.a.al,n.size<=1000000)/\r.a.gx.length<=67108864):PC 32 [.sl false (l.map λrs=>sl dg.pv rs),st name] (·=sl st (lW name l)):=by
 cases d:d_ name
 case true=>exact aiH l name c d e b f g
 exact adb l name c d
def SX(L:List aW)(name:BA){c:List aO}{l:List (List dg)}(b:PC 13 [sl cq L] (·=.aU [sl aO.pv c,.sl false (l.map λrs=>sl dg.pv rs)]))(e:name.size<=4294967280)(f:l.length<=60000000)(d:∀rs∈l,rs.length<=60000000)(g:(gu name l).length<=67108864)
 (h:∀rs∈l,∀r∈rs,r.a.al.length<=67108864/\(∀n∈r.a.al,n.size<=1000000)/\r.a.gx.length<=67108864):PC 12 [sl cq L,st name] (·=sl st (lW name l)):=by
 exact aw func12<|ak b rfl<|ak (amd l name e f d g h) rfl<|ah
end
section
open Go.RowKit
def ail{M:Nat}{R:ay->ay×bn}(s:∀t,t.d.down=false->R t=(t,.ef 15))(j:∀t,kT t->kT (R t).1)(l:List aW)(z:l.length<=1000)(h:∀x∈l,ic M x)(hp:∀x∈l,gN x)(A:549+l.length*329<=M)(k:∀t,t.d.down=false->kT t->so R t)(q:Nat)(x:aW)(hq:l[q]? = some x):me R (cY R [] (l.take q)).1 x:=by
 have a:∀y∈l.take q,y∈l:=λy b=>u6 b
 have f:(l.take q).length<=l.length:=by grind
 have r:(l.take q).length*(320+9)<=l.length*329:=B8 _ f;have h0:iI M 220 [] []:=⟨rr,λn o=>(o7 o).elim⟩;have u:=(xc (K:=320) s om (l.take q) h0 (λy b=>(h y (a y b)).yL) om om).1;have v:=Ds j (l.take q) (c:=[]) ⟨by simp_all,λn o=>(o7 o).elim⟩ λy b e=>absurd e (h y (a y b)).vz.2.2
 have hi:=Cf (M:=M) (l.take q) (m:=0) (i:=[]) (λy b=>(o7 b).elim) λy b=>h y (a y b)
 have g:=i7 hq;exact WU u v hi om (h x g) (hp x g) om λt w p=>k t w.down p
theorem Rz(l:List aW)(c:l.length<=28)(a:∀x∈l,ic 10000 x/\gN x)(q:Nat)(x:aW)(hq:l[q]? = some x):me jM (cY jM [] (l.take q)).1 x:=
 ail (M:=10000) (λ_ _=>rfl) (λ_ h=>h) l om (λx h=>(a x h).1) (λx h=>(a x h).2) om (λt b _=>LZ b) q x hq
def an2(l:List aW)(a:l.length<=28)(b:∀x∈l,ic 10000 x/\gN x):PC 13 [sl cq l] (·=.aU [sl aO.pv (cY jM [] l).1,.sl false ((cY jM [] l).2.map λr=>sl dg.pv r)]):=EF l om (Rz l a b)
def akM{S:List aW}(a:S.length<=28)(b:∀x∈S,ic 10000 x/\gN x)(q:Nat):Dx jM (S.take q):=λk x hk=>by
 grind [Rz]
def aap{S:List aW}(d:S.length<=28)(a:∀x∈S,ic 10000 x/\gN x):iI 10000 10000 (cY jM [] S).1 (ls [] S).1/\(cY jM [] S).2=(ls [] S).2:=by
 have h0:iI 10000 220 [] []:=⟨rr,λn b=>(o7 b).elim⟩;have:=xc (K:=320) (R:=jM) (λ_ _=>rfl) om S h0 (λy c=>(a y c).1.yL) om om;exact⟨this.1.le om,this.2⟩
def UZ{S:List aW}(a:∀x∈S,ic 10000 x/\gN x):yp (cY jM [] S).1:=Ds (λ_ h=>h) S (c:=[]) ⟨by simp_all,λn b=>(o7 b).elim⟩ λy d e=>absurd e (a y d).1.vz.2.2
def alR{S:List aW}(a:∀x∈S,ic 10000 x/\gN x)(name:BA):(jR jM S name).1.size<=1000000:=by
 have b:=UZ (S:=S.filter il) λy c=>a y ((C5.1 c).1)
 unfold jR f_;cases h:(cY jM [] (S.filter il)).1.find? λn=>seq n.name name with
 |none=>exact j9 _
 |some n=>
  have:=(b.all n (x7 h)).key;grind
def aeM{S:List aW}(b:S.length<=28)(a:∀x∈S,ic 10000 x/\gN x)(name:BA):Bk jM S name:=
 ⟨λx h=>(a x h).2.ul,λx h=>(a x h).2.tX,akM b a,λq=>alR (λx h=>a x (u6 h)) name⟩
def Je(p:List aW->aW->Bool):∀(l:List aW) (a:List aW) (x:aW),x∈gv p a l->x∈l
 | [],_,_,h=>h
 |y::l,a,x,h=>by
  unfold gv at h
  cases hp:p a y
  case true=>
   rw[hp]at h
   rcases p9.1 h with rfl|h
   ·simp_all
   ·exact j3 _ (Je p l _ x h)
  rw[hp]at h;exact j3 _ (Je p l _ x h)
theorem VP{R:ay->ay×bn}{l:List aW}{name:BA}{x:aW}(h:x∈kI R l name):x∈l:=Je _ _ _ _ ((C5.1 h).1)
def Uu(p:List aW->aW->Bool):∀(l:List aW) (a:List aW),(gv p a l).length<=l.length
 | [],_=>j2 _
 |y::l,a=>by
  unfold gv
  have:=Uu p l (a++[y])
  grind
def LH(r:dg):Bool:=Nat.ble r.a.al.length 1000&&(r.a.al.all (λn=>Nat.ble n.size 1000000)&&Nat.ble r.a.gx.length 1000)
def DM(l:List (List dg)):Bool:=Nat.ble l.length 1000&&l.all λrs=>Nat.ble rs.length 1000&&rs.all LH
def Bh(name:BA):∀(l:List (List dg)) (n:Nat),(∀rs∈l,rs.length<=n)->(gu name l).length<=l.length*n
 | [],_,_=>j9 _
 |rs::l,n,h=>by
  unfold gu
  rw[P1,i6,c8,w6,D7]
  have h1:=C6 (λr:dg=>seq r.aD name) rs
  have h2:=h rs j6
  have b:=Bh name l n λr a=>h r (j3 _ a)
  grind [gu]
def NF{S:List aW}(d:S.length<=28)(e:∀x∈S,ic 10000 x/\gN x){l:List (List dg)}(f:(ls [] S).2=l)(hb:DM l=true)(name:BA)(g:name.size<=1000):PC 12 [sl cq S,st name] (·=sl st (lW name l)):=by
 have c:=an2 S d e;rw[(aap d e).2,f]at c;unfold DM at hb;rw[y7]at hb;have h1:=o9 hb.1;have h2:∀rs∈l,rs.length<=1000/\∀r∈rs,r.a.al.length<=67108864/\(∀n∈r.a.al,n.size<=1000000)/\r.a.gx.length<=67108864:=λrs b=>by
  have:=A3.1 hb.2 rs b;rw[y7]at this;refine⟨o9 this.1,λr c=>?_⟩;have:=A3.1 this.2 r c;unfold LH at this;rw[y7,y7]at this;have j:=o9 this.1;have a3:=o9 this.2.2;grind [Nat.le_of_ble_eq_true]
 have h:=Bh name l 1000 λrs b=>(h2 rs b).1
 have i:l.length*1000<=1000*1000:=B8 _ h1;exact SX S name c om om (λrs b=>by grind) om λrs b=>(h2 rs b).2
def amG:DM (lI [] fO).2=true:=by kernel_rfl
def aop:DM (lI [] (pS fO sB)).2=true:=by kernel_rfl
def YT:(pS fO sB).all VY=true:=by kernel_rfl
theorem H':(fO.map JE.cL).length<=28:=by grind [KT]
def Zs:PC 12 [sl cq (fO.map JE.cL),st sB] (·=sl st (lW sB (lI [] fO).2)):=NF H' CP (congrArg Prod.snd ald) amG sB (by decide)
def aeP:PC 9 [sl cq (fO.map JE.cL),st sB] (·=sl cq ((pS fO sB).map JE.cL)):=by
 have:=SF (fO.map JE.cL) sB (by grind [H']) (aeM H' CP sB);grind [Xr]
def abl:PC 12 [sl cq ((pS fO sB).map JE.cL),st sB] (·=sl st (lW sB (lI [] fO).2)):=by
 have h:=NF (S:=(pS fO sB).map JE.cL) (by grind [afD]) (λx a=>CP x (by grind [Xr,VP])) (l:=(lI [] (pS fO sB)).2) (congrArg Prod.snd (zu (pS fO sB) (λx a=>(o7 a).elim) (GW YT))) aop sB (by decide);grind [lW,abz]
def Jw(s:af):Bool:=s.ar.al.all (λn=>Nat.ble n.name.size 1000000&&(Nat.ble n.ao.length 67108864&&n.ao.all λq=>Nat.ble q.k.size 1000000&&Nat.ble q.v.size 1000000))&&s.aH.all λe=>Nat.ble e.aa.size 1000000
def aaR:(vR sA).map (λx=>Jw x.s)=some true:=by kernel_rfl
def akG:(vR sA).map (λx=>x.s.ar.places.map λp=>(p.aZ,p.node.data.toList,p.v.a,p.v.b,p.v.c,p.v.d))=some [(2,[110,50],5,0,0,0)]:=by kernel_rfl
theorem Uq{b:BA}{l:List UInt8}(h:b.data.toList=l):b=⟨l.toArray⟩:=by
 cases b with
 |mk d=>subst h;simp
def ak0:(vR sA).map (λx=>x.s.ae.all λj=>decide (j.x.count<=1000))=some true:=by kernel_rfl
structure acj(c:List aO)(l:List (List dg))(b e:ay)(d x25:dg):Prop where
 run:PC 13 [sl cq (jK.map JE.cL)] (·=.aU [sl aO.pv c,.sl false (l.map λr=>sl dg.pv r)])
 cl:c.length<=1000
 fa:f_ c sA=(b,true)
 fb:f_ c sB=(e,true)
 len:l.length=26
 AD:l[24]? = some [d]
 sQ:l[25]? = some [x25]
 amR:d.a.lX=2
 KU:d.a.al=[⟨#[110,50]⟩]
 QJ:x25.a.gx=[]
 rb:e.s.round=1
 jb:e.s.ae=[]
 ra:b.s.round=1
 pa:b.s.ar.places=[⟨2,⟨#[110,50]⟩,⟨5,0,0,0⟩⟩]
 right:b.s.right=true
 bB:(bK b.s.ae 1).1.bB=false
 sz:zM b.s
 fp:∀j∈b.s.ae,j.x.count<=4611686018427387904
def Qa{c:List aO}{i:List dB}(h:c.map kZ=i)(name:BA){x:dB}(a:i.find? (λx=>seq x.name name)=some x):∃n∈c,f_ c name=(n.t,true)/\kZ n=x:=by
 subst h;rw[O6]at a;cases b:c.find? (λn=>seq n.name name)with
 |none=>
  grind [kZ]
 |some n=>
  rw[show c.find? ((λx:dB=>seq x.name name)∘kZ)=some n from b]at a;grind [f_]
def map_some{α β:Type}{o:Option α}{f:α->β}{b:β}(h:o.map f=some b):∃a,o=some a/\f a=b:=by simp_all
def EL{α β:Type}{l:List α}{f:α->β}{b:β}(h:l.map f=[b]):∃a,l=[a]/\f a=b:=by simp_all
def aeE:∃c l ta tb g r,acj c l ta tb g r:=by
 have U:(jK.map JE.cL).length<=28:=by grind [Al]
 obtain⟨N,C⟩:=alP;have hi:(ls [] (jK.map JE.cL)).1=wO.1:=congrArg Prod.fst Qn;have C:(cY jM [] (jK.map JE.cL)).2=wO.2:=C.trans (congrArg Prod.snd Qn);have u:=Cf (M:=10000) (jK.map JE.cL) (m:=0) (i:=[]) (λy D=>(o7 D).elim) λy D=>(xf y D).1
 rw[Al,hi]at u;have k:=agU;rw[C]at k;have O:=(UZ xf).len;have w:=N.eq;rw[hi]at w;obtain⟨V,q,E⟩:=map_some akG;obtain⟨W,F,z⟩:=map_some aac;obtain⟨o,P,G,rfl⟩:=Qa w sA q;obtain⟨T,Q,H,rfl⟩:=Qa w sB F;obtain⟨AD,I,A⟩:=map_some anT;obtain⟨sQ,J,B⟩:=map_some ZM;have e1:=akt;have e2:=aaX;have e3:=abr;have e4:=aaR;have e5:=ak0;rw[q]at e1 e2 e3 e4 e5;have e5:(o.t.s.ae.all λj=>decide (j.x.count<=1000))=true:=z8 e5;have e1:=z8 e1;have e2:o.t.s.right=true:=z8 e2;have e3:(bK o.t.s.ae 1).1.bB=false:=z8 e3;have e4:Jw o.t.s=true:=z8 e4;have f:dw (0+1024*26) o.t.s:=u (kZ o) (x7 q);obtain⟨g,rfl,L⟩:=EL A;obtain⟨r,rfl,a2⟩:=EL B;have a3:g.a.al.map (λb=>b.data.toList)=[[110,50]]:=congrArg Prod.snd L;unfold Jw at e4;rw[y7]at e4;refine⟨_,_,o.t,T.t,g,r,k,om,G,H,ahO,I,J,congrArg Prod.fst L,?_,B0 a2,congrArg Prod.fst z,B0 (congrArg Prod.snd z),congrArg Prod.fst e1,?_,e2,e3,⟨by have:=f.sz.al;omega,by have:=f.sz.places;omega,λn R=>?_,by have:=f.sz.aH;omega,λe w=>o9 (A3.1 e4.2 e w),by have:=f.sz.bg;omega,by have:=f.sz.ae;omega,λj K=>(f.sz.spec j K).1⟩,λj K=>by grind⟩
 ·obtain⟨b,hb,S⟩:=EL a3;grind [Uq]
 ·obtain⟨⟨j,b,⟨v1,v2,v3,v4⟩⟩,hb,h⟩:=EL (show o.t.s.ar.places.map (λp=>(p.aZ,p.node.data.toList,p.v.a,p.v.b,p.v.c,p.v.d))=[(2,[110,50],5,0,0,0)]from E);grind [Uq]
 ·have:=A3.1 e4.1 n R;simp_all
end
section
open Go.RowKit Go.Proofs.Tryz
def ot(a:mL)(j:ax):mL:=match j.bB with
 |true=>(nC a.1 j.id,jZ a.2 j.id j.x.count)
 |false=>a
def mG(s:af)(q:Nat):mL:=(s.ae.take q).foldl ot ([],λ_=>0)
theorem acv{s:af}{q:Nat}{j:ax}(h:s.ae[q]? = some j):mG s (q+1)=ot (mG s q) j:=by simp_all [mG,fW]
theorem Gs:∀(l:List ax) (a:mL),a.1.Nodup->(l.foldl ot a).1.Nodup
 | [],_,h=>h
 |j::l,a,h=>Gs l _ (by
  unfold ot
  cases j.bB
  case true=>exact XV h j.id
  exact h)
theorem UT(s:af):(mG s s.ae.length).2=xy s.ae λ_=>0:=by
 have key:∀(l:List ax) (a:mL),(l.foldl ot a).2=xy l a.2:=λl=>by
  induction l with
  |nil=>intro a;rfl
  |cons j l ih=>
   intro a;rw[F5,ih];show _=xy l _
   congr 1;unfold ot;cases j.bB<;>rfl
 grind [mG]
theorem Yn{b:List UInt64}{x k:UInt64}:k∈nC b x↔k∈b\/k=x:=by grind [nC]
theorem aeS(s:af)(k:UInt64):k∈(mG s s.ae.length).1↔∃j∈s.ae,j.bB=true/\j.id=k:=by
 have key:∀(l:List ax) (a:mL),k∈(l.foldl ot a).1↔k∈a.1\/∃j∈l,j.bB=true/\j.id=k:=λl=>by
  induction l<;>grind [ot,Yn]
 grind [mG]
structure ue(K:List UInt64)(f:UInt64->Int):Prop where
 out:∀k,k∉K->f k=0
 le:∀k,f k<=4611686018427387904
theorem amn(s:af)(h:∀j∈s.ae,j.x.count<=4611686018427387904):ue (mG s s.ae.length).1 (mG s s.ae.length).2:=by
 have key:∀(l:List ax) (a:mL),(∀j∈l,j.x.count<=4611686018427387904)->ue a.1 a.2->ue (l.foldl ot a).1 (l.foldl ot a).2:=λl=>by
  induction l with
  |nil=>simp_all
  |cons j l ih=>
   intro a c b;refine ih _ (λj d=>c j (j3 _ d)) ?_;unfold ot;cases f:j.bB
   ·exact b
   refine⟨λk hk=>?_,λk=>?_⟩
   ·dsimp only at hk⊢;rw[Yn]at hk;rw[Ax _ _ λe=>hk (.inr e)];exact b.out k λh=>hk (.inl h)
   ·dsimp only;by_cases e:k=j.id
    ·grind [DT]
    ·rw[Ax _ _ e];exact b.le k
 unfold mG;rw[s9];exact key _ _ h ⟨λ_ _=>rfl,λ_=>by simp_all⟩
def lP(f:UInt64->Int)(l:List dt):UInt64->Int:=l.foldl (λf x=>jZ f x.aZ (f x.aZ-1)) f
theorem amF(s:af)(x:dt)(m:List dt)(f:UInt64->Int):oY s (x::m) f=match decide (f x.aZ<1)with
 |true=>none
 |false=>match V4.same x.v (bK s.ae x.aZ).1.x.cT with
  |false=>none
  |true=>oY s m (jZ f x.aZ (f x.aZ-1)):=by
 have e:(λid=>match decide (id=x.aZ)with|true=>f id-1|false=>f id)=jZ f x.aZ (f x.aZ-1):=by
  grind [jZ]
 show(match decide (f x.aZ<1)with
  |true=>none
  |false=>match V4.same x.v (bK s.ae x.aZ).1.x.cT with
   |false=>none
   |true=>oY s m λid=>match decide (id=x.aZ)with|true=>f id-1|false=>f id)=_
 rw[e]
theorem akp(s:af){K:List UInt64}{f0 f:UInt64->Int}(b:∀k,k∈K↔∃j∈s.ae,j.bB=true/\j.id=k)(h0:xy s.ae (λ_=>0)=f0)(h:oY s s.ar.places f0=some f):s.oe=K.all λk=>decide (f k=0):=by grind [af.oe]
theorem acG{K:List UInt64}{f:UInt64->Int}(h:ue K f){x:UInt64}(b:x∈K):ue K (jZ f x (f x-1)):=by
 refine⟨λk hk=>?_,λk=>?_⟩
 ·rw[Ax _ _ λe=>hk (by simp_all)];exact h.out k hk
 ·by_cases e:k=x
  ·subst e;rw[DT];have:=h.le k;omega
  ·rw[Ax _ _ e];exact h.le k
section
variable {F:Fence}{n:Nat}{P:Program}(w:World){ops:Array Oper}{rest:List Oper}{o:Oper}{a:Act}{Q:Exit→Act→World→Prop}
theorem C_(d:o.guard=none)(e:qQ o=true)(h:o.about P w a.eval=none){v:Value}{w':World}(b:(execOp a.eval o).run P w=.ok (.value v) w')(g:wpListIn F n P ops Q rest (a.put o.dst v) w'):wpListIn F n P ops Q (o::rest) a w:=by
 refine wpListIn_plain d λK c=>?_
 unfold Oper.wpIn;refine⟨λf i=>(by simp_all),?_⟩;rw[Oper.semAt_plain F _ _ (Q_ e),b];exact c _ _ g
theorem QU(b:o.guard=none){x:Operand}(c:o.op=.move x)(d:wpListIn F n P ops Q rest (a.put o.dst (a.eval x)) w):wpListIn F n P ops Q (o::rest) a w:=
 C_ w b (by grind [qQ]) (by grind [Oper.about]) (by simp_all [execOp]) d
theorem JW(b:o.guard=none){x:Operand}{i:Nat}(c:o.op=.extract x i){vs:Array Value}(e:a.eval x=.tuple vs){v:Value}(hv:vs[i]? = some v)(d:wpListIn F n P ops Q rest (a.put o.dst v) w):wpListIn F n P ops Q (o::rest) a w:=
 C_ w b (by grind [qQ]) (by grind [Oper.about]) (by simp_all [execOp,Instr.extract]) d
theorem alv(b:o.guard=none){x:Operand}(c:o.op=.entry x){p:Value}(e:a.eval x=p){v:Value}(f:(Instr.entry p).run P w=.ok v w)(d:wpListIn F n P ops Q rest (a.put o.dst v) w):wpListIn F n P ops Q (o::rest) a w:=
 C_ w b (by grind [qQ]) (by grind [Oper.about]) (by simp_all [execOp]) d
theorem ahq(c:o.guard=none){x y:Operand}{t t2:TypeId}(b:o.op=.binOp .neq t x y t2)(g:P.underlying t=some (.int .i64)){i j:Int}(d:a.eval x=.int .i64 i)(e:a.eval y=.int .i64 j)(f:wpListIn F n P ops Q rest (a.put o.dst (.bool (!decide (i=j)))) w):wpListIn F n P ops Q (o::rest) a w:=
 C_ w c (by grind [qQ]) (by grind [Oper.about]) (by unfold execOp;simp[b,d,e,eqGuard,binOp,Op.intCmp,Bool.beq_eq_decide_eq,bne,Result.andThen]) f
end
theorem ss{a:Act}{d t:Nat}{v:Value}(c:d<a.tmps.size):(a.put (some d) v).eval (.tmp t)=match Nat.beq d t with|true=>v|false=>a.eval (.tmp t):=by
 cases h:Nat.beq d t
 case true=>
  cases n9 h;simp_all [Act.put,Act.eval]
 have b:d≠t:=λe=>by simp_all
 simp_all [Act.put,Act.eval]
theorem MD{L:mL}(b:L.1.Nodup)(x:UInt64)(n:Int):some (aI.map (oX (L.1.map uV) (uV x)) (qD (L.1.map uV) (L.1.map λk=>i64 (L.2 k)) (uV x) (i64 n)) true)=some (MB (nC L.1 x,jZ L.2 x n)):=by
 rw[Gn,FJ (λk=>i64 (L.2 k)) _ _ _ b];congr 2;refine C4 λz _=>?_
 unfold jZ;dsimp only;cases decide (z=x)<;>rfl
theorem Ga{f:FuncId}{fn:Func}{args:List PV}{body:Code}{post:PV->Prop}(c:prog.funcs[f]? = some fn)(e:(fn.name== "runtime.NumGoroutine")=false)(d:fn.body=some body)(b:args.length<=fn.ntmps)(h:SV prog GT 0 fn.ntmps body 0 ⟨mf args 0,λ_=>none⟩ (zY tt fn post)):PC f args post:=
 My cz (λh hb=>jz.below h hb) c (enters_of c e d) d b λhG g _ _ i=>h.h hG g i
theorem TO(s:af)(h:zM s)(V:∀j∈s.ae,j.x.count<=4611686018427387904):VZ s s.oe:=by
 have O:=aeS s;have h0:=(UT s).symm;have R:=amn s V;have I:=Gs s.ae ([],λ_=>0) F9;rw[show s.ae.foldl ot ([],λ_=>0)=mG s s.ae.length by grind [mG]]at I;refine Ga func56 rr rr (o9 rr)<|SV.seq cz cM<|SV.seq cz cM<|SV.seq cz cM ?_;have hjl:=h.ae;have hpl:=h.places;refine iC ⟨⟨rr,rr,rr⟩,⟨rr,rr,rr⟩,rr,rr,rr⟩ s.ae.length om (.of (mG s) (λ_=>[]) [1,3,15,16] (λa=>[(2,MB a)]) [0]) (λ_=>True) rr (by show some _=_;simp_all) (λ_=>rfl) ⟨rr,rr,rr,rr,rr⟩ rr trivial ?_ (λk hk y=>?_) (λy=>?_)
 ·exact cS rr (sF _)
 ·obtain⟨x,hx⟩:=cw hk;have M:=acv hx;have W:(mG s k).1.Nodup:=Gs _ _ F9;generalize hL:mG s k=L at M W;rw[cE hL];obtain⟨xid,xx,xr,xl⟩:=x;refine bG hx ?_;unfold ot at M;cases xr
  case true=>
   exact an<|aq.mk (tY _ _)<|ck.of id M trivial rfl<|eB ⟨⟨BB.br (MD W xid xx.count) (sF _),rr⟩,trivial⟩
  exact ab<|ck.of id M trivial rfl<|cS rr (sF _)
 ·generalize hL:mG s s.ae.length=L at O h0 R I;rw[cE hL];obtain⟨K,f0⟩:=L;dsimp only at O h0 R I;refine SV.seq cz cM ?_;have hpi:=UT s;refine iC ⟨⟨rr,rr,rr⟩,⟨rr,rr,rr⟩,rr,rr,rr⟩ s.ar.places.length om (.of (λq=>lP f0 (s.ar.places.take q)) (λ_=>[]) [1,3,33,34] (λf=>[(2,MB (K,f))]) [0]) (λq=>ue K (lP f0 (s.ar.places.take q))/\oY s s.ar.places f0=oY s (s.ar.places.drop q) (lP f0 (s.ar.places.take q))) rr (by show some _=_;simp_all) (λ_=>rfl) ⟨rr,rr,rr,rr,rr⟩ rr ⟨R,rr⟩ ?_ (λk hk y=>?_) (λy=>?_)
  ·exact cS rr (sF _)
  ·obtain⟨x,hx⟩:=cw hk;have M:lP f0 (s.ar.places.take (k+1))=jZ (lP f0 (s.ar.places.take k)) x.aZ (lP f0 (s.ar.places.take k) x.aZ-1):=by
    simp_all [lP,fW]
   have W:s.ar.places.drop k=x::s.ar.places.drop (k+1):=by
    grind [List.drop_eq_getElem_cons]
   rw[W,amF]at y;have X:ue K (lP f0 (s.ar.places.take (k+1)))/\oY s s.ar.places f0=oY s (s.ar.places.drop (k+1)) (lP f0 (s.ar.places.take (k+1)))↔ue K (jZ (lP f0 (s.ar.places.take k)) x.aZ (lP f0 (s.ar.places.take k) x.aZ-1))/\oY s s.ar.places f0=oY s (s.ar.places.drop (k+1)) (jZ (lP f0 (s.ar.places.take k)) x.aZ (lP f0 (s.ar.places.take k) x.aZ-1)):=by rw[M]
   generalize hL2:lP f0 (s.ar.places.take k)=f at M y X;rw[cE hL2];obtain⟨g,xn,xv⟩:=x;refine bG hx<|ak (xZ s g om) rr ?_;have A:=Hf (λk=>i64 (f k)) g K;cases C:decide (g∈K)
   ·rw[C]at A;have hf0:f g=0:=y.1.out g (j4 C);refine aq.mk (tY _ _)<|el.is _ A<|aj.is true rfl<|an ?_;have hb:s.oe=false:=by
     grind [af.oe]
    rw[hb];exact ah
   rw[C]at A;refine aq.mk (tY _ _)<|el.is _ A<|aj.aN (λh1=>?_) (λh1=>?_)
   ·have hb:s.oe=false:=by
     grind [af.oe]
    rw[hb];exact an<|ah
   ·have h2:=y.2;rw[show decide (f g<1)=false from h1]at h2;refine aj.is (V4.same xv (bK s.ae g).1.x.cT) (xR _ _) ?_;cases hv:V4.same xv (bK s.ae g).1.x.cT
    ·have hb:s.oe=false:=by
      grind [af.oe]
     rw[hb];exact an<|ah
    rw[hv]at h2;refine ab ?_;have hge:¬f g<1:=j4 h1;have hle:=y.1.le g;refine aq.mk (tY _ _)<|el.is _ A<|cj.intro (f g-1) (wrap_i64 rr om) ?_;have Y:=(MD (L:=(K,f)) I g (f g-1)).trans (show _=some (MB (K,jZ f g (f g-1)))by grind [nC]);exact aq.mk (tY _ _)<|ck.of id M (X.2 ⟨acG y.1 (j5 C),h2⟩) rfl<|eB ⟨⟨BB.br Y (sF _),rr⟩,trivial⟩
  ·have hfin:oY s s.ar.places f0=some (lP f0 s.ar.places):=by
    have:=y.2;rw[F7,s9]at this;exact this
   have hpe:=akp s O h0 hfin;generalize hL3:lP f0 (s.ar.places.take s.ar.places.length)=f at y;rw[s9]at hL3;rw[hL3]at hpe;rw[cE (show(λq=>lP f0 (s.ar.places.take q)) s.ar.places.length=f by simp_all)];refine SV.mk fun{S a cx} hG hM C=>?_
   obtain⟨v3,ht3,B,k3,hB,rfl⟩:=C.bD 3 (.iL 2) rfl;have hb:im S cx 2 (MB (K,f)):=C.dT.dK 2 _ rr;have hsz:a.tmps.size=74:=C.size;have hdf:=C.defers;obtain⟨m0,T⟩:∃m0,bU S (ge m0) (λ_=>none) cx:=⟨_,(Lm (s2:=⟨λ_=>none,λ_=>none⟩) C (λ_ _ e=>by cases e) (λ_ _ e=>by cases e)).dT⟩;clear C;rcases hb with⟨B',es,cl,h1,h2,h3,h4,h5,h6,h7,h8⟩
   rw[hB]at h1;cases h1;have hwB:cx.w.heap[B]? = some (.map es cl):=h3;have h4k:es.toList.map (·.key)=K.map uV:=h4;have hev3:a.eval (.tmp 3)=.map (some B):=by
    show a.tmps.getD 3 undef=_
    simp_all
   have hrN:S.w0.heap.size<=cx.w.heap.size:=T.fL.size;refine(wpIn_wide (n:=1)).1<|wpIn_seq (wpIn_seq (ua (ro:=none) (QU cx.w rr rr ?_)));refine Tp cx.w rr _ 219 _ _ rr underlying219 B es cl ?_ hwB h8 ?_
   ·grind [ss]
   intro hit0;have hvals:es.toList.map (·.val)=K.map λk=>.int .i64 (f k):=by
    have key:∀(l:List UInt64) (vs:List Value),aM (l.map λk=>i64 (f k)) cx vs->vs=l.map λk=>.int .i64 (f k):=λl=>by
     induction l with
     |nil=>exact λvs h=>h
     |cons k l ih=>
      rintro vs ⟨v,vs',rfl,⟨rfl,_⟩,h⟩;grind
    grind
   have hval:∀e∈es.toList,∃k∈K,e.val=.int .i64 (f k):=λe he=>by
    grind [List.mem_map_of_mem]
   have fin:∀(b:Bool) (a':Act) (w':World),s.oe=b->bU S (ge m0) (λ_=>none) ⟨w',cx.Z,cx.hb⟩->a'.tmps.size=74->a'.defers=S.D->a'.tmps[2]? = some (.bool b)->∃ex m s' c',Exit.ret=Ex.to ex/\c'.w=w'/\zY tt f56 (λx=>x=bo s.oe) ex m s'/\eM S 74 (ge m) s' a' c':=λb a' w' hb u h1 h2 h3=>by
    refine⟨.ret,m0,⟨λt=>match Nat.beq t 2 with|true=>some (bo b)|false=>none,λ_=>none⟩,⟨w',cx.Z,cx.hb⟩,rfl,rfl,?_,u,h1,λt p e=>?_,h2⟩
    ·rw[hb];exact ah
    ·dsimp only at e;cases ht:Nat.beq t 2
     ·simp_all
     rw[ht]at e;cases e;rw[n9 ht];exact⟨_,h3,rr,rr⟩
   have H:∀{w1 w':World} {row:Option Nat},bU S (ge m0) (λ_=>none) ⟨w1,cx.Z,cx.hb⟩->w1.grownBy w' row->(∀r,row=some r->cx.w.heap.size<=r/\∃o:Obj,w1.heap[r]? = some o/\o.isCells=false)->bU S (ge m0) (λ_=>none) ⟨w',cx.Z,cx.hb⟩:=fun{w1 w' row} h hg hr=>by
    refine XL (c:=⟨w1,cx.Z,cx.hb⟩) h (λj b y=>by cases y) (λb o z e=>?_) hg λr e=>⟨r8 hrN (hr r e).1,(hr r e).2⟩
    have h1:=T.fC b o z;grind
   show Code.wpIn Fence.wide 1 _ (Code.block 4 _) _ _ _
   refine wpIn_block (wpIn_loop (λa' w'=>∃done,ku w' cx.w.heap.size B es cl done/\(∀e∈done,e.val=.int .i64 0)/\bU S (ge m0) (λ_=>none) ⟨w',cx.Z,cx.hb⟩/\a'.tmps.size=74/\a'.defers=S.D/\a'.eval (.tmp 67)=.pointer (some ⟨cx.w.heap.size,0,none⟩)) (λ_ w'=>w'.rangeLeft B cx.w.heap.size) ⟨[],hit0,λ_ h=>(o7 h).elim,H (w1:=cx.w) T (World.grownBy_alloc cx.w _ none) (λ_ e=>by cases e),?_,hdf,?_⟩ ?_)
   ·grind [Act.put]
   ·grind [ss,Act.put]
   rintro a2 w2 ⟨done,U,hz,u,d,E,hev⟩;refine wpIn_seq (ua (ro:=none) (XD w2 rr _ rr hev U (λW=>?_) (λe J he N hg3 hlt hen=>?_)))
   ·refine JW w2 rr rr (vs:=#[.bool false]) ((ss om).trans rr) rr ?_;show Code.wpIn Fence.wide 1 _ (Code.seq _ _) _ _ _
    refine wpIn_seq (wpIn_cond (t:=false) ((ss (by grind [Act.put])).trans rr) (wpIn_exit ?_));show Code.wpIn Fence.wide 1 _ (Code.seq _ Code.ret) _ _ _
    refine wpIn_seq (ua (ro:=none) (CZ _ rr rr ?_));refine wpIn_ret (fin true _ _ ?_ u ?_ E ?_)
    ·grind [List.mem_map_of_mem]
    ·grind [Act.put]
    grind [Act.put,Act.eval]
   ·obtain⟨k,hk,hek⟩:=hval e he;have G:bU S (ge m0) (λ_=>none) ⟨J,cx.Z,cx.hb⟩:=by
     refine H (w1:=w2) (w':=J) u hg3 λr er=>?_
     obtain rfl:=z8 er;exact⟨j2 _,_,U.it,rr⟩
    refine JW J rr rr (vs:=#[.bool true,e.key,e.val]) ((ss om).trans rr) rr ?_;show Code.wpIn Fence.wide 1 _ (Code.seq _ _) _ _ _
    refine wpIn_seq (wpIn_cond (t:=true) ((ss (by grind [Act.put])).trans rr) (wpIn_skip ?_));show Code.wpIn Fence.wide 1 _ (Code.block 5 _) _ _ _
    refine wpIn_block (wpIn_seq (ua (ro:=none) (alv J rr rr (p:=.pointer (some ⟨cx.w.heap.size,0,none⟩)) ?_ hen (JW J rr rr (vs:=#[e.key,e.val]) ((ss (by grind [Act.put])).trans rr) rr (CZ J rr rr ?_)))))
    ·grind [ss,Act.put]
    show Code.wpIn Fence.wide 1 _ (Code.seq _ _) _ _ _
    refine wpIn_seq (ua (ro:=none) (QU J rr rr (ahq J rr rr underlying3 (i:=f k) (j:=0) ?_ rr ?_)))
    ·simp[Act.put,Act.eval,d,hek]
    show Code.wpIn Fence.wide 1 _ (Code.cond _ _ _) _ _ _
    refine wpIn_cond (t:=!decide (f k=0)) ((ss (by simp[Act.put,d])).trans rr) ?_;by_cases h0k:f k=0
    ·rw[l9 h0k];refine wpIn_skip<|⟨⟨done++[e],N,?_,G,?_,?_,?_⟩,?_⟩
     ·grind
     ·simp[Act.put,d]
     ·simpa[Act.put]using E
     ·simpa[Act.put,Act.eval,d]using hev
     ·rw[N.Em,U.Em];exact hlt
    ·rw[j1 h0k];refine wpIn_seq (ua (ro:=none) (CZ J rr rr ?_));refine wpIn_ret (fin false _ _ ?_ G ?_ ?_ ?_)
     ·grind
     ·simp[Act.put,d]
     ·simpa[Act.put]using E
     ·simp[Act.put,Act.eval,d]
def Iy{α:Type}{f:α->PV}{k:Nat}(h:iE f k)(l m:List α)(a:l.length+m.length<=67108864):ph (l.map f) (m.map f) k/\l.length=(l.map f).length:=
 ⟨⟨by rw[c8,c8];exact a,(h.rows l).k,h.rows m⟩,(c8 ..).symm⟩
def Bl(i:Nat)(o:aC)(h:d_ (pick di i)=true)(a:o.right=true)(b:cN o):PC 19 [st (pick di i),o.pv] (·=cq (JE.fG (pick di i) o).cL):=by rw[<-Ji h a];exact Y' i o b
def Fw:∀l:List BA,ia seq l l=true
 | []=>rfl
 |x::l=>by
  unfold ia
  rw[Fw l,eI.2 rfl]
def alc:(lW sB (lI [] fO).2).length<=1000000:=o9 (by kernel_rfl)
def Ta:∀a b:List PV,PV.sub (a++b) 0 a.length=a
 | [],b=>by cases b<;>rfl
 |x::a,b=>by show x::PV.sub (a++b) 0 a.length=_;rw[Ta a b]
def Wg:PC 6 [] (·=bo true):=by
 have h1:=Bl 0 (nJ aX) wN (by kernel_rfl) St;have h2:=Bl 0 (nJ aY) wN (by kernel_rfl) Se;have G:=Bl 0 yW wN (by kernel_rfl) Yt;have H:=Bl 1 yx E' (by kernel_rfl) Nz;have a:=UD;have d:=Bt;rw[<-a]at d;rw[show sA=pick di 0 from rfl]at a;rw[show sA=pick di 0 from rr,show sB=pick di 1 from rfl]at d;generalize(JE.fG (pick di 0) (nJ aX)).cL=r1 at h1 a;generalize(JE.fG (pick di 0) (nJ aY)).cL=r2 at h2 a;generalize(JE.fG (pick di 0) yW).cL=r3 at G d;generalize(JE.fG (pick di 1) yx).cL=r4 at H d;obtain⟨c,l,v,Y,E,F,hv⟩:=aeE;obtain⟨t24,⟨M,i24,n24,D,v24,Q,KU,I⟩⟩:=E;obtain⟨t25,⟨N,i25,n25,P,v25,R,QJ,A⟩⟩:=F;obtain rfl:D=2:=hv.amR;obtain rfl:KU=[⟨#[110,50]⟩]:=hv.KU;obtain rfl:A=[]:=hv.QJ;have w:=xZ v.s 1 (by have:=hv.sz.ae;omega);have x:=hv.bB;rcases J:bK v.s.ae 1 with⟨⟨T,W,O,V⟩,U⟩
 rw[J]at x w;obtain rfl:O=false:=x;have y:=Me v.s hv.sz (TO v.s hv.sz hv.fp);rw[show CW v.s v.s.oe=true from hv.right]at y;have z:=W_ (lW sB (lI [] fO).2) (lW sB (lI [] fO).2) alc;rw[Fw]at z;have b:=hv.run;have m:=Zs;have o:=aeP;have u:=abl;have g:(fO.map JE.cL).length=24:=by rw[c8,KT]
 rw[d]at b;generalize K:fO.map JE.cL=S0 at m o a d b g;obtain⟨j,q⟩:∃j,j=lr 20000:=⟨_,rfl⟩;have B:j.length=21:=by rw[q];rfl
 rw[<-q]at a;refine Ga func6 rr rr (j9 _)<|SV.seq cz cM<|SV.seq cz cM<|bu.bH [] (n:=200) (Ks 20000 _) rr trivial ?_;rw[<-q];refine SV.seq cz cM<|SV.seq cz cM<|SV.seq cz cM<|SV.seq cz cM<|aJ h1 rfl<|aJ h2 rfl<|dS.l (aq.mk ⟨(Iy e_ j [r1,r2,rq] (by show j.length+3<=67108864;omega)).1,by rw[c8,B]⟩ ?_);refine az ?_;have k:j.map cq++[cq r1,cq r2,cq rq]=S0.map cq:=by rw[a,l6];rfl
 have C:ph (j.map cq++[cq r1,cq r2,cq rq]) [cq r3,cq r4] 24:=by rw[k];exact(Iy e_ S0 [r3,r4] (by show S0.length+2<=67108864;omega)).1
 have t:(j.map cq++[cq r1,cq r2,cq rq])++[cq r3,cq r4]=(S0++[r3,r4]).map cq:=by rw[k,l6];rfl
 refine SV.cut (ι:=List aW×Bool) ⟨λ_=>[(4,sl aO.pv c),(5,.sl false (l.map λr=>sl dg.pv r)),(1,.aS 21 0 24)],[2],λi=>[(21,.rows 24 ((S0++i.1).map cq) i.2 none 40)],[5]⟩ (λi=>i.1.length<=2) (SV.of cz cM ?_) ?_
 ·refine ak G rfl<|ak H rfl<|dS.r (aq.mk ⟨C,by show 21+3=(j.map cq++[cq r1,cq r2,cq rq]).length;rw[k,c8,g],(show j.map cq++[cq r1,cq r2,cq rq]≠[]by simp),λh=>by cases h⟩ ⟨λn _=>?_⟩);cases n with
  |zero=>
   refine bu.by (n:=(S0++[r3,r4]).length+100) b (a_ (dC (l:=S0++[r3,r4]) (f:=cq) rr t e_.bL ?_ rr) rr) ?_
   ·rw[i6,g];rfl
   ·exact⟨([r3,r4],false),id,j2 2,⟨⟨rr,rr⟩,⟨rr,rr⟩,⟨rr,rr⟩,trivial⟩,⟨⟨_,rr,rr,rr⟩,trivial⟩,⟨⟨BB.br (congrArg (λrs=>some (aI.rows 24 rs false none 40)) t) (e_.cf _),rr⟩,trivial⟩,⟨⟨_,rr,BB.rn rr rr,rr⟩,trivial⟩,rr,rr,rr⟩
  |succ n=>
   refine bu.by (n:=(S0++[r3,r4]).length+100) b (a_ (dC (l:=S0++[r3,r4]) (f:=cq) rr t e_.bL ?_ rr) rr) ?_
   ·rw[i6,g];rfl
   ·exact⟨([],true),id,by decide,⟨⟨rr,rr⟩,⟨rr,rr⟩,⟨rr,rr⟩,trivial⟩,⟨⟨_,rr,rr,rr⟩,trivial⟩,⟨⟨BB.br (congrArg (λrs=>some (aI.rows 24 rs true none 40)) (by rw[A2];exact k)) (e_.cf _),rr⟩,trivial⟩,⟨⟨_,rr,BB.rn rr rr,rr⟩,trivial⟩,rr,rr,rr⟩
 ·rintro⟨e,X⟩ S;refine SV.seq cz cM<|ak (Bw c sA (by have:=hv.cl;omega)) rr ?_;rw[hv.fa];refine SV.seq cz cM<|ak (Bw c sB (by have:=hv.cl;omega)) rr ?_;rw[hv.fb];refine SV.seq cz cM<|aj.aN (λh=>?_) (λh=>absurd h (by rw[c8,hv.len];decide));refine bG (i:=24) hv.AD<|aj.is true rfl<|bG (i:=25) hv.sQ<|aj.is true rfl<|ab<|SV.seq cz cM<|ak w rfl<|SV.seq cz cM<|bG (i:=24) hv.AD<|bG (i:=0) rfl<|aj.is true rfl<|bG (i:=24) hv.AD<|bG (i:=0) rfl<|aj.is true rr ?_;refine bG (i:=24) hv.AD<|bG (i:=0) rfl<|bG (i:=0) rfl<|aj.is true rfl<|bG (i:=25) hv.sQ<|bG (i:=0) rfl<|aj.is true rfl<|aj.aN (λh=>?_) (λh=>absurd h (by rw[hv.rb];decide));refine aj.aN (λh=>?_) (λh=>absurd h (by rw[hv.jb];decide));refine aJ y rr ?_;have p:PV.sub ((S0++e).map cq) 0 24=S0.map cq:=by
   have:=Ta (S0.map cq) (e.map cq);rw[<-l6,c8,g]at this;exact this
  have L:0+24<=((S0++e).map cq).length:=by rw[c8,i6,g];omega
  refine fi.by (n:=S0.length+100) m (a_ (tT (l:=S0) (f:=cq) rr p om e_.bL rr) rr)<|fi.by (n:=S0.length+100) o (a_ (tT (l:=S0) (f:=cq) rr p om e_.bL rr) rr)<|aJ u rfl<|aJ z rfl<|aj.aN (λh=>?_) (λh=>absurd h (by rw[hv.ra];decide));refine aj.aN (λh=>?_) (λh=>absurd h (by rw[hv.pa];decide));exact bG (i:=0) (by rw[hv.pa];rfl)<|aj.is true rfl<|az<|SV.of cz cM<|ah
end
section
open Go.ChangeShapes Go.WideShapes Go.ChangeAt Go.RowKit Go.Deep Go.Proofs.Tryz
theorem ajT:prog.underlying 44=some (.struct (prog.fieldsOf 44)):=by kernel_rfl
theorem Aq:(prog.fieldsOf 44).toList.map (λf=>(f.type,f.offset))=[(42,0),(5,5),(5,6),(5,7)]:=by kernel_rfl
theorem Xe:prog.cellsOf 44=8:=by kernel_rfl
theorem adW:prog.underlying 42=some (.struct (prog.fieldsOf 42)):=by kernel_rfl
theorem xU:(prog.fieldsOf 42).toList.map (λf=>(f.type,f.offset))=[(5,0),(5,1),(5,2),(5,3),(5,4)]:=by kernel_rfl
theorem Sx:prog.cellsOf 42=5:=by kernel_rfl
theorem uc:prog.cellsOf 5=1:=by kernel_rfl
theorem fieldAt{fs:Array Field}{l:List (Nat×Nat)}(b:fs.toList.map (λf=>(f.type,f.offset))=l)(j:Nat)(t o:Nat)(h:l[j]? = some (t,o)):∃f,fs[j]? = some f/\f.type=t/\f.offset=o:=by
 rw[<-b,A6]at h;cases a:fs.toList[j]? with
 |none=>rw[a]at h;cases h
 |some f=>
  rw[a]at h;simp only[E3,Option.some.injEq,N0]at h;exact⟨f,by simpa using a,h.1,h.2⟩
section
variable {H:Type}{enc:TypeId×Value→H}{w:World}{bZ:Nat}{spare:Nat→Bool}{held:Bool}
theorem uR{n:Nat}{c:Value}{x:DataW H×List MemPlace}(h:DataW.trod enc prog w bZ spare held n 5 [c]=some x):∃b:UInt8,c=.int .u8 (b.toNat:Int):=by
 obtain⟨k,hk,rfl,wk⟩:=DataW.trod_int (k:=.u8) (by kernel_rfl) h;cases hk;simp only[Lit.wf,y7,J7]at wk;have h1:(0:Int)<=k:=wk.1;have h2:k<=255:=wk.2;refine⟨UInt8.ofNat k.toNat,?_⟩;have:(UInt8.ofNat k.toNat).toNat=k.toNat:=by
  rw[UInt8.toNat_ofNat'];omega
 rw[this];congr 1;omega
theorem abM{n:Nat}{cs:List Value}{x:DataW H×List MemPlace}(h:DataW.trod enc prog w bZ spare held n 42 cs=some x):
 ∃a b c d e:UInt8,cs=[.int .u8 (a.toNat:Int),.int .u8 (b.toNat:Int),.int .u8 (c.toNat:Int),.int .u8 (d.toNat:Int),.int .u8 (e.toNat:Int)]:=by
 obtain⟨xs,n',_,o,f,g,i⟩:=DataW.trod_struct adW h
 rw[Sx]at f
 have j:(prog.fieldsOf 42).size=5:=by
  have:=congrArg List.length xU
  simpa using this
 rw[j]at g
 match cs,f,xs,g with
 | [c0,c1,c2,c3,c4],_,[y0,p,q,y3,y4],_=>
  obtain⟨f0,k,t0,l⟩:=fieldAt xU 0 _ _ rfl
  obtain⟨f1,e1,t1,o1⟩:=fieldAt xU 1 _ _ rfl
  obtain⟨f2,e2,t2,o2⟩:=fieldAt xU 2 _ _ rfl
  obtain⟨f3,e3,t3,o3⟩:=fieldAt xU 3 _ _ rfl
  obtain⟨f4,e4,t4,m⟩:=fieldAt xU 4 _ _ rfl
  have g0:=i 0 f0 k
  have g1:=i 1 f1 e1
  have g2:=i 2 f2 e2
  have g3:=i 3 f3 e3
  have g4:=i 4 f4 e4
  rw[t0,l,uc]at g0
  rw[t1,o1,uc]at g1
  rw[t2,o2,uc]at g2
  rw[t3,o3,uc]at g3
  rw[t4,m,uc]at g4
  simp at g0 g1 g2 g3 g4
  obtain⟨a,rfl⟩:=uR g0
  obtain⟨b,rfl⟩:=uR g1
  obtain⟨c,rfl⟩:=uR g2
  obtain⟨d,rfl⟩:=uR g3
  obtain⟨e,rfl⟩:=uR g4
  exact⟨a,b,c,d,e,rr⟩
instance:Inhabited bN:=⟨⟨0,0,0,0,0,0,0,0⟩⟩
def bN.val(x:bN):List Value:=[.int .u8 (x.k.toNat:Int),.int .u8 (x.a.toNat:Int),.int .u8 (x.b.toNat:Int),.int .u8 (x.c.toNat:Int),.int .u8 (x.d.toNat:Int),.int .u8 (x.kind.toNat:Int),.int .u8 (x.t.toNat:Int),.int .u8 (x.n.toNat:Int)]
theorem anW{n:Nat}{cs:List Value}{x:DataW H×List MemPlace}(h:DataW.trod enc prog w bZ spare held n 44 cs=some x):∃y:bN,cs=y.val:=by
 obtain⟨xs,n',_,r,i,j,l⟩:=DataW.trod_struct ajT h;rw[Xe]at i;have m:(prog.fieldsOf 44).size=4:=by
  have:=congrArg List.length Aq;simpa using this
 rw[m]at j;match cs,i,xs,j with
 | [c0,c1,c2,c3,c4,c5,c6,c7],_,[y0,s,t,y3],_=>
  obtain⟨f0,p,t0,q⟩:=fieldAt Aq 0 _ _ rfl;obtain⟨f1,e1,t1,o1⟩:=fieldAt Aq 1 _ _ rfl;obtain⟨f2,e2,t2,o2⟩:=fieldAt Aq 2 _ _ rfl;obtain⟨f3,e3,t3,o3⟩:=fieldAt Aq 3 _ _ rfl;have g0:=l 0 f0 p;have g1:=l 1 f1 e1;have g2:=l 2 f2 e2;have g3:=l 3 f3 e3;rw[t0,q,Sx]at g0;rw[t1,o1,uc]at g1;rw[t2,o2,uc]at g2;rw[t3,o3,uc]at g3;simp at g0 g1 g2 g3;obtain⟨a,b,c,d,e,o⟩:=abM g0;obtain⟨f,rfl⟩:=uR g1;obtain⟨g,rfl⟩:=uR g2;obtain⟨k,rfl⟩:=uR g3;simp only[List.cons.injEq,and_true]at o;obtain⟨rfl,rfl,rfl,rfl,rfl⟩:=o;exact⟨⟨a,b,c,d,e,f,g,k⟩,rr⟩
theorem SO(c:RC):∀l:List bN,aM (l.map bN.pv) c (l.map λx=>.agg x.val.toArray)
 | []=>rfl
 |x::l=>⟨_,_,rr,⟨_,rr,_,_,rr,⟨rr,rr⟩,_,_,rr,⟨rr,rr⟩,_,_,rr,⟨rr,rr⟩,_,_,rr,⟨rr,rr⟩,_,_,rr,⟨rr,rr⟩,_,_,rr,⟨rr,rr⟩,_,_,rr,⟨rr,rr⟩,_,_,rr,⟨rr,rr⟩,rr⟩,SO c l⟩
theorem IC{n:Nat}{v:Value}{x:DataW H×List MemPlace}(h:DataW.trod enc prog w bZ spare held n 23 [v]=some x):
 ∃l:List bN,l.length<=maxLen/\bW (sl bN.pv l) ⟨w,λb _=>b<w.heap.size,λ_=>none⟩ v:=by
 rcases open_slice underlying23 h with⟨d,k⟩|⟨a,len,cap,m,n',D,N,d,_,F,M,o,k,hi⟩
 ·cases d
  exact⟨[],j9 _,[],rr,none,0,rr,j2 _,λ_=>rfl,.inl rr⟩
 ·cases d
  have G:len<=m:=by rw[o];split<;>omega
  have key:∀i,i<len->∃y:bN,∀q,q<8->w.cell? ((a.add (i*8)).add q)=y.val[q]?:=by
   intro i I
   obtain⟨L,u,J⟩:=hi i om
   rw[Xe]at u
   obtain⟨_,p,r⟩:=World.cells?_some u
   obtain⟨y,rfl⟩:=anW J
   refine⟨y,λq hq=>?_⟩
   have:=r q om
   rw[this,j8 (by rw[p];exact hq)]
  obtain⟨A,z⟩:=choose_lt key
  have c:((List.range len).map A).length=len:=by simp
  refine⟨(List.range len).map A,by rw[c];omega,_,SO _ _,some a,cap,by rw[c8,c],by rw[c8,c];exact F,λe=>(by cases e),?_⟩
  by_cases h0:len=0
  ·subst h0;exact .inl rr
  ·obtain⟨b,off,spot⟩:=a
   have f:=z 0 om 0 (by decide)
   have g:spot=none:=by simpa[Addr.add]using World.cell?_spot (show _=some _ from f)
   subst g
   have e:∀i,(⟨b,off,none⟩:Addr).add i=⟨b,off+i,none⟩:=λi=>by unfold Addr.add;split<;>simp_all
   have s:b<w.heap.size:=by
    rw[Go.Deep.add_add,e]at f
    exact vK (a:=⟨b,off+(0*8+0),none⟩) (show _=some _ from f)
   have hk:∀x∈(List.map A (List.range len)).map (λx:bN=>Value.agg x.val.toArray),x.cells.size=8:=λx k=>by
    obtain⟨y,_,rfl⟩:=y9.1 k;rfl
   refine .inr ⟨b,off,8,rr,hk,λi y B=>⟨s,?_⟩⟩
   have j:=jF hk
   rw[c8,c]at j
   have t:=(c9.1 B).1
   rw[j]at t
   have hq:i / 8<len:=om
   have C:i%8<8:=G3 _ (by decide)
   have K:((List.map A (List.range len)).map λx:bN=>Value.agg x.val.toArray)[i / 8]? = some (.agg (A (i / 8)).val.toArray):=by
    rw[A6,A6,List.getElem?_range hq];rfl
   have E:=Bz hk K (i%8) C
   rw[show i / 8*8+i%8=i by omega,B]at E
   have:=z (i / 8) hq (i%8) C
   rw[Go.Deep.add_add,e,show off+(i / 8*8+i%8)=off+i by omega]at this
   rw[this]
   exact E.symm
end
theorem DA{P:Program}{W:World}{name:String}{k:IntKind}{zs:List Int}{g:Nat}{t e:TypeId}{n:Nat}
 (m:P.globalNamed name=some g) (c:(P.globals[g]?).map (·.type)=some t) (o:P.underlying t=some (.array n e)) (q:P.underlying e=some (.int k)) (d:P.cellsOf e=1) (f:P.cellsOf t=n)
 (h:Lib.VarReads P W name (Lib.tabData k zs)) (i:Nat) (v:Value) (hi:(zs.map (Value.int k))[i]? = some v):W.cell? ⟨g,i,none⟩=some v:=by
 obtain⟨g',t',cs,b,p,j,l,a,r⟩:=h
 grind [Lib.cells_of_tab,World.var?_cell]
theorem aj8:prog.underlying 243=some (.struct (prog.fieldsOf 243)):=by kernel_rfl
theorem HU:(prog.fieldsOf 243).toList.map (λf=>(f.type,f.offset))=[(21,0),(21,1)]:=by kernel_rfl
theorem Qf:prog.cellsOf 243=2:=by kernel_rfl
section
variable {H:Type}{enc:TypeId×Value→H}{w:World}{bZ:Nat}{spare:Nat→Bool}{held:Bool}
theorem ahb{n:Nat}{cs:List Value}{x:DataW H×List MemPlace}(h:DataW.trod enc prog w bZ spare held n 243 cs=some x):
 ∃(a b:Int),cs=[.int .i32 a,.int .i32 b]/\x.1=.agg [.lit (.int .i32 a),.lit (.int .i32 b)]:=by
 obtain⟨xs,n',_,j,c,d,f⟩:=DataW.trod_struct aj8 h
 rw[Qf]at c
 have e:(prog.fieldsOf 243).size=2:=by
  have:=congrArg List.length HU
  simp_all
 rw[e]at d
 match cs,c,xs,d with
 | [c0,c1],_,[y0,y1],_=>
  obtain⟨f0,g,t0,i⟩:=fieldAt HU 0 _ _ rfl
  obtain⟨f1,e1,t1,o1⟩:=fieldAt HU 1 _ _ rfl
  have g0:=f 0 f0 g
  have g1:=f 1 f1 e1
  rw[t0,i,show prog.cellsOf 21=1 from by kernel_rfl]at g0
  rw[t1,o1,show prog.cellsOf 21=1 from by kernel_rfl]at g1
  simp at g0 g1
  obtain⟨k,hk,rfl,wk⟩:=DataW.trod_int (k:=.i32) (by kernel_rfl) g0
  obtain⟨m,l,rfl,o⟩:=DataW.trod_int (k:=.i32) (by kernel_rfl) g1
  simp_all
def Te{H:Type}(l:List gO):DataW H:=.agg (l.map λx=>.agg [.lit (.int .i32 x.lo),.lit (.int .i32 x.hi)])
theorem VB{W:World}{name:String}{l:List gO}{g n:Nat}{t:TypeId}(f:prog.globalNamed name=some g)(i:(prog.globals[g]?).map (·.type)=some t)(x:prog.underlying t=some (.array n 243))(D:l.length=n)
 (h:Lib.VarReads prog W name (Te l)):rG W g l:=by
 obtain⟨g',t',cs,v,p,k,o,d,y⟩:=h
 obtain rfl:=z8 (f.symm.trans k)
 obtain rfl:=z8 (i.symm.trans o)
 obtain⟨xs,m,_,A,_,B,q⟩:=DataW.trod_array x y
 intro j C
 have r:j<n:=om
 have hi:=q j r
 rw[Qf,j8 om]at hi
 obtain⟨a,b,u,s⟩:=ahb hi
 have c:=(I3 A).1
 unfold Te at c
 injection c with c
 have e:=congrArg (λz=>z[j]?) c
 simp only[A6,j8 C,j8 (show j<xs.length by omega),E3,Option.some.injEq]at e
 rw[s]at e
 simp at e
 have c0:=World.var?_cell f d (j*2)
 have c1:=World.var?_cell f d (j*2+1)
 have E:=congrArg (λz=>z[0]?) u
 have F:=congrArg (λz=>z[1]?) u
 grind
end
theorem af0:prog.globalNamed "demesne/sha.start"=some 4:=by kernel_rfl
theorem agK:prog.globalNamed "demesne/sha.rounds"=some 5:=by kernel_rfl
theorem ah8:prog.globalNamed "demesne/word.letters"=some 2:=by kernel_rfl
theorem afv:prog.globalNamed "demesne/word.marks"=some 3:=by kernel_rfl
theorem alk:prog.globalNamed "demesne/gate.rights"=some 1:=by kernel_rfl
theorem af3:prog.globalNamed "demesne/view.single"=some 0:=by kernel_rfl
theorem To{W:World}{g:Nat}:∀(l:List gO) (k:Nat),(∀j (h:j<l.length),W.cell? ⟨g,k+j*2,none⟩=some (.int .i32 l[j].lo)/\W.cell? ⟨g,k+j*2+1,none⟩=some (.int .i32 l[j].hi))->∀(i:Nat) (v:Value),(l.flatMap gO.cells)[i]? = some v->W.cell? ⟨g,k+i,none⟩=some v
 | [],_,_,_,_,h=>by cases h
 |x::l,k,h,i,v,hi=>by
  have h0:=h 0 (Nat.zero_lt_succ _)
  match i,hi with
  |0,hi=>cases hi;exact h0.1
  |1,hi=>cases hi;exact h0.2
  |i+2,hi=>
   have:=To l (k+2) (λj a=>by
    have:=h (j+1) (M5 a)
    rw[show k+(j+1)*2=k+2+j*2 by omega]at this
    exact this) i v hi
   grind
theorem Wv{W:World}{g:Nat}{l:List gO}(h:rG W g l)(i:Nat)(v:Value)(hi:(l.flatMap gO.cells)[i]? = some v):W.cell? ⟨g,i,none⟩=some v:=by
 have:=To l 0 (λj a=>by
  have:=h j a;rw[j7];exact this) i v hi
 simp_all
theorem an8{W:World}(h:W.ShapedOpen prog):∃m,W.cell? ⟨6,0,none⟩=some (.int .i64 m):=by
 obtain⟨cs,h1,h2,b⟩:=h.1 6 #[.int .i64 0] 3 (j5 (by kernel_rfl)) (by kernel_rfl);obtain⟨i,c,_,d⟩:=b (by kernel_rfl);have a:prog.cellTypes prog.depth 3=some [3]:=by kernel_rfl
 obtain rfl:=z8 (c.symm.trans a);have h2:cs.size=1:=h2;obtain⟨u,e,f⟩:=d 0 cs[0] (Array.getElem?_eq_getElem om);cases e;obtain⟨n,g,_⟩:=Value.ok_int (t:=3) (k:=.i64) underlying3 (by unfold Value.ok;rw[underlying3];exact f);grind [World.cell?]
def ag7:List (String×DataW Unit):=[("unicode/utf8.acceptRanges",Rows.laid_unicode_utf8_acceptRanges),("demesne/sha.start",Rows.laid_demesne_sha_start),("demesne/sha.rounds",Rows.laid_demesne_sha_rounds),("demesne/word.letters",Rows.laid_demesne_word_letters),("demesne/word.marks",Rows.laid_demesne_word_marks),("demesne/gate.rights",Rows.laid_demesne_gate_rights),("demesne/view.single",Rows.laid_demesne_view_single),("unicode/utf8.first",Rows.laid_unicode_utf8_first)]
theorem Nt{W:World}(h:laidMet Tryz.prog ag7 W)(hs:W.ShapedOpen Tryz.prog):jz W:=by
 have r1:=DA af0 (by kernel_rfl:(Tryz.prog.globals[4]?).map (·.type)=some 309) Tryz.underlying309 Tryz.underlying308 (by kernel_rfl) (by kernel_rfl) (k:=.u32) (zs:=[Sh.H0.a,Sh.H0.b,Sh.H0.c,Sh.H0.d,Sh.H0.e,Sh.H0.f,Sh.H0.g,Sh.H0.h].map fun n=>((n:Nat):Int)) (Lib.laidMet.reads h (.tail _ (.head _)));have r2:=DA agK (by kernel_rfl:(Tryz.prog.globals[5]?).map (·.type)=some 380) Tryz.underlying380 Tryz.underlying308 (by kernel_rfl) (by kernel_rfl) (k:=.u32) (zs:=Sh.K.map fun n=>((n:Nat):Int)) (Lib.laidMet.reads h (.tail _ (.tail _ (.head _))));have r3:=Wv (VB ah8 (by kernel_rfl:(Tryz.prog.globals[2]?).map (·.type)=some 244) Tryz.underlying244 (l:=Wd.letters) rfl (Lib.laidMet.reads h (.tail _ (.tail _ (.tail _ (.head _))))));have r4:=Wv (VB afv (by kernel_rfl:(Tryz.prog.globals[3]?).map (·.type)=some 245) Tryz.underlying245 (l:=Wd.pC) rfl (Lib.laidMet.reads h (.tail _ (.tail _ (.tail _ (.tail _ (.head _)))))));have r5:=DA alk (by kernel_rfl:(Tryz.prog.globals[1]?).map (·.type)=some 161) Tryz.underlying161 Tryz.underlying30 (by kernel_rfl) (by kernel_rfl) (k:=.u64) (zs:=Bp) (Lib.laidMet.reads h (.tail _ (.tail _ (.tail _ (.tail _ (.tail _ (.head _)))))));have r6:=DA af3 (by kernel_rfl:(Tryz.prog.globals[0]?).map (·.type)=some 103) Tryz.underlying103 Tryz.underlying3 (by kernel_rfl) (by kernel_rfl) (k:=.i64) (zs:=[2,6,7,9]) (Lib.laidMet.reads h (.tail _ (.tail _ (.tail _ (.tail _ (.tail _ (.tail _ (.head _))))))));obtain⟨m,hm⟩:=an8 hs;have qh:∀x∈jY,∀i v,x.2[i]? = some v→W.cell? ⟨x.1,i,none⟩=some v:=by
  grind [jY]
 refine⟨qh,fun x hx=>?_,⟨m,hm⟩,vK (a:=⟨_,0,none⟩) hm⟩;have h0:∀y∈jY,y.2≠[]:=by
  intro y hy;unfold jY at hy;simp only[p9,o7,H3]at hy;rcases hy with rfl|rfl|rfl|rfl|rfl|rfl<;>exact fun e=>by cases e
 cases e:x.2 with
 |nil=>grind
 |cons v l=>exact vK (a:=⟨x.1,0,none⟩) (qh x hx 0 v (by rw[e];rfl))
end
section
open Go.RowKit Go.Proofs.Tryz
def CG(a b:Nat)(c:a<16777216)(hb:b<256):bits .or .i64 ((a:Int)*256) (b:Int)=(a:Int)*256+(b:Int):=by
 have h1:(BitVec.ofInt 64 ((a:Int)*256)).toNat=a*256:=by
  rw[show(a:Int)*256=((a*256:Nat):Int)from by omega,M9,O5];omega
 have h2:(BitVec.ofInt 64 (b:Int)).toNat=b:=by
  grind
 show IntKind.i64.wrap ((BitVec.ofInt 64 ((a:Int)*256) ||| BitVec.ofInt 64 (b:Int)).toNat:Int)=_
 rw[BitVec.toNat_or,h1,h2,nat_join 8 (a*256) b om om,IntKind.wrap_i64];omega
def aek(b:Nat)(hb:b<256):bits .or .i64 0 (b:Int)=(b:Int):=by
 have:=CG 0 b om hb;simp_all
theorem afQ(s:ByteArray)(k:Nat)(a:k+8<=s.size):(s.data.toList.drop k).take 4=[s[k],s[k+1],s[k+2],s[k+3]]:=by
 have h:s.data.toList.length=s.size:=by simp
 rw[o8 om,o8 om,o8 om,o8 om];rfl
def aet(s:ByteArray)(cm:Int)(w:World)(a:s.size<=maxLen)(b:cm<0\/(s.size:Int)-8<cm):
 Calls prog 343 #[.string s,.int .i64 cm] w λe w'=>e=.returned (.tuple #[.string ⟨#[]⟩,.int .i64 0,.bool false])/\w=w':=by
 unfold maxLen at a
 by_cases h0:cm<0
 ·go_enter func343,ntmps343
  go_wp2
  go_ret3
  simp_all
 ·have h1:(s.size:Int)-8<cm:=om
  go_enter func343,ntmps343
  go_wp2
  go_ret3
  exact⟨rr,rr⟩
def zJ(o:Option (List UInt8))(k:Nat):Value:=match o with
 |none=>.tuple #[.string ⟨#[]⟩,.int .i64 0,.bool false]
 |some b=>.tuple #[.string ⟨b.toArray⟩,.int .i64 ((k+8+b.length:Nat):Int),.bool true]
def yD(l:List UInt8)(i:Int):Value:=if i<0 then zJ none 0 else zJ (Fr.next l i.toNat) i.toNat
def aff(k n:Nat){o:Option (List UInt8)}{b:List UInt8}(h:o=if true=true then some b else none)(a:b.length=n):zJ o k=.tuple #[.string ⟨b.toArray⟩,.int .i64 ((k:Int)+8+(n:Int)),.bool true]:=by
 subst a;rw[h,z7 rfl];show Value.tuple #[.string ⟨b.toArray⟩,.int .i64 ((k+8+b.length:Nat):Int),.bool true]=_
 simp_all
def adi(k:Nat){o:Option (List UInt8)}{b:List UInt8}(h:o=if false=true then some b else none):zJ o k=.tuple #[.string ⟨#[]⟩,.int .i64 0,.bool false]:=by rw[h,y8 (by decide)];rfl
def acf(s:ByteArray)(k n:Nat)(b:k+8<=s.size)(a:n=Fr.num (s.data.toList.drop k))(h1:n<=65536)(h2:k+8+n<=s.size):
 Fr.next s.data.toList k=if Lib.hasPrefix (s.extract k s.size).data.toList (Fr.put (s.extract (k+8) (k+8+n)).data.toList)then some (s.extract (k+8) (k+8+n)).data.toList else none:=by
 have h:s.data.toList.length=s.size:=by simp
 subst a
 unfold Fr.next
 simp only[Lib.extract_data]
 rw[u5 (i:=s.size-k) (by simp),show k+8+Fr.num (s.data.toList.drop k)-(k+8)=Fr.num (s.data.toList.drop k)from by omega]
 rw[y8 om,y8 om]
 rfl
def aew(s:ByteArray)(k n:Nat)(a:k+8<=s.size)(b:n=Fr.num (s.data.toList.drop k))(h1:65536<n\/s.size<k+8+n):Fr.next s.data.toList k=none:=by simp_all [Fr.next]
theorem ab4(s:ByteArray)(k:Nat)(w:World)(v:s.size<=maxLen)(r:k+8<=s.size):
 Calls prog 343 #[.string s,.int .i64 (k:Int)] w λe w'=>e=.returned (zJ (Fr.next s.data.toList k) k)/\Below w.heap.size w w':=by
 unfold maxLen at v
 have c0:s[k].toNat<256:=s[k].toNat_lt
 have c1:s[k+1].toNat<256:=s[k+1].toNat_lt
 have c2:s[k+2].toNat<256:=s[k+2].toNat_lt
 have c3:s[k+3].toNat<256:=s[k+3].toNat_lt
 have i:((s[k].toNat*256+s[k+1].toNat)*256+s[k+2].toNat)*256+s[k+3].toNat=Fr.num (s.data.toList.drop k):=by
  grind [Fr.num,afQ]
 have B:=aek _ c0
 have e1:=CG s[k].toNat _ om c1
 have e2:=CG (s[k].toNat*256+s[k+1].toNat) _ om c2
 have e3:=CG ((s[k].toNat*256+s[k+1].toNat)*256+s[k+2].toNat) _ om c3
 have j:((((s[k].toNat:Int)*256+s[k+1].toNat)*256+s[k+2].toNat)*256+s[k+3].toNat)=((((s[k].toNat*256+s[k+1].toNat)*256+s[k+2].toNat)*256+s[k+3].toNat:Nat):Int):=om
 rw[i]at j
 have hb:((s[k].toNat*256+s[k+1].toNat)*256+s[k+2].toNat)*256+s[k+3].toNat<=4294967295:=om
 rw[i]at hb
 have u:=Lib.hid j
 clear i j
 simp only[Int.natCast_add,N9,Int.cast_ofNat_Int]at e1 e2 e3
 have d:=acf s k _ r rr
 have c:=aew s k _ r rr
 have b:=Lib.hid d;clear d
 have a:=Lib.hid c;clear c
 generalize Fr.num (s.data.toList.drop k)=n at*
 go_enter func343,ntmps343
 go_wp2
 refine wp_loop_rounds 5 ?_
 iterate 4
  rw[rounds_succ]
  go_wp2
 rw[rounds_succ]
 go_upto_region 9 with fail
 rw[u.out]
 clear u B e1 e2 e3 c0 c1 c2 c3
 by_cases h1:65536<n\/s.size<k+8+n
 ·have h2:((if(s.size:Int)-k-8<65536 then(s.size:Int)-k-8 else 65536)<(n:Int)):=om
  go_wp2
  all_goals
   go_ret3
   exact⟨by rw[a.out h1];rfl,Below.refl _ _⟩
 ·have h2:¬((if(s.size:Int)-k-8<65536 then(s.size:Int)-k-8 else 65536)<(n:Int)):=om
  have x:n<=65536:=om
  have y:k+8+n<=s.size:=om
  have t:(s.extract (k+8) (k+8+n)).data.toList.length=n:=by rw[Lib.extract_data];simp;omega
  go_upto_region 13 with fail
  clear h2
  generalize(if(s.size:Int)-k-8<65536 then(s.size:Int)-k-8 else 65536)=m
  have q:=Lib.hid (b.out x y)
  have f:(s.extract k s.size).size<=maxLen:=by unfold maxLen;simp;omega
  have hp:=Fr.TF (s.extract (k+8) (k+8+n)).data.toList
  have g:(⟨(Fr.put (s.extract (k+8) (k+8+n)).data.toList).toArray⟩:ByteArray).size<=maxLen:=by
   show(Fr.put (s.extract (k+8) (k+8+n)).data.toList).toArray.size<=_
   grind [maxLen]
  have H1:=Lib.hid f;clear f
  have z:=Lib.hid g;clear g hp
  have A:=Lib.hid t;clear t b a h1
  generalize s.extract (k+8) (k+8+n)=body at*
  have C:k<=s.size:=om
  go_region_with (first|(go_at_call 278;((with_reducible refine(Pq _ _).mono ?_);rintro e w1 ⟨rfl,l⟩))|(go_at_call 316;((with_reducible refine(Qr _ _ _ H1.out z.out).mono ?_);rintro e w1 ⟨rfl,rfl⟩;generalize Lib.hasPrefix (s.extract k s.size).data.toList (Fr.put body.data.toList)=p at q⊢)))
  have h:=aka l
  cases p
  case true=>
   have o:=Lib.hid (aff k n q.out A.out)
   go_wp2
   go_ret3
   exact⟨by rw[o.out];rfl,h⟩
  have o:=Lib.hid (adi k q.out)
  go_wp2
  go_ret3
  exact⟨by rw[o.out];rfl,h⟩
def Tl(s:ByteArray)(i:Int)(w:World)(a:s.size<=maxLen):
 Calls prog 343 #[.string s,.int .i64 i] w λe w'=>e=.returned (yD s.data.toList i)/\Below w.heap.size w w':=by
 have h:s.data.toList.length=s.size:=by simp
 by_cases b:i<0\/(s.size:Int)-8<i
 ·refine(aet s i w a b).mono ?_
  rintro e w' ⟨rfl,rfl⟩
  refine⟨?_,Below.refl _ _⟩
  unfold yD
  by_cases h0:i<0
  ·rw[z7 h0];rfl
  ·rw[y8 h0]
   have:Fr.next s.data.toList i.toNat=none:=by grind [Fr.next]
   rw[this];rfl
 grind [Int.eq_ofNat_of_zero_le,ab4,yD]
def ag1(s:ByteArray)(k m:Nat)(b:List UInt8)(w:World)(a:s.size<=maxLen)(h:Fr.next s.data.toList k=some b)(c:k+8+b.length=m):
 Calls prog 343 #[.string s,.int .i64 (k:Int)] w λe w'=>e=.returned (.tuple #[.string ⟨b.toArray⟩,.int .i64 (m:Int),.bool true])/\Below w.heap.size w w':=by
 subst c
 refine(Tl s k w a).mono ?_
 rintro e w' ⟨rfl,hb⟩
 refine⟨?_,hb⟩
 unfold yD
 rw[y8 om,x8,h];rfl
def ace(s:ByteArray)(k:Nat)(w:World)(a:s.size<=maxLen)(h:Fr.next s.data.toList k=none):
 Calls prog 343 #[.string s,.int .i64 (k:Int)] w λe w'=>e=.returned (.tuple #[.string ⟨#[]⟩,.int .i64 0,.bool false])/\Below w.heap.size w w':=by
 refine(Tl s k w a).mono ?_
 rintro e w' ⟨rfl,hb⟩
 refine⟨?_,hb⟩
 unfold yD
 rw[y8 om,x8,h];rfl
end
end Go.Proofs.YtbnonpbnhenkfaaGreatDoor
section
namespace Go.Proofs.YtbnonpbnhenkfaaGreatDoor
namespace Fr
theorem Ry(n:Nat)(a:n<4294967296)(l:List UInt8):num (iA n++l)=n:=by
 unfold num;rw[D9 (by grind [uB]),u5 (by grind [uB])];simp[iA];omega
def aaI(p b q:List UInt8)(hb:b.length<=65536):next (p++put b++q) p.length=some b:=by
 have a:=yj b hb;have hp:put b=iA b.length++iA (sum b)++b:=by grind [put]
 have e1:(p++put b++q).drop p.length=put b++q:=by simp_all
 have e2:num (put b++q)=b.length:=by grind [Ry]
 have e3:((p++put b++q).drop (p.length+8)).take b.length=b:=by
  simp_all [iA]
 unfold next
 rw[e1,e2,e3];grind
def ac1(p b:List UInt8)(c:Nat)(a:c<(put b).length)(hb:b.length<=65536):next (p++(put b).take c) p.length=none:=by
 have d:=yj b hb;have hp:put b=iA b.length++iA (sum b)++b:=by grind [put]
 unfold next
 by_cases e:c<8
 ·grind
 ·have e1:(p++(put b).take c).drop p.length=(put b).take c:=List.drop_left;have e2:num ((put b).take c)=b.length:=by
   grind [List.take_append,List.take_of_length_le,Ry]
  grind
end Fr
end Go.Proofs.YtbnonpbnhenkfaaGreatDoor
end
namespace Go.Proofs.YtbnonpbnhenkfaaGreatDoor
section
open Go.RowKit Go.Proofs.Tryz
def acC{s:BA}{k m:Nat}{b:List UInt8}(a:s.size<=maxLen)(h:Fr.next s.data.toList k=some b)(c:k+8+b.length=m):PC 343 [st s,i64 (k:Nat)] (·=.aU [st ⟨b.toArray⟩,i64 (m:Nat),bo true]):=
 qx func343 rr rr rr rr λw=>ag1 s k m b w a h c
def an9{s:BA}{k:Nat}(a:s.size<=maxLen)(h:Fr.next s.data.toList k=none):PC 343 [st s,i64 (k:Nat)] (·=.aU [st aA,i64 0,bo false]):=
 qx func343 rr rr rr rr λw=>ace s k w a h
def EM{p b q:BA}(hb:b.size<=65536)(d:(p++eN b++q).size<=maxLen):PC 343 [st (p++eN b++q),i64 (p.size:Nat)] (·=.aU [st b,i64 ((p++eN b).size:Nat),bo true]):=by
 have c:b.data.toList.length=b.size:=p8;have hp:p.data.toList.length=p.size:=p8;have h:=Fr.aaI p.data.toList b.data.toList q.data.toList om;have a:(Fr.put b.data.toList).length=b.size+8:=by rw[Fr.yj _ om,c]
 have e:(p++eN b++q).data.toList=p.data.toList++Fr.put b.data.toList++q.data.toList:=by simp[eN]
 rw[hp]at h;have h2:=acC (k:=p.size) (m:=(p++eN b).size) d (by rw[e];exact h) (by rw[cD,show(eN b).size=(Fr.put b.data.toList).length from by rw[<-qK];rfl,a,c];omega);exact h2
def YG{p b:BA}{n:Nat}(d:n<(eN b).size)(hb:b.size<=65536)(a:(p++(eN b).extract 0 n).size<=maxLen):PC 343 [st (p++(eN b).extract 0 n),i64 (p.size:Nat)] (·=.aU [st aA,i64 0,bo false]):=by
 have e:b.data.toList.length=b.size:=p8;have hp:p.data.toList.length=p.size:=p8;have f:(eN b).size=(Fr.put b.data.toList).length:=by rw[<-qK];rfl
 have h:=Fr.ac1 p.data.toList b.data.toList n om om;have c:(p++(eN b).extract 0 n).data.toList=p.data.toList++(Fr.put b.data.toList).take n:=by simp[eN]
 rw[hp]at h;exact an9 a (by rw[c];exact h)
def Ch(s t:BA)(a:s.size<=maxLen)(b:t.size<=maxLen):PC 316 [st s,st t] (·=bo (Lib.hasPrefix s.data.toList t.data.toList)):=
 qx func316 rr rr rr rr λw=>(Qr s t w a b).mono λe w' h=>⟨h.1,(BK h).2⟩
def Yz(a b:BA):Lib.hasPrefix (a++b).data.toList a.data.toList=true:=by
 rw[EG];unfold Lib.hasPrefix;exact List.isPrefixOf_iff_prefix.2 ⟨_,rr⟩
theorem adr(s:af){o:aC}{m:Nat}(h:dw m s)(hm:m≤20000000)(ho:gF o)(hf:o.kind=11→vH s.ar o.aa){f:iJ}(hi:Dg o f)(hr:o.right=true)(h32:wT o)(hw:o.oM=true)(hp:o.put=o.bytes f)(hs:(jO++o.put).size≤1000000):PC 345 [s.pv,st (jO++o.put)] (·=.aU [(apply s o).1.pv,bo (decide ((apply s o).2.e=0))]):=by
 have hpre:=Ch (jO++o.put) jO (r8 hs (by decide)) (by decide)
 rw[Yz]at hpre
 have hg:=Nj (s:=jO++o.put) (i:=1) (by have:=At.behind jO (o.bytes f);rw[hp];exact this) hi hr (r8 hs (by decide)) h32
 have hwr:=XJ o
 rw[hw]at hwr
 have hap:=Ly s o h hm ho hf
 refine aw Tryz.func345 ?_
 refine bu.is hpre ?_
 refine ab ?_
 refine bu.is hg ?_
 have he:(((jO++o.put).size:Nat):Int)=((1+(o.bytes f).size:Nat):Int):=by rw[cD,hp];rfl
 refine aj.t he.symm ?_
 refine bu.is hwr ?_
 refine ab ?_
 refine bu.is hap ?_
 refine aj.is (decide ((apply s o).2.e=0)) rfl ?_
 refine az ?_
 exact ah
def ai6(s:af):PC 345 [s.pv,st aA] (·=.aU [s.pv,bo false]):=by
 have a:=Ch aA jO (by decide) (by decide);rw[show Lib.hasPrefix (aA:BA).data.toList jO.data.toList=false from rfl]at a;exact aw func345<|bu.is a<|an<|ah
abbrev kM(s:BA)(i:Nat):aI:=.rows 2 [.agg [st s,i64 (i:Int)]] true none 496
def Bn(s:BA)(i n:Nat)(j nx:Nat)(a:Nat.beq nx j=false):LC 416 [.lp j 0 0,i64 (n:Nat),bo true] [(j,kM s i)] nx λr d=>r=.aU []/\d=[(j,some (kM s n)),(j,none)]:=by
 refine fX (js:=[j]) (bs:=[kM s i]) (args:=[.lp 0 0 0,i64 (n:Nat),bo true]) func416 rr rr ?_ rr ⟨⟨rr,fH s i⟩,trivial⟩ rr ?_
 ·unfold cW;rw[a];rfl
 exact ab<|ey<|kY (0,j) rr rr (fH s _)<|az rr
def oj{s:BA}{i:Nat}{n:UInt64}(h:At s i (av n))(b:s.size<=gy)(j nx:Nat)(a:Nat.beq nx j=false):LC 414 [.lp j 0 0] [(j,kM s i)] nx λr d=>r=pu n/\d=[(j,some (kM s (i+(av n).size))),(j,none)]:=by
 refine fX (js:=[j]) (bs:=[kM s i]) (args:=[.lp 0 0 0]) func414 rr rr ?_ rr ⟨⟨rr,fH s i⟩,trivial⟩ rr ?_
 ·unfold cW;rw[a];rfl
 exact aJ (ju h b) rfl<|az<|bu.bH [0] (n:=200) (Bn s i _ 0 _ rr) rr ⟨rr,trivial⟩<|ey<|kY (0,j) rr rr (fH s _)<|az rr
def ait{s:BA}{i:Nat}{x:ax}(h:At s i (av x.id++x.x.put++av (aG x.left)))(c:s.size<=gy)(q:0<=x.left/\x.left<=100)(e:x.bB=decide (x.left≠0))(m:∀k,At s k x.x.put->PC 265 [st s,i64 (k:Nat)] (·=.aU [x.x.pv,i64 ((k+x.x.put.size:Nat):Int),bo true]))(j nx:Nat)(b:Nat.beq nx j=false):LC 418 [.lp j 0 0] [(j,kM s i)] nx λr d=>r=x.pv/\d=[(j,some (kM s (i+(av x.id++x.x.put++av (aG x.left)).size))),(j,none)]:=by
 have e1:i+(av x.id++x.x.put++av (aG x.left)).size=i+(av x.id).size+x.x.put.size+(av (aG x.left)).size:=by rw[cD,cD];omega
 have o:=h.l.l;have hb:=h.l.r;have g:=h.r;rw[cD,<-B4]at g;rw[e1];refine fX (js:=[j]) (bs:=[kM s i]) (args:=[.lp 0 0 0]) func418 rr rr ?_ rr ⟨⟨rr,fH s i⟩,trivial⟩ rr ?_
 ·unfold cW;rw[b];rfl
 refine bu.bH [0] (n:=200) (oj o c 0 _ rr) rr ⟨rr,trivial⟩<|aJ (m _ hb) rfl<|az<|bu.bH [0] (n:=200) (Bn s _ _ 0 _ rr) rr ⟨rr,trivial⟩<|fi.bH [0] (n:=200) (oj g c 0 _ rr) rr ⟨rr,trivial⟩ ?_;have p:(((aG x.left).toNat:Nat):Int)=x.left:=by
  unfold aG;rw[show(x.left%18446744073709551616).toNat=x.left.toNat by omega,qC om];omega
 refine cj.intro x.left (wrap_i64 p om)<|az ?_;by_cases h0:x.left=0
 ·have a:x.bB=false:=by rw[e,h0];rfl
  refine aj.t h0<|ey<|fw.mk ⟨[(0,j)],200,_,_,rr,rr,rr,⟨fk.mk ⟨_,rr,fH s _,.inr rr⟩,trivial⟩,?_,rr⟩;show _=x.pv
  unfold ax.pv;rw[a];rfl
 ·have a:x.bB=true:=by rw[e];exact l9 h0
  refine aj.f h0<|ey<|fw.mk ⟨[(0,j)],200,_,_,rr,rr,rr,⟨fk.mk ⟨_,rr,fH s _,.inr rr⟩,trivial⟩,?_,rr⟩;show _=x.pv
  unfold ax.pv;rw[a];rfl
structure bR.oJ(n:bR):Prop where
 name:n.name.size<=32
 gS:iy n.ao=true
 Mw:∀p∈n.ao,p.k.size<=32/\p.v.size<=32
def Wt:Bool->UInt64
 |true=>1
 |false=>0
def aaK{s:BA}{i:Nat}{n:bR}(h:At s i n.put)(a:s.size<=gy)(b:n.oJ):PC 429 [st s,i64 (i:Nat)] (·=.aU [n.pv,i64 ((i+n.put.size:Nat):Int),bo true]):=by
 rcases n with⟨name,cap,ao,up⟩
 rw[show bR.put ⟨name,cap,ao,up⟩=bQ name++cH cap++gq ao++av (Wt up)from rfl]at h⊢;obtain⟨u,c⟩:∃u:UInt64,u=Wt up:=⟨_,rfl⟩;rw[<-c]at h⊢;have g:=h.r;have d:=h.l;have j:=d.r;have h2:=d.l;have hb:=h2.r;have k:=h2.l;have o:=qn (m:=32) k a (by have:=b.name;dsimp only at this;omega);have e:=tW hb a;rw[show i+(bQ name).size+(cH cap).size=i+(bQ name++cH cap).size by rw[cD];omega]at e;have f:=Nu j b.gS a b.Mw;rw[show i+(bQ name++cH cap).size+(gq ao).size=i+(bQ name++cH cap++gq ao).size by rw[cD (bQ name++cH cap)];omega]at f;have kd:=ju g a;rw[show i+(bQ name++cH cap++gq ao).size+(av u).size=i+(bQ name++cH cap++gq ao++av u).size by rw[cD (bQ name++cH cap++gq ao)];omega]at kd;refine aw func429<|ak o rfl<|ab<|ak e rfl<|ab<|ak f rfl<|ab<|ak kd rr ?_;cases up
 case true=>
  subst c;exact aj.t rfl<|dQ<|ah
 subst c;exact aE<|dQ<|ah
def dt.put(x:dt):BA:=av x.aZ++bQ x.node++cH x.v
def ah7{s:BA}{i:Nat}{x:dt}(h:At s i x.put)(a:s.size<=gy)(d:x.node.size<=32):PC 431 [st s,i64 (i:Nat)] (·=.aU [x.pv,i64 ((i+x.put.size:Nat):Int),bo true]):=by
 rcases x with⟨aZ,node,v⟩
 unfold dt.put at h⊢;dsimp only at h⊢;have e:=h.r;have h2:=h.l;have hb:=h2.r;have f:=h2.l;have g:=ju f a;have b:=qn (m:=32) hb a (by dsimp only at d;omega);rw[show i+(av aZ).size+(bQ node).size=i+(av aZ++bQ node).size by rw[cD];omega]at b;have c:=tW e a;rw[show i+(av aZ++bQ node).size+(cH v).size=i+(av aZ++bQ node++cH v).size by rw[cD (av aZ++bQ node)];omega]at c;exact aw func431<|ak g rfl<|ab<|ak b rfl<|ab<|ak c rfl<|ah
def Ls:∀(s:BA) (n:bR),kg s n=s++n.put:=λ_ _=>rfl
def Ka:∀(s:BA) (x:dt),ma s x=s++x.put:=λ_ _=>rfl
def af8{s:BA}{i:Nat}{l:List bR}(h:At s i (l.foldl kg (av (aG (l.length:Nat)))))(e:s.size<=gy)(n:l.length<=16)(b:∀x∈l,x.oJ):PC 428 [st s,i64 (i:Nat),i64 16,.fn 429 []] (·=.aU [sl bR.pv l,i64 ((i+(l.foldl kg (av (aG (l.length:Nat)))).size:Nat):Int),bo true]):=by
 refine aw func428 ?_;have c0:=ju (h.head Ls) e;rw[pE om]at c0;refine ak c0 rfl<|eL 16<|aj.f (show¬(16:Int)<(l.length:Nat)by omega)<|ab ?_;rw[<-At.whole];refine cV.k_ [(8,7,124)] _ (ι:={q:Nat//q<=l.length}) ⟨λq=>[(31,qU q.1),(8,.aS 23 0 (l.take q.1).length),(1,i64 ((eg kg i (av (aG (l.length:Nat))) l q.1:Nat):Int))],[0,3,30],λq=>[(23,.rows 7 ((l.take q.1).map bR.pv) true none 124)],[]⟩ (λq=>l.length-q.1) ⟨0,j9 _⟩ rr ⟨rr,trivial⟩ ?_ ?_
 ·exact cS rr (rZ.cf _)
 rintro⟨q,hq⟩;dsimp only;refine aj.aN (λh1=>?_) (λh1=>?_)
 ·have h1:q<l.length:=fE h1;refine an ?_;obtain⟨x,c⟩:=cw h1;obtain⟨d,dE⟩:=h.sP Ls c;have a:=b x (i7 c);have g:=aaK d e a;rw[<-dE]at g;refine ak g rfl<|ab ?_;have m:(l.take q).length=q:=by rw[l8];omega
  refine dS.l (aq.mk (eE rZ (l.take q) x om) ?_);refine aF (lQ q) ?_;have j:=fW c;refine⟨⟨q+1,h1⟩,sw 23 42,by show l.length-(q+1)<l.length-q;omega,?_⟩;exact jn ⟨⟨rr,rr⟩,⟨by show some (PV.aS 42 0 ((l.take q).length+1))=some (PV.aS 42 0 (l.take (q+1)).length);rw[j,i6];rfl,rr⟩,⟨rr,rr⟩,trivial⟩ ⟨⟨BB.br (by rw[j,l6];rfl) (rZ.cf _),rr⟩,trivial⟩
 ·have h1:q=l.length:=by
   have:¬q<l.length:=jN h1;omega
  subst h1;refine ab ?_;have k:l.take l.length=l:=s9;exact⟨l.length+100,_,_,.inl (a_ (dC (l:=l) rr (congrArg (List.map bR.pv) k) rZ.bL (congrArg List.length k) rr) (a_ rr (a_ rr rr))),rr⟩
def aa1{s:BA}{i:Nat}{l:List dt}(h:At s i (l.foldl ma (av (aG (l.length:Nat)))))(e:s.size<=gy)(n:l.length<=256)(b:∀x∈l,x.node.size<=32):PC 430 [st s,i64 (i:Nat),i64 256,.fn 431 []] (·=.aU [sl dt.pv l,i64 ((i+(l.foldl ma (av (aG (l.length:Nat)))).size:Nat):Int),bo true]):=by
 refine aw func430 ?_;have c0:=ju (h.head Ka) e;rw[pE om]at c0;refine ak c0 rfl<|eL 256<|aj.f (show¬(256:Int)<(l.length:Nat)by omega)<|ab ?_;rw[<-At.whole];refine cV.k_ [(8,6,99)] _ (ι:={q:Nat//q<=l.length}) ⟨λq=>[(31,qU q.1),(8,.aS 23 0 (l.take q.1).length),(1,i64 ((eg ma i (av (aG (l.length:Nat))) l q.1:Nat):Int))],[0,3,30],λq=>[(23,.rows 6 ((l.take q.1).map dt.pv) true none 99)],[]⟩ (λq=>l.length-q.1) ⟨0,j9 _⟩ rr ⟨rr,trivial⟩ ?_ ?_
 ·exact cS rr (nE.cf _)
 rintro⟨q,hq⟩;dsimp only;refine aj.aN (λh1=>?_) (λh1=>?_)
 ·have h1:q<l.length:=fE h1;refine an ?_;obtain⟨x,c⟩:=cw h1;obtain⟨d,dE⟩:=h.sP Ka c;have a:=b x (i7 c);have g:=ah7 d e a;rw[<-dE]at g;refine ak g rfl<|ab ?_;have m:(l.take q).length=q:=by rw[l8];omega
  refine dS.l (aq.mk (eE nE (l.take q) x om) ?_);refine aF (lQ q) ?_;have j:=fW c;refine⟨⟨q+1,h1⟩,sw 23 42,by show l.length-(q+1)<l.length-q;omega,?_⟩;exact jn ⟨⟨rr,rr⟩,⟨by show some (PV.aS 42 0 ((l.take q).length+1))=some (PV.aS 42 0 (l.take (q+1)).length);rw[j,i6];rfl,rr⟩,⟨rr,rr⟩,trivial⟩ ⟨⟨BB.br (by rw[j,l6];rfl) (nE.cf _),rr⟩,trivial⟩
 ·have h1:q=l.length:=by
   have:¬q<l.length:=jN h1;omega
  subst h1;refine ab ?_;have k:l.take l.length=l:=s9;exact⟨l.length+100,_,_,.inl (a_ (dC (l:=l) rr (congrArg (List.map dt.pv) k) nE.bL (congrArg List.length k) rr) (a_ rr (a_ rr rr))),rr⟩
def Vt{α:Type}{f:BA->α->BA}{g:α->BA}(c:∀s x,f s x=s++g x)(a:BA):∀(l:List α) (b:BA),l.foldl f (a++b)=a++l.foldl f b
 | [],_=>rfl
 |x::l,b=>by rw[F5,F5,c (a++b),c b,H6,Vt c a l]
def aeK{s:BA}{i:Nat}{p:bf}(h:At s i p.put)(c:s.size<=gy)(b:p.al.length<=16)(a:∀n∈p.al,n.oJ)(f:p.places.length<=256)(hp:∀x∈p.places,x.node.size<=32)(g:qa p=true):PC 415 [st s,i64 (i:Nat)] (·=.aU [p.pv,i64 ((i+p.put.size:Nat):Int),bo true]):=by
 have e:=Vt Ka (p.al.foldl kg (av (aG (p.al.length:Nat)))) p.places (av (aG (p.places.length:Nat)));unfold bf.put at h⊢;rw[e]at h⊢;have j:=af8 h.l c b a;have k:=aa1 h.r c f hp;rw[cD,<-B4];have d:=NT p om om λn b=>by
  have h1:=a n b;exact⟨by have:=h1.name;omega,by have:=xC h1.gS;omega,λq hq=>by have:=h1.Mw q hq;omega⟩
 rw[g]at d;rcases p with⟨al,places⟩
 dsimp only at*
 exact aw func415<|ak j rfl<|ab<|ak k rfl<|ak d rfl<|ab<|ah
def aB.put(e:aB):BA:=bQ e.aa++cH e.bI++cH e.b_
def Yu:∀(s:BA) (x:aB),nL s x=s++x.put:=λ_ _=>rfl
def amW{s:BA}{i:Nat}{e:aB}(h:At s i e.put)(a:s.size<=gy)(hp:e.aa.size<=98):PC 432 [st s,i64 (i:Nat)] (·=.aU [e.pv,i64 ((i+e.put.size:Nat):Int),bo true]):=by
 rcases e with⟨aa,bI,b_⟩
 unfold aB.put at h⊢;dsimp only at h⊢;have d:=h.r;have hb:=h.l.r;have f:=h.l.l;have g:=qn (m:=98) f a (by dsimp only at hp;omega);have b:=tW hb a;rw[show i+(bQ aa).size+(cH bI).size=i+(bQ aa++cH bI).size by rw[cD];omega]at b;have c:=tW d a;rw[show i+(bQ aa++cH bI).size+(cH b_).size=i+(bQ aa++cH bI++cH b_).size by rw[cD (bQ aa++cH bI)];omega]at c;exact aw func432<|ak g rfl<|ab<|ak b rfl<|ab<|ak c rfl<|ah
def ajp{s:BA}{i:Nat}{l:List aB}(h:At s i (lv l))(m:s.size<=gy)(u:l.length<=16)(hp:∀e∈l,e.aa.size<=98)(j:∀q e,0<q->l[q]? = some e->e.aa≠aA)(r:uH l=true):PC 417 [st s,i64 (i:Nat)] (·=.aU [sl aB.pv l,i64 ((i+(lv l).size:Nat):Int),bo true]):=by
 have p:=Vm l om λe b=>by have:=hp e b;omega
 rw[r]at p;unfold lv at h⊢;refine aw func417 ?_;have c0:=ju (h.head Yu) m;rw[pE om]at c0;refine ak c0 rfl<|aj.f (show¬(l.length:Int)>16 by omega)<|ab ?_;rw[<-At.whole];refine cV.k_ [(4,9,130)] _ (ι:={q:Nat//q<=l.length}) ⟨λq=>[(25,qU q.1),(4,.aS 21 0 (l.take q.1).length),(1,i64 ((eg nL i (av (aG (l.length:Nat))) l q.1:Nat):Int))],[0,24],λq=>[(21,.rows 9 ((l.take q.1).map aB.pv) true none 130)],[]⟩ (λq=>l.length-q.1) ⟨0,j9 _⟩ rr ⟨rr,trivial⟩ ?_ ?_
 ·exact cS rr (iF.cf _)
 rintro⟨q,hq⟩;dsimp only;refine aj.aN (λh1=>?_) (λh1=>?_)
 ·have h1:q<l.length:=fE h1;refine an ?_;obtain⟨x,c⟩:=cw h1;obtain⟨k,dE⟩:=h.sP Yu c;have a:=hp x (i7 c);have o:=amW k m a;rw[<-dE]at o;refine ak o rr ?_;rcases x with⟨aa,iv,us⟩
  have t:(l.take q).length=q:=by rw[l8];omega
  have d:=fW c;refine aj.aN (λb=>?_) (λb=>?_)
  ·have h0:¬0<q:=λh0=>j q _ h0 c (eI.1 (y7 _ _▸b).1)
   refine aj.f (show¬(((l.take q).length:Nat):Int)>0 by omega) ?_;refine ab<|dS.l (aq.mk (eE iF (l.take q) ⟨aa,iv,us⟩ om) ?_);refine aF (lQ q)<|⟨⟨q+1,h1⟩,sw 21 49,by show l.length-(q+1)<l.length-q;omega,?_⟩;exact jn ⟨⟨rr,rr⟩,⟨by show some (PV.aS 49 0 ((l.take q).length+1))=some (PV.aS 49 0 (l.take (q+1)).length);rw[d,i6];rfl,rr⟩,⟨rr,rr⟩,trivial⟩ ⟨⟨BB.br (by rw[d,l6];rfl) (iF.cf _),rr⟩,trivial⟩
  ·skip;refine ab<|dS.l (aq.mk (eE iF (l.take q) ⟨aa,iv,us⟩ om) ?_);refine aF (lQ q)<|⟨⟨q+1,h1⟩,sw 21 49,by show l.length-(q+1)<l.length-q;omega,?_⟩;exact jn ⟨⟨rr,rr⟩,⟨by show some (PV.aS 49 0 ((l.take q).length+1))=some (PV.aS 49 0 (l.take (q+1)).length);rw[d,i6];rfl,rr⟩,⟨rr,rr⟩,trivial⟩ ⟨⟨BB.br (by rw[d,l6];rfl) (iF.cf _),rr⟩,trivial⟩
 ·have h1:q=l.length:=by
   have:¬q<l.length:=jN h1;omega
  subst h1;refine ab ?_;have g:l.take l.length=l:=s9;exact bu.by (n:=l.length+100) p (a_ (dC (l:=l) rr (congrArg (List.map aB.pv) g) iF.bL (congrArg List.length g) rr) rr)<|ab<|⟨l.length+100,_,_,.inl (a_ (dC (l:=l) rr (congrArg (List.map aB.pv) g) iF.bL (congrArg List.length g) rr) (a_ rr (a_ rr rr))),rr⟩
end
section
open Go.RowKit
def V4.g(v:V4):Nat->Nat
 |0=>v.a.toNat
 |1=>v.b.toNat
 |2=>v.c.toNat
 |_=>v.d.toNat
theorem VV(f:UInt64->UInt64->UInt64×Bool)(x y:V4):V4.sa f x y=match(f x.a y.a).2&&((f x.b y.b).2&&((f x.c y.c).2&&(f x.d y.d).2))with
 |true=>(⟨(f x.a y.a).1,(f x.b y.b).1,(f x.c y.c).1,(f x.d y.d).1⟩,true)
 |false=>(.z,false):=by
 grind [V4.sa]
def A_{f:UInt64->UInt64->UInt64×Bool}{x y:V4}(h:(V4.sa f x y).2=true):(f x.a y.a).2=true/\(f x.b y.b).2=true/\(f x.c y.c).2=true/\(f x.d y.d).2=true/\(V4.sa f x y).1=⟨(f x.a y.a).1,(f x.b y.b).1,(f x.c y.c).1,(f x.d y.d).1⟩:=by grind [VV]
def Pd{f:UInt64->UInt64->UInt64×Bool}{x y:V4}(h:(f x.a y.a).2=true/\(f x.b y.b).2=true/\(f x.c y.c).2=true/\(f x.d y.d).2=true):(V4.sa f x y).2=true:=by grind [VV]
def sI{a b:UInt64}:(sH a b).2=true↔a.toNat+b.toNat<18446744073709551616:=by grind [sH]
def DU{a b:UInt64}(h:(sH a b).2=true):(sH a b).1.toNat=a.toNat+b.toNat:=by
 have h2:=sI.1 h;simp_all [sH]
def tC{a b:UInt64}:(tv a b).2=true↔b.toNat<=a.toNat:=by grind [tv]
def De{a b:UInt64}(h:(tv a b).2=true):(tv a b).1.toNat=a.toNat-b.toNat:=by
 have h2:=tC.1 h;unfold tv;rw[z7 h2];have:=a.toNat_lt;exact D1 om
def vQ{q:Nat->Prop}(h0:q 0)(h1:q 1)(h2:q 2)(a:∀n,q (n+3)):∀i,q i
 |0=>h0
 |1=>h1
 |2=>h2
 |n+3=>a n
theorem BE{x y:V4}(h:(x.add y).2=true):∀i,(x.add y).1.g i=x.g i+y.g i:=by
 obtain⟨h0,h1,h2,a,e⟩:=A_ h;unfold V4.add at*
 rw[e];exact vQ (DU h0) (DU h1) (DU h2) λ_=>DU a
def IW{x y:V4}:(x.add y).2=true↔∀i,x.g i+y.g i<18446744073709551616:=by
 constructor
 ·intro h;obtain⟨h0,h1,h2,a,_⟩:=A_ h;exact vQ (sI.1 h0) (sI.1 h1) (sI.1 h2) λ_=>sI.1 a
 ·intro h;exact Pd ⟨sI.2 (h 0),sI.2 (h 1),sI.2 (h 2),sI.2 (h 3)⟩
theorem Iz{x y:V4}(h:(x.sub y).2=true):∀i,(x.sub y).1.g i=x.g i-y.g i:=by
 obtain⟨h0,h1,h2,a,e⟩:=A_ h;unfold V4.sub at*
 rw[e];exact vQ (De h0) (De h1) (De h2) λ_=>De a
theorem AH{x y:V4}:(x.sub y).2=true↔∀i,y.g i<=x.g i:=by
 constructor
 ·intro h;obtain⟨h0,h1,h2,a,_⟩:=A_ h;exact vQ (tC.1 h0) (tC.1 h1) (tC.1 h2) λ_=>tC.1 a
 ·intro h;exact Pd ⟨tC.2 (h 0),tC.2 (h 1),tC.2 (h 2),tC.2 (h 3)⟩
theorem xi{x y:V4}:x.db y=true↔∀i,x.g i<=y.g i:=AH
theorem tI(i:Nat):V4.z.g i=0:=vQ (q:=λi=>V4.z.g i=0) rr rr rr (λ_=>rfl) i
theorem KB(v:V4):∀i,v.g i<18446744073709551616:=vQ v.a.toNat_lt v.b.toNat_lt v.c.toNat_lt λ_=>v.d.toNat_lt
def dW{α:Type}(f:α->Nat)(l:List α):Nat:=(l.map f).sum
theorem MJ{α:Type}(f:α->Nat):dW f []=0:=rfl
theorem iQ{α:Type}(f:α->Nat)(x:α)(l:List α):dW f (x::l)=f x+dW f l:=by grind [dW]
theorem Pa{α:Type}(f:α->Nat)(l m:List α):dW f (l++m)=dW f l+dW f m:=by grind [dW]
def SU{α:Type}{f g:α->Nat}{l:List α}(h:∀x∈l,f x=g x):dW f l=dW g l:=by grind [dW,List.map_congr_left]
def MM{α:Type}{f g:α->Nat}:∀{l:List α},(∀x∈l,f x<=g x)->dW f l<=dW g l
 | [],_=>j2 _
 |x::l,h=>by
  rw[iQ,iQ]
  exact Nat.add_le_add (h x j6) (MM λy a=>h y (j3 _ a))
def Xl{α:Type}(f:α->Nat):∀{l:List α} {x:α},x∈l->f x<=dW f l
 |y::l,x,h=>by
  rw[iQ]
  rcases p9.1 h with rfl|h
  ·omega
  ·have:=Xl f h;omega
theorem JL{α:Type}(f:α->Nat):∀{l:List α} {k:Nat} {x y:α},l[k]? = some x->dW f (l.set k y)+f x=dW f l+f y
 |x::l,0,_,y,h=>by grind [iQ]
 |z::l,k+1,x,y,h=>by
  have:=JL f (l:=l) (k:=k) (x:=x) (y:=y) (by simp_all)
  grind [iQ]
def Yp{α:Type}(f:α->Nat):∀{l:List α} {k:Nat} {x:α},l[k]? = some x->dW f (l.eraseIdx k)+f x=dW f l
 |x::l,0,_,h=>by grind [iQ]
 |z::l,k+1,x,h=>by
  have:=Yp f (l:=l) (k:=k) (x:=x) (by simp_all)
  grind [iQ]
end
end Go.Proofs.YtbnonpbnhenkfaaGreatDoor
