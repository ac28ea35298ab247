/-
  Texts of one proof, one behind the other.
-/
import Derived.Test.YtogaccfhfhdfpaaGreatDoorC1
import Derived.Test.YtogaccfhfhdfpaaGreatDoorC2
import Derived.Test.YtogaccfhfhdfpaaGreatDoorC3
import Derived.Lib.Bytealg
import Derived.Lib.Index
import Derived.Lib.Strings
import Derived.ProofKit
import Derived.ChangeArms
import Derived.ChangeCalls
import Derived.LaidLaws
import Derived.JoinedCond
set_option linter.all false
section
namespace Go.Am
open Go
set_option maxRecDepth 100000
set_option maxHeartbeats 8000000
def Y5(c:UInt8):Bool:=(decide (65<=c.toNat)&&decide (c.toNat<=90))||(decide (97<=c.toNat)&&decide (c.toNat<=122))
def Y6(c:UInt8):Bool:=decide (48<=c.toNat)&&decide (c.toNat<=57)
def yo:List UInt8->Nat->Bool
 |[],_=>true
 |c::r,i=>(Y5 c||(!decide (i=0)&&(decide (c=95)||Y6 c)))&&yo r (i+1)
def dz(s:Tx):Bool:=decide (1<=s.length)&&(decide (s.length<=16)&&(!yn s&&yo s 0))
structure Pn where
 name:Tx
 ty:Int
 N9:Bool
 deriving DecidableEq
def gp(p:Pn):D:=.agg [.str p.name,.int .i64 p.ty,.bool p.N9]
def lO(ins outs:List (Tx×Bool))(n:Nat):List Pn:=ins.map (λx=>⟨x.1,if x.2 then 1 else 2,true⟩)++outs.map (λx=>⟨x.1,if x.2 then 1 else 2,false⟩)++List.replicate n ⟨[],1,false⟩
def ED:List (Tx×Bool):=[([68,111,110,101],false),([66,117,115,121],false),([65,99,116,105,118,101],false),([67,111,109,109,97,110,100,65,98,111,114,116,101,100],false),([69,114,114,111,114],false)]
def Rl:List (Int×List Pn):=[
 (10,lO [([73,78],false),([80,84],true)] [([81],false),([69,84],true)] 0),
 (11,lO [([73,78],false),([80,84],true)] [([81],false),([69,84],true)] 0),
 (12,lO [([73,78],false),([80,84],true)] [([81],false),([69,84],true)] 2),
 (13,lO [([67,85],false),([82],false),([80,86],true)] [([81],false),([67,86],true)] 1),
 (14,lO [([67,68],false),([76,68],false),([80,86],true)] [([81],false),([67,86],true)] 1),
 (15,lO [([67,76,75],false)] [([81],false)] 1),
 (16,lO [([67,76,75],false)] [([81],false)] 1),
 (17,lO [([83,49],false),([82],false)] [([81,49],false)] 0),
 (18,lO [([83],false),([82,49],false)] [([81,49],false)] 0),
 (20,lO [([65,120,105,115],true),([69,110,97,98,108,101],false)] [([83,116,97,116,117,115],false),([69,114,114,111,114],false)] 0),
 (21,lO [([65,120,105,115],true),([69,120,101,99,117,116,101],false)] ED 2),
 (22,lO [([65,120,105,115],true),([69,120,101,99,117,116,101],false)] ED 2),
 (23,lO [([65,120,105,115],true),([69,120,101,99,117,116,101],false)] ED 2),
 (24,lO [([65,120,105,115],true),([69,120,101,99,117,116,101],false),([80,111,115,105,116,105,111,110],true),([86,101,108,111,99,105,116,121],true),([66,117,102,102,101,114,77,111,100,101],true)] ED 2),
 (25,lO [([65,120,105,115],true),([69,120,101,99,117,116,101],false),([68,105,115,116,97,110,99,101],true),([86,101,108,111,99,105,116,121],true),([66,117,102,102,101,114,77,111,100,101],true)] ED 2),
 (26,lO [([65,120,105,115],true),([69,120,101,99,117,116,101],false),([68,105,115,116,97,110,99,101],true),([86,101,108,111,99,105,116,121],true),([66,117,102,102,101,114,77,111,100,101],true)] ED 2),
 (27,lO [([65,120,105,115],true),([69,120,101,99,117,116,101],false),([86,101,108,111,99,105,116,121],true)] [([73,110,86,101,108,111,99,105,116,121],false),([66,117,115,121],false),([65,99,116,105,118,101],false),([67,111,109,109,97,110,100,65,98,111,114,116,101,100],false),([69,114,114,111,114],false)] 2),
 (28,lO [([65,120,105,115],true),([69,120,101,99,117,116,101],false),([77,97,115,116,101,114],true),([78,117,109,101,114,97,116,111,114],true),([68,101,110,111,109,105,110,97,116,111,114],true)] [([73,110,71,101,97,114],false),([66,117,115,121],false),([65,99,116,105,118,101],false),([67,111,109,109,97,110,100,65,98,111,114,116,101,100],false),([69,114,114,111,114],false)] 2),
 (29,lO [([65,120,105,115],true),([69,120,101,99,117,116,101],false)] [([68,111,110,101],false),([69,114,114,111,114],false)] 1),
 (30,lO [([65,120,105,115],true),([69,120,101,99,117,116,101],false),([80,111,115,105,116,105,111,110],true)] [([68,111,110,101],false),([69,114,114,111,114],false)] 1),
 (31,lO [([65,120,105,115],true),([69,110,97,98,108,101],false),([80,101,114,99,101,110,116],true)] [([69,110,97,98,108,101,100],false)] 0)]
def yp:List (Int×List Pn)->Int->List Pn
 |[],_=>[]
 |(a,l)::r,k=>if a=k then l else yp r k
def eI(k:Int):List Pn:=yp Rl k
def BC:List Pn->Tx->Option Pn
 |[],_=>none
 |p::r,s=>if p.name=s/\s≠[]then some p else BC r s
def mE(k:Int)(s:Tx):Option Pn:=BC (eI k) s
def bk:List Vr->Tx->Option Vr
 |[],_=>none
 |v::r,s=>if v.name=s then some v else bk r s
def bR(v:Vr):Int:=if v.arr=true then v.hi-v.lo+1 else if 2<v.ty then (eI v.ty).length else 1
structure Te where
 t:Int
 e:Int
 line:Int
 deriving DecidableEq
def fO(t:Int):Te:=⟨t,0,0⟩
def cW(e line:Int):Te:=⟨0,e,line⟩
def iw(op t:Int):Int:=if op=6\/(8<=op/\op<=12)\/(15<=op/\op<=18)then 1 else if op=13\/op=14 then t else 2
def iW(op:Int):Int:=if op=6\/(8<=op/\op<=12)then 1 else 2
def cI(op line:Int)(a b:Te):Te:=
 if a.e≠0 then ⟨0,a.e,a.line⟩else if b.e≠0 then ⟨0,b.e,b.line⟩else
 if a.t≠iw op a.t\/b.t≠iw op a.t then cW 10 line else fO (iW op)
def jq{op line:Int}{a b:Te}(h:(cI op line a b).e=0):a.e=0/\b.e=0/\a.t=iw op a.t/\b.t=iw op a.t/\cI op line a b=fO (iW op):=by
 unfold cI at h⊢;by_cases E:a.e≠0
 .rw[aav E]at h;exact absurd h E
 .rw[aaf E]at h⊢;by_cases H:b.e≠0
  .rw[aav H]at h;exact absurd h H
  .rw[aaf H]at h⊢;by_cases I:a.t≠iw op a.t\/b.t≠iw op a.t
   .rw[aav I]at h;simp[cW]at h
   .rw[aaf I];simp only[ne_eq,amG,Decidable.not_not]at E H I;exact⟨E,H,I.1,I.2,rfl⟩
mutual
def aJ(vs:List Vr):Ex->Te
 | .mk op _ name field sub line=>
  if op=1\/op=2 then fO op
  else if op=3\/op=4\/op=5 then
   match bk vs name with
   |none=>cW 9 line
   |some v=>
    if op=5 then (if v.ty<=2 then cW 10 line else match mE v.ty field with
     |none=>cW 9 line
     |some p=>fO p.ty)
    else if v.arr≠decide (op=4)\/2<v.ty then cW 10 line
    else if op=4 then Ah vs v.ty sub
    else fO v.ty
  else vg vs op line sub
def Ah(vs:List Vr)(t:Int):List Ex->Te
 |[]=>fO t
 |x::_=>if (aJ vs x).e≠0 then cW (aJ vs x).e (aJ vs x).line else if (aJ vs x).t≠1 then cW 10 (jH x)else fO t
def vg(vs:List Vr)(op line:Int):List Ex->Te
 |[]=>fO 0
 |[x]=>cI op line (aJ vs x) (aJ vs x)
 |x::y::_=>cI op line (aJ vs x) (aJ vs y)
end
def dP(vs:List Vr)(x:Ex)(t:Int):Int×Int:=if (aJ vs x).e≠0 then ((aJ vs x).e,(aJ vs x).line)else if (aJ vs x).t≠t then (10,jH x)else (0,0)
def aaP(b:Int):Nat:=(eI b).length
def iC:List Int:=[10,11,12,13,14,15,16,17,18,20,21,22,23,24,25,26,27,28,29,30,31]
def rJ{b:Int}(D:b∉iC):eI b=[]:=by
 simp only[iC,aam,aaH,ajl,amG]at D;obtain⟨E,H,I,J,M,N,O,U,V,Z,y,A',A0,A1,A2,A3,A4,A5,A6,A7,A8⟩:=D;unfold eI Rl;simp only[yp,aaf (aff E),aaf (aff H),aaf (aff I),aaf (aff J),aaf (aff M),aaf (aff N),aaf (aff O),aaf (aff U),aaf (aff V),aaf (aff Z),aaf (aff y),aaf (aff A'),aaf (aff A0),aaf (aff A1),aaf (aff A2),aaf (aff A3),aaf (aff A4),aaf (aff A5),aaf (aff A6),aaf (aff A7),aaf (aff A8)]
def yq(b:Int):(eI b).length<=20:=by
 by_cases D:b∈iC
 .simp only[iC,aam,aaH,ajl]at D;rcases D with rfl|rfl|rfl|rfl|rfl|rfl|rfl|rfl|rfl|rfl|rfl|rfl|rfl|rfl|rfl|rfl|rfl|rfl|rfl|rfl|rfl<;>decide
 .rw[rJ D];decide
def aaQ(x:ax)(n:Int):Bool:=decide (x.n<=n)&&decide (n<=x.m)
def Ce(C:List Int)(k:Int):Int:=C[k.toNat]?.getD 0
def akf(C:List Int)(x:ax):Bool:=decide (0<=Ce C (x.b+1)/\Ce C x.a<=Ce C x.b)||decide (Ce C (x.b+1)<0/\Ce C x.b<=Ce C x.a)
structure Ms where
 cells:List Int
 Wu:List Int
 at_:Int
 fuel:Int
 fault:Int
def Ms.pop(s:Ms):Ms:={s with Wu:=s.Wu.dropLast}
def Ms.push(s:Ms)(n:Int):Ms:={s with Wu:=s.Wu++[n]}
def Ms.top(s:Ms):Int:=s.Wu.getLast?.getD 0
def afm(C:List Int)(k n:Int):List Int:=C.set k.toNat n
def akg(x:ax)(s:Ms):Option Ms:=
 if x.op=1 then some (s.push x.n)
 else if x.op=2 then some (s.push (Ce s.cells x.a))
 else if x.op=3 then some (s.push (ei (decide (Ce s.cells x.a≠0))))
 else if x.op=4\/x.op=5 then
  (if aaQ x s.top=true then some (s.pop.push (if x.op=4 then Ce s.cells (x.a+(s.top-x.n))else ei (decide (Ce s.cells (x.a+(s.top-x.n))≠0))))else some {s.pop with fault:=3})
 else if x.op=6 then some {s.pop with cells:=afm s.cells x.a s.top}
 else if x.op=7 then
  (if aaQ x s.pop.top=true then some {s.pop.pop with cells:=afm s.cells (x.a+(s.pop.top-x.n)) s.top} else some {s.pop.pop with fault:=3})
 else none
def doF(x:ax)(s:Ms):Ms:=
 if x.b=6\/x.b=7 then
  (if (mC x.b s.top (decide (x.a=1))).2.2=0 then s.pop.push (mC x.b s.top (decide (x.a=1))).1 else {s.pop with fault:=(mC x.b s.top (decide (x.a=1))).2.2})
 else
  (if (nZ x.b s.pop.top s.top (decide (x.a=1))).2.2=0 then s.pop.pop.push (nZ x.b s.pop.top s.top (decide (x.a=1))).1 else {s.pop.pop with fault:=(nZ x.b s.pop.top s.top (decide (x.a=1))).2.2})
def afn(x:ax)(C:List Int):List Int:=C.take x.a.toNat++akc x.b ((C.drop x.a.toNat).take (aaP x.b))++C.drop (x.a.toNat+aaP x.b)
def aoh(x:ax)(s:Ms):Ms:=
 if x.op=8 then doF x s
 else if x.op=9 then {s with at_:=x.a}
 else if x.op=10 then (if s.top=0 then {s.pop with at_:=x.a} else s.pop)
 else if x.op=11 then (if s.fuel=0 then {s with fault:=4} else {s with fuel:=s.fuel-1})
 else if x.op=12 then {s with cells:=afn x s.cells}
 else if x.op=13 then s.push (ei (akf s.cells x))
 else if x.op=14 then s.push (ei (decide (x.n<=Ce s.cells x.a/\Ce s.cells x.a<=x.m)))
 else s
def akh(x:ax)(s:Ms):Ms:=
 match akg x {s with at_:=s.at_+1} with
 |some t=>t
 |none=>aoh x {s with at_:=s.at_+1}
inductive L6(l:List ax):Ms->Ms->Prop
 |fault (s:Ms) (h:s.fault≠0):L6 l s s
 |fin (s:Ms) (x:ax) (A9:s.fault=0) (AA:l[s.at_.toNat]?=some x) (h:x.op=15):L6 l s s
 |step (s:Ms) (x:ax) (t:Ms) (A9:s.fault=0) (AA:l[s.at_.toNat]?=some x) (h:x.op≠15) (AB:L6 l (akh x s) t):L6 l s t
def Oa:List D->Option D
 |[.str s,.str t]=>if s.length<4294967281 then some (.int .i64 (Go.Lib.index s t))else none
 |_=>none
def Wv:List D->Option D
 |[.str s,.int .u8 c]=>some (.int .i64 (Go.Lib.indexByte s c.toNat.toUInt8))
 |_=>none
def Ww:List D->Option D
 |[.str s,.str p]=>some (.bool (Go.Lib.hasPrefix s p))
 |_=>none
attribute [simp] Oa.eq_1 Wv.eq_1 Ww.eq_1
section
variable {X:Ctx} {Z:bN} {md:Bool} {all:List Oper} {S:St}
@[simp] theorem ajF{d:Option Tmp}{op:Op}{ty:TypeId}{pos:String}{N:Array Edge}:eT X Z md all S ⟨d,op,ty,pos,N,none⟩=fK X Z S ⟨d,op,ty,pos,N,none⟩ (dC X.P S ⟨d,op,ty,pos,N,none⟩):=rfl
@[simp] theorem aoi{J:List Nat}{i:Nat}{E:List bn}:uQ X md all J i [] S E=some (DB E []):=by rw[Eu,aee];rfl
theorem Wx{J:List Nat}{i:Nat}{o:Oper}{r:List Oper}{E:List bn}:uQ X md all J i (o::r) S E=if J.contains i=true then (match eT X (λ_ _ _=>none) md all S o with
 |some (S1,p)=>uQ X md all J (i+1) r S1 (p::E)
 |none=>none)else uQ X md all J (i+1) r (S.put o.dst false .bC) (⟨[],[],false,.bC⟩::E):=by
 simp only[uQ];cases J.contains i<;>rfl
end
attribute [simp] Wx fK.eq_1 fK.eq_2 fK.eq_3 Tl.eq_1 Tk.eq_1 Tk.eq_2 ia.eq_1 ia.eq_2 hU.eq_1 hU.eq_2 ly.eq_1 ly.eq_2 St.kill.eq_1 Jr.eq_1 Jr.eq_2 C3.eq_1 C3.eq_2
attribute [simp] afg abS Y3 Wm
section
variable {O M α:Type} {X:Ctx} {md:Bool} {U:Nat×List (List Nat)} {S:St} {d:Option Nat} {all q:List Oper} {E:List bn} {k:Kt} {r:PR O M α} {f:α->M->Option gA} {g:O->M->Option gA}
@[simp] theorem am0:rF X md U S d all q E k (r.el f g)=r.el (λa s=>rF X md U S d all q E k (f a s)) (λe s=>rF X md U S d all q E k (g e s)):=by cases r<;>rfl
@[simp] theorem ap5:wR S (r.el f g)=r.el (λa s=>wR S (f a s)) (λe s=>wR S (g e s)):=by cases r<;>rfl
@[simp] theorem ap6{p:gu}{V:Nat}{rs:List ResultVar}{f:α->M->Option St}{g:O->M->Option St}:Gd X p V rs (r.el f g)=r.el (λa s=>Gd X p V rs (f a s)) (λe s=>Gd X p V rs (g e s)):=by cases r<;>rfl
end
attribute [simp] We TX Wf TY TZ QE T0 Wg Wh T4
attribute [simp] Im.eq_1 JF.eq_1 N5.eq_1 L3.eq_1 L3.eq_2 Io.eq_1 Io.eq_2 Gd.eq_1 Gd.eq_2 wR.eq_1 Gc.eq_1 Gc.eq_2 Gc.eq_3 vD.eq_1 Wk L4.eq_1 L4.eq_2
section
variable {X:Ctx} {f:FuncId} {S:St} {H:List DF} {I:DH} {b:Code}
@[simp] theorem ap7:Im X f b I .ret S H=I .ret S H:=rfl
@[simp] theorem ap8{t:TypeId}{x:D}:Im X f b I (.panic t x) S H=I (.panic t x) S H:=rfl
@[simp] theorem ap9{i:Nat}:Im X f b I (.exit i) S H=I (.exit i) S H:=rfl
@[simp] theorem am1{id:Nat}{t:TypeId}{x:D}:JF X f id I (.panic t x) S H=I (.panic t x) S H:=rfl
@[simp] theorem aoj{md:Bool}{all r:List Oper}{t:TypeId}{x:D}:N5 X md all r H I (.panic t x) S=I (.panic t x) S H:=rfl
end
@[simp] def adR:m5 none=[]:=rfl
@[simp] def adS(k v:Nat):m5 (some ⟨k,v,.dead⟩)=[]:=rfl
@[simp] def afo(k v:Nat)(cs:List AV):m5 (some ⟨k,v,.box cs⟩)=mw cs:=rfl
@[simp] def afp(k v sz:Nat)(aq:List D):m5 (some ⟨k,v,.vec sz aq⟩)=[]:=rfl
@[simp] def afq(k v:Nat)(aq:List (List D)):m5 (some ⟨k,v,.vv aq none⟩)=[]:=rfl
@[simp] def ajG(k v:Nat)(aq:List (List D))(x:AV):m5 (some ⟨k,v,.vv aq (some x)⟩)=ke x:=rfl
@[simp] def aqa(m ρ bor nv aq y):yT m ρ bor nv (.vv aq y)=.vv aq (y.map (vw m ρ bor nv)):=rfl
@[simp] def am2(aq y):nu (.vv aq y)=(aq.all nC&&(match y with|none=>true|some x=>ep x)):=rfl
@[simp] def arj(ρ bs aq y):Hs ρ bs (.vv aq y)=.vv aq (y.map (up ρ bs)):=rfl
@[simp] def aqb(I aq y):sG I (.vv aq y)=.vv aq (y.map I):=rfl
@[simp] def aok{H:Nat}{b:Bool}{c:Prop}[Decidable c]{x y:Option (Out×List (Nat×aE))}:sN H b (if c then x else y)=if c then sN H b x else sN H b y:=by split<;>rfl
@[simp] def adT(P t E len ps):iP P t E len ps none=none:=by
 unfold iP;split<;>simp_all
@[simp] def aki(P t E len n x o):iP P t E len [(n,.d x)] o=none:=by
 unfold iP;split<;>simp_all
@[simp] def afr(P t E len n x o):iP P t E len [(n,.agg x)] o=none:=by
 unfold iP;split<;>simp_all
@[simp] def afs(P t E len o):iP P t E len [] o=none:=by
 unfold iP;split<;>simp_all
@[simp] def aft(P t E len p q r o):iP P t E len (p::q::r) o=none:=by
 unfold iP;split<;>simp_all
@[simp] def afu(P t E len k v c):iP P t E len [(0,.lit (.slice none 0 0))] (some ⟨k,v,c⟩)=(match tk P t with
 | .slice e=>match fW P e,np P e with
  |some sz,some _=>some (.dA (sz=1/\len=1) (.vec E (v+1) 0 1) ⟨E,v+1,.box [.lit (.slice none 0 0)]⟩)
  |_,_=>none
 |_=>none):=rfl
attribute [simp] tE.eq_1
attribute [simp] Hc.eq_1 AR.eq_1
attribute [simp] Gh.go St.eY.eq_1 St.cls.eq_1 St.shut.eq_1 St.ur.eq_1
@[simp] def sX(t:gn):D:=.agg [.int .i64 t.kind,.str t.text,.int .i64 t.n,.int .i64 t.line,.int .i64 t.Ir]
def dW(op:Int):Nat:=if op=4\/op=6\/op=7 then 1 else if 7<op then 2 else 0
mutual
def bE:Ex->Bool
 | .mk op n name field sub _=>
  !decide ((op=1/\n<0)\/(op=2/\(n<0\/1<n))\/(2<op/\n≠0)\/op<1\/21<op)&&
  (decide (sub.length=dW op)&&((if op=3\/op=4\/op=5 then dz name else decide (name=[]))&&((if op=5 then dz field else decide (field=[]))&&bY sub)))
def bY:List Ex->Bool
 |[]=>true
 |x::r=>bE x&&bY r
end
def gT:∀l:List Ex,bY l=true↔∀x∈l,bE x=true
 |[]=>by simp[bY]
 |x::r=>by simp[bY,gT r]
def ek(x:Ex):Bool:=decide (bO x=0)&&(decide (il x=0)&&decide ((dI x).length+(fQ x).length+(da x).length=0))
def oE(l:List Int):Bool:=!decide (l.length=0)&&(decide (l.length%2=0)&&l.all λn=>decide (n≠ -9223372036854775808))
def cQ(op:Int)(conds E fields blocks:Nat):Bool:=
 if op=2 then decide (conds=max 1 conds)&&(decide (E=0)&&(decide (fields=0)&&(decide (max 1 conds<=blocks)&&decide (blocks<=max 1 conds+1))))
 else if op=3 then decide (conds=0)&&(decide (fields=0)&&(decide (E<=blocks)&&decide (blocks<=E+1)))
 else if op=4 then decide (conds=3)&&(decide (E=0)&&(decide (fields=0)&&decide (blocks=1)))
 else if op=5\/op=6 then decide (conds=0)&&(decide (E=0)&&(decide (fields=0)&&decide (blocks=1)))
 else if op=9 then decide (conds=fields)&&(decide (E=0)&&decide (blocks=0))
 else decide (conds=0)&&(decide (E=0)&&(decide (fields=0)&&decide (blocks=0)))
mutual
def jr:Sm->Bool
 | .mk op name to val conds E fields blocks _=>
  decide (1<=op/\op<=9)&&((if op=4\/op=9 then dz name else decide (name=[]))&&
  ((if op=1 then decide (bO to=3\/bO to=4)&&bE to else ek to)&&
  ((if op=1\/op=3\/op=5\/op=6 then !ek val&&bE val else ek val)&&
  (bY conds&&(cQ op conds.length E.length fields.length blocks.length&&
  (fields.all dz&&(E.all oE&&cA blocks)))))))
def eF:List Sm->Bool
 |[]=>true
 |x::r=>jr x&&eF r
def cA:List (List Sm)->Bool
 |[]=>true
 |b::r=>eF b&&cA r
end
def rK(k:Int):Bool:=(eI k).length≠0
def cJ(v:Vr):Bool:=
 dz v.name&&(decide (0<=v.sec/\v.sec<=2)&&(decide (v.ty=1\/v.ty=2)||rK v.ty)&&
 ((if v.arr=true then decide (v.ty<=2/\0<=v.lo/\v.lo<=v.hi/\v.hi<=255)else decide (v.lo=0/\v.hi=0))&&
 !decide (((v.arr=true\/2<v.ty)/\v.init≠0)\/(v.ty=2/\(v.init<0\/1<v.init))\/v.init= -9223372036854775808)))
def uT(p:Pg):Bool:=dz p.name&&(decide (p.vars.length<=64)&&(p.vars.all cJ&&eF p.body))
abbrev EL:=Int×Int
def fu(a b:EL):EL:=if a.1≠0 then a else b
def KY(a:Te):EL:=(a.e,a.line)
def Iy(vs:List Vr)(to val:Ex)(line:Int):EL:=
 match bk vs (dI to)with
 |none=>(9,jH to)
 |some v=>if v.sec=1 then (1,jH to)else fu (KY (aJ vs to)) (fu (KY (aJ vs val)) (if (aJ vs val).t≠(aJ vs to).t then (10,line)else (0,0)))
def mF(vs:List Vr)(t:Int):List Ex->EL
 |[]=>(0,0)
 |x::r=>fu (dP vs x t) (mF vs t r)
def jW(vs:List Vr)(k line:Int):List Tx->List Ex->List Tx->EL
 |f::fs,x::xs,p=>match mE k f with
  |none=>(9,line)
  |some q=>if q.N9=false then (9,line)else if f∈p then (11,line)else fu (dP vs x q.ty) (jW vs k line fs xs (p++[f]))
 |_,_,_=>(0,0)
mutual
def kr(vs:List Vr)(D:Bool):Sm->EL
 | .mk op name to val conds _ fields blocks line=>
  if op=1 then Iy vs to val line
  else if op=2 then eO vs D conds blocks
  else if op=3 then fu (dP vs val 1) (eO vs D [] blocks)
  else if op=4 then (match bk vs name with
   |none=>(9,line)
   |some v=>if v.sec=1 then (1,line)else if v.arr=true\/v.ty≠1 then (10,line)else fu (mF vs 1 conds) (yr vs blocks))
  else if op=5 then fu (dP vs val 2) (yr vs blocks)
  else if op=6 then fu (yr vs blocks) (dP vs val 2)
  else if op=7 then (if D=true then (0,0)else (14,line))
  else if op=9 then (match bk vs name with
   |none=>(9,line)
   |some v=>if v.ty<=2 then (10,line)else jW vs v.ty line fields conds [])
  else (0,0)
def eK(vs:List Vr)(D:Bool):List Sm->EL
 |[]=>(0,0)
 |x::r=>fu (kr vs D x) (eK vs D r)
def eO(vs:List Vr)(D:Bool):List Ex->List (List Sm)->EL
 |_,[]=>(0,0)
 |[],b::r=>fu (eK vs D b) (eO vs D [] r)
 |c::cs,b::r=>fu (dP vs c 2) (fu (eK vs D b) (eO vs D cs r))
def yr(vs:List Vr):List (List Sm)->EL
 |[]=>(0,0)
 |b::_=>eK vs true b
end
def KZ:List Vr->List Vr->Int->EL
 |[],_,_=>(0,0)
 |v::r,p,n=>if (bk p v.name).isSome then (11,v.line)else if 1024<n+bR v then (13,v.line)else KZ r (p++[v]) (n+bR v)
def xl(p:Pg):EL:=fu (KZ p.vars [] 0) (eK p.vars false p.body)
def rL{α:Type}(p:α->Bool):List α->Nat->Int
 |[],_=> -1
 |x::r,i=>if p x=true then i else rL p r (i+1)
def Iz{α:Type}(p:α->Bool):∀(l:List α)(i:Nat),rL p l i= -1\/(i<=rL p l i/\rL p l i<i+l.length)
 |[],i=>.inl rfl
 |x::r,i=>by
  unfold rL;split
  .right;simp;omega
  .rcases Iz p r (i+1)with h|h
   .exact .inl h
   .right;simp only[aao];omega
def Rn{k:Int}(h:rK k=true):10<=k/\k<=31:=by
 unfold rK eI at h;by_cases D:10<=k/\k<=31
 .exact D
 .exfalso;have:yp Rl k=[]:=by
   unfold Rl;simp only[yp];repeat rw[aaf (by omega)]
  rw[this]at h;simp at h
def Ro{v:Vr}(h:cJ v=true):(v.ty=1\/v.ty=2)\/(10<=v.ty/\v.ty<=31/\rK v.ty=true):=by
 simp only[cJ,Ds,aiB,aaw]at h;rcases h.2.1.2 with h|h
 .exact .inl h
 .exact .inr ⟨(Rn h).1,(Rn h).2,h⟩
def yt{s:Tx}{v:Vr}:∀{l:List Vr},bk l s=some v->v∈l/\v.name=s
 |x::r,h=>by
  unfold bk at h;split at h
  .rename_i e;cases h;exact⟨by simp,e⟩
  .have:=yt h;exact⟨by simp[this.1],this.2⟩
end Go.Am
end
section
namespace Go.Am
open Go Go.ChangeShapes Go.WideShapes Go.RowKit
def EE(P:Program)(ok:TypeId->Bool):List Field->Nat->Nat->Bool
 |[],o,N=>o == N
 |f::r,o,N=>f.offset == o&&ok f.type&&EE P ok r (o+P.cellsOf f.type) N
def typed(P:Program):Nat->TypeId->D->Prop
 |0,_,_=>False
 |n+1,t,d=>match P.underlying t with
  |some .bool=>∃b,d=.bool b
  |some (.int k)=>∃z,d=.int k z/\(Lit.int k z).wf=true
  |some .string=>∃s,d=.str s/\s.length<=maxLen
  |some (.slice e)=>∃xs,d=.list xs/\xs.length<=maxLen/\∀x∈xs,typed P n e x
  |some (.struct fs)=>∃O:List D,d=.agg (O.flatMap D.cells)/\O.length=fs.size/\∀(i:Nat)(f:Field)(y:D),fs[i]?=some f->O[i]?=some y->typed P n f.type y
  |_=>False
def Reads(w:World)(F:Nat->Prop)(d:D)(cs:List Value):Prop:=
 d.cells.length=cs.length/\(∀u∈cs,cR u=true)/\∀(i:Nat) c u,d.cells[i]?=some c->cs[i]?=some u->aP w F c u/\c.flat=true
def Reads.one{w F d v}(h:aP w F d v)(U:d.flat=true)(I:d.cells=[d]):Reads w F d [v]:=by
 refine⟨by rw[I];rfl,λu hu=>?_,λi c u E J=>?_⟩
 .simp at hu;subst hu;exact h.one U
 .rw[I]at E;cases i with
  |zero=>simp at E J;subst E;subst J;exact⟨h,U⟩
  |succ i=>simp at E
def shaped(d:D)(cs:List Value):Value:=
 match d with
 | .agg _=>.agg cs.toArray
 |_=>cs.headD undef
def Reads.rel{w F d cs}(h:Reads w F d cs):aP w F d (shaped d cs):=by
 obtain⟨E,J,M⟩:=h;have key:d.flat=true->d.cells=[d]->aP w F d (cs.headD undef):=by
  intro U I;rw[I]at E M;match cs,E with
  |[u],_=>exact (M 0 d u rfl rfl).1
 cases d with
 |agg V=>exact aP.qv E J (λi c v I Z=>(M i c v I Z).1)
 |_=>exact key rfl rfl
def Reads.Ob{w F d cs}(h:Reads w F d cs):(shaped d cs).cells.toList=cs:=by
 obtain⟨E,J,M⟩:=h;have key:d.cells=[d]->(cs.headD undef).cells.toList=cs:=by
  intro I;rw[I]at E;match cs,E,J with
  |[u],_,J=>simp only[List.headD];rw[eP (J u (by simp))]
 cases d with
 |agg V=>simp[shaped,Value.cells]
 |_=>exact key rfl
def IA{w:World}{base:Nat}{a:Addr}{n:Nat}{cs:List Value}(h:w.cells? base a n=some cs):cs.length=n/\∀j,j<n->w.cell? (a.add j)=cs[j]?:=by
 unfold World.cells? at h;split at h
 .exact⟨by simpa using mapM_some_length h,λj A'=>mapM_some_get h j j (by simp[A'])⟩
 .cases h
def add_add{b off n j:Nat}:(Addr.add (Addr.add ⟨b,off,none⟩ n) j)=⟨b,off+n+j,none⟩:=by
 unfold Addr.add;split<;>split<;>simp_all
def Gx{w:World}{a:Addr}{c:Value}(h:w.cell? a=some c):a.block<w.heap.size/\a.spot=none:=by
 unfold World.cell? at h;split at h
 .rename_i hh;refine⟨(aei.1 hh).1,?_⟩;split at h
  .cases h
  .rename_i A0;simpa using A0
 .cases h
section
variable {H:Type} {enc:TypeId×Value->H} {P:Program} {w:World} {base:Nat} {sp:Nat->Bool} {held:Bool}
end
end Go.Am
end
section
namespace Go.Am
open Go Go.ChangeShapes Go.WideShapes Go.RowKit
section
variable {H:Type} {enc:TypeId×Value->H} {P:Program} {w:World} {base:Nat} {sp:Nat->Bool} {held:Bool}
theorem Cf(V:laidOutB P=true){W A':World}(E:Below W.heap.size W A'):∀{ts:List TypeId}{vs:List Value}{I:List (DataW H)}{ps:List MemPlace},DataW.TrodAll enc P W 0 (λ_=>true) true ts vs I ps->
 (∀t∈ts,P.readableRec t=true/\t<P.types.size)->(∀x∈ps,x.block<W.heap.size)->DataW.TrodAll enc P A' 0 (λb=>decide (b<W.heap.size)) true ts vs I ps
 |[],[],[],_,h,_,_=>h
 |t::ts,v::vs,d::I,ps,h,A5,A9=>by
  obtain⟨p,q,M,A0,rfl⟩:=h;exact⟨p,q,Below.trod V (A5 t (by simp)).1 (A5 t (by simp)).2 M E (λx N=>A9 x (by simp[N])),Cf V E A0 (λt J=>A5 t (by simp[J])) (λx N=>A9 x (by simp[N])),rfl⟩
 |[],_::_,_,_,h,_,_=>by cases h
 |[],[],_::_,_,h,_,_=>by cases h
 |_::_,[],_,_,h,_,_=>by cases h
 |_::_,_::_,[],_,h,_,_=>by cases h
end
section
variable {P:Program} {n:Nat} {t:TypeId} {d:D}
def EF(P:Program)(n:Nat):List Field->List D->Prop
 |[],I=>I=[]
 |f::r,I=>∃y AA,typed P n f.type y/\EF P n r AA/\I=y.cells++AA
theorem IB:∀{fs:List Field}{Z:List D},Z.length=fs.length->(∀(i:Nat)(f:Field)(y:D),fs[i]?=some f->Z[i]?=some y->typed P n f.type y)->EF P n fs (Z.flatMap D.cells)
 |[],[],_,_=>rfl
 |f::fs,y::Z,h,AB=>⟨y,Z.flatMap D.cells,AB 0 f y rfl rfl,IB (by simpa using h) (λi f y M A0=>AB (i+1) f y (by simpa using M) (by simpa using A0)),by simp⟩
theorem Wy{k:IntKind}(J:P.underlying t=some (.int k))(h:typed P (n+1) t d):∃z,d=.int k z/\(Lit.int k z).wf=true:=by simpa only[typed,J]using h
theorem T9(J:P.underlying t=some .bool)(h:typed P (n+1) t d):∃b,d=.bool b:=by simpa only[typed,J]using h
theorem Oc(J:P.underlying t=some .string)(h:typed P (n+1) t d):∃s,d=.str s/\s.length<=maxLen:=by simpa only[typed,J]using h
theorem QG{e:TypeId}(J:P.underlying t=some (.slice e))(h:typed P (n+1) t d):∃xs,d=.list xs/\xs.length<=maxLen/\∀x∈xs,typed P n e x:=by simpa only[typed,J]using h
theorem Od{fs:Array Field}(J:P.underlying t=some (.struct fs))(h:typed P (n+1) t d):∃I,d=.agg I/\EF P n fs.toList I:=by
 simp only[typed,J]at h;obtain⟨Z,rfl,M,A0⟩:=h;exact⟨_,rfl,IB (by simpa using M) (λi f y AD AE=>A0 i f y (by simpa using AD) AE)⟩
end
def afw(X:Ctx):Bool:=
 (List.range X.P.funcs.size).all (λg=>match X.P.funcs[g]? with|some fn=>fn.name != "runtime.NumGoroutine" &&(match fn.body with|some c=>!((X.fp g).sites.all λk=>decide (100<=k))||fH X g fn.ntmps c|none=>true)|none=>true)&&X.P.follows .mixedOrders&&X.ov.isNone
def tO(X:Ctx)(g:FuncId)(h:List AV->Option AV):Prop:=iS X.P g=true/\∀(A1:List AV)(a:AV),h A1=some a->∀(φ:cj)(F:Nat->Prop)(w:World)(vs:Array Value),fG w F X.gl->(∀b,F b->b<w.heap.size)->A1.length=vs.size->
 (∀(i:Nat) x v,A1[i]?=some x->vs[i]?=some v->aG φ w F x v)->Calls X.P g vs w λe w'=>∃v,e=.returned v/\Below w.heap.size w w'/\aG φ w' F a v
def tO.lift{X:Ctx}{g:FuncId}{h:List D->Option D}(hh:iS X.P g=true/\∀(I:List D) (d:D),h I=some d->∀(F:Nat->Prop) (w:World) (vs:Array Value),fG w F X.gl->(∀b,F b->b<w.heap.size)->I.length=vs.size->
 (∀(i:Nat) x v,I[i]?=some x->vs[i]?=some v->aP w F x v)->Calls X.P g vs w λe w'=>∃v,e=.returned v/\Below w.heap.size w w'/\aP w' F d v):tO X g (qf h):=by
 refine⟨hh.1,λA1 a A2 φ F w vs AF AG V A6=>?_⟩;unfold qf at A2;cases A7:toDs A1 with
 |none=>rw[A7]at A2;cases A2
 |some I=>
  rw[A7]at A2;obtain⟨d,A8,rfl⟩:=aap.1 A2;have he:=toDs_eq A7;subst he;refine (hh.2 I d A8 F w vs AF AG (by simpa using V) (λi x v N A3=>?_)).mono ?_
  .have:=A6 i (.d x) v (by simp[N]) A3;cases this with|d _ _ h=>exact h
  .rintro e w' ⟨v,rfl,E,A3⟩;exact⟨v,rfl,E,.d _ _ A3⟩
def lA.of{X:Ctx}(h:afw X=true)(A4:∀g h,X.zT g=some h->tO X g h):lA X:=by
 simp only[afw,Ds,aaR,abo]at h;have key:∀(g:FuncId)(fn:Func),X.P.funcs[g]?=some fn->fn.name≠ "runtime.NumGoroutine" /\(match fn.body with|some c=>!((X.fp g).sites.all λk=>decide (100<=k))||fH X g fn.ntmps c|none=>true)=true:=by
  intro g fn O;have M:=h.1.1 g (aei.1 O).1;rw[O]at M;simpa using M
 refine⟨by simpa using h.2,λg fn O=>(key g fn O).1,λg fn c O E AH=>?_,h.1.2,A4⟩;have:=(key g fn O).2;rw[E]at this;have e:((X.fp g).sites.all λk=>decide (100<=k))=true:=aaR.2 λk U=>aep (AH k U);simpa [e]using this
def zw{α:Type}{f:α->D}:∀{xs:List D},(∀x∈xs,∃r,x=f r)->∃rs:List α,xs=rs.map f
 |[],_=>⟨[],rfl⟩
 |x::xs,h=>by
  obtain⟨r,rfl⟩:=h x (by simp);obtain⟨rs,rfl⟩:=zw (xs:=xs) (λy AI=>h y (by simp[AI]));exact⟨r::rs,rfl⟩
def fr0:Fr:=⟨λ_=>False,[]⟩
def Wz{X:Ctx}(AJ:lA X){f:FuncId}{b:Bool}{xs:List D}(AK:ak X f (xs.map .d) []=some (.ret (.d (.bool b)),[])){W:World}{args:Array Value}(V:xs.length=args.size)
 (A6:∀(i:Nat) x v,xs[i]?=some x->args[i]?=some v->aP W (λ_=>False) x v) (O:fG W (λ_=>False) X.gl):
 Calls X.P f args W λe A'=>e=.returned (.bool b)/\Below W.heap.size W A':=by
 have h:=(YP AJ f _ _ _ _ AK).2;have AC:∀b,Fo fr0 (λ_=>none) (eB 0 []) b->False:=by
  intro b E;rcases E with E|⟨e,he,_⟩
  .exact E
  .simp[eB]at he
 refine (h (λ_=>none) fr0 W args ⟨by simp[eB],λk L AL=>by simp at AL,λe he=>by simp[eB]at he,λe he=>by simp[eB]at he,λb ⟨e,he,_⟩=>by simp[eB]at he,λb E=>E.elim⟩
  (O.mono (λ_ _ _=>rfl) (aak _) (λb _ E=>AC b E)) (by simpa using V) (λi x v N A3=>?_)).mono ?_
 .simp only[aaV,aap]at N;obtain⟨d,A8,rfl⟩:=N;exact .d d v ((A6 i d v A8 A3).mono (λ_ _ _=>rfl) (aak _) (λb _ E=>AC b E))
 .rintro e A' ⟨φ',m',out,⟨rfl,rfl⟩,hm,U,A4⟩;refine⟨?_,U.os,U.tape,U.output,U.size,λk AM=>U.Cq k AM (λ⟨e,he,_⟩=>by simp[eB]at he)⟩;cases e with
  |returned v=>
   simp only[pL]at A4;cases A4 with
   |d x v h=>cases h;rfl
  |_=>exact A4.elim
section
variable {H:Type} {enc:TypeId×Value->H}
end
end Go.Am
end
section
namespace Go.Am
open Go Go.ChangeShapes Go.WideShapes Go.RowKit
def DN(P:Program)(L:List TypeId):Bool:=L.all λt=>match P.underlying t with
 |some .bool|some (.int _)|some .string=>P.cellsOf t == 1
 |some (.slice e)=>P.cellsOf t == 1&&L.contains e&&decide (1<=P.cellsOf e)
 |some (.struct fs)=>EE P (λt=>L.contains t) fs.toList 0 (P.cellsOf t)
 |_=>false
def K0{P:Program}{L:List TypeId}{t:TypeId}(h:DN P L=true)(D:L.contains t=true):(match P.underlying t with
 |some .bool|some (.int _)|some .string=>P.cellsOf t == 1
 |some (.slice e)=>P.cellsOf t == 1&&L.contains e&&decide (1<=P.cellsOf e)
 |some (.struct fs)=>EE P (λt=>L.contains t) fs.toList 0 (P.cellsOf t)
 |_=>false)=true:=aaR.1 h t (by simpa using D)
section
variable {H:Type} {enc:TypeId×Value->H} {P:Program} {w:World} {base:Nat} {sp:Nat->Bool} {held:Bool}
end
section
variable {H:Type} {enc:TypeId×Value->H}
end
end Go.Am
end
section
namespace Go.Am
open Go Go.ChangeShapes Go.WideShapes Go.RowKit
mutual
def eH:D->Nat
 | .str s=>s.length+1
 | .list xs=>b8 xs+1
 | .agg cs=>b8 cs+1
 |_=>1
def b8:List D->Nat
 |[]=>0
 |x::r=>eH x+b8 r
end
mutual
def jC{H:Type}:DataW H->Nat
 | .lit (.string bytes)=>bytes.length+1
 | .slice elems _=>iE elems+1
 | .agg parts=>iE parts+1
 |_=>1
def iE{H:Type}:List (DataW H)->Nat
 |[]=>0
 |d::r=>jC d+iE r
end
def sY:∀l r:List D,b8 (l++r)=b8 l+b8 r
 |[],r=>by simp[b8]
 |x::l,r=>by simp[b8,sY l r,aaX]
def Ua(x:D):b8 x.cells<=eH x:=by
 cases x<;>simp[D.cells,b8,eH]
def afx(x:D):1<=eH x:=by cases x<;>simp[eH]
def oF:∀l:List D,l.length<=b8 l
 |[]=>by simp
 |x::r=>by have:=oF r;have:=afx x;simp only[b8,aao];omega
def Oe:∀{l:List D}{x:D},x∈l->eH x<=b8 l
 |y::r,x,h=>by
  rcases aam.1 h with rfl|h
  .simp only[b8];omega
  .have:=Oe h;simp only[b8];omega
def Rp{H:Type}:∀(l:List D)(N:List (DataW H)),l.length=N.length->(∀(i:Nat) x d,l[i]?=some x->N[i]?=some d->eH x<=jC d)->b8 l<=iE N
 |[],[],_,_=>aak _
 |x::l,d::N,h,hi=>by
  have O:=hi 0 x d rfl rfl;have A3:=Rp l N (by simpa using h) (λi y e V he=>hi (i+1) y e (by simpa using V) (by simpa using he));simp only[b8,iE];omega
 |[],_::_,h,_=>by simp at h
 |_::_,[],h,_=>by simp at h
def Cg{H:Type}{P:Program}{w:World}{F:Nat->Prop}{n:Nat}{cs:List Value}{ok:TypeId->Bool}:∀(fs:List Field)(ws:List (DataW H))(o:Nat),EE P ok fs o cs.length=true->ws.length=fs.length->
 (∀(i:Nat) f e,fs[i]?=some f->ws[i]?=some e->ok f.type=true->∃d,typed P n f.type d/\Reads w F d ((cs.drop f.offset).take (P.cellsOf f.type))/\d.cells.length=P.cellsOf f.type/\eH d<=jC e)->
 ∃A':List D,A'.length=fs.length/\(∀(i:Nat)(f:Field)(y:D),fs[i]?=some f->A'[i]?=some y->typed P n f.type y)/\o<=cs.length/\Reads w F (.agg (A'.flatMap D.cells)) (cs.drop o)/\b8 (A'.flatMap D.cells)<=iE ws
 |[],[],o,E,_,_=>by
  simp only[EE,beq_iff_eq]at E;subst E;exact⟨[],rfl,λi f y A1=>by simp at A1,aak _,⟨by simp[D.cells],by simp,λi c u O=>by simp[D.cells]at O⟩,by simp[b8,iE]⟩
 |f::r,e::ws,o,E,hw,A1=>by
  simp only[EE,Ds,beq_iff_eq]at E;obtain⟨⟨rfl,AG⟩,AH⟩:=E;obtain⟨A',O,A3,U,M,A4⟩:=Cg r ws _ AH (by simpa using hw) (λi AI e' hi he=>A1 (i+1) AI e' (by simpa using hi) (by simpa using he));obtain⟨d,A0,A7,A5,A9⟩:=A1 0 f e rfl rfl AG;refine⟨d::A',by simp[O],λi AI y hi V=>?_,by omega,?_,?_⟩
  .cases i with
   |zero=>simp at hi V;subst hi;subst V;exact A0
   |succ i=>simp at hi V;exact A3 i AI y hi V
  .have Ad:cs.drop f.offset=(cs.drop f.offset).take (P.cellsOf f.type)++cs.drop (f.offset+P.cellsOf f.type):=by
    rw[<-List.drop_drop,amL]
   obtain⟨AU,a2,a3⟩:=A7;obtain⟨Ae,Af,Ag⟩:=M;have Ah:(D.agg ((d::A').flatMap D.cells)).cells=d.cells++(D.agg (A'.flatMap D.cells)).cells:=by simp[D.cells]
   rw[Ad];unfold Reads;rw[Ah];refine⟨by simp only[aal,AU,Ae],λu hu=>?_,λi c u A6 hu=>?_⟩
   .rcases aaA.1 hu with hu|hu
    .exact a2 u hu
    .exact Af u hu
   .by_cases hi:i<d.cells.length
    .rw[aaC hi]at A6;rw[aaC (by omega)]at hu;exact a3 i c u A6 hu
    .rw[aaJ (by omega)]at A6;rw[aaJ (by omega)]at hu;rw[<-AU]at hu;exact Ag _ c u A6 hu
  .have A6:=Ua d;simp only[List.flatMap_cons,sY,iE];omega
 |[],_::_,_,_,h,_=>by simp at h
 |_::_,[],_,_,h,_=>by simp at h
section
variable {H:Type} {enc:TypeId×Value->H} {P:Program} {w:World} {base:Nat} {sp:Nat->Bool} {held:Bool}
theorem BD{L:List TypeId}(A2:DN P L=true):∀(m:Nat)(t:TypeId)(cs:List Value)(x:DataW H×List MemPlace),L.contains t=true->DataW.trod enc P w base sp held m t cs=some x->
 ∃d,typed P (m+1) t d/\Reads w (λ_=>False) d cs/\d.cells.length=P.cellsOf t/\eH d<=jC x.1
 |m,t,cs,x,I,J=>by
  have I:=K0 A2 I;simp only[typed];cases E:P.underlying t with
  |none=>rw[E]at I;cases I
  |some u=>
   rw[E]at I;cases u with
   |bool=>
    obtain⟨b,rfl,rfl⟩:=DataW.trod_bool E J;exact⟨.bool b,⟨b,rfl⟩,Reads.one (.bool b) rfl rfl,by simp at I;simp[D.cells,I],by simp[eH,jC]⟩
   |int k=>
    obtain⟨z,rfl,rfl,hw⟩:=DataW.trod_int E J;exact⟨.int k z,⟨z,rfl,hw⟩,Reads.one (.int k z) rfl rfl,by simp at I;simp[D.cells,I],by simp[eH,jC]⟩
   |string=>
    obtain⟨s,rfl,rfl,hw⟩:=DataW.trod_string E J;exact⟨.str s.data.toList,⟨_,rfl,by simpa using hw⟩,Reads.one (.str s _ rfl) rfl rfl,by simp at I;simp[D.cells,I],by simp[eH,jC]⟩
   |slice e=>
    simp only[Ds,beq_iff_eq,aaw]at I;obtain⟨⟨O,A3⟩,U⟩:=I;rcases DataW.trod_slice E J with ⟨rfl,rfl⟩|⟨a,len,cap,elems,rest,m',rfl,rfl,rfl,AJ,Ai,B4,B5,AC,_⟩
    .exact⟨.list [],⟨[],rfl,by simp,by simp⟩,Reads.one (.nil none 0 (λ_=>rfl)) rfl rfl,by simp[D.cells,O],by simp[eH,b8,jC]⟩
    .have A8:∀i,∃p:D×Value,i<len->typed P (m'+1) e p.1/\aP w (λ_=>False) p.1 p.2/\p.1.size=P.cellsOf e/\a.block<w.heap.size/\a.spot=none/\
      (∀j c,p.2.cells[j]?=some c->w.cell? ⟨a.block,a.off+i*P.cellsOf e+j,none⟩=some c)/\∀q,elems[i]?=some q->eH p.1<=jC q.1:=by
      intro i;by_cases hi:i<len
      .have M:=AC i hi;have A4:∃y,elems[i]?=some y:=⟨elems[i]'(by omega),by simp[show i<elems.length by omega]⟩
       obtain⟨y,V⟩:=A4;rw[V]at M;simp only[ai8]at M;obtain⟨AK,Aj,Ak⟩:=M;obtain⟨d,A0,A7,A5,A9⟩:=BD A2 m' e AK y A3 Ak;obtain⟨g1,g2⟩:=IA Aj;have g3:a.block<w.heap.size/\a.spot=none:=by
        have AL:∃i0,i0<len/\i0=0:=⟨0,by omega,rfl⟩;have AM:=AC 0 (by omega);have Al:∃y,elems[0]?=some y:=⟨elems[0]'(by omega),by simp[show 0<elems.length by omega]⟩
        obtain⟨B6,An⟩:=Al;rw[An]at AM;simp only[ai8]at AM;obtain⟨AN,Ao,_⟩:=AM;obtain⟨B7,Ap⟩:=IA Ao;have AD:=Ap 0 (by omega);have AE:∃c,AN[0]?=some c:=⟨AN[0]'(by omega),by simp[show 0<AN.length by omega]⟩
        obtain⟨c,A6⟩:=AE;rw[A6]at AD;have AF:=Gx AD;simpa [Addr.add]using AF
       refine⟨⟨d,shaped d AK⟩,λ_=>⟨A0,A7.rel,by rw[<-D.hZ];exact A5,g3.1,g3.2,λj c AA=>?_,λq A8=>by rw[V]at A8;cases A8;exact A9⟩⟩;have AD:=A7.Ob;have AE:AK[j]?=some c:=by rw[<-AD];simpa using AA
       have Aq:j<P.cellsOf e:=by
        have:=(aai.1 AE).1;omega
       have AF:=g2 j Aq;obtain⟨AV,ao,AO⟩:=a;obtain rfl:AO=none:=g3.2;rw[add_add]at AF;rw[AF];exact AE
      .exact⟨⟨.bool false,undef⟩,λh=>absurd h hi⟩
     obtain⟨f,A1⟩:=Classical.axiomOfChoice A8;refine⟨.list ((List.range len).map λi=>(f i).1),⟨_,rfl,by simp;omega,λx J=>?_⟩,Reads.one ?_ rfl rfl,by simp[D.cells,O],?_⟩
     .simp only[aaD,abo]at J;obtain⟨i,hi,rfl⟩:=J;exact (A1 i hi).1
     .by_cases A5:len=0
      .subst A5;exact .nil (some a) cap (λh=>by cases h)
      .have AL:=A1 0 (by omega);obtain⟨AV,ao,AO⟩:=a;obtain rfl:AO=none:=AL.2.2.2.2.1;have AB:((List.range len).map λi=>(f i).1).length=len:=by simp
       have:=aP.list (w:=w) (F:=λ_=>False) ((List.range len).map λi=>(f i).1) AV ao cap (P.cellsOf e) (λi=>(f i).2) (by rw[AB];exact Ai) AL.2.2.2.1 (λh=>h)
        (λd A0=>by
         simp only[aaD,abo]at A0;obtain⟨i,hi,rfl⟩:=A0;exact (A1 i hi).2.2.1)
        (λi d A0=>by
         simp only[aaV,aap]at A0;obtain⟨B8,Ar,rfl⟩:=A0;have:=aai.1 Ar;obtain⟨AW,AX⟩:=this;simp at AW AX;subst AX;exact (A1 _ AW).2.1)
        (λi j c hi AA=>by
         rw[AB]at hi;exact (A1 i hi).2.2.2.2.2.1 j c AA)
       rw[AB]at this;exact this
     .simp only[eH,jC];refine Nat.succ_le_succ (Rp _ _ (by simp;omega) λi x d J A0=>?_);simp only[aaV,aap]at J A0;obtain⟨j,AA,rfl⟩:=J;obtain⟨q,A8,rfl⟩:=A0;obtain⟨AY,AZ⟩:=aai.1 AA;simp at AY AZ;subst AZ;exact (A1 i AY).2.2.2.2.2.2 q A8
   |struct fs=>
    obtain⟨xs,m',rfl,rfl,A5,As,AC⟩:=DataW.trod_struct E J;simp only at I;rw[<-A5]at I;obtain⟨A',O,A3,_,M,A4⟩:=Cg (n:=m'+1) (w:=w) (F:=λ_=>False) fs.toList (xs.map (·.1)) 0 I (by simpa using As) (λi f e hi he AG=>by
     simp only[aaV,aap]at he;obtain⟨y,V,rfl⟩:=he;have A4:=AC i f (by simpa using hi);rw[V]at A4;exact BD A2 m' f.type _ y AG A4)
    refine⟨.agg (A'.flatMap D.cells),⟨A',rfl,by simpa using O,λi f y hi V=>A3 i f y (by simpa using hi) V⟩,by simpa using M,?_,?_⟩
    .have:=M.1;rw[this];simpa using A5
    .simp only[eH,jC];omega
   |_=>cases I
theorem Za{L:List TypeId}(A2:DN P L=true){t:TypeId}{v:Value}{d:DataW H}{ps:List MemPlace}{b0:Nat}(I:L.contains t=true)(Z:Value.okWide P w .any b0 t v)(h:DataW.Trod enc P w base sp held t v d ps):
 ∃n x,typed P n t x/\aP w (λ_=>False) x v/\eH x<=jC d:=by
 obtain⟨m,hm⟩:=h;obtain⟨x,J,A7,_,A9⟩:=BD A2 m t _ _ I hm;refine⟨m+1,x,J,?_,A9⟩;have O:=A7.rel
 .have I:=K0 A2 I;simp only[typed]at J;cases E:P.underlying t with
  |none=>rw[E]at I;cases I
  |some u=>
   rw[E]at I J;cases u with
   |bool=>obtain⟨b,rfl⟩:=okWide_bool E Z;obtain⟨y,rfl⟩:=J;exact O
   |int k=>obtain⟨b,rfl⟩:=okWide_int E Z;obtain⟨y,rfl,_⟩:=J;exact O
   |string=>obtain⟨b,rfl⟩:=okWide_string E Z;obtain⟨y,rfl,_⟩:=J;exact O
   |slice e=>obtain⟨a,len,cap,rfl⟩:=okWide_slice E Z;obtain⟨y,rfl,_⟩:=J;exact O
   |struct fs=>
    simp only[Value.okWide,E]at Z;obtain⟨cs,rfl,_⟩:=Z;obtain⟨A',rfl,_⟩:=J;simpa [shaped,Value.cells]using O
   |_=>cases I
theorem K1{L:List TypeId}(A2:DN P L=true){b0:Nat}:∀{ts:List TypeId}{vs:List Value}{N:List (DataW H)}{ps:List MemPlace},DataW.TrodAll enc P w base sp held ts vs N ps->(∀t∈ts,L.contains t=true)->
 (∀(j:Nat) t v,ts[j]?=some t->vs[j]?=some v->Value.okWide P w .any b0 t v)->
 ∃xs:List D,xs.length=vs.length/\xs.length=ts.length/\(∀(i:Nat) t x,ts[i]?=some t->xs[i]?=some x->∃n,typed P n t x)/\(∀(i:Nat) x v,xs[i]?=some x->vs[i]?=some v->aP w (λ_=>False) x v)/\b8 xs<=iE N
 |[],[],[],_,_,_,_=>⟨[],rfl,rfl,λi t x h=>by simp at h,λi x v h=>by simp at h,by simp[b8,iE]⟩
 |t::ts,v::vs,d::N,ps,h,I,Z=>by
  obtain⟨p,q,O,A3,_⟩:=h;obtain⟨n,x,J,AH,A9⟩:=Za A2 (I t (by simp)) (Z 0 t v rfl rfl) O;obtain⟨xs,g1,g2,g3,g4,g5⟩:=K1 A2 A3 (λt E=>I t (by simp[E])) (λj t v U M=>Z (j+1) t v (by simpa using U) (by simpa using M));refine⟨x::xs,by simp[g1],by simp[g2],λi At AP U M=>?_,λi AP Au U M=>?_,by simp only[b8,iE];omega⟩
  .cases i with
   |zero=>simp at U M;subst U;subst M;exact⟨n,J⟩
   |succ i=>simp at U M;exact g3 i At AP U M
  .cases i with
   |zero=>simp at U M;subst U;subst M;exact AH
   |succ i=>simp at U M;exact g4 i AP Au U M
 |[],_::_,_,_,h,_,_=>by cases h
 |[],[],_::_,_,h,_,_=>by cases h
 |_::_,[],_,_,h,_,_=>by cases h
 |_::_,_::_,[],_,h,_,_=>by cases h
end
section
variable {H:Type} {enc:TypeId×Value->H}
theorem LM{X:Ctx}(Av:lA X){f:FuncId}{fn:Func}{s:ChangeSpec}{apart fresh handsOn:Bool}{L:List TypeId}{tb:TypeId}(A2:DN X.P L=true)
 (Aw:laidOutB X.P=true) (AQ:(fn.params.toList.all λt=>X.P.readableRec t&&decide (t<X.P.types.size)&&L.contains t)=true)
 (Ax:fn.resultTypes=#[tb]) (Ay:X.P.underlying tb=some .bool) (A_:s.vars=[])
 (Az:∀N:List (DataW H),N.length=fn.params.size->s.fn H N={results:=[.lit (.bool true)],args:=N})
 {W:World} {base:Nat} {args:Array Value} {N gs:List (DataW H)} {before:List MemPlace}
 (B':∀(j:Nat) t v,fn.params[j]?=some t->args[j]?=some v->Value.okWide X.P W .any base t v)
 (Aa:DataW.Whole enc X.P fn.params.toList s.vars apart W args.toList N gs before) (B0:fG W (λ_=>False) X.gl)
 (B2:∀xs:List D,xs.length=fn.params.size->(∀(i:Nat) t x,fn.params[i]?=some t->xs[i]?=some x->∃n,typed X.P n t x)->b8 xs<=iE N->ak X f (xs.map .d) []=some (.ret (.d (.bool true)),[])):
 Calls X.P f args W λe Ab=>∃v,e=.returned v/\s.post enc X.P fn apart fresh handsOn false W args v Ab:=by
 have Ac:=Aa;obtain⟨p,q,AR,AS,rfl,B9,BA⟩:=Aa;rw[A_]at AS;obtain⟨rfl,rfl⟩:gs=[]/\q=[]:=by
  cases gs with
  |nil=>exact⟨rfl,AS⟩
  |cons g r=>exact absurd AS (by intro h;cases h)
 simp only[aaR,Ds,aaw]at AQ;obtain⟨xs,O,A3,U,M,A4⟩:=K1 A2 (b0:=base) AR (λt E=>(AQ t E).2) (λj t v E Z=>B' j t v (by simpa using E) (by simpa using Z));have AB:=trodAll_length AR;refine (Wz Av (B2 xs (by simpa using A3) (λi t x E J=>U i t x (by simpa using E) J) A4) (by simpa using O) (λi x v J Z=>M i x v J (by simpa using Z)) B0).mono ?_;rintro e Ab ⟨rfl,AJ⟩;have B3:∀x∈p,x.block<W.heap.size:=λx J=>by simpa using Ac.lt x (by simpa using J)
 have AT:s.fn H (N++[])={results:=[.lit (.bool true)],args:=N}:=by
  rw[aee];exact Az N (by simpa using AB.2)
 refine⟨_,rfl,N,[],p++[],[],p,[],Ac,?_,?_,?_,AJ.frame _,λh=>by cases h⟩
 .rw[AT,Ax];exact trodAll_mk1 (shut_bool Ay true)
 .rw[AT];exact Cf Aw AJ AR (λt E=>(AQ t E).1) B3
 .rw[AT,A_];rfl
end
end Go.Am
end
section
namespace Go.Am
open Go
set_option maxRecDepth 100000
set_option maxHeartbeats 8000000
section
variable {E D α β:Type}
def PR.le(r H:PR E D α):Prop:=r=.out\/r=H
theorem PR.le.refl(r:PR E D α):r.le r:=.inr rfl
theorem PR.le.out(r:PR E D α):PR.le .out r:=.inl rfl
theorem PR.le.bind{r H:PR E D α}{k I:α->D->PR E D β}(h:r.le H)(M:∀a s,(k a s).le (I a s)):(r.bind k).le (H.bind I):=by
 rcases h with h|h
 .subst h;exact .inl rfl
 .subst h;cases r with
  |ok a s=>exact M a s
  |bad e s=>exact .inr rfl
  |out=>exact .inl rfl
theorem PR.le.el{r H:PR E D α}{J:Type}{f:α->D->Option J}{g:E->D->Option J}(h:r.le H):Le (r.el f g) (H.el f g):=by
 rcases h with h|h
 .subst h;exact Le.none
 .subst h;exact Le.refl _
end
section
variable (L:List gn)
structure avr(f g:Nat):Prop where
 level:∀n s,(xg L f n s).le (xg L g n s)
 loop:∀n x s,(DK L f n x s).le (DK L g n x s)
 unary:∀s,(Ac L f s).le (Ac L g s)
 unop:∀op t s,(Iu L f op t s).le (Iu L g op t s)
 expr:∀s,(nb L f s).le (nb L g s)
 index:∀s,(Ae L f s).le (Ae L g s)
 IC:∀s,(Ad L f s).le (Ad L g s)
structure avt(f g:Nat):Prop where
 block:∀w s,(pU L f w s).le (pU L g w s)
 Af:∀w l s,(Af L f w l s).le (Af L g w l s)
 stmt:∀s,(EC L f s).le (EC L g s)
 eY:∀s,(Iw L f s).le (Iw L g s)
 BE:∀s,(uz L f s).le (uz L g s)
 oD:∀c l s,(oD L f c l s).le (oD L g c l s)
 cases:∀s,(DL L f s).le (DL L g s)
 xj:∀v c l s,(xj L f v c l s).le (xj L g v c l s)
 Bz:∀l s,(Bz L f l s).le (Bz L g l s)
 EG:∀s,(xh L f s).le (xh L g s)
 call:∀n s,(Ix L f n s).le (Ix L g n s)
 BA:∀n c l s,(BA L f n c l s).le (BA L g n c l s)
end
section
variable {α β:Type}
def Tr(r:PM α)(Q:α->PS->Prop):Prop:=match r with
 | .ok a s=>Q a s
 | .bad e _=>1<=e.line/\e.e≠0
 | .out=>False
theorem Tr.bind{r:PM α}{k:α->PS->PM β}{Q:α->PS->Prop}{E:β->PS->Prop}(h:Tr r Q)(H:∀a s,Q a s->Tr (k a s) E):Tr (r.bind k) E:=by
 cases r with
 |ok a s=>exact H a s h
 |bad e s=>exact h
 |out=>exact h.elim
theorem Tr.mono{r:PM α}{Q E:α->PS->Prop}(h:Tr r Q)(H:∀a s,Q a s->E a s):Tr r E:=by
 cases r with
 |ok a s=>exact H a s h
 |bad e s=>exact h
 |out=>exact h.elim
theorem Tr.ok{a:α}{s:PS}{Q:α->PS->Prop}(h:Q a s):Tr (.ok a s) Q:=h
end
structure OkL(L:List gn):Prop where
 ends:∀(i:Nat)(t:gn),L[i]?=some t->(t.kind=0↔i+1=L.length)
 line:∀(i:Nat)(t:gn),L[i]?=some t->1<=t.line
 len:L.length<=49999
structure Iv(L:List gn)(s:PS):Prop where
 at_:s.at_<L.length
 d0:0<=s.deep
 d1:s.deep<=32
 vs:s.vars.length<=64
structure Fw(L:List gn)(s D:PS):Prop where
 iv:Iv L D
 deep:D.deep=s.deep
 vars:D.vars=s.vars
 at_:s.at_<=D.at_
structure Fs(L:List gn)(s D:PS):Prop extends Fw L s D where
 lt:s.at_<D.at_
def Fw.refl{L s}(h:Iv L s):Fw L s s:=⟨h,rfl,rfl,aak _⟩
def Fw.trans{L s s1 s2}(h:Fw L s s1)(k:Fw L s1 s2):Fw L s s2:=⟨k.iv,k.deep.trans h.deep,k.vars.trans h.vars,ajf h.at_ k.at_⟩
def Fs.trans{L s s1 s2}(h:Fs L s s1)(k:Fw L s1 s2):Fs L s s2:=⟨h.toFw.trans k,afO h.lt k.at_⟩
section
variable {L:List gn} (I:OkL L)
include I
structure Dn(L:List gn)(s D:PS):Prop where
 iv:Iv L D
 deep:D.deep=s.deep+1
 vars:D.vars=s.vars
 at_:D.at_=s.at_
structure Fv(L:List gn)(s D:PS):Prop where
 iv:Iv L D
 deep:D.deep=s.deep
 at_:s.at_<=D.at_
structure avu(L:List gn)(f:Nat):Prop where
 level:∀(n:Nat)(s:PS),n<=6->Iv L s->20*(L.length-s.at_)+(10-n)<=f->Tr (xg L f n s) λ_ D=>Fs L s D
 loop:∀(n:Nat)(x:Ex)(s:PS),n<6->Iv L s->20*(L.length-s.at_)+1<=f->Tr (DK L f n x s) λ_ D=>Fw L s D
 unary:∀s:PS,Iv L s->20*(L.length-s.at_)+3<=f->Tr (Ac L f s) λ_ D=>Fs L s D
 unop:∀(op:Int)(t:gn)(s:PS),Iv L s->L[s.at_]?=some t->t.kind≠0->20*(L.length-s.at_)+2<=f->Tr (Iu L f op t s) λ_ D=>Fs L s D
 expr:∀s:PS,Iv L s->20*(L.length-s.at_)+11<=f->Tr (nb L f s) λ_ D=>Fs L s D
 index:∀s:PS,Iv L s->20*(L.length-s.at_)+1<=f->Tr (Ae L f s) λ_ D=>Fs L s D
 IC:∀s:PS,Iv L s->20*(L.length-s.at_)+2<=f->Tr (Ad L f s) λ_ D=>Fs L s D
end
section
variable {L:List gn} (H:OkL L)
include H
structure avv(L:List gn)(f:Nat):Prop where
 block:∀(ws:List Tx)(s:PS),Iv L s->20*(L.length-s.at_)+19<=f->Tr (pU L f ws s) λ_ D=>Fw L s D
 loop:∀(ws:List Tx)(l:List Sm)(s:PS),Iv L s->l.length<=s.at_->20*(L.length-s.at_)+18<=f->Tr (Af L f ws l s) λ_ D=>Fw L s D
 stmt:∀s:PS,Iv L s->20*(L.length-s.at_)+17<=f->Tr (EC L f s) λ_ D=>Fs L s D
 eY:∀s:PS,Iv L s->20*(L.length-s.at_)+16<=f->Tr (Iw L f s) λ_ D=>Fs L s D
 BE:∀s:PS,Iv L s->20*(L.length-s.at_)+15<=f->Tr (uz L f s) λ_ D=>Fs L s D
 oD:∀(c:List Ex)(l:List (List Sm))(s:PS),Iv L s->c.length<=s.at_->l.length<=s.at_->20*(L.length-s.at_)+14<=f->Tr (oD L f c l s) λ_ D=>Fs L s D
 cases:∀s:PS,Iv L s->20*(L.length-s.at_)+15<=f->Tr (DL L f s) λ_ D=>Fs L s D
 xj:∀(v:Ex)(c:List (List Int))(l:List (List Sm))(s:PS),Iv L s->c.length<=s.at_->l.length<=s.at_->20*(L.length-s.at_)+14<=f->Tr (xj L f v c l s) λ_ D=>Fs L s D
 Bz:∀(l:List Sm)(s:PS),Iv L s->l.length<=s.at_->20*(L.length-s.at_)+18<=f->Tr (Bz L f l s) λ_ D=>Fw L s D
 EG:∀s:PS,Iv L s->20*(L.length-s.at_)+15<=f->Tr (xh L f s) λ_ D=>Fs L s D
 call:∀(E:Tx)(s:PS),Iv L s->20*(L.length-s.at_)+15<=f->Tr (Ix L f E s) λ_ D=>Fs L s D
 BA:∀(E:Tx)(c:List Tx)(l:List Ex)(s:PS),Iv L s->c.length<=s.at_->l.length<=s.at_->20*(L.length-s.at_)+14<=f->Tr (BA L f E c l s) λ_ D=>Fs L s D
end
abbrev afA:=Option (Out×List (Nat×aE))
def afB(c:Prop)[Decidable c](a b:Bool)(l:List (Nat×aE)):(if c then (some (Out.ret (.d (.bool a)),l):afA)else some (Out.ret (.d (.bool b)),l))=some (Out.ret (.d (.bool (if c then a else b))),l):=by split<;>rfl
def Zb(a b:Bool)(l:List (Nat×aE)):(some (Out.ret (.d (.bool a)),l):afA)=some (Out.ret (.d (.bool b)),l)↔(a=true↔b=true):=by
 cases a<;>cases b<;>simp
def DO(n:Int):Int:=IntKind.i64.wrap (-n)
def en(x:Ex):Option (Int×Bool):=
 if bO x=1 then some (il x,false)
 else if bO x=2 then some (il x,true)
 else if bO x=6 then (match da x with
  |[y]=>if bO y=1 then some (DO (il y),false)else none
  |_=>none)
 else none
def kP:List Ex->Option (List (Int×Bool))
 |[]=>some []
 |x::r=>match en x with
  |some p=>(match kP r with
   |some l=>some (p::l)
   |none=>none)
  |none=>none
def jX(n:Int)(t:Bool)(line:Int):Ex:=
 if t=true then .mk 2 n [] [] [] line
 else if 0<=n then .mk 1 n [] [] [] line
 else .mk 6 0 [] [] [.mk 1 (DO n) [] [] [] line] line
def Fy(op:Int):List (Int×Bool)->Option (Int×Bool×Int)
 |[a]=>some (mC op a.1 a.2)
 |[a,b]=>if a.2=b.2 then some (nZ op a.1 b.1 a.2)else none
 |_=>none
def im(x:Ex):Ex:=
 if bO x<6\/(en x).isSome then x
 else match kP (da x)with
  |none=>x
  |some l=>match Fy (bO x) l with
   |none=>x
   |some r=>if r.2.2≠0\/(r.2.1=false/\r.1= -9223372036854775808)then x else jX r.1 r.2.1 (jH x)
mutual
def cC:Ex->Ex
 | .mk op n name field sub line=>im (.mk op n name field (cx sub) line)
def cx:List Ex->List Ex
 |[]=>[]
 |x::r=>cC x::cx r
end
def j6:∀l:List Ex,cx l=l.map cC
 |[]=>rfl
 |x::r=>by simp[cx,j6 r]
mutual
def pY:Sm->Sm
 | .mk op name to val conds D fields blocks line=>.mk op name (cC to) (cC val) (cx conds) D fields (gS blocks) line
def cy:List Sm->List Sm
 |[]=>[]
 |x::r=>pY x::cy r
def gS:List (List Sm)->List (List Sm)
 |[]=>[]
 |b::r=>cy b::gS r
end
def WA(p:Pg):Pg:=⟨p.name,p.vars,cy p.body⟩
def so:Vr:=⟨[],0,0,false,0,0,0,0⟩
def lX:List Vr->Tx->Int->Int×Vr
 |[],_,_=>(0,so)
 |v::r,s,n=>if v.name=s then (n,v)else lX r s (n+bR v)
def bA(vs:List Vr)(s:Tx):Int×Vr:=lX vs s 0
def bH:List Vr->Int
 |[]=>0
 |v::r=>bR v+bH r
def rM:List Pn->Tx->Nat->Option (Nat×Pn)
 |[],_,_=>none
 |p::r,s,i=>if p.name=s then some (i,p)else rM r s (i+1)
def kU:Pn:=⟨[],0,false⟩
def fL(vs:List Vr)(s f:Tx):Int×Pn:=
 if (bk vs s).isSome=true/\2<(bA vs s).2.ty/\f≠[]then
  (match rM (eI (bA vs s).2.ty) f 0 with
   |some (i,p)=>((bA vs s).1+i,p)
   |none=>(0,kU))
 else (0,kU)
def iK(k:Nat)(x:ax):ax:=if (x.op=9\/x.op=10)/\0<=x.a then {x with a:=x.a+k} else x
def dK(k:Nat)(l:List ax):List ax:=l.map (iK k)
def jn(a b:List ax):List ax:=a++dK a.length b
def kg(to:Int)(x:ax):ax:=if x.op=9/\x.a= -1 then {x with a:=to} else x
def vh(to:Int)(x:ax):ax:=if x.op=9/\x.a= -2 then {x with a:=to} else x
def ins(op a b n m:Int):ax:=⟨op,a,b,n,m⟩
mutual
def aj(vs:List Vr):Ex->List ax×Bool
 | .mk op n name field sub _=>
  if op=1\/op=2 then ([ins 1 0 0 n 0],decide (op=2))
  else if op=3 then ([ins (1+(bA vs name).2.ty) (bA vs name).1 0 0 0],decide ((bA vs name).2.ty=2))
  else if op=5 then ([ins (1+(fL vs name field).2.ty) (fL vs name field).1 0 0 0],decide ((fL vs name field).2.ty=2))
  else if op=4 then (pE vs sub++[ins (3+(bA vs name).2.ty) (bA vs name).1 0 (bA vs name).2.lo (bA vs name).2.hi],decide ((bA vs name).2.ty=2))
  else ((gd vs sub).1++[ins 8 (if (gd vs sub).2=true then 1 else 0) op 0 0],decide (op=7\/12<op))
def gd(vs:List Vr):List Ex->List ax×Bool
 |[]=>([],false)
 |[x]=>aj vs x
 |x::r=>((aj vs x).1++(gd vs r).1,(gd vs r).2)
def pE(vs:List Vr):List Ex->List ax
 |[]=>[]
 |x::_=>(aj vs x).1
end
mutual
def az(h:Int):Ex->Int
 | .mk op _ _ _ sub _=>if op=1\/op=2\/op=3\/op=5 then h+1 else max (h+1) (fE h sub)
def fE(h:Int):List Ex->Int
 |[]=>0
 |x::r=>max (az h x) (fE (h+1) r)
end
def ck:List (List ax)->List (List ax)->List ax
 |_,[]=>[]
 |[],b::r=>if r=[]then b else jn (b++[ins 9 (b.length+1+(ck [] r).length) 0 0 0]) (ck [] r)
 |t::ts,b::r=>
  let out:=ck ts r
  let part:=if r=[]then b else b++[ins 9 (b.length+1+out.length) 0 0 0]
  jn (t++[ins 10 (t.length+1+part.length) 0 0 0]++dK (t.length+1) part) out
def cK(cell:Int):List Int->List ax
 |a::b::r=>ins 14 cell 0 a b::ins 8 1 21 0 0::cK cell r
 |_=>[]
def cV(vs:List Vr)(name:Tx):List Tx->List Ex->List ax
 |f::fs,x::xs=>(aj vs x).1++ins 6 (fL vs name f).1 0 0 0::cV vs name fs xs
 |_,_=>[]
def qo(l:List ax):List ax:=l.map (kg l.length)
def ig(t b:List ax):List ax:=qo (ins 11 0 0 0 0::t++[ins 10 (t.length+3+b.length) 0 0 0]++dK (t.length+2) b++[ins 9 0 0 0 0])
def lP(t b:List ax):List ax:=qo (b++ins 11 0 0 0 0::t++[ins 10 0 0 0 0])
def jI(at_ cell:Int)(b:List ax):List ax:=
 qo ([ins 11 0 0 0 0,ins 13 at_ cell 0 0,ins 10 (b.length+8) 0 0 0]++dK 3 b++[ins 2 at_ 0 0 0,ins 2 (cell+1) 0 0 0,ins 8 0 8 0 0,ins 6 at_ 0 0 0,ins 9 0 0 0 0])
mutual
def b6(vs:List Vr):Sm->Int->List ax×Int
 | .mk op name to val conds D fields blocks _,c=>
  if op=1 then
   (if bO to=3 then (aj vs val).1++[ins 6 (bA vs (dI to)).1 0 0 0]
    else pE vs (da to)++((aj vs val).1++[ins 7 (bA vs (dI to)).1 0 (bA vs (dI to)).2.lo (bA vs (dI to)).2.hi]),c)
  else if op=2 then (ck (conds.map λx=>(aj vs x).1) (ay vs blocks c).1,(ay vs blocks c).2)
  else if op=3 then (jn ((aj vs val).1++[ins 6 c 0 0 0]) (ck (D.map λl=>ins 1 0 0 0 0::cK c l) (ay vs blocks (c+1)).1),(ay vs blocks (c+1)).2)
  else if op=4 then (jn ((gd vs conds).1++[ins 6 (c+1) 0 0 0,ins 6 c 0 0 0,ins 6 (bA vs name).1 0 0 0]) (jI (bA vs name).1 c (lR vs blocks (c+2)).1),(lR vs blocks (c+2)).2)
  else if op=5 then (ig (aj vs val).1 (lR vs blocks c).1,(lR vs blocks c).2)
  else if op=6 then (lP (aj vs val).1 (lR vs blocks c).1,(lR vs blocks c).2)
  else if op=7 then ([ins 9 (-1) 0 0 0],c)
  else if op=8 then ([ins 9 (-2) 0 0 0],c)
  else (cV vs name fields conds++[ins 12 (bA vs name).1 (bA vs name).2.ty 0 0],c)
def ah(vs:List Vr):List Sm->Int->List ax×Int
 |[],c=>([],c)
 |x::r,c=>(jn (jn [ins 11 0 0 0 0] (b6 vs x c).1) (ah vs r (b6 vs x c).2).1,(ah vs r (b6 vs x c).2).2)
def ay(vs:List Vr):List (List Sm)->Int->List (List ax)×Int
 |[],c=>([],c)
 |b::r,c=>((ah vs b c).1::(ay vs r (ah vs b c).2).1,(ay vs r (ah vs b c).2).2)
def lR(vs:List Vr):List (List Sm)->Int->List ax×Int
 |[],c=>([],c)
 |b::_,c=>ah vs b c
end
def eL:List Ex->Int
 |[]=>0
 |x::r=>max (az 0 x) (eL r)
mutual
def dN:Sm->Int
 | .mk op _ to val conds D _ blocks _=>
  if op=1 then (if bO to=3 then az 0 val else max (fE 0 (da to)) (az 1 val))
  else if op=2 then max (eL conds) (bz blocks)
  else if op=3 then max (az 0 val) (max (if D=[]then 0 else 2) (bz blocks))
  else if op=4 then max (max (fE 0 conds) 3) (bz blocks)
  else if op=5\/op=6 then max (az 0 val) (bz blocks)
  else if op=7\/op=8 then 0
  else eL conds
def aM:List Sm->Int
 |[]=>0
 |x::r=>max (dN x) (aM r)
def bz:List (List Sm)->Int
 |[]=>0
 |b::r=>max (aM b) (bz r)
end
def sZ(p:Pg):Option (List ax×Int×Int):=
 let g:=ah p.vars (cy p.body) (bH p.vars)
 if 4096<g.1.length+1\/64<aM (cy p.body)then none
 else some (g.1.map (vh g.1.length)++[ins 15 0 0 0 0],bH p.vars,g.2)
@[simp] def nI(k:Nat)(l:List ax):(dK k l).length=l.length:=by simp[dK]
@[simp] def qp(l:List ax):(qo l).length=l.length:=by simp[qo]
def cv(a b:List ax):(jn a b).length=a.length+b.length:=by simp[jn]
def ID(k:Nat)(x:ax):(iK k x).op=x.op:=by unfold iK;split<;>rfl
def Og(k:Int)(x:ax):(kg k x).op=x.op:=by unfold kg;split<;>rfl
def akl(x:ax):iK 0 x=x:=by unfold iK;split<;>simp
def abT(a b:Nat)(x:ax):iK a (iK b x)=iK (a+b) x:=by
 unfold iK;by_cases h:(x.op=9\/x.op=10)/\0<=x.a
 .rw[aav h,aav h,aav ⟨h.1,by simp only;omega⟩];simp only[ax.mk.injEq,amD,and_true];omega
 .rw[aaf h,aaf h,aaf h]
def abU(a b:Nat)(l:List ax):dK a (dK b l)=dK (a+b) l:=by
 unfold dK;rw[List.map_map];congr 1;funext x;exact abT a b x
def abV(k:Nat)(a b:List ax):dK k (a++b)=dK k a++dK k b:=by simp[dK]
def Oh(a b c:List ax):jn (jn a b) c=jn a (jn b c):=by
 unfold jn;rw[abV,abU,adX];simp
def WB(a:List ax):jn a []=a:=by simp[jn,dK]
def Ai(a:List ax):jn [] a=a:=by
 unfold jn dK;simp only[aay,aba];conv=>rhs;rw[<-List.map_id a]
 congr 1;funext x;exact akl x
def lS(vs:List Vr)(x:Sm)(c:Int):List ax:=jn [ins 11 0 0 0 0] (b6 vs x c).1
def Gy(vs:List Vr)(x:Sm)(c:Int):(lS vs x c).length=(b6 vs x c).1.length+1:=by unfold lS;rw[cv];simp;omega
mutual
def eU:Ex->Bool
 | .mk _ n _ _ sub _=>decide (-9223372036854775808<=n/\n<=9223372036854775807)&&eu sub
def eu:List Ex->Bool
 |[]=>true
 |x::r=>eU x&&eu r
end
def JI(n:Int):Bool:=decide (-9223372036854775808<=n/\n<=9223372036854775807)
mutual
def oG:Sm->Bool
 | .mk _ _ to val conds D _ blocks _=>eU to&&(eU val&&(eu conds&&(D.all (λl=>l.all JI)&&gU blocks)))
def jD:List Sm->Bool
 |[]=>true
 |x::r=>oG x&&jD r
def gU:List (List Sm)->Bool
 |[]=>true
 |b::r=>jD b&&gU r
end
def WC{n:Int}(h: -9223372036854775808<n/\n<=9223372036854775807):DO n= -n:=by
 unfold DO;simp only[IntKind.wrap,IntKind.bits,IntKind.signed];simp;omega
def afC(b:Bool):ei b=0\/ei b=1:=by cases b<;>simp[ei]
def Rq(r:Int×Bool×Int)(t:Bool):Prop:=r.2.2=0->r.2.1=t/\(t=true->r.1=0\/r.1=1)/\(-9223372036854775808<=r.1/\r.1<=9223372036854775807)
def Aj(t:Bool):Rq gC t:=λh=>by simp[gC]at h
def mG(b:Bool):Rq (ei b,true,0) true:=λ_=>by rcases afC b with h|h<;>simp[h]
def EH(z:Int):Rq (oA (gj z)) false:=by
 intro h;unfold oA gj at h⊢;split<;>simp_all;all_goals omega
def afD{a b:Int}(D: -9223372036854775808<=a/\a<=9223372036854775807)(h:¬(a= -9223372036854775808/\b= -1)): -9223372036854775808<=a.tdiv b/\a.tdiv b<=9223372036854775807:=by
 have J:(a.tdiv b).natAbs<=a.natAbs:=by rw[Int.natAbs_tdiv];exact ajn _ _
 by_cases hm:a= -9223372036854775808
 .by_cases E:b=1
  .subst E;simp only[Int.tdiv_one];omega
  .by_cases M:b=0
   .subst M;simp
   .have I:2<=b.natAbs:=by omega
    have N:(a.tdiv b).natAbs<=a.natAbs/2:=by rw[Int.natAbs_tdiv];exact Nat.div_le_div_left I (by omega)
    omega
 .omega
def afE{a b:Int}(D: -9223372036854775808<=a/\a<=9223372036854775807): -9223372036854775808<=a.tmod b/\a.tmod b<=9223372036854775807:=by
 have J:(a.tmod b).natAbs<=a.natAbs:=by rw[Int.natAbs_tmod];exact Nat.mod_le _ _
 have I:0<=a->0<=a.tmod b:=λh=>Int.tmod_nonneg _ h;have N:a<=0->a.tmod b<=0:=λh=>by
  have:=Int.tmod_nonneg (a:= -a) b (by omega);rw[Int.neg_tmod]at this;omega
 omega
def abW{a b:Int}(D: -9223372036854775808<=a/\a<=9223372036854775807):Rq (m9 (sV a b)) false:=by
 intro h;by_cases E:b=0
 .simp[m9,sV,E]at h
 .by_cases hm:a= -9223372036854775808/\b= -1
  .simp[m9,sV,hm]at h
  .have:=afD D hm;simp[m9,sV,E,hm,this]
def abX{a b:Int}(D: -9223372036854775808<=a/\a<=9223372036854775807):Rq (m9 (zu a b)) false:=by
 intro h;by_cases E:b=0
 .simp[m9,zu,E]at h
 .have:=afE (b:=b) D;simp[m9,zu,E,this]
def afF(op:Int):Prop:=op=6\/(8<=op/\op<=12)\/(15<=op/\op<=18)
instance (op:Int):Decidable (afF op):=inferInstanceAs (Decidable (_\/_))
def afG{op:Int}{l:List (Int×Bool)}{r:Int×Bool×Int}(h:Fy op l=some r)(H:∀p∈l, -9223372036854775808<=p.1/\p.1<=9223372036854775807):
 Rq r (!decide (op=6\/(8<=op/\op<=12))):=by
 unfold Fy at h;split at h
 .rename_i a;cases h;have D:=H a (by simp);unfold mC;split
  .split
   .exact Aj _
   .split
    .rename_i O;subst O;exact mG _
    .exact Aj _
  .split
   .rename_i U;subst U;exact EH _
   .exact Aj _
 .rename_i a b;have D:=H a (by simp);have E:=H b (by simp);split at h
  .cases h;unfold nZ;split
   .split
    .exact Aj _
    .unfold Gu;split
     .rename_i e;subst e;exact mG _
     .split
      .rename_i e;have:(!decide (op=6\/(8<=op/\op<=12)))=true:=by simp;omega
       rw[this];exact mG _
      .split
       .rename_i e;subst e;exact mG _
       .split
        .rename_i e;subst e;exact mG _
        .exact Aj _
   .unfold DE;split
    .rename_i e;subst e;exact EH _
    .split
     .rename_i e;subst e;exact EH _
     .split
      .rename_i e;subst e;exact EH _
      .split
       .rename_i e;subst e;exact abW D
       .split
        .rename_i e;subst e;exact abX D
        .split
         .rename_i e;subst e;exact mG _
         .split
          .rename_i e;subst e;exact mG _
          .split
           .rename_i e;subst e;exact mG _
           .split
            .rename_i e;subst e;exact mG _
            .split
             .rename_i e;subst e;exact mG _
             .split
              .rename_i e;subst e;exact mG _
              .exact Aj _
  .cases h
 .cases h
def Kp(vs:List Vr)(x y:Ex):Prop:=bE y=true/\eU y=true/\aJ vs y=aJ vs x/\jH y=jH x
def Oi{vs:List Vr}{y:Ex}{p:Int×Bool}(h:en y=some p)(I:bE y=true)(H:eU y=true)(he:(aJ vs y).e=0):
 aJ vs y=fO (if p.2=true then 2 else 1)/\(-9223372036854775808<=p.1/\p.1<=9223372036854775807):=by
 obtain⟨op,n,name,field,sub,line⟩:=y;simp only[eU,Ds,aaw]at H;by_cases J:op=1
 .simp only[en,pV,Ag,J,ad1,aaT]at h;subst h;simp[aJ,J,H.1]
 .by_cases U:op=2
  .simp only[en,pV,Ag,J,U,abc,ad1,aaT,Int.reduceEq]at h;subst h;simp[aJ,U,H.1]
  .by_cases V:op=6
   .simp only[en,pV,Ag,pW,V,abc,ad1,Int.reduceEq]at h;split at h
    .rename_i z;split at h
     .rename_i A1;cases h;obtain⟨AG,A2,AH,AI,AJ,AK⟩:=z;simp only[pV]at A1;subst A1 V;simp only[eu,eU,amN,Ds,aaw]at H;have A8:0<=A2:=by
       simp[bE,bY,dW]at I;omega
      have M:=WC (n:=A2) ⟨by omega,by omega⟩;refine⟨?_,?_⟩
      .simp[aJ,vg,cI,fO,iw,iW]
      .simp only[Ag,M];omega
     .cases h
    .cases h
   .simp only[en,pV,J,U,V,abc]at h;cases h
def Rr:∀{l:List Ex}{ps:List (Int×Bool)},kP l=some ps->ps.length=l.length/\∀(i:Nat) y p,l[i]?=some y->ps[i]?=some p->en y=some p
 |[],ps,h=>by simp only[kP]at h;cases h;exact⟨rfl,λi y p h=>by simp at h⟩
 |x::r,ps,h=>by
  simp only[kP]at h;split at h
  .rename_i p Z;split at h
   .rename_i l H;cases h;obtain⟨i1,i2⟩:=Rr H;refine⟨by simp[i1],λi y q D N=>?_⟩;cases i with
    |zero=>simp at D N;subst D N;exact Z
    |succ i=>simp at D N;exact i2 i y q D N
   .cases h
  .cases h
def abY(vs:List Vr){n:Int}{t:Bool}{line:Int}(h:t=true->n=0\/n=1)(hi: -9223372036854775808<=n/\n<=9223372036854775807)(hm:¬(t=false/\n= -9223372036854775808)):
 bE (jX n t line)=true/\eU (jX n t line)=true/\aJ vs (jX n t line)=fO (if t=true then 2 else 1)/\jH (jX n t line)=line:=by
 unfold jX;cases t with
 |true=>
  have:=h rfl;refine⟨?_,?_,?_,?_⟩
  .simp[bE,bY,dW];omega
  .simp[eU,eu];omega
  .simp[aJ]
  .simp
 |false=>
  simp only[aeC,abc];split
  .rename_i A9;refine⟨?_,?_,?_,?_⟩
   .simp[bE,bY,dW];omega
   .simp[eU,eu];omega
   .simp[aJ]
   .simp
  .rename_i A9;have A8:n≠ -9223372036854775808:=λe=>hm ⟨rfl,e⟩;have M:=WC (n:=n) ⟨by omega,by omega⟩;refine⟨?_,?_,?_,?_⟩
   .simp[bE,bY,dW,M];omega
   .simp[eU,eu,M];omega
   .simp[aJ,vg,cI,fO,iw,iW]
   .simp
def afH{vs:List Vr}{x:Ex}(I:bE x=true)(H:eU x=true)(he:(aJ vs x).e=0):Kp vs x (im x):=by
 have self:Kp vs x x:=⟨I,H,rfl,rfl⟩;unfold im;split
 .exact self
 .rename_i A3;split
  .exact self
  .rename_i l A4;split
   .exact self
   .rename_i r A5;split
    .exact self
    .rename_i A';simp only[amG,Int.not_lt]at A3 A';obtain⟨op,n,name,field,sub,line⟩:=x;simp only[pV,pW,Wp]at A3 A4 A5⊢;obtain⟨AL,AA⟩:=Rr A4;have A6:=I;simp only[bE,Ds,aaw]at A6;obtain⟨_,E,_,_,AB⟩:=A6;have A7:=H;simp only[eU,Ds]at A7;have AC:∀y∈sub,eU y=true:=by
      have:∀l:List Ex,eu l=true->∀y∈l,eU y=true:=by
       intro l;induction l with
       |nil=>intro _ y D;simp at D
       |cons z l ih=>
        intro h y D;simp only[eu,Ds]at h;rcases aam.1 D with rfl|D
        .exact h.1
        .exact ih h.2 y D
      exact this sub A7.2
     have A0:aJ vs (.mk op n name field sub line)=vg vs op line sub:=by
      unfold aJ;rw[aaf (by omega),aaf (by omega)]
     have AD:∀y∈sub,bE y=true:=(gT sub).1 AB;have AE:∀y∈sub,(aJ vs y).e=0:=by
      rw[A0]at he;intro y D;match sub,D,he,E with
      |[a],D,he,_=>
       simp at D;subst D;exact (jq he).1
      |[a,b],D,he,_=>
       simp at D;rcases D with rfl|rfl
       .exact (jq he).1
       .exact (jq he).2.1
      |a::b::c::d,D,he,E=>
       exfalso;simp only[dW]at E;split at E
       .simp at E
       .split at E<;>simp at E
     have AF:∀p∈l, -9223372036854775808<=p.1/\p.1<=9223372036854775807:=by
      intro p Z;obtain⟨i,hi⟩:=amS Z;have AM:=(aai.1 hi).1;have D:∃y,sub[i]?=some y:=⟨sub[i]'(by omega),by simp[show i<sub.length by omega]⟩
      obtain⟨y,D⟩:=D;have hm:=aaz D;exact (Oi (AA i y p D hi) (AD y hm) (AC y hm) (AE y hm)).2
     obtain⟨q1,q2,q3⟩:=afG A5 AF (by simpa using A'.1);have O:=abY vs (n:=r.1) (t:=r.2.1) (line:=line) (by rw[q1];exact q2) q3 (λh=>A'.2 h);refine⟨O.1,O.2.1,?_,by rw[O.2.2.2];rfl⟩;rw[O.2.2.1,q1,A0];rw[A0]at he;have key:vg vs op line sub=fO (iW op):=by
      match sub,he,E with
      |[a],he,_=>exact (jq he).2.2.2.2
      |[a,b],he,_=>exact (jq he).2.2.2.2
      |[],he,E=>
       exfalso;simp only[dW,aay]at E;split at E
       .simp at E
       .split at E
        .simp at E
        .omega
      |a::b::c::d,he,E=>
       exfalso;simp only[dW]at E;split at E
       .simp at E
       .split at E<;>simp at E
     rw[key];unfold iW;by_cases h:op=6\/(8<=op/\op<=12)<;>simp[h]
def EI{op n:Int}{name field:Tx}{sub:List Ex}{line:Int}(h:bE (.mk op n name field sub line)=true):sub.length=dW op/\bY sub=true:=by
 simp only[bE,Ds,aaw]at h;exact⟨h.2.1,h.2.2.2.2⟩
def JJ{vs:List Vr}{op n:Int}{name field:Tx}{sub:List Ex}{line:Int}(H:bE (.mk op n name field sub line)=true)(he:(aJ vs (.mk op n name field sub line)).e=0):∀y∈sub,(aJ vs y).e=0:=by
 obtain⟨E,_⟩:=EI H;intro y D;unfold aJ at he;by_cases V:op=1\/op=2
 .have M:sub=[]:=aaB (by rw[E];unfold dW;rcases V with h|h<;>subst h<;>decide);subst M;simp at D
 .rw[aaf V]at he;by_cases Z:op=3\/op=4\/op=5
  .rw[aav Z]at he;by_cases A1:op=4
   .subst A1;obtain⟨z,rfl⟩:∃z,sub=[z]:=by
     match sub,E with
     |[z],_=>exact⟨z,rfl⟩
     |[],h=>simp[dW]at h
     |_::_::_,h=>simp[dW]at h
    simp at D;subst D;split at he
    .simp[cW]at he
    .rw[aaf (by decide)]at he;split at he
     .simp[cW]at he
     .rw[aav rfl]at he;simp only[Ah]at he;by_cases I:(aJ vs y).e=0
      .exact I
      .rw[aav I]at he;exact absurd he I
   .have M:sub=[]:=aaB (by rw[E];unfold dW;rw[aaf (by omega),aaf (by omega)]);subst M;simp at D
  .rw[aaf Z]at he;match sub,D,he,E with
   |[a],D,he,_=>
    simp at D;subst D;exact (jq he).1
   |[a,b],D,he,_=>
    simp at D;rcases D with rfl|rfl
    .exact (jq he).1
    .exact (jq he).2.1
   |a::b::c::d,D,he,E=>
    exfalso;simp only[dW]at E;split at E
    .simp at E
    .split at E<;>simp at E
def abZ{op n:Int}{name field:Tx}{sub:List Ex}{line:Int}(h:eU (.mk op n name field sub line)=true):(-9223372036854775808<=n/\n<=9223372036854775807)/\eu sub=true:=by
 simp only[eU,Ds,aaw]at h;exact h
def qM:∀l:List Ex,eu l=true↔∀x∈l,eU x=true
 |[]=>by simp[eu]
 |x::r=>by simp[eu,qM r]
section
variable {vs:List Vr}
theorem ab0{op n:Int}{name field:Tx}{sub J:List Ex}{line:Int}(O:J.length=sub.length)(h:∀(i:Nat) x y,sub[i]?=some x->J[i]?=some y->aJ vs y=aJ vs x/\jH y=jH x):
 aJ vs (.mk op n name field J line)=aJ vs (.mk op n name field sub line):=by
 unfold aJ;have A2:∀t,Ah vs t J=Ah vs t sub:=by
  intro t;match sub,J,O,h with
  |[],[],_,_=>rfl
  |x::r,y::q,_,h=>
   obtain⟨N,U⟩:=h 0 x y rfl rfl;simp only[Ah,N,U]
 have A3:vg vs op line J=vg vs op line sub:=by
  match sub,J,O,h with
  |[],[],_,_=>rfl
  |[x],[y],_,h=>
   obtain⟨N,U⟩:=h 0 x y rfl rfl;simp only[vg,N]
  |x::A4::r,y::A5::q,_,h=>
   obtain⟨N,_⟩:=h 0 x y rfl rfl;obtain⟨U,_⟩:=h 1 A4 A5 rfl rfl;simp only[vg,N,U]
 rw[A3];simp only[A2]
theorem BF:∀x:Ex,bE x=true->eU x=true->(aJ vs x).e=0->Kp vs x (cC x)
 | .mk op n name field sub line,H,O,he=>by
  obtain⟨f1,f2⟩:=EI H;obtain⟨A6,A7⟩:=abZ O;have M:=JJ H he;have ih:∀y∈sub,Kp vs y (cC y):=λy D=>BF y ((gT sub).1 f2 y D) ((qM sub).1 A7 y D) (M y D);have E:(cx sub).length=sub.length:=by rw[j6];simp
  have A8:bE (.mk op n name field (cx sub) line)=true:=by
   have A9:bY (cx sub)=true:=by
    rw[gT,j6];intro y D;obtain⟨z,I,rfl⟩:=aaD.1 D;exact (ih z I).1
   simp only[bE,Ds]at H⊢;refine⟨H.1,?_,H.2.2.1,H.2.2.2.1,A9⟩;rw[E];exact H.2.1
  have AA:eU (.mk op n name field (cx sub) line)=true:=by
   simp only[eU,Ds,aaw];refine⟨A6,?_⟩;rw[qM,j6];intro y D;obtain⟨z,I,rfl⟩:=aaD.1 D;exact (ih z I).2.1
  have A':aJ vs (.mk op n name field (cx sub) line)=aJ vs (.mk op n name field sub line):=by
   refine ab0 E λi x y A0 D=>?_;rw[j6,aaV,A0]at D;cases D;have:=ih x (aaz A0);exact this.2.2
  have:=afH (vs:=vs) A8 AA (by rw[A'];exact he);obtain⟨AB,AC,AD,AE⟩:=this;exact⟨AB,AC,AD.trans A',AE⟩
termination_by x=>SizeOf.sizeOf x
decreasing_by all_goals (simp_wf;have:=amM D;omega)
end
def b9{a b:EL}:(fu a b).1=0↔a.1=0/\b.1=0:=by
 unfold fu;by_cases h:a.1=0
 .rw[aaf (λM=>M h)];simp[h]
 .rw[aav h];simp[h]
def qN{vs:List Vr}{x:Ex}{t:Int}:(dP vs x t).1=0↔(aJ vs x).e=0/\(aJ vs x).t=t:=by
 unfold dP;by_cases h:(aJ vs x).e=0
 .rw[aaf (λM=>M h)];by_cases E:(aJ vs x).t=t
  .rw[aaf (λM=>M E)];simp[h,E]
  .rw[aav E];simp[E]
 .rw[aav h];simp[h]
def Rt{x:Ex}(h:ek x=true):cC x=x:=by
 obtain⟨op,n,name,field,sub,line⟩:=x;simp only[ek,pV,Ag,DM,N8,pW,Ds]at h;obtain⟨H,E,J⟩:=h;have H:op=0:=aa6 H;have J:=aa6 J;have Z:sub=[]:=aaB (by omega);subst H Z;simp[cC,cx,im]
def afI{op n:Int}{name field:Tx}{sub:List Ex}{line:Int}(h:op<6):cC (.mk op n name field sub line)=.mk op n name field (cx sub) line:=by
 show im _=_;unfold im;rw[aav (.inl (by simpa using h))]
section
variable {vs:List Vr}
theorem vV{x:Ex}{t:Int}(I:bE x=true)(D:eU x=true)(h:(dP vs x t).1=0):bE (cC x)=true/\eU (cC x)=true/\(dP vs (cC x) t).1=0:=by
 obtain⟨H,E⟩:=qN.1 h;obtain⟨A1,A2,A3,_⟩:=BF x I D H;exact⟨A1,A2,qN.2 (by rw[A3];exact⟨H,E⟩)⟩
theorem Oj{t:Int}:∀l:List Ex,bY l=true->eu l=true->(mF vs t l).1=0->bY (cx l)=true/\eu (cx l)=true/\(mF vs t (cx l)).1=0
 |[],_,_,_=>⟨rfl,rfl,rfl⟩
 |x::r,I,D,h=>by
  simp only[bY,eu,Ds]at I D;obtain⟨H,E⟩:=b9.1 h;obtain⟨N,a2,a3⟩:=vV I.1 D.1 H;obtain⟨O,U,V⟩:=Oj r I.2 D.2 E;simp only[cx,bY,eu,Ds];exact⟨⟨N,O⟩,⟨a2,U⟩,b9.2 ⟨a3,V⟩⟩
theorem Rv{k line:Int}:∀(fs:List Tx)(xs:List Ex)(p:List Tx),xs.length=fs.length->bY xs=true->eu xs=true->(jW vs k line fs xs p).1=0->bY (cx xs)=true/\eu (cx xs)=true/\(jW vs k line fs (cx xs) p).1=0
 |[],[],p,_,_,_,_=>⟨rfl,rfl,rfl⟩
 |f::fs,x::xs,p,A4,I,D,h=>by
  simp only[bY,eu,Ds]at I D;unfold jW at h;simp only[cx,bY,eu,Ds];unfold jW;cases y:mE k f with
  |none=>rw[y]at h;simp at h
  |some q=>
   rw[y]at h;simp only at h⊢;split at h
   .simp at h
   .rename_i H;split at h
    .simp at h
    .rename_i E;obtain⟨J,A5⟩:=b9.1 h;obtain⟨N,a2,a3⟩:=vV I.1 D.1 J;obtain⟨O,U,V⟩:=Rv fs xs (p++[f]) (by simpa using A4) I.2 D.2 A5;rw[aaf H,aaf E];exact⟨⟨N,O⟩,⟨a2,U⟩,b9.2 ⟨a3,V⟩⟩
 |[],_::_,_,D,_,_,_=>by simp at D
 |_::_,[],_,D,_,_,_=>by simp at D
theorem Ok:∀l:List (List Sm),(gS l).length=l.length
 |[]=>rfl
 |b::r=>by simp[gS,Ok r]
theorem Zd(l:List Ex):(cx l).length=l.length:=by rw[j6];simp
theorem Ze{x:Ex}(h:bE x=true):ek x=false:=by
 obtain⟨op,n,name,field,sub,line⟩:=x;simp only[bE,Ds,afz,aeA]at h;have:op≠0:=by
  intro e;apply h.1;omega
 simp[ek,this]
theorem akm{to val:Ex}{line:Int}(J:bO to=3\/bO to=4)(f1:bE to=true)(f2:bE val=true)(A6:eU to=true)(A7:eU val=true)(h:(Iy vs to val line).1=0):
 (bE (cC to)=true/\bE (cC val)=true)/\(eU (cC to)=true/\eU (cC val)=true)/\(Iy vs (cC to) (cC val) line).1=0/\bO (cC to)=bO to:=by
 have A':cC to=.mk (bO to) (il to) (dI to) (fQ to) (cx (da to)) (jH to):=by
  obtain⟨op,n,name,field,sub,l⟩:=to;simp only[pV]at J;exact afI (by omega)
 have A8:dI (cC to)=dI to:=by rw[A'];rfl
 have A9:bO (cC to)=bO to:=by rw[A'];rfl
 unfold Iy at h⊢;rw[A8];cases A0:bk vs (dI to)with
 |none=>rw[A0]at h;simp at h
 |some v=>
  rw[A0]at h;simp only at h⊢;split at h
  .simp at h
  .rename_i Z;rw[aaf Z];obtain⟨q1,q2⟩:=b9.1 h;obtain⟨q2,q3⟩:=b9.1 q2;obtain⟨N,a2,a3,_⟩:=BF to f1 A6 q1;obtain⟨O,U,V,_⟩:=BF val f2 A7 q2;refine⟨⟨N,O⟩,⟨a2,U⟩,?_,A9⟩;rw[a3,V];exact h
end
section
variable {vs:List Vr}
mutual
theorem afJ(I:Bool):∀s:Sm,jr s=true->oG s=true->(kr vs I s).1=0->jr (pY s)=true/\oG (pY s)=true/\(kr vs I (pY s)).1=0
 | .mk op name to val conds U fields blocks line,J,H,h=>by
  simp only[jr,Ds,aaw]at J;obtain⟨AL,AM,A2,A4,AD,A',AN,AO,A6⟩:=J;simp only[oG,Ds]at H;obtain⟨AK,A7,AE,AP,A8⟩:=H
  --Ad Ae to be shown,from Af parts
  have fin:(if op=1 then decide (bO (cC to)=3\/bO (cC to)=4)&&bE (cC to)else ek (cC to))=true->
   (if op=1\/op=3\/op=5\/op=6 then !ek (cC val)&&bE (cC val)else ek (cC val))=true->bY (cx conds)=true->cA (gS blocks)=true->
   eU (cC to)=true->eU (cC val)=true->eu (cx conds)=true->gU (gS blocks)=true->
   (kr vs I (.mk op name (cC to) (cC val) (cx conds) U fields (gS blocks) line)).1=0->
   jr (pY (.mk op name to val conds U fields blocks line))=true/\oG (pY (.mk op name to val conds U fields blocks line))=true/\(kr vs I (pY (.mk op name to val conds U fields blocks line))).1=0:=by
   intro A0 a2 a3 a4 a5 AQ AR AS a9;simp only[pY,jr,oG,Ds,aaw,Zd,Ok];exact⟨⟨AL,AM,A0,a2,a3,A',AN,AO,a4⟩,⟨a5,AQ,AR,AP,AS⟩,a9⟩
  have AT:¬op=1->(if op=1 then decide (bO (cC to)=3\/bO (cC to)=4)&&bE (cC to)else ek (cC to))=true/\eU (cC to)=true:=by
   intro E;rw[aaf E]at A2⊢;rw[Rt A2];exact⟨A2,AK⟩
  have AF:¬(op=1\/op=3\/op=5\/op=6)->(if op=1\/op=3\/op=5\/op=6 then !ek (cC val)&&bE (cC val)else ek (cC val))=true/\eU (cC val)=true:=by
   intro E;rw[aaf E]at A4⊢;rw[Rt A4];exact⟨A4,A7⟩
  have vv:(op=1\/op=3\/op=5\/op=6)->bE (cC val)=true->(if op=1\/op=3\/op=5\/op=6 then !ek (cC val)&&bE (cC val)else ek (cC val))=true:=by
   intro E M;rw[aav E,Ze M,M];rfl
  have AB:(op=1\/op=3\/op=5\/op=6)->bE val=true:=by
   intro E;rw[aav E]at A4;simp only[Ds]at A4;exact A4.2
  unfold kr at h;by_cases E:op=1
  .subst E;rw[aav rfl]at h;have D:cQ 1 conds.length U.length fields.length blocks.length=true:=A';simp[cQ]at D;obtain⟨rfl,_,_,rfl⟩:=D;rw[aav rfl]at A2;simp only[Ds,aaw]at A2;obtain⟨⟨AU,AV⟩,⟨AW,AX⟩,AY,AZ⟩:=akm A2.1 A2.2 (AB (.inl rfl)) AK A7 h;refine fin (by rw[aav rfl,AZ,AU];simp[A2.1]) (vv (.inl rfl) AV) rfl rfl AW AX rfl rfl ?_;unfold kr;rw[aav rfl];exact AY
  .rw[aaf E]at h;obtain⟨t1,t2⟩:=AT E;by_cases M:op=2
   .subst M;rw[aav rfl]at h;have D:cQ 2 conds.length U.length fields.length blocks.length=true:=A';simp[cQ]at D;obtain⟨v1,v2⟩:=AF (by decide);obtain⟨V,Z,N,O,AG⟩:=IE I conds blocks AD AE A6 A8 (by omega) h;refine fin t1 v1 V N t2 v2 Z O ?_;unfold kr;rw[aaf E,aav rfl];exact AG
   .rw[aaf M]at h;by_cases A1:op=3
    .subst A1;rw[aav rfl]at h;have D:cQ 3 conds.length U.length fields.length blocks.length=true:=A';simp[cQ]at D;obtain⟨rfl,_⟩:=D;obtain⟨q1,q2⟩:=b9.1 h;obtain⟨v1,v2,v3⟩:=vV (AB (.inr (.inl rfl))) A7 q1;obtain⟨V,Z,N,O,AG⟩:=IE I [] blocks rfl rfl A6 A8 (by simp) q2;refine fin t1 (vv (.inr (.inl rfl)) v1) rfl N t2 v2 rfl O ?_;unfold kr;rw[aaf E,aaf M,aav rfl];exact b9.2 ⟨v3,AG⟩
    .rw[aaf A1]at h;by_cases A5:op=4
     .subst A5;rw[aav rfl]at h;have D:cQ 4 conds.length U.length fields.length blocks.length=true:=A';simp[cQ]at D;obtain⟨_,_,_,A9⟩:=D;obtain⟨v1,v2⟩:=AF (by decide);cases A3:bk vs name with
      |none=>rw[A3]at h;simp at h
      |some v=>
       rw[A3]at h;simp only at h;split at h
       .simp at h
       .rename_i g1;split at h
        .simp at h
        .rename_i g2;obtain⟨q1,q2⟩:=b9.1 h;obtain⟨V,Z,AH⟩:=Oj conds AD AE q1;obtain⟨N,O,y⟩:=On blocks A6 A8 A9 q2;refine fin t1 v1 V N t2 v2 Z O ?_;unfold kr;rw[aaf E,aaf M,aaf A1,aav rfl,A3];simp only
         rw[aaf g1,aaf g2];exact b9.2 ⟨AH,y⟩
     .rw[aaf A5]at h;by_cases AA:op=5
      .subst AA;rw[aav rfl]at h;have D:cQ 5 conds.length U.length fields.length blocks.length=true:=A';simp[cQ]at D;obtain⟨rfl,_,_,A9⟩:=D;obtain⟨q1,q2⟩:=b9.1 h;obtain⟨v1,v2,v3⟩:=vV (AB (.inr (.inr (.inl rfl)))) A7 q1;obtain⟨N,O,y⟩:=On blocks A6 A8 A9 q2;refine fin t1 (vv (.inr (.inr (.inl rfl))) v1) rfl N t2 v2 rfl O ?_;unfold kr;rw[aaf E,aaf M,aaf A1,aaf A5,aav rfl];exact b9.2 ⟨v3,y⟩
      .rw[aaf AA]at h;by_cases AC:op=6
       .subst AC;rw[aav rfl]at h;have D:cQ 6 conds.length U.length fields.length blocks.length=true:=A';simp[cQ]at D;obtain⟨rfl,_,_,A9⟩:=D;obtain⟨q1,q2⟩:=b9.1 h;obtain⟨v1,v2,v3⟩:=vV (AB (.inr (.inr (.inr rfl)))) A7 q2;obtain⟨N,O,y⟩:=On blocks A6 A8 A9 q1;refine fin t1 (vv (.inr (.inr (.inr rfl))) v1) rfl N t2 v2 rfl O ?_;unfold kr;rw[aaf E,aaf M,aaf A1,aaf A5,aaf AA,aav rfl];exact b9.2 ⟨y,v3⟩
       .rw[aaf AC]at h;obtain⟨v1,v2⟩:=AF (by omega);by_cases AI:op=7
        .subst AI;rw[aav rfl]at h;have D:cQ 7 conds.length U.length fields.length blocks.length=true:=A';simp[cQ]at D;obtain⟨rfl,_,_,rfl⟩:=D;refine fin t1 v1 rfl rfl t2 v2 rfl rfl ?_;unfold kr;rw[aaf E,aaf M,aaf A1,aaf A5,aaf AA,aaf AC,aav rfl];exact h
        .rw[aaf AI]at h;by_cases A_:op=9
         .subst A_;rw[aav rfl]at h;have D:cQ 9 conds.length U.length fields.length blocks.length=true:=A';simp[cQ]at D;obtain⟨Aa,_,rfl⟩:=D;cases A3:bk vs name with
          |none=>rw[A3]at h;simp at h
          |some v=>
           rw[A3]at h;simp only at h;split at h
           .simp at h
           .rename_i g1;obtain⟨V,Z,AH⟩:=Rv fields conds [] Aa AD AE h;refine fin t1 v1 V rfl t2 v2 Z rfl ?_;unfold kr;rw[aaf E,aaf M,aaf A1,aaf A5,aaf AA,aaf AC,aaf AI,aav rfl,A3];simp only
            rw[aaf g1];exact AH
         .have Ab:op=8:=by omega
          subst Ab;have D:cQ 8 conds.length U.length fields.length blocks.length=true:=A';simp[cQ]at D;obtain⟨rfl,_,_,rfl⟩:=D;refine fin t1 v1 rfl rfl t2 v2 rfl rfl ?_;unfold kr;simp
theorem s6(I:Bool):∀l:List Sm,eF l=true->jD l=true->(eK vs I l).1=0->eF (cy l)=true/\jD (cy l)=true/\(eK vs I (cy l)).1=0
 |[],_,_,_=>⟨rfl,rfl,rfl⟩
 |x::r,J,H,h=>by
  simp only[eF,jD,Ds]at J H;obtain⟨E,M⟩:=b9.1 h;obtain⟨A0,a2,a3⟩:=afJ I x J.1 H.1 E;obtain⟨N,O,y⟩:=s6 I r J.2 H.2 M;simp only[cy,eF,jD,Ds];exact⟨⟨A0,N⟩,⟨a2,O⟩,b9.2 ⟨a3,y⟩⟩
theorem IE(I:Bool):∀(cs:List Ex)(l:List (List Sm)),bY cs=true->eu cs=true->cA l=true->gU l=true->cs.length<=l.length->(eO vs I cs l).1=0->
 bY (cx cs)=true/\eu (cx cs)=true/\cA (gS l)=true/\gU (gS l)=true/\(eO vs I (cx cs) (gS l)).1=0
 |[],[],_,_,_,_,_,_=>⟨rfl,rfl,rfl,rfl,rfl⟩
 |[],b::r,V,Z,J,H,_,h=>by
  simp only[cA,gU,Ds]at J H;obtain⟨E,M⟩:=b9.1 h;obtain⟨A0,a2,a3⟩:=s6 I b J.1 H.1 E;obtain⟨_,_,N,O,y⟩:=IE I [] r rfl rfl J.2 H.2 (by simp) M;simp only[cx,gS,bY,eu,cA,gU,Ds];exact⟨trivial,trivial,⟨A0,N⟩,⟨a2,O⟩,b9.2 ⟨a3,y⟩⟩
 |c::cs,b::r,V,Z,J,H,AJ,h=>by
  simp only[cA,gU,Ds]at J H;simp only[bY,eu,Ds]at V Z;obtain⟨Ac,A1⟩:=b9.1 h;obtain⟨E,M⟩:=b9.1 A1;obtain⟨q1,q2,q3⟩:=vV V.1 Z.1 Ac;obtain⟨A0,a2,a3⟩:=s6 I b J.1 H.1 E;obtain⟨d1,d2,N,O,y⟩:=IE I cs r V.2 Z.2 J.2 H.2 (by simpa using AJ) M;simp only[cx,gS,bY,eu,cA,gU,Ds];exact⟨⟨q1,d1⟩,⟨q2,d2⟩,⟨A0,N⟩,⟨a2,O⟩,b9.2 ⟨q3,b9.2 ⟨a3,y⟩⟩⟩
 |_::_,[],_,_,_,_,AJ,_=>by simp at AJ
theorem On:∀(l:List (List Sm)),cA l=true->gU l=true->l.length=1->(yr vs l).1=0->cA (gS l)=true/\gU (gS l)=true/\(yr vs (gS l)).1=0
 |[b],J,H,_,h=>by
  simp only[cA,gU,amN]at J H;obtain⟨A0,a2,a3⟩:=s6 true b J H h;simp only[gS,cA,gU,amN];exact⟨A0,a2,a3⟩
 |[],_,_,H,_=>by simp at H
 |_::_::_,_,_,H,_=>by simp at H
end
end
inductive MC(vs:List Vr)(lp:Bool):Sm->Prop
 |WD {to val:Ex} {line:Int} {v:Vr} (D:bO to=3\/bO to=4) (O:bk vs (dI to)=some v) (V:¬v.sec=1) (ft:bE to=true) (AH:(aJ vs to).e=0) (A4:bE val=true) (AI:(aJ vs val).e=0) (h:(aJ vs val).t=(aJ vs to).t):MC vs lp (.mk 1 [] to val [] [] [] [] line)
 |Oo {to val:Ex} {conds:List Ex} {blocks:List (List Sm)} {line:Int} (D:ek to=true) (E:ek val=true) (A7:bY conds=true) (N:1<=conds.length) (I:conds.length<=blocks.length) (H:blocks.length<=conds.length+1) (A2:cA blocks=true) (h:(eO vs lp conds blocks).1=0):MC vs lp (.mk 2 [] to val conds [] [] blocks line)
 |WE {to val:Ex} {A1:List (List Int)} {blocks:List (List Sm)} {line:Int} (D:ek to=true) (A4:bE val=true) (A6:(dP vs val 1).1=0) (I:A1.length<=blocks.length) (H:blocks.length<=A1.length+1) (AJ:A1.all oE=true) (A2:cA blocks=true) (h:(eO vs lp [] blocks).1=0):MC vs lp (.mk 3 [] to val [] A1 [] blocks line)
 |WG {name:Tx} {to val x y z:Ex} {b:List Sm} {line:Int} {v:Vr} (A8:dz name=true) (D:ek to=true) (E:ek val=true) (O:bk vs name=some v) (V:¬v.sec=1) (A':v.arr=false) (A3:v.ty=1) (AK:bE x=true) (AL:(dP vs x 1).1=0) (AM:bE y=true) (AN:(dP vs y 1).1=0) (AO:bE z=true) (AP:(dP vs z 1).1=0) (A2:eF b=true) (h:(eK vs true b).1=0):MC vs lp (.mk 4 name to val [x,y,z] [] [] [b] line)
 |WH {to val:Ex} {b:List Sm} {line:Int} (D:ek to=true) (A4:bE val=true) (A6:(dP vs val 2).1=0) (A2:eF b=true) (h:(eK vs true b).1=0):MC vs lp (.mk 5 [] to val [] [] [] [b] line)
 |rep {to val:Ex} {b:List Sm} {line:Int} (D:ek to=true) (A4:bE val=true) (A6:(dP vs val 2).1=0) (A2:eF b=true) (h:(eK vs true b).1=0):MC vs lp (.mk 6 [] to val [] [] [] [b] line)
 |ext {to val:Ex} {line:Int} (D:ek to=true) (E:ek val=true) (h:lp=true):MC vs lp (.mk 7 [] to val [] [] [] [] line)
 |ret {to val:Ex} {line:Int} (D:ek to=true) (E:ek val=true):MC vs lp (.mk 8 [] to val [] [] [] [] line)
 |WI {name:Tx} {to val:Ex} {conds:List Ex} {fields:List Tx} {line:Int} {v:Vr} (A8:dz name=true) (D:ek to=true) (E:ek val=true) (O:bk vs name=some v) (A3:2<v.ty) (A7:bY conds=true) (AQ:conds.length=fields.length) (A5:fields.all dz=true) (h:(jW vs v.ty line fields conds []).1=0):MC vs lp (.mk 9 name to val conds [] fields [] line)
def xo{α:Type}{l:List α}(h:l.length=0):l=[]:=aaB h
def DQ{α:Type}{l:List α}(h:l.length=1):∃a,l=[a]:=by
 match l,h with
 |[a],_=>exact⟨a,rfl⟩
def aom{α:Type}{l:List α}(h:l.length=3):∃a b c,l=[a,b,c]:=by
 match l,h with
 |[a,b,c],_=>exact⟨a,b,c,rfl⟩
def Ub{vs:List Vr}{b:List Sm}(h:(yr vs [b]).1=0):(eK vs true b).1=0:=by simpa [yr]using h
def EJ{vs:List Vr}{lp:Bool}{x:Sm}(A5:jr x=true)(h:(kr vs lp x).1=0):MC vs lp x:=by
 obtain⟨op,name,to,val,conds,A1,fields,blocks,line⟩:=x;simp only[jr,Ds]at A5;obtain⟨A9,J,D,E,A0,M,AA,AB,Z⟩:=A5;simp only[aaw]at A9;unfold kr at h;have AC:op=1\/op=2\/op=3\/op=4\/op=5\/op=6\/op=7\/op=8\/op=9:=by omega
 rcases AC with rfl|rfl|rfl|rfl|rfl|rfl|rfl|rfl|rfl
 .simp[cQ]at J D E M h;obtain⟨rfl,rfl,rfl,rfl⟩:=M;subst J;unfold Iy at h;cases O:bk vs (dI to)with
  |none=>rw[O]at h;simp at h
  |some v=>
   rw[O]at h;simp only at h;by_cases V:v.sec=1
   .simp[V]at h
   .rw[aaf V]at h;obtain⟨N,I⟩:=b9.1 h;obtain⟨I,H⟩:=b9.1 I;refine .WD D.1 O V D.2 N E.2 I ?_;apply Classical.byContradiction;intro hh;rw[aav hh]at H;simp at H
 .simp[cQ]at J D E M h;obtain⟨N,I,H,U,AD⟩:=M;subst J I H;exact .Oo D E A0 (by omega) (by omega) (by omega) Z h
 .simp[cQ]at J D E M h;obtain⟨N,H,U,AD⟩:=M;subst J N H;obtain⟨g1,g2⟩:=b9.1 h;exact .WE D E.2 g1 (by omega) (by omega) AB Z g2
 .simp[cQ]at J D E M h;obtain⟨N,I,H,U⟩:=M;obtain⟨x,y,z,rfl⟩:=aom N;obtain⟨b,rfl⟩:=DQ U;subst I H;cases O:bk vs name with
  |none=>rw[O]at h;simp at h
  |some v=>
   rw[O]at h;simp only at h;by_cases V:v.sec=1
   .simp[V]at h
   .rw[aaf V]at h;by_cases A':v.arr=true\/¬v.ty=1
    .rw[aav A']at h;simp at h
    .rw[aaf A']at h;simp only[amG,Bool.not_eq_true,Classical.not_not]at A';obtain⟨g1,g2⟩:=b9.1 h;simp only[mF]at g1;obtain⟨AE,g1⟩:=b9.1 g1;obtain⟨AF,g1⟩:=b9.1 g1;obtain⟨AG,g1⟩:=b9.1 g1;simp only[bY,Ds]at A0;simp only[cA,Ds]at Z;exact .WG J D E O V A'.1 A'.2 A0.1 AE A0.2.1 AF A0.2.2.1 AG Z.1 (Ub g2)
 .simp[cQ]at J D E M h;obtain⟨N,I,H,U⟩:=M;obtain⟨b,rfl⟩:=DQ U;subst J N I H;obtain⟨g1,g2⟩:=b9.1 h;simp only[cA,Ds]at Z;exact .WH D E.2 g1 Z.1 (Ub g2)
 .simp[cQ]at J D E M h;obtain⟨N,I,H,U⟩:=M;obtain⟨b,rfl⟩:=DQ U;subst J N I H;obtain⟨g1,g2⟩:=b9.1 h;simp only[cA,Ds]at Z;exact .rep D E.2 g2 Z.1 (Ub g1)
 .simp[cQ]at J D E M h;obtain⟨N,I,H,U⟩:=M;subst J N I H U;refine .ext D E ?_;cases lp with
  |true=>rfl
  |false=>simp at h
 .simp[cQ]at J D E M h;obtain⟨N,I,H,U⟩:=M;subst J N I H U;exact .ret D E
 .simp[cQ]at J D E M h;obtain⟨N,I,H⟩:=M;subst I H;cases O:bk vs name with
  |none=>rw[O]at h;simp at h
  |some v=>
   rw[O]at h;simp only at h;by_cases A3:v.ty<=2
   .rw[aav A3]at h;simp at h
   .rw[aaf A3]at h;exact .WI J D E O (by omega) A0 N (aaR.2 (by simpa using AA)) h
def Bd(succ:Nat->List Nat):Nat->Nat->Prop
 |0,i=>succ i=[]
 |h+1,i=>∀j∈succ i,Bd succ h j
def Bd.succ{succ:Nat->List Nat}:∀{h i:Nat},Bd succ h i->Bd succ (h+1) i
 |0,i,D=>λj E=>by rw[show succ i=[]from D]at E;simp at E
 |h+1,i,D=>λj E=>(D j E).succ
def Bd.le{succ:Nat->List Nat}{h H i:Nat}(D:Bd succ h i)(I:h<=H):Bd succ H i:=by
 induction I with
 |refl=>exact D
 |step _ ih=>exact ih.succ
def iL(x:ax):Prop:=x.op=9\/x.op=10
instance (x:ax):Decidable (iL x):=inferInstanceAs (Decidable (_\/_))
structure Good(J:Int->Nat)(cells:Int)(l:List ax)(r:Nat->Nat)(st:Nat->List Bool):Prop where
 len:1<=l.length/\l.length<=4096
 last:∀x,l[l.length-1]?=some x->x.op=15
 form:∀(i:Nat) x,l[i]?=some x->fZ J cells ((l.length:Int)-1) i x=true
 st0:st 0=[]
 mv:∀(i:Nat) x,l[i]?=some x->dH x (st i)=some (st (i+1))
 led:∀(i:Nat) x,l[i]?=some x->iL x->st x.a.toNat=[]
 avx:∀(i:Nat) x,l[i]?=some x->x.op≠11->∀j∈akd l i,r j<r i
def Oq{s:Tx}{v:Vr}:∀{l:List Vr}{n:Int},bk l s=some v->(lX l s n).2=v
 |x::r,n,h=>by
  unfold bk at h;unfold lX;split at h
  .rename_i e;cases h;rw[aav e]
  .rename_i e;rw[aaf e];exact Oq h
def iX{vs:List Vr}{s:Tx}{v:Vr}(h:bk vs s=some v):(bA vs s).2=v:=Oq h
def K2{s:Tx}{v:Vr}:∀{l:List Vr}{n:Int},(∀v∈l,0<=bR v)->bk l s=some v->n<=(lX l s n).1/\(lX l s n).1+bR v<=n+bH l
 |x::r,n,I,h=>by
  have Z:=I x (by simp);have A':0<=bH r:=by
   have:∀l:List Vr,(∀v∈l,0<=bR v)->0<=bH l:=by
    intro l;induction l with
    |nil=>intro _;simp[bH]
    |cons y l ih=>intro h;have:=ih (λv H=>h v (by simp[H]));have:=h y (by simp);simp only[bH];omega
   exact this r (λv H=>I v (by simp[H]))
  unfold bk at h;unfold lX;simp only[bH];split at h
  .rename_i e;cases h;rw[aav e];simp only;omega
  .rename_i e;rw[aaf e];have:=K2 (n:=n+bR x) (λv H=>I v (by simp[H])) h;omega
def yw{vs:List Vr}{s:Tx}{v:Vr}(I:∀v∈vs,0<=bR v)(h:bk vs s=some v):0<=(bA vs s).1/\(bA vs s).1+bR v<=bH vs:=by
 have:=K2 (n:=0) I h;simp only[Int.zero_add]at this;exact this
def ab2:∀x∈Rl,∀p∈x.2,p.ty=1\/p.ty=2:=by decide
def K3{k:Int}{p:Pn}:∀{l:List (Int×List Pn)},p∈yp l k->∃x∈l,p∈x.2
 |(a,q)::r,h=>by
  unfold yp at h;split at h
  .exact⟨(a,q),by simp,h⟩
  .obtain⟨x,E,D⟩:=K3 h;exact⟨x,by simp[E],D⟩
def WJ{k:Int}{p:Pn}(h:p∈eI k):p.ty=1\/p.ty=2:=by
 obtain⟨x,E,D⟩:=K3 h;exact ab2 x E p D
def Ot{f:Tx}{p:Pn}:∀{l:List Pn}{i:Nat},BC l f=some p->f≠[]/\p∈l/\∃j,rM l f i=some (j,p)/\i<=j/\j<i+l.length
 |q::r,i,h=>by
  unfold BC at h;unfold rM;split at h
  .rename_i e;cases h;exact⟨e.2,by simp,i,by rw[aav e.1],by omega,by simp⟩
  .rename_i e;obtain⟨E,D,j,J,A0,N⟩:=Ot (i:=i+1) h;exact⟨E,by simp[D],j,by rw[aaf (λe'=>e ⟨e',E⟩)];exact J,by omega,by simp;omega⟩
def s7{vs:List Vr}{s f:Tx}{v:Vr}{p:Pn}(H:bk vs s=some v)(O:2<v.ty)(U:mE v.ty f=some p):
 (fL vs s f).2=p/\p∈eI v.ty/\∃j:Nat,(fL vs s f).1=(bA vs s).1+j/\j<(eI v.ty).length:=by
 obtain⟨E,D,j,J,_,N⟩:=Ot (i:=0) U;have V:=iX H;unfold fL;rw[H,V,aav ⟨rfl,O,E⟩,J];exact⟨rfl,D,j,rfl,by omega⟩
def dx:List ax->List Bool->Option (List Bool)
 |[],S=>some S
 |x::r,S=>(dH x S).bind (dx r)
def eE:∀(a b:List ax)(S:List Bool),dx (a++b) S=(dx a S).bind (dx b)
 |[],b,S=>rfl
 |x::a,b,S=>by
  simp only[aeR,dx];cases dH x S with
  |none=>rfl
  |some M=>exact eE a b M
def WK{f:ax->ax}(h:∀x,f x=x\/((x.op=9\/x.op=10)/\(f x).op=x.op))(x:ax)(S:List Bool):dH (f x) S=dH x S:=by
 rcases h x with e|⟨E,D⟩
 .rw[e]
 .rcases E with e|e
  .have D:(f x).op=9:=by rw[D,e]
   simp[dH,D,e]
  .have D:(f x).op=10:=by rw[D,e]
   simp[dH,D,e]
def BG{f:ax->ax}(h:∀x,f x=x\/((x.op=9\/x.op=10)/\(f x).op=x.op)):∀(l:List ax)(S:List Bool),dx (l.map f) S=dx l S
 |[],S=>rfl
 |x::r,S=>by
  simp only[aaK,dx,WK h];cases dH x S with
  |none=>rfl
  |some M=>exact BG h r M
def WL(k:Nat)(x:ax):iK k x=x\/((x.op=9\/x.op=10)/\(iK k x).op=x.op):=by
 unfold iK;split
 .rename_i h;exact .inr ⟨h.1,rfl⟩
 .exact .inl rfl
def Ou(k:Int)(x:ax):kg k x=x\/((x.op=9\/x.op=10)/\(kg k x).op=x.op):=by
 unfold kg;split
 .rename_i h;exact .inr ⟨.inl h.1,rfl⟩
 .exact .inl rfl
def JK(k:Nat)(l:List ax)(S:List Bool):dx (dK k l) S=dx l S:=BG (WL k) l S
def mH{t:Bool}{S:List Bool}(h:S.length<64):qg t S=some (S++[t]):=by unfold qg;rw[aav h]
def DR(S:List Bool)(f:Bool):pA 1 false (S++[f])=some S:=by
 unfold pA;rw[aaf (by simp)];simp
def IF(S:List Bool):pA 1 true (S++[true])=some S:=by
 unfold pA;rw[aaf (by simp)];simp
def Zf(S:List Bool)(f g:Bool):pA 2 false (S++[f]++[g])=some S:=by
 unfold pA;rw[aaf (by simp)];simp
def aaU(S:List Bool):pA 2 true (S++[true]++[true])=some S:=by
 unfold pA;rw[aaf (by simp)];simp
inductive XC(vs:List Vr):Ex->Prop
 |num {n:Int} {line:Int} (h:0<=n):XC vs (.mk 1 n [] [] [] line)
 |sk {n:Int} {line:Int} (h:n=0\/n=1):XC vs (.mk 2 n [] [] [] line)
 |var {name:Tx} {line:Int} {v:Vr} (E:bk vs name=some v) (A7:v.arr=false) (M:v.ty<=2):XC vs (.mk 3 0 name [] [] line)
 |idx {name:Tx} {line:Int} {v:Vr} {y:Ex} (E:bk vs name=some v) (A7:v.arr=true) (M:v.ty<=2) (A1:bE y=true) (A2:(aJ vs y).e=0) (ty:(aJ vs y).t=1):XC vs (.mk 4 0 name [] [y] line)
 |Rx {name field:Tx} {line:Int} {v:Vr} {q:Pn} (E:bk vs name=some v) (M:2<v.ty) (V:mE v.ty field=some q) (Z:dz field=true):XC vs (.mk 5 0 name field [] line)
 |one {op line:Int} {y:Ex} (A8:op=6\/op=7) (A1:bE y=true) (A2:(aJ vs y).e=0) (ty:(aJ vs y).t=iw op (aJ vs y).t):XC vs (.mk op 0 [] [] [y] line)
 |two {op line:Int} {y z:Ex} (A8:8<=op/\op<=21) (A1:bE y=true) (A2:(aJ vs y).e=0) (AG:bE z=true) (AH:(aJ vs z).e=0) (ty:(aJ vs y).t=iw op (aJ vs y).t) (AI:(aJ vs z).t=iw op (aJ vs y).t):XC vs (.mk op 0 [] [] [y,z] line)
def Ao{vs:List Vr}{x:Ex}(Z:bE x=true)(he:(aJ vs x).e=0):XC vs x:=by
 obtain⟨op,n,name,field,sub,line⟩:=x;simp only[bE,Ds,aaw,afz,aeA]at Z;obtain⟨A3,J,H,D,I⟩:=Z;simp only[amG,not_and]at A3;obtain⟨A9,AA,AB,AJ,AK⟩:=A3;unfold aJ at he;by_cases A':op=1\/op=2
 .rw[aaf (by omega)]at H D;simp only[aaw]at H D;subst H D;have N:sub=[]:=xo (by rw[J];unfold dW;rcases A' with h|h<;>subst h<;>decide);subst N;rcases A' with h|h
  .subst h;exact .num (by have:=A9 rfl;omega)
  .subst h;have:=AA rfl;exact .sk (by omega)
 .rw[aaf A']at he;have AC:n=0:=by
   have:=AB (by omega);simpa using this
  subst AC;by_cases A0:op=3\/op=4\/op=5
  .rw[aav A0]at he;rw[aav A0]at H;cases E:bk vs name with
   |none=>rw[E]at he;simp[cW]at he
   |some v=>
    rw[E]at he;simp only at he;by_cases A4:op=5
    .subst A4;rw[aav rfl]at he D;by_cases M:v.ty<=2
     .rw[aav M]at he;simp[cW]at he
     .rw[aaf M]at he;have N:sub=[]:=xo (by rw[J];decide);subst N;cases V:mE v.ty field with
      |none=>rw[V]at he;simp[cW]at he
      |some q=>exact .Rx E (by omega) V D
    .rw[aaf A4]at he D;simp only[aaw]at D;subst D;by_cases O:v.arr≠decide (op=4)\/2<v.ty
     .rw[aav O]at he;simp[cW]at he
     .rw[aaf O]at he;simp only[amG,ne_eq,Classical.not_not]at O;by_cases AD:op=4
      .subst AD;rw[aav rfl]at he;obtain⟨y,rfl⟩:=DQ (l:=sub) (by rw[J];decide);simp only[bY,Ds]at I;simp only[Ah]at he;by_cases U:(aJ vs y).e=0
       .rw[aaf (by simpa using U)]at he;by_cases A5:(aJ vs y).t=1
        .exact .idx E (by simpa using O.1) (by omega) I.1 U A5
        .rw[aav A5]at he;simp[cW]at he
       .rw[aav U]at he;exact absurd he U
      .have AE:op=3:=by omega
       subst AE;have N:sub=[]:=xo (by rw[J];decide);subst N;exact .var E (by simpa using O.1) (by omega)
  .rw[aaf A0]at he H;rw[aaf (by omega)]at D;simp only[aaw]at H D;subst H D;by_cases A6:op=6\/op=7
   .obtain⟨y,rfl⟩:=DQ (l:=sub) (by rw[J];unfold dW;rcases A6 with h|h<;>subst h<;>decide);simp only[bY,Ds]at I;simp only[vg]at he;obtain⟨g1,g2,g3,g4,g5⟩:=jq he;exact .one A6 I.1 g1 g3
   .have AF:sub.length=2:=by rw[J];unfold dW;rw[aaf (by omega),aav (by omega)]
    match sub,AF with
    |[y,z],_=>
     simp only[bY,Ds]at I;simp only[vg]at he;obtain⟨g1,g2,g3,g4,g5⟩:=jq he;exact .two (by omega) I.1 g1 I.2.1 g2 g3 g4
def j7(vs:List Vr)(x:Ex):1<=(aj vs x).1.length:=by
 obtain⟨op,n,name,field,sub,line⟩:=x;unfold aj;split
 .simp
 .split
  .simp
  .split
   .simp
   .split
    .simp
    .simp
def lY(n:Nat)(x:ax):ax:=if x.op=9\/x.op=10 then {x with a:=if 0<=x.a then x.a+n else 0} else x
def di(n:Nat)(l:List ax):List ax:=l.map (lY n)
def L7{n:Nat}{a:Int}(h:0<=a):lY n (ins 9 a 0 0 0)=ins 9 (a+n) 0 0 0:=by simp[lY,ins,h]
def DS{n:Nat}{a:Int}(h:0<=a):lY n (ins 10 a 0 0 0)=ins 10 (a+n) 0 0 0:=by simp[lY,ins,h]
@[simp] def oZ(n:Nat)(l:List ax):(di n l).length=l.length:=by simp[di]
def s8(n:Nat)(a b:List ax):di n (a++b)=di n a++di n b:=by simp[di]
@[simp] def Ap(n:Nat):di n []=[]:=rfl
def qq(n:Nat)(x:ax)(l:List ax):di n (x::l)=lY n x::di n l:=rfl
def afM(n k:Nat)(x:ax):lY n (iK k x)=lY (n+k) x:=by
 obtain⟨op,a,b,c,d⟩:=x;unfold lY iK;by_cases h:op=9\/op=10
 .by_cases U:0<=a
  .simp only[h,U,and_self,ad1,ax.mk.injEq,amD,and_true];rw[aav (by omega)];omega
  .simp only[h,U,and_false,abc,ad1]
 .simp only[h,false_and,abc]
def DT(n k:Nat)(l:List ax):di n (dK k l)=di (n+k) l:=by
 unfold di dK;rw[List.map_map];congr 1;funext x;exact afM n k x
def Ov(n:Nat)(a b:List ax):di n (jn a b)=di n a++di (n+a.length) b:=by rw[jn,s8,DT]
def Flat(l:List ax):Prop:=∀x∈l,x.op≠9/\x.op≠10
def Flat.di{l:List ax}(h:Flat l)(n:Nat):Am.di n l=l:=by
 unfold Am.di;conv=>rhs;rw[<-List.map_id l]
 refine ai7 λx D=>?_;have:=h x D;simp[lY,this.1,this.2]
def Flat.app{a b:List ax}(A':Flat a)(A0:Flat b):Flat (a++b):=λx D=>(aaA.1 D).elim (A' x) (A0 x)
def Flat.nil:Flat []:=λ_ h=>by simp at h
def Flat.one{x:ax}(h:x.op≠9/\x.op≠10):Flat [x]:=λy H=>by simp at H;subst H;exact h
def Flat.cons{x:ax}{l:List ax}(h:x.op≠9/\x.op≠10)(A1:Flat l):Flat (x::l):=λy H=>by
 rcases aam.1 H with rfl|H
 .exact h
 .exact A1 y H
def db(k:Int):Nat->List ax->List Int
 |_,[]=>[]
 |n,x::r=>if x.op=9/\x.a=k then (n:Int)::db k (n+1) r else db k (n+1) r
def kL(k:Int):∀(a b:List ax)(n:Nat),db k n (a++b)=db k n a++db k (n+a.length) b
 |[],b,n=>by simp[db]
 |x::a,b,n=>by
  simp only[aeR,db,kL k a b (n+1),aao];rw[show n+1+a.length=n+(a.length+1) by omega];split<;>simp
def s9{k:Int}{l:List ax}(h:Flat l)(n:Nat):db k n l=[]:=by
 induction l generalizing n with
 |nil=>rfl
 |cons x r ih=>
  simp only[db];rw[aaf (λhh=>(h x (by simp)).1 hh.1)];exact ih (λy H=>h y (by simp[H])) _
def Ow{k:Int}{f:ax->ax}(h:∀x,((f x).op=9/\(f x).a=k)↔(x.op=9/\x.a=k)):∀(l:List ax)(n:Nat),db k n (l.map f)=db k n l
 |[],n=>rfl
 |x::r,n=>by
  simp only[aaK,db,Ow h r];by_cases D:x.op=9/\x.a=k
  .rw[aav D,aav ((h x).2 D)]
  .rw[aaf D,aaf (λhh=>D ((h x).1 hh))]
def L8{k:Int}(J:k<0)(j:Nat)(l:List ax)(n:Nat):db k n (dK j l)=db k n l:=by
 refine Ow (λx=>?_) l n;unfold iK;split
 .rename_i h;simp only;omega
 .exact amK
def L9{k:Int}(J:k<0)(a b:List ax)(n:Nat):db k n (jn a b)=db k n a++db k (n+a.length) b:=by rw[jn,kL,L8 J]
def kI(k to:Int)(x:ax):ax:=if x.op=9/\x.a=k then {x with a:=to} else x
def afN{k to:Int}(h:to≠k):∀(l:List ax)(n:Nat),db k n (l.map (kI k to))=[]
 |[],n=>rfl
 |x::r,n=>by
  simp only[aaK,db,afN h r];rw[aaf];unfold kI;split
  .rintro ⟨_,hh⟩;exact h hh
  .assumption
def Uc{k O to:Int}(A2:to≠O)(A3:k≠O)(l:List ax)(n:Nat):db O n (l.map (kI k to))=db O n l:=by
 refine Ow (λx=>?_) l n;unfold kI;split
 .rename_i h;simp only
  constructor
  .rintro ⟨_,hh⟩;exact absurd hh A2
  .rintro ⟨_,hh⟩;exact absurd (h.2.symm.trans hh) A3
 .exact amK
def setAt(l:List ax)(i:Int)(v:Int):List ax:=l.modify i.toNat λx=>{x with a:=v}
def kM(l:List ax)(ps:List Int)(v:Int):List ax:=ps.foldl (λl i=>setAt l i v) l
@[simp] def WM(l:List ax)(i v:Int):(setAt l i v).length=l.length:=by simp[setAt]
@[simp] def IG:∀(ps:List Int)(l:List ax)(v:Int),(kM l ps v).length=l.length
 |[],l,v=>rfl
 |i::r,l,v=>by
  show (kM (setAt l i v) r v).length=_;rw[IG r];simp
def uA(pre:List ax)(x:ax)(post:List ax)(v:Int):setAt (pre++x::post) pre.length v=pre++{x with a:=v}::post:=by
 unfold setAt;rw[Int.toNat_natCast];induction pre with
 |nil=>rfl
 |cons y r ih=>simp only[aeR,aao,List.modify_succ_cons,ih]
def tP(l:List ax)(i:Int)(r:List Int)(v:Int):kM l (i::r) v=kM (setAt l i v) r v:=rfl
def akn{n:Nat}{k to:Int}{x:ax}(h:x.op=9/\x.a=k)(M:0<=to)(J:k<0):({lY n x with a:=to+n}:ax)=lY n (kI k to x):=by
 obtain⟨op,a,b,c,d⟩:=x;obtain⟨rfl,rfl⟩:=h;simp[lY,kI,M]
def uB{k to:Int}(J:k<0)(M:0<=to)(base:Nat):∀(l pre post:List ax)(n:Nat),pre.length=n->kM (pre++di base l++post) (db k n l) (to+base)=pre++di base (l.map (kI k to))++post
 |[],pre,post,n,h=>by simp[db,kM]
 |x::r,pre,post,n,h=>by
  have ih:=uB J M base r;simp only[db,aaK,qq];split
  .rename_i D;rw[tP];have e:pre++lY base x::di base r++post=pre++lY base x::(di base r++post):=by simp
   rw[e,<-h,uA,akn D M J];have:=ih (pre++[lY base (kI k to x)]) post (pre.length+1) (by simp);simpa using this
  .rename_i D;have N:kI k to x=x:=by unfold kI;rw[aaf D]
   rw[N];have:=ih (pre++[lY base x]) post (n+1) (by simp[h]);simpa using this
def lE(E:Int):Nat->List (List ax)->List (List ax)->List ax
 |_,_,[]=>[]
 |n,[],b::r=>if r=[]then di n b else di n b++ins 9 E 0 0 0::lE E (n+b.length+1) [] r
 |n,t::ts,b::r=>
  if r=[]then t++ins 10 (n+t.length+1+b.length) 0 0 0::di (n+t.length+1) b
  else t++ins 10 (n+t.length+2+b.length) 0 0 0::(di (n+t.length+1) b++ins 9 E 0 0 0::lE E (n+t.length+2+b.length) ts r)
def Aq(E:Int):∀(n:Nat)(ts bs:List (List ax)),(lE E n ts bs).length=(ck ts bs).length
 |_,_,[]=>by simp[lE,ck]
 |n,[],b::r=>by
  simp only[lE,ck];split
  .simp
  .simp[Aq E _ [] r,cv];omega
 |n,t::ts,b::r=>by
  simp only[lE,ck];split
  .rename_i h;subst h;simp[cv,ck]
  .simp[Aq E _ ts r,cv];omega
def Ox:∀(n:Nat)(ts bs:List (List ax)),(∀t∈ts,Flat t)->∀E:Int,E=n+(ck ts bs).length->lE E n ts bs=di n (ck ts bs)
 |n,_,[],_,_,_=>by simp[lE,ck]
 |n,[],b::r,_,E,I=>by
  simp only[lE,ck]at I⊢;split
  .rfl
  .rename_i h;rw[aaf h]at I;rw[Ov,s8];have e:E=((n+b.length+1:Nat):Int)+(ck [] r).length:=by rw[I];simp[cv];omega
   rw[Ox (n+b.length+1) [] r (by simp) E e];have A4:lY n (ins 9 (b.length+1+(ck [] r).length) 0 0 0)=ins 9 E 0 0 0:=by
    rw[L7 (by omega)];congr 1;omega
   have N:di n [ins 9 (b.length+1+(ck [] r).length) 0 0 0]=[ins 9 E 0 0 0]:=by rw[qq,A4];rfl
   rw[N];simp[aaX]
 |n,t::ts,b::r,V,E,I=>by
  have Z:Flat t:=V t (by simp);simp only[lE,ck]at I⊢;rw[Ov];by_cases h:r=[]
  .subst h;simp only[ad1,s8,DT,Z.di,ck,Ap,aee,qq];have e:lY n (ins 10 (t.length+1+b.length) 0 0 0)=ins 10 (n+t.length+1+b.length) 0 0 0:=by
    rw[DS (by omega)];congr 1;omega
   rw[e];simp[aaX]
  .simp only[aaf h]at I⊢;have e:E=((n+t.length+2+b.length:Nat):Int)+(ck ts r).length:=by rw[I];simp[cv];omega
   rw[Ox (n+t.length+2+b.length) ts r (λt M=>V t (by simp[M])) E e];simp only[s8,DT,Z.di,qq,Ap,aal,aao,aay,nI];have A5:lY n (ins 10 (t.length+1+(b.length+(0+1):Nat)) 0 0 0)=ins 10 (n+t.length+2+b.length) 0 0 0:=by
    rw[DS (by omega)];congr 1;omega
   have N:lY (n+(t.length+1)) (ins 9 (b.length+1+(ck ts r).length) 0 0 0)=ins 9 E 0 0 0:=by
    rw[L7 (by omega)];congr 1;omega
   rw[A5,N,show n+(t.length+(0+1)+(b.length+(0+1)))=n+t.length+2+b.length by omega];simp[aaX]
def aon{k to:Int}(I:k<0)(D:0<=to)(j:Nat)(x:ax):kI k (to+j) (iK j x)=iK j (kI k to x):=by
 obtain⟨op,a,b,c,d⟩:=x;unfold kI iK;by_cases h:op=9/\a=k
 .obtain⟨rfl,rfl⟩:=h;have A2:¬0<=a:=by omega
  simp[A2,D]
 .by_cases A0:(op=9\/op=10)/\0<=a
  .have:¬(op=9/\a+(j:Int)=k):=by omega
   simp[h,A0,this]
  .simp[h,A0]
def aaW{k to:Int}(I:k<0)(D:0<=to)(j:Nat)(l:List ax):(dK j l).map (kI k (to+j))=dK j (l.map (kI k to)):=by
 unfold dK;rw[List.map_map,List.map_map];congr 1;funext x;exact aon I D j x
def WN{l:List ax}(h:Flat l)(k to:Int):l.map (kI k to)=l:=by
 conv=>rhs;rw[<-List.map_id l]
 refine ai7 λx A3=>?_;have:=h x A3;simp[kI,this.1]
def yx{k to:Int}{x:ax}(h:x.op=9->x.a≠k):kI k to x=x:=by
 unfold kI;rw[aaf];exact λhh=>h hh.1 hh.2
def vW(l:List ax):qo l=l.map (kI (-1) l.length):=rfl
def Gz{n:Nat}{x:ax}(h:x.op≠9/\x.op≠10):lY n x=x:=by simp[lY,h.1,h.2]
def Ud{out t b:List ax}(D:Flat t){n:Nat}(M:out.length=n){H:Int}(Z:H=n+t.length+3+b.length):
 kM (out++(ins 11 0 0 0 0::t++(ins 10 H 0 0 0::di (n+t.length+2) b++[ins 9 n 0 0 0]))) (db (-1) (n+t.length+2) b) H=out++di n (ig t b):=by
 have O:=uB (k:= -1) (to:=b.length+1) (by decide) (by omega) (n+t.length+2) b (out++(ins 11 0 0 0 0::t++[ins 10 H 0 0 0])) [ins 9 n 0 0 0] (n+t.length+2) (by simp;omega);have N:((b.length:Int)+1)+((n+t.length+2:Nat):Int)=H:=by rw[Z];omega
 rw[N]at O;have U:out++(ins 11 0 0 0 0::t++(ins 10 H 0 0 0::di (n+t.length+2) b++[ins 9 n 0 0 0]))=out++(ins 11 0 0 0 0::t++[ins 10 H 0 0 0])++di (n+t.length+2) b++[ins 9 n 0 0 0]:=by simp
 rw[U,O];unfold ig;rw[vW];have y:((ins 11 0 0 0 0::t++[ins 10 (t.length+3+b.length) 0 0 0]++dK (t.length+2) b++[ins 9 0 0 0 0]).length:Int)=((b.length:Int)+1)+((t.length+2:Nat):Int):=by simp;omega
 rw[y];simp only[amE,aaK,amH,WN D,aaW (show (-1:Int)<0 by decide) (show 0<=(b.length:Int)+1 by omega),s8,qq,Ap,D.di,DT];rw[yx (by simp[ins]),yx (by simp[ins]),yx (by simp[ins]),Gz (by simp[ins]),DS (by omega),L7 (by omega)];have J:ins 10 (t.length+3+b.length+n) 0 0 0=ins 10 H 0 0 0:=by congr 1;omega
 rw[J,show n+(t.length+2)=n+t.length+2 by omega];simp
def WO{k:Int}(I:k<0)(A1:k≠ -1){t b:List ax}(D:Flat t)(n:Nat):db k n (ig t b)=db k (n+t.length+2) b:=by
 unfold ig;rw[vW,Uc (by omega) (by omega)];have N:ins 11 0 0 0 0::t++[ins 10 (t.length+3+b.length) 0 0 0]++dK (t.length+2) b++[ins 9 0 0 0 0]=[ins 11 0 0 0 0]++(t++([ins 10 (t.length+3+b.length) 0 0 0]++(dK (t.length+2) b++[ins 9 0 0 0 0]))):=by simp
 rw[N,kL];rw[s9 (Flat.one (by simp[ins])),kL,s9 D,kL,kL,L8 I];have e:∀m,db k m [ins 10 (t.length+3+b.length) 0 0 0]=[]:=λm=>by simp[db,ins]
 have J:∀m,db k m [ins 9 0 0 0 0]=[]:=λm=>by simp[db,ins];omega
 rw[e,J];simp only[aba,aee,aao,aay];congr 1;omega
def Oy(l:List ax)(n:Nat):db (-1) n (qo l)=[]:=afN (by omega) l n
def Zh{out t b:List ax}(D:Flat t){n:Nat}(M:out.length=n){H:Int}(Z:H=n+b.length+t.length+2):
 kM (out++(di n b++(ins 11 0 0 0 0::t++[ins 10 n 0 0 0]))) (db (-1) n b) H=out++di n (lP t b):=by
 have O:=uB (k:= -1) (to:=b.length+t.length+2) (by decide) (by omega) n b out (ins 11 0 0 0 0::t++[ins 10 n 0 0 0]) n M;have N:((b.length:Int)+t.length+2)+(n:Int)=H:=by rw[Z];omega
 rw[N]at O;rw[<-adX,O];unfold lP;rw[vW];have y:((b++ins 11 0 0 0 0::t++[ins 10 0 0 0 0]).length:Int)=(b.length:Int)+t.length+2:=by simp;omega
 rw[y];simp only[amE,aaK,amH,WN D,s8,qq,Ap,D.di];rw[yx (by simp[ins]),yx (by simp[ins]),Gz (by simp[ins]),DS (by omega)];simp
def ab3{k:Int}(I:k<0)(A1:k≠ -1){t b:List ax}(D:Flat t)(n:Nat):db k n (lP t b)=db k n b:=by
 unfold lP;rw[vW,Uc (by omega) (by omega)];have N:b++ins 11 0 0 0 0::t++[ins 10 0 0 0 0]=b++([ins 11 0 0 0 0]++(t++[ins 10 0 0 0 0])):=by simp
 rw[N,kL,kL];rw[s9 (Flat.one (by simp[ins])),kL,s9 D];have e:∀m,db k m [ins 10 0 0 0 0]=[]:=λm=>by simp[db,ins]
 rw[e];simp
def Zi{out b:List ax}{at_ cell:Int}{n:Nat}(M:out.length=n){H:Int}(Z:H=n+b.length+8):
 kM (out++(ins 11 0 0 0 0::ins 13 at_ cell 0 0::ins 10 H 0 0 0::di (n+3) b++[ins 2 at_ 0 0 0,ins 2 (cell+1) 0 0 0,ins 8 0 8 0 0,ins 6 at_ 0 0 0,ins 9 n 0 0 0])) (db (-1) (n+3) b) H=out++di n (jI at_ cell b):=by
 have O:=uB (k:= -1) (to:=b.length+5) (by decide) (by omega) (n+3) b (out++[ins 11 0 0 0 0,ins 13 at_ cell 0 0,ins 10 H 0 0 0]) [ins 2 at_ 0 0 0,ins 2 (cell+1) 0 0 0,ins 8 0 8 0 0,ins 6 at_ 0 0 0,ins 9 n 0 0 0] (n+3) (by simp[M]);have N:((b.length:Int)+5)+((n+3:Nat):Int)=H:=by rw[Z];omega
 rw[N]at O;have U:out++(ins 11 0 0 0 0::ins 13 at_ cell 0 0::ins 10 H 0 0 0::di (n+3) b++[ins 2 at_ 0 0 0,ins 2 (cell+1) 0 0 0,ins 8 0 8 0 0,ins 6 at_ 0 0 0,ins 9 n 0 0 0])=out++[ins 11 0 0 0 0,ins 13 at_ cell 0 0,ins 10 H 0 0 0]++di (n+3) b++[ins 2 at_ 0 0 0,ins 2 (cell+1) 0 0 0,ins 8 0 8 0 0,ins 6 at_ 0 0 0,ins 9 n 0 0 0]:=by simp
 rw[U,O];unfold jI;rw[vW];have y:(([ins 11 0 0 0 0,ins 13 at_ cell 0 0,ins 10 (b.length+8) 0 0 0]++dK 3 b++[ins 2 at_ 0 0 0,ins 2 (cell+1) 0 0 0,ins 8 0 8 0 0,ins 6 at_ 0 0 0,ins 9 0 0 0 0]).length:Int)=((b.length:Int)+5)+((3:Nat):Int):=by simp;omega
 rw[y];simp only[amE,aaK,amH,aaW (show (-1:Int)<0 by decide) (show 0<=(b.length:Int)+5 by omega),s8,qq,Ap,DT];have V:∀x:ax,(x.op≠9/\x.op≠10)->∀to,lY n (kI (-1) to x)=x:=λx h to=>by rw[yx (λhh=>absurd hh h.1),Gz h]
 have A4:kI (-1) (b.length+5+((3:Nat):Int)) (ins 10 (b.length+8) 0 0 0)=ins 10 (b.length+8) 0 0 0:=yx (by simp[ins]);have A5:kI (-1) (b.length+5+((3:Nat):Int)) (ins 9 0 0 0 0)=ins 9 0 0 0 0:=yx (by simp[ins]);rw[A4,A5,V _ (by simp[ins]),V (ins 13 at_ cell 0 0) (by simp[ins]),V (ins 2 at_ 0 0 0) (by simp[ins]),V (ins 2 (cell+1) 0 0 0) (by simp[ins]),V (ins 8 0 8 0 0) (by simp[ins]),V (ins 6 at_ 0 0 0) (by simp[ins]),DS (by omega),L7 (by omega)];have J:ins 10 (b.length+8+n) 0 0 0=ins 10 H 0 0 0:=by congr 1;omega
 rw[J];simp
def ab4{k:Int}(I:k<0)(A1:k≠ -1){b:List ax}{at_ cell:Int}(n:Nat):db k n (jI at_ cell b)=db k (n+3) b:=by
 unfold jI;rw[vW,Uc (by omega) (by omega)];rw[kL,kL,L8 I];have e:∀m,db k m [ins 11 0 0 0 0,ins 13 at_ cell 0 0,ins 10 (b.length+8) 0 0 0]=[]:=λm=>by simp[db,ins]
 have J:∀m,db k m [ins 2 at_ 0 0 0,ins 2 (cell+1) 0 0 0,ins 8 0 8 0 0,ins 6 at_ 0 0 0,ins 9 0 0 0 0]=[]:=λm=>by simp[db,ins];omega
 rw[e,J];simp
def gH:Nat->List (List ax)->List (List ax)->List Int
 |_,_,[]=>[]
 |n,[],b::r=>if r=[]then []else ((n+b.length:Nat):Int)::gH (n+b.length+1) [] r
 |n,t::ts,b::r=>if r=[]then []else ((n+t.length+1+b.length:Nat):Int)::gH (n+t.length+2+b.length) ts r
def yy(k:Int):Nat->List (List ax)->List (List ax)->List Int
 |_,_,[]=>[]
 |n,[],b::r=>db k n b++(if r=[]then []else yy k (n+b.length+1) [] r)
 |n,t::ts,b::r=>db k (n+t.length+1) b++(if r=[]then []else yy k (n+t.length+2+b.length) ts r)
def JL(E:Int):∀(n:Nat)(ts bs:List (List ax))(pre:List ax),pre.length=n->kM (pre++lE 0 n ts bs) (gH n ts bs) E=pre++lE E n ts bs
 |n,_,[],pre,M=>by simp[lE,gH,kM]
 |n,[],b::r,pre,M=>by
  simp only[lE,gH];split
  .rfl
  .rw[tP];have U:pre++(di n b++ins 9 0 0 0 0::lE 0 (n+b.length+1) [] r)=(pre++di n b)++ins 9 0 0 0 0::lE 0 (n+b.length+1) [] r:=by simp
   have J:((n+b.length:Nat):Int)=((pre++di n b).length:Int):=by simp;omega
   rw[U,J,uA];have ih:=JL E (n+b.length+1) [] r (pre++di n b++[ins 9 E 0 0 0]) (by simp;omega);simp only[adX,List.singleton_append]at ih⊢;exact ih
 |n,t::ts,b::r,pre,M=>by
  simp only[lE,gH];split
  .rfl
  .rw[tP];have U:pre++(t++ins 10 (n+t.length+2+b.length) 0 0 0::(di (n+t.length+1) b++ins 9 0 0 0 0::lE 0 (n+t.length+2+b.length) ts r))=(pre++(t++ins 10 (n+t.length+2+b.length) 0 0 0::di (n+t.length+1) b))++ins 9 0 0 0 0::lE 0 (n+t.length+2+b.length) ts r:=by simp
   have J:((n+t.length+1+b.length:Nat):Int)=((pre++(t++ins 10 (n+t.length+2+b.length) 0 0 0::di (n+t.length+1) b)).length:Int):=by simp;omega
   rw[U,J,uA];have ih:=JL E (n+t.length+2+b.length) ts r (pre++(t++ins 10 (n+t.length+2+b.length) 0 0 0::di (n+t.length+1) b)++[ins 9 E 0 0 0]) (by simp;omega);simp only[adX,aeR,List.singleton_append]at ih⊢;exact ih
def IH{k:Int}(I:k<0):∀(n:Nat)(ts bs:List (List ax)),(∀t∈ts,Flat t)->db k n (ck ts bs)=yy k n ts bs
 |n,_,[],_=>by simp[ck,yy,db]
 |n,[],b::r,A'=>by
  simp only[ck,yy];split
  .simp
  .rw[L9 I,kL,IH I _ [] r (by simp)];have e:∀m,db k m [ins 9 (b.length+1+(ck [] r).length) 0 0 0]=[]:=λm=>by simp[db,ins];omega
   rw[e];simp[aaX]
 |n,t::ts,b::r,A'=>by
  have A6:Flat t:=A' t (by simp);simp only[ck,yy];rw[L9 I,kL,kL,s9 A6,L8 I,IH I _ ts r (λt D=>A' t (by simp[D]))];have e:∀m a,db k m [ins 10 a 0 0 0]=[]:=λm a=>by simp[db,ins]
  rw[e];by_cases h:r=[]
  .subst h;simp[yy,aaX]
  .simp only[aaf h,kL];have J:∀m,db k m [ins 9 (b.length+1+(ck ts r).length) 0 0 0]=[]:=λm=>by simp[db,ins];omega
   rw[J];simp only[aba,aee,aal,aao,aay,nI];rw[show n+(t.length+(0+1))=n+t.length+1 by omega,show n+(t.length+(0+1)+(b.length+(0+1)))=n+t.length+2+b.length by omega]
def ab5{pre:List ax}{n:Nat}(M:pre.length=n){ts bs:List (List ax)}(A':∀t∈ts,Flat t):kM (pre++lE 0 n ts bs) (gH n ts bs) (n+(ck ts bs).length)=pre++di n (ck ts bs):=by
 rw[JL _ n ts bs pre M,Ox n ts bs A' _ rfl]
def Rm(u:Bool)(a D:EL):Prop:=a.1=0->D.1=if u=true then 9 else 0
def Rm.or{J V:Bool}{a D b Z:EL}(E:Rm J a D)(M:Rm V b Z):Rm (J||V) (fu a b) (fu D Z):=by
 intro h;unfold fu at h⊢;by_cases I:a.1=0
 .rw[aaf (λh=>h I)]at h;have E:=E I;have M:=M h;cases J with
  |true=>simp at E;rw[aav (by rw[E];decide),E];simp
  |false=>simp at E;rw[aaf (λh=>h E)];simpa using M
 .rw[aav I]at h;exact absurd h I
def Rm.zero:Rm false (0,0) (0,0):=λ_=>rfl
def Rm.same{u:Bool}{a D:EL}(hu:u=false)(h:D=a):Rm u a D:=by
 subst hu h;intro h;simpa using h
section
variable {vs N:List Vr} {H:Tx} (O:H≠[]) (U:∀s,bk N s=if s=H then none else bk vs s)
include O U
end
section
variable {vs N:List Vr} {H:Tx} (O:H≠[]) (U:∀s,bk N s=if s=H then none else bk vs s)
include O U
end
def oI{v:Vr}(h:cJ v=true):0<=bR v:=by
 simp only[cJ,Ds]at h;obtain⟨_,_,h,_⟩:=h;unfold bR;split
 .rename_i D;rw[aav D]at h;have:=aa6 h;omega
 .split<;>omega
def pnN(k:Int):Nat:=(eI k).length
def yz(cells:Int)(x:ax):Prop:=1<=x.op/\x.op<=8/\fZ pnN cells 0 0 x=true
def kN{cells a n:Int}(Ad:0<=a)(A1:0<=n)(A2:a+n<=cells):iV cells a n=true:=by
 unfold iV;simp only[Ds,aaw];omega
def Oz{op n:Int}{name field:Tx}{sub:List Ex}{line:Int}(h:bE (.mk op n name field sub line)=true):1<=op/\op<=21:=by
 simp only[bE,Ds,afz,aeA]at h;have:=h.1;omega
section
variable {vs:List Vr} {cells:Int} (A5:∀v∈vs,cJ v=true) (AQ:bH vs<=cells)
include A5 AQ
theorem qO:∀(x:Ex)(S:List Bool),bE x=true->(aJ vs x).e=0->az S.length x<=64->
 (∃f,dx (aj vs x).1 S=some (S++[f])/\((aJ vs x).t=2->f=true))/\(aj vs x).2=decide ((aJ vs x).t=2)/\((aJ vs x).t=1\/(aJ vs x).t=2)/\∀y∈(aj vs x).1,yz cells y
 | .mk op n name field sub line,S,A3,he,H=>by
  obtain⟨E,AR⟩:=EI A3;have Ae:=Oz A3;have AC:=JJ A3 he;have AS:∀v∈vs,0<=bR v:=λv I=>oI (A5 v I);have ih:∀y∈sub,∀S:List Bool,az S.length y<=64->_:=λy D S H=>qO y S ((gT sub).1 AR y D) (AC y D) H;unfold az at H;unfold aj;have A':aJ vs (.mk op n name field sub line)=aJ vs (.mk op n name field sub line):=rfl;conv at A'=>rhs;unfold aJ
  rw[A']at he⊢;clear A';by_cases A6:op=1\/op=2
  .have hh:S.length<64:=by
    rw[aav (by omega)]at H;omega
   simp only[aav A6];refine⟨⟨decide (n=0)||decide (n=1),?_,?_⟩,rfl,by simp[fO];exact A6,?_⟩
   .simp[dx,dH,ins,mH hh];rfl
   .intro A1;have A1:op=2:=A1;subst A1;simp[bE]at A3;simp only[aiB,aaw];omega
   .intro y D;simp at D;subst D;simp[yz,ins,fZ]
  .simp only[aaf A6]at he⊢;by_cases A0:op=3\/op=4\/op=5
   .simp only[aav A0]at he⊢;cases I:bk vs name with
    |none=>rw[I]at he;simp[cW]at he
    |some v=>
     rw[I]at he;simp only at he⊢;have AD:=iX I;have AE:=A5 v (yt I).1;have Af:=yw AS I;have A7:=AE;simp only[cJ,Ds]at A7;by_cases A4:op=5
     .subst A4;have hh:S.length<64:=by
       rw[aav (by omega)]at H;omega
      simp only[aav]at he⊢;by_cases AF:v.ty<=2
      .rw[aav AF]at he;simp[cW]at he
      .rw[aaf AF]at he⊢;cases AG:mE v.ty field with
       |none=>rw[AG]at he;simp[cW]at he
       |some p=>
        obtain⟨q1,q2,j,q3,A8⟩:=s7 I (by omega) AG;have AT:=WJ q2;have AH:bR v=(eI v.ty).length:=by
         unfold bR;have U:¬v.arr=true:=by
          intro AU;have M:=A7.2.2.1;rw[aav AU]at M;have:=aa6 M;omega
         rw[aaf U,aav (by omega)]
        simp only[show ¬((5:Int)=3) by decide,abc,q1];have J:iV cells (fL vs name field).1 1=true:=kN (by rw[q3];omega) (by omega) (by rw[q3];omega);rcases AT with e|e
        .refine⟨⟨false,?_,λh=>by simp[fO,e]at h⟩,aeI.2 amK,.inl e,?_⟩
         .simp[dx,dH,ins,e,mH hh]
         .intro y D;simp at D;subst D;simp[yz,ins,fZ,e,J]
        .refine⟨⟨true,?_,λ_=>rfl⟩,aeI.2 amK,.inr e,?_⟩
         .simp[dx,dH,ins,e,mH hh]
         .intro y D;simp at D;subst D;simp[yz,ins,fZ,e,J]
     .simp only[aaf A4]at he⊢;by_cases A9:v.arr≠decide (op=4)\/2<v.ty
      .rw[aav A9]at he;simp[cW]at he
      .simp only[aaf A9]at he⊢;have AI:v.arr=decide (op=4):=by
        cases Ag:v.arr<;>cases Ai:decide (op=4)<;>simp_all
       have Aj:¬2<v.ty:=λh=>A9 (.inr h);have AJ:v.ty=1\/v.ty=2:=by
        rcases Ro AE with h|h
        .exact h
        .omega
       by_cases M:op=4
       .subst M;simp only[aav,show ¬((4:Int)=3) by decide,abc]at he⊢;obtain⟨z,rfl⟩:∃z,sub=[z]:=by
         match sub,E with
         |[z],_=>exact⟨z,rfl⟩
         |[],h=>simp[dW]at h
         |_::_::_,h=>simp[dW]at h
        rw[aaf (by omega)]at H;simp only[fE]at H;obtain⟨⟨f,i1,_⟩,_,_,i4⟩:=ih z (by simp) S (by omega);have AV:=AC z (by simp);have A':Ah vs v.ty [z]=fO v.ty:=by
         simp only[Ah]at he⊢;rw[aaf (by simpa using AV)]at he⊢;split at he
         .simp[cW]at he
         .rename_i AW;rw[aaf AW]
        rw[A'];have U:v.arr=true:=by simpa using AI
        have N:=A7.2.2.1;rw[aav U]at N;have N:=aa6 N;have AH:bR v=v.hi-v.lo+1:=by unfold bR;rw[aav U]
        have J:iV cells (bA vs name).1 (v.hi-v.lo+1)=true:=kN (by omega) (by omega) (by omega);have hh:S.length<64:=by omega
        simp only[pE,AD];rcases AJ with e|e
        .refine⟨⟨false,?_,λh=>by simp[fO,e]at h⟩,aeI.2 amK,.inl e,?_⟩
         .rw[eE,i1];simp[dx,dH,ins,e,DR,mH hh]
         .intro y D;rcases aaA.1 D with D|D
          .exact i4 y D
          .simp at D;subst D;simp[yz,ins,fZ,N4,e,J];omega
        .refine⟨⟨true,?_,λ_=>rfl⟩,aeI.2 amK,.inr e,?_⟩
         .rw[eE,i1];simp[dx,dH,ins,e,DR,mH hh]
         .intro y D;rcases aaA.1 D with D|D
          .exact i4 y D
          .simp at D;subst D;simp[yz,ins,fZ,N4,e,J];omega
       .have A2:op=3:=by omega
        subst A2;have hh:S.length<64:=by
         rw[aav (by omega)]at H;omega
        simp only[aav,aaf M,AD]at he⊢;have U:¬v.arr=true:=by simp[AI]
        have AH:bR v=1:=by unfold bR;rw[aaf U,aaf (by omega)]
        have J:iV cells (bA vs name).1 1=true:=kN (by omega) (by omega) (by omega);rcases AJ with e|e
        .refine⟨⟨false,?_,λh=>by simp[fO,e]at h⟩,aeI.2 amK,.inl e,?_⟩
         .simp[dx,dH,ins,e,mH hh]
         .intro y D;simp at D;subst D;simp[yz,ins,fZ,e,J]
        .refine⟨⟨true,?_,λ_=>rfl⟩,aeI.2 amK,.inr e,?_⟩
         .simp[dx,dH,ins,e,mH hh]
         .intro y D;simp at D;subst D;simp[yz,ins,fZ,e,J]
   .have A2:¬op=3:=λh=>A0 (.inl h);have M:¬op=4:=λh=>A0 (.inr (.inl h));have A4:¬op=5:=λh=>A0 (.inr (.inr h));simp only[aaf A0,aaf A2,aaf M,aaf A4]at he⊢;rw[aaf (by omega)]at H;have hh:S.length<64:=by omega
    match sub,E,ih,he,H with
    |[a],E,ih,he,H=>
     have AX:op=6\/op=7:=by
      simp only[dW]at E;split at E
      .omega
      .split at E<;>simp at E
     simp only[fE]at H;obtain⟨⟨f,i1,i2⟩,i3,i4,i5⟩:=ih a (by simp) S (by omega);obtain⟨_,_,q3,_,AA⟩:=jq he;simp only[vg]at he⊢;simp only[AA,gd];rcases AX with e|e
     .subst e;have V:(aJ vs a).t=1:=by rw[q3];rfl
      have O:(aj vs a).2=false:=by rw[i3,V];rfl
      simp only[O,aeC,abc,ad1];refine⟨⟨false,?_,λh=>by simp[fO,iW]at h⟩,rfl,.inl rfl,?_⟩
      .rw[eE,i1];simp[dx,dH,ins,DR,mH hh]
      .intro y D;rcases aaA.1 D with D|D
       .exact i5 y D
       .simp at D;subst D;simp[yz,ins,fZ,Bv]
     .subst e;have V:(aJ vs a).t=2:=by rw[q3];rfl
      have O:(aj vs a).2=true:=by rw[i3,V];rfl
      obtain rfl:=i2 V;simp only[O,aeC,abc,ad1];refine⟨⟨true,?_,λ_=>rfl⟩,rfl,.inr rfl,?_⟩
      .rw[eE,i1];simp[dx,dH,ins,IF,mH hh]
      .intro y D;rcases aaA.1 D with D|D
       .exact i5 y D
       .simp at D;subst D;simp[yz,ins,fZ,Bv]
    |[a,b],E,ih,he,H=>
     have Ak:8<=op:=by
      simp only[dW]at E;split at E
      .simp at E
      .split at E
       .omega
       .simp at E
     simp only[fE]at H;obtain⟨⟨f,i1,i2⟩,i3,i4,i5⟩:=ih a (by simp) S (by omega);have AY:((S++[f]).length:Int)=S.length+1:=by simp
     obtain⟨⟨g,AZ,A_⟩,AK,Aa,Ab⟩:=ih b (by simp) (S++[f]) (by rw[AY];omega);obtain⟨_,_,q3,A8,AA⟩:=jq he;simp only[vg]at he⊢;simp only[AA,gd];have AL:∀y∈(aj vs a).1++(aj vs b).1,yz cells y:=by
      intro y D;rcases aaA.1 D with D|D
      .exact i5 y D
      .exact Ab y D
     have AM:dx ((aj vs a).1++(aj vs b).1) S=some (S++[f]++[g]):=by rw[eE,i1];exact AZ
     have AB:(fO (iW op)).t=if op<=12 then 1 else 2:=by
      simp only[fO,iW];by_cases h:op<=12
      .rw[aav (by omega),aav h]
      .rw[aaf (by omega),aaf h]
     have AN:decide (op=7\/12<op)=decide ((fO (iW op)).t=2):=by
      rw[AB];by_cases h:op<=12
      .rw[aav h];simp;omega
      .rw[aaf h];simp;omega
     have AO:(fO (iW op)).t=1\/(fO (iW op)).t=2:=by
      rw[AB];split<;>simp
     have AP:(fO (iW op)).t=2->(decide (op=7)||decide (13<=op))=true:=by
      rw[AB];split
      .simp
      .intro _;simp;omega
     rcases Aa with e|e
     .have O:(aj vs b).2=false:=by rw[AK,e];rfl
      have Z:iw op (aJ vs a).t=1:=by rw[<-A8];exact e
      have Al:op<=18:=by
       by_cases h:op<=18
       .exact h
       .exfalso;unfold iw at Z;rw[aaf (by omega),aaf (by omega)]at Z;omega
      simp only[O,aeC,abc,ad1];refine⟨⟨decide (op=7)||decide (13<=op),?_,AP⟩,AN,AO,?_⟩
      .rw[eE,AM];have N:¬(op=6\/op=7):=by omega
       simp only[aek,dx,dH,ins,aeC,abc];simp only[show ¬((8:Int)=1) by decide,show ¬((8:Int)=2) by decide,show ¬((8:Int)=3\/(8:Int)=13\/(8:Int)=14) by decide,show ¬((8:Int)=4) by decide,show ¬((8:Int)=5) by decide,show ¬((8:Int)=6) by decide,show ¬((8:Int)=7) by decide,abc,ad1,N,show decide ((0:Int)=1)=false by decide];change (((pA 2 false (S++[f]++[g])).bind _).bind _)=_
       rw[Zf];simp only[aek,mH hh];rfl
      .intro y D;rcases aaA.1 D with D|D
       .exact AL y D
       .simp at D;subst D;simp[yz,ins,fZ,Bv];exact .inr ⟨aep (by omega),aep (by omega)⟩
     .have O:(aj vs b).2=true:=by rw[AK,e];rfl
      have Z:iw op (aJ vs a).t=2:=by rw[<-A8];exact e
      have V:(aJ vs a).t=2:=by rw[q3];exact Z
      obtain rfl:=i2 V;obtain rfl:=A_ e;have Ac:op=13\/op=14\/19<=op:=by
       unfold iw at Z;split at Z
       .omega
       .omega
      simp only[O,aeC,abc,ad1];refine⟨⟨decide (op=7)||decide (13<=op),?_,AP⟩,AN,AO,?_⟩
      .rw[eE,AM];have N:¬(op=6\/op=7):=by omega
       simp only[aek,dx,dH,ins,ad1];simp only[show ¬((8:Int)=1) by decide,show ¬((8:Int)=2) by decide,show ¬((8:Int)=3\/(8:Int)=13\/(8:Int)=14) by decide,show ¬((8:Int)=4) by decide,show ¬((8:Int)=5) by decide,show ¬((8:Int)=6) by decide,show ¬((8:Int)=7) by decide,abc,ad1,N,show decide ((1:Int)=1)=true by decide];change (((pA 2 true (S++[true]++[true])).bind _).bind _)=_
       rw[aaU];simp only[aek,mH hh];rfl
      .intro y D;rcases aaA.1 D with D|D
       .exact AL y D
       .simp at D;subst D;simp[yz,ins,fZ,Bv];rcases Ac with h|h|h
        .exact .inl (.inl (.inr (aep h)))
        .exact .inl (.inr (aep h))
        .exact .inr ⟨aep h,aep (by omega)⟩
    |[],E,_,_,_=>
     exfalso;simp only[dW,aay]at E;split at E
     .simp at E
     .split at E
      .simp at E
      .omega
    |a::b::c::d,E,_,_,_=>
     exfalso;simp only[dW]at E;split at E
     .simp at E
     .split at E<;>simp at E
termination_by x=>SizeOf.sizeOf x
decreasing_by all_goals (simp_wf;have:=amM D;omega)
end
def Ar(cells:Int)(x:ax):Prop:=iL x\/(fZ pnN cells 0 0 x=true/\x.op≠15)
structure iF(cells:Int)(ex:Bool)(e:Nat)(l:List ax):Prop where
 le:l.length<=e
 run:dx l []=some []
 ok:∀x∈l,Ar cells x
 jmp:∀(i:Nat) x,l[i]?=some x->iL x->0<=x.a->x.a.toNat=e\/(x.a.toNat<=l.length/\dx (l.take x.a.toNat) []=some []/\(i<x.a.toNat\/∃y,l[x.a.toNat]?=some y/\y.op=11))
 out:∀x∈l,iL x->x.a<0->x.op=9/\(x.a= -2\/(ex=true/\x.a= -1))
def Fg(cells:Int)(ex:Bool)(l:List ax):Prop:=iF cells ex l.length l
section
variable {cells:Int} {ex:Bool}
theorem OA{k:Nat}{x:ax}:iL (iK k x)↔iL x:=by unfold iL;rw[ID]
theorem afQ{k:Nat}{x:ax}(h:Ar cells x):Ar cells (iK k x):=by
 rcases WL k x with e|⟨e,_⟩
 .rw[e];exact h
 .exact .inl (OA.2 e)
theorem WQ{k:Nat}{x:ax}(E:iL x)(h:0<=x.a):(iK k x).a=x.a+k:=by
 unfold iK;rw[aav ⟨E,h⟩]
theorem WR{k:Nat}{x:ax}(h:x.a<0):(iK k x).a=x.a:=by
 unfold iK;rw[aaf (by rintro ⟨_,U⟩;omega)]
theorem Zj(k j:Nat)(l:List ax):(dK k l).take j=dK k (l.take j):=by simp[dK]
theorem Ry(k i:Nat)(l:List ax):(dK k l)[i]?=(l[i]?).map (iK k):=by simp[dK]
theorem iF.wk{e e':Nat}{l:List ax}(h:iF cells ex e l)(he:e=l.length)(U:l.length<=e'):iF cells ex e' l:=by
 subst he;refine⟨U,h.run,h.ok,λi x D E J=>?_,h.out⟩;rcases h.jmp i x D E J with M|M
 .right;have hi:=(aai.1 D).1;exact⟨by omega,by rw[M,List.take_length];exact h.run,.inl (by omega)⟩
 .exact .inr M
theorem iF.plain{l:List ax}(V:dx l []=some [])(Z:∀x∈l,Ar cells x)(E:∀x∈l,¬iL x){e:Nat}(he:l.length<=e):iF cells ex e l:=
 ⟨he,V,Z,λ_ x D A3=>absurd A3 (E x (aaz D)),λx D A3=>absurd A3 (E x D)⟩
theorem iF.app{e e':Nat}{A B:List ax}(A':iF cells ex e' B)(he:e=A.length+e')(V:dx A []=some [])(Z:∀x∈A,Ar cells x)
 (E:∀(i:Nat) x,A[i]?=some x->iL x->0<=x.a->x.a.toNat=e\/(x.a.toNat<=A.length+B.length/\dx ((A++dK A.length B).take x.a.toNat) []=some []/\(i<x.a.toNat\/∃y,(A++dK A.length B)[x.a.toNat]?=some y/\y.op=11)))
 (AC:∀x∈A,iL x->x.a<0->x.op=9/\(x.a= -2\/(ex=true/\x.a= -1))):iF cells ex e (A++dK A.length B):=by
 have hle:=A'.le;refine⟨by simp;omega,?_,?_,?_,?_⟩
 .rw[eE,V];show dx (dK _ B) []=_;rw[JK];exact A'.run
 .intro x D;rcases aaA.1 D with D|D
  .exact Z x D
  .obtain⟨y,H,rfl⟩:=aaD.1 D;exact afQ (A'.ok y H)
 .intro i x D A0 J;by_cases hi:i<A.length
  .rw[aaC hi]at D;rcases E i x D A0 J with h|h
   .exact .inl h
   .refine .inr ⟨by simp;omega,h.2⟩
  .rw[aaJ (by omega),Ry]at D;obtain⟨y,H,rfl⟩:=aap.1 D;have A1:=OA.1 A0;have A2:0<=y.a:=by
    by_cases h:0<=y.a
    .exact h
    .rw[WR (by omega)]at J;exact J
   rw[WQ A1 A2];have AD:(y.a+(A.length:Int)).toNat=A.length+y.a.toNat:=by omega
   rw[AD];rcases A'.jmp _ y H A1 A2 with h|⟨M,O,I⟩
   .exact .inl (by omega)
   .refine .inr ⟨by simp;omega,?_,?_⟩
    .rw[List.take_append,aeJ (by omega),eE,V];show dx ((dK _ B).take _) []=_;rw[Zj,JK,Nat.add_sub_cancel_left];exact O
    .rcases I with I|⟨z,A4,A5⟩
     .exact .inl (by omega)
     .refine .inr ⟨iK A.length z,?_,by rw[ID];exact A5⟩;rw[aaJ (by omega),Ry,Nat.add_sub_cancel_left,A4];rfl
 .intro x D A0 J;rcases aaA.1 D with D|D
  .exact AC x D A0 J
  .obtain⟨y,H,rfl⟩:=aaD.1 D;have A1:=OA.1 A0;have A2:y.a<0:=by
    by_cases h:0<=y.a
    .rw[WQ A1 h]at J;omega
    .omega
   rw[WR A2,ID];exact A'.out y H A1 A2
theorem iF.jn{e e':Nat}{a b:List ax}(J:iF cells ex e a)(A6:iF cells ex e' b)(he:e=a.length+e'):iF cells ex e (jn a b):=by
 refine A6.app he J.run J.ok ?_ J.out;intro i x D E N;rcases J.jmp i x D E N with h|⟨M,O,I⟩
 .exact .inl h
 .refine .inr ⟨by omega,?_,?_⟩
  .rw[amP M];exact O
  .rcases I with I|⟨y,H,A7⟩
   .exact .inl I
   .exact .inr ⟨y,by rw[aaC (aai.1 H).1];exact H,A7⟩
theorem Fg.jn{a b:List ax}(J:Fg cells ex a)(A6:Fg cells ex b):Fg cells ex (jn a b):=by
 unfold Fg;rw[cv];exact iF.jn (J.wk rfl (by omega)) A6 rfl
theorem iF.tail{e A9:Nat}{l q:List ax}(h:iF cells ex A9 l)(N:A9=e)(V:dx q []=some [])(Z:∀x∈q,Ar cells x)(AA:∀x∈q,iL x->x.a=0)
 (AE:∃y,(l++q)[0]?=some y/\y.op=11) (AF:(l++q).length<=e):iF cells ex e (l++q):=by
 subst N;refine⟨AF,?_,?_,?_,?_⟩
 .rw[eE,h.run];exact V
 .intro x D;rcases aaA.1 D with D|D
  .exact h.ok x D
  .exact Z x D
 .intro i x D E N;by_cases hi:i<l.length
  .rw[aaC hi]at D;rcases h.jmp i x D E N with h|⟨M,O,I⟩
   .exact .inl h
   .refine .inr ⟨by simp;omega,by rw[amP M];exact O,?_⟩;rcases I with I|⟨y,H,A7⟩
    .exact .inl I
    .exact .inr ⟨y,by rw[aaC (aai.1 H).1];exact H,A7⟩
  .rw[aaJ (by omega)]at D;have:=AA x (aaz D) E;rw[this];exact .inr ⟨by simp,rfl,.inr AE⟩
 .intro x D E N;rcases aaA.1 D with D|D
  .exact h.out x D E N
  .have:=AA x D E;omega
theorem afR{k:Int}{x:ax}(AG:0<=k):(kg k x).a<0->x.a<0/\¬(x.op=9/\x.a= -1)/\kg k x=x:=by
 unfold kg;split
 .rename_i h;intro U;simp only at U;omega
 .rename_i h;exact λU=>⟨U,h,rfl⟩
theorem Fg.Uf{l:List ax}(h:Fg cells true l):Fg cells ex (qo l):=by
 have A8:∀x,iL (kg l.length x)↔iL x:=λx=>by unfold iL;rw[Og]
 unfold Fg;rw[qp];refine⟨by simp,?_,?_,?_,?_⟩
 .rw[qo,BG (Ou _)];exact h.run
 .intro x D;obtain⟨y,H,rfl⟩:=aaD.1 D;rcases Ou (l.length:Int) y with e|⟨e,_⟩
  .rw[e];exact h.ok y H
  .exact .inl ((A8 y).2 e)
 .intro i x D E N;unfold qo at D;rw[aaV]at D;obtain⟨y,H,rfl⟩:=aap.1 D;by_cases AB:y.op=9/\y.a= -1
  .left;unfold kg;rw[aav AB];simp
  .have e:kg l.length y=y:=by unfold kg;rw[aaf AB]
   rw[e]at N⊢;rcases h.jmp i y H ((A8 y).1 E) N with M|⟨M,O,I⟩
   .exact .inl M
   .refine .inr ⟨by simpa using M,?_,?_⟩
    .unfold qo;rw[<-List.map_take,BG (Ou _)];exact O
    .rcases I with I|⟨z,A4,A5⟩
     .exact .inl I
     .refine .inr ⟨kg l.length z,?_,by rw[Og];exact A5⟩;unfold qo;rw[aaV,A4];rfl
 .intro x D E N;obtain⟨y,H,rfl⟩:=aaD.1 D;obtain⟨M,O,I⟩:=afR (by omega) N;rw[I]at N⊢;obtain⟨q1,q2⟩:=h.out y H ((A8 y).1 E) M;refine⟨q1,?_⟩;rcases q2 with q2|⟨_,q2⟩
  .exact .inl q2
  .exact absurd ⟨q1,q2⟩ O
end
section
variable {cells:Int} {ex:Bool}
theorem xp{x:ax}(h:yz cells x):Ar cells x/\¬iL x:=by
 obtain⟨I,O,V⟩:=h;exact⟨.inr ⟨V,by omega⟩,by unfold iL;omega⟩
def OB(cells:Int)(t:List ax):Prop:=dx t []=some [true]/\∀x∈t,Ar cells x/\¬iL x
theorem Rz{e:Nat}(h:1<=e):iF cells ex e [ins 9 (e:Int) 0 0 0]:=by
 refine⟨by simpa using h,by simp[dx,dH,ins,mD],?_,?_,?_⟩
 .intro x D;simp at D;subst D;exact .inl (.inl rfl)
 .intro i x D E J;cases i with
  |zero=>simp at D;subst D;exact .inl (by simp[ins])
  |succ i=>simp at D
 .intro x D E J;simp at D;subst D;simp only[ins]at J;omega
theorem RA{e:Nat}{t p:List ax}(H:OB cells t)(A2:iF cells ex e p):iF cells ex (t.length+1+e) (t++[ins 10 ((t.length:Int)+1+p.length) 0 0 0]++dK (t.length+1) p):=by
 have U:dx (t++[ins 10 ((t.length:Int)+1+p.length) 0 0 0]) []=some []:=by
  rw[eE,H.1];have:=IF [];simp only[aba]at this;simp[dx,dH,ins,this,mD]
 have M:(t++[ins 10 ((t.length:Int)+1+p.length) 0 0 0]).length=t.length+1:=by simp
 have:=A2.app (e:=t.length+1+e) (A:=t++[ins 10 ((t.length:Int)+1+p.length) 0 0 0]) (by rw[M]) U ?_ ?_ ?_
 .rw[M]at this;exact this
 .intro x D;rcases aaA.1 D with D|D
  .exact (H.2 x D).1
  .simp at D;subst D;exact .inl (.inr rfl)
 .intro i x D E J;by_cases hi:i<t.length
  .rw[aaC hi]at D;exact absurd E (H.2 x (aaz D)).2
  .rw[aaJ (by omega)]at D;have:i-t.length=0:=by
    have:=(aai.1 D).1;simp at this;omega
   rw[this]at D;simp at D;subst D;have A6:((ins 10 ((t.length:Int)+1+p.length) 0 0 0).a).toNat=t.length+1+p.length:=by simp only[ins];omega
   rw[A6];refine .inr ⟨by simp,?_,.inl (by omega)⟩;rw[aeJ (by simp;omega)];rw[eE,U];show dx (dK _ p) []=_;rw[JK];exact A2.run
 .intro x D E J;rcases aaA.1 D with D|D
  .exact absurd E (H.2 x D).2
  .simp at D;subst D;simp only[ins]at J;omega
theorem JM(b:List ax)(r:List (List ax)):ck [] (b::r)=if r=[]then b else jn (b++[ins 9 ((b.length:Int)+1+(ck [] r).length) 0 0 0]) (ck [] r):=by rw[ck]
theorem RB(b:List ax)(n:Nat):b++[ins 9 ((b.length:Int)+1+n) 0 0 0]=jn b [ins 9 (((1+n:Nat)):Int) 0 0 0]:=by
 simp only[jn,dK,aaK,amH];congr 2;unfold iK;rw[aav ⟨.inl rfl,by simp only[ins];omega⟩];simp only[ins,ax.mk.injEq,amD,and_true];omega
theorem Ma:∀(ts bs:List (List ax)),(∀t∈ts,OB cells t)->(∀b∈bs,Fg cells ex b)->Fg cells ex (ck ts bs)
 |[],[],_,_=>by
  rw[ck];exact iF.plain rfl (by simp) (by simp) (by simp)
 |_::_,[],_,_=>by
  rw[ck];exact iF.plain rfl (by simp) (by simp) (by simp)
 |[],b::r,H,N=>by
  have Z:=N b (by simp);have ih:=Ma [] r H (λx D=>N x (by simp[D]));rw[JM];split
  .exact Z
  .generalize ck [] r=out at ih⊢;rw[RB];have I:iF cells ex (b.length+(1+out.length)) (jn b [ins 9 (((1+out.length:Nat)):Int) 0 0 0]):=iF.jn (Z.wk rfl (by omega)) (Rz (by omega)) rfl;unfold Fg;rw[cv];have e:(jn b [ins 9 (((1+out.length:Nat)):Int) 0 0 0]).length=b.length+1:=by rw[cv];rfl
   rw[e];have:=iF.jn (e:=b.length+1+out.length) (b:=out) (e':=out.length) (by rw[show b.length+1+out.length=b.length+(1+out.length) by omega];exact I) ih (by rw[e]);exact this
 |t::ts,b::r,H,N=>by
  have Z:=N b (by simp);have A3:=H t (by simp);have ih:=Ma ts r (λx D=>H x (by simp[D])) (λx D=>N x (by simp[D]));rw[ck];generalize ck ts r=out at ih⊢;split
  .have I:=RA A3 Z;have M:(t++[ins 10 ((t.length:Int)+1+b.length) 0 0 0]++dK (t.length+1) b).length=t.length+1+b.length:=by simp;omega
   unfold Fg;rw[cv,M];refine iF.jn (e':=out.length) ?_ ih (by rw[M]);exact (show iF cells ex (t.length+1+b.length) _ from I).wk M.symm (by rw[M];omega)
  .rw[RB];have I:iF cells ex (b.length+(1+out.length)) (jn b [ins 9 (((1+out.length:Nat)):Int) 0 0 0]):=iF.jn (Z.wk rfl (by omega)) (Rz (by omega)) rfl;have O:=RA A3 I;have e:(jn b [ins 9 (((1+out.length:Nat)):Int) 0 0 0]).length=b.length+1:=by rw[cv];rfl
   generalize jn b [ins 9 (((1+out.length:Nat)):Int) 0 0 0]=part at O e⊢;have M:(t++[ins 10 ((t.length:Int)+1+part.length) 0 0 0]++dK (t.length+1) part).length=t.length+1+(b.length+1):=by simp[e];omega
   unfold Fg;rw[cv,M];refine iF.jn (e':=out.length) ?_ ih (by rw[M]);rw[show t.length+1+(b.length+1)+out.length=t.length+1+(b.length+(1+out.length)) by omega];exact O
theorem qP:Ar cells (ins 11 0 0 0 0)/\¬iL (ins 11 0 0 0 0):=⟨.inr ⟨by simp[fZ,ins],by simp[ins]⟩,by simp[iL,ins]⟩
theorem GA(S:List ax):dx (ins 11 0 0 0 0::S) []=dx S []:=by simp[dx,dH,ins,mD]
theorem Zk{t b:List ax}(H:OB cells t)(N:Fg cells true b):Fg cells ex (ig t b):=by
 unfold ig;refine Fg.Uf ?_;have M:(ins 11 0 0 0 0::t).length=t.length+1:=by simp
 have A':OB cells (ins 11 0 0 0 0::t):=⟨by rw[GA];exact H.1,λx D=>by
  rcases aam.1 D with rfl|D
  .exact qP
  .exact H.2 x D⟩
 --A7 test leads behind A7 jump back
 have U:dx (ins 11 0 0 0 0::t++[ins 10 ((t.length:Int)+3+b.length) 0 0 0]) []=some []:=by
  rw[eE,A'.1];have:=IF [];simp only[aba]at this;simp[dx,dH,ins,this,mD]
 have A4:(ins 11 0 0 0 0::t++[ins 10 ((t.length:Int)+3+b.length) 0 0 0]).length=t.length+2:=by simp
 have A0:iF cells true (b.length+1) b:=iF.wk N rfl (by omega);have I:=A0.app (e:=t.length+3+b.length) (A:=ins 11 0 0 0 0::t++[ins 10 ((t.length:Int)+3+b.length) 0 0 0]) (by rw[A4];omega) U ?_ ?_ ?_
 .rw[A4]at I;unfold Fg;have e:(ins 11 0 0 0 0::t++[ins 10 ((t.length:Int)+3+b.length) 0 0 0]++dK (t.length+2) b++[ins 9 0 0 0 0]).length=t.length+3+b.length:=by simp;omega
  have V:=iF.tail I (e:=t.length+3+b.length) rfl (q:=[ins 9 0 0 0 0]) (by simp[dx,dH,ins,mD]) (by
   intro x D;simp at D;subst D;exact .inl (.inl rfl)) (by
   intro x D _;simp at D;subst D;rfl) ⟨ins 11 0 0 0 0,by simp,rfl⟩ (by rw[e];omega)
  rw[e];exact V
 .intro x D;rcases aaA.1 D with D|D
  .exact (A'.2 x D).1
  .simp at D;subst D;exact .inl (.inr rfl)
 .intro i x D E J;by_cases hi:i<(ins 11 0 0 0 0::t).length
  .rw[aaC hi]at D;exact absurd E (A'.2 x (aaz D)).2
  .rw[aaJ (by omega)]at D;have:i-(ins 11 0 0 0 0::t).length=0:=by
    have:=(aai.1 D).1;simp at this⊢;omega
   rw[this]at D;simp at D;subst D;left;simp only[ins];omega
 .intro x D E J;rcases aaA.1 D with D|D
  .exact absurd E (A'.2 x D).2
  .simp at D;subst D;simp only[ins]at J;omega
theorem afT{t b:List ax}(H:OB cells t)(N:Fg cells true b)(hh:b=[]\/∃y,b[0]?=some y/\y.op=11):Fg cells ex (lP t b):=by
 unfold lP;refine Fg.Uf ?_;unfold Fg;have e:b++ins 11 0 0 0 0::t++[ins 10 0 0 0 0]=b++(ins 11 0 0 0 0::t++[ins 10 0 0 0 0]):=by simp
 rw[e];refine iF.tail (iF.wk N rfl (by simp)) rfl ?_ ?_ ?_ ?_ (aak _)
 .rw[eE,GA,H.1];have:=IF [];simp only[aba]at this;simp[dx,dH,ins,this,mD]
 .intro x D;rcases aaA.1 D with D|D
  .rcases aam.1 D with rfl|D
   .exact (qP (cells:=cells)).1
   .exact (H.2 x D).1
  .simp at D;subst D;exact .inl (.inr rfl)
 .intro x D E;rcases aaA.1 D with D|D
  .rcases aam.1 D with rfl|D
   .exact absurd E (qP (cells:=cells)).2
   .exact absurd E (H.2 x D).2
  .simp at D;subst D;rfl
 .rcases hh with rfl|⟨y,A5,A8⟩
  .exact⟨ins 11 0 0 0 0,by simp,rfl⟩
  .exact⟨y,by rw[aaC (aai.1 A5).1];exact A5,A8⟩
theorem afU{a c:Int}{b:List ax}(A1:iV cells a 1=true)(A9:iV cells c 2=true)(AA:iV cells (c+1) 1=true)(N:Fg cells true b):Fg cells ex (jI a c b):=by
 unfold jI;refine Fg.Uf ?_;have U:dx [ins 11 0 0 0 0,ins 13 a c 0 0,ins 10 ((b.length:Int)+8) 0 0 0] []=some []:=by
  have:=IF [];simp only[aba]at this;simp[dx,dH,ins,this,mD,qg]
 have A0:iF cells true (b.length+5) b:=iF.wk N rfl (by omega);have I:=A0.app (e:=b.length+8) (A:=[ins 11 0 0 0 0,ins 13 a c 0 0,ins 10 ((b.length:Int)+8) 0 0 0]) (by simp;omega) U ?_ ?_ ?_
 .unfold Fg;have e:([ins 11 0 0 0 0,ins 13 a c 0 0,ins 10 ((b.length:Int)+8) 0 0 0]++dK 3 b++[ins 2 a 0 0 0,ins 2 (c+1) 0 0 0,ins 8 0 8 0 0,ins 6 a 0 0 0,ins 9 0 0 0 0]).length=b.length+8:=by simp
  have V:=iF.tail I (e:=b.length+8) rfl (q:=[ins 2 a 0 0 0,ins 2 (c+1) 0 0 0,ins 8 0 8 0 0,ins 6 a 0 0 0,ins 9 0 0 0 0]) (by
   have O:=Zf [] false false;have I:=DR [] false;simp only[aba,aeR]at I O;simp[dx,dH,ins,mD,qg,I,O]) (by
   intro x D;simp at D;rcases D with rfl|rfl|rfl|rfl|rfl
   .exact .inr ⟨by simp[fZ,ins,A1],by simp[ins]⟩
   .exact .inr ⟨by simp[fZ,ins,AA],by simp[ins]⟩
   .exact .inr ⟨by simp[fZ,ins,Bv],by simp[ins]⟩
   .exact .inr ⟨by simp[fZ,ins,A1],by simp[ins]⟩
   .exact .inl (.inl rfl)) (by
   intro x D E;simp at D;rcases D with rfl|rfl|rfl|rfl|rfl
   .simp[iL,ins]at E
   .simp[iL,ins]at E
   .simp[iL,ins]at E
   .simp[iL,ins]at E
   .rfl) ⟨ins 11 0 0 0 0,rfl,rfl⟩ (by rw[<-e];exact aak _)
  rw[e];exact V
 .intro x D;simp at D;rcases D with rfl|rfl|rfl
  .exact (qP (cells:=cells)).1
  .exact .inr ⟨by simp[fZ,ins,A1,A9],by simp[ins]⟩
  .exact .inl (.inr rfl)
 .intro i x D E J;match i,D with
  |0,D=>simp at D;subst D;exact absurd E (qP (cells:=cells)).2
  |1,D=>simp at D;subst D;simp[iL,ins]at E
  |2,D=>
   simp at D;subst D;left;simp only[ins];omega
  |i+3,D=>simp at D
 .intro x D E J;simp at D;rcases D with rfl|rfl|rfl
  .exact absurd E (qP (cells:=cells)).2
  .simp[iL,ins]at E
  .simp only[ins]at J;omega
end
section
variable {vs:List Vr}
mutual
theorem uC:∀(s:Sm)(c:Int),c<=(b6 vs s c).2
 | .mk op name to val conds AP fields blocks line,c=>by
  have A':=lF blocks;have V:=K6 blocks;unfold b6;split
  .exact aje _
  .split
   .exact A' c
   .split
    .have:=A' (c+1);simp only;omega
    .split
     .have:=V (c+2);simp only;omega
     .split
      .exact V c
      .split
       .exact V c
       .split
        .exact aje _
        .split<;>exact aje _
theorem fm:∀(l:List Sm)(c:Int),c<=(ah vs l c).2
 |[],c=>aje _
 |x::r,c=>by
  have A':=uC x c;have V:=fm r (b6 vs x c).2;simp only[ah];omega
theorem lF:∀(l:List (List Sm))(c:Int),c<=(ay vs l c).2
 |[],c=>aje _
 |b::r,c=>by
  have A':=fm b c;have V:=lF r (ah vs b c).2;simp only[ay];omega
theorem K6:∀(l:List (List Sm))(c:Int),c<=(lR vs l c).2
 |[],c=>aje _
 |b::r,c=>fm b c
end
end
def Ug(vs:List Vr):∀(l:List Sm)(c:Int),(ah vs l c).1=[]\/∃y,(ah vs l c).1[0]?=some y/\y.op=11
 |[],c=>.inl rfl
 |x::r,c=>.inr ⟨ins 11 0 0 0 0,by simp[ah,jn],rfl⟩
def RC{h:Int}:∀{l:List Ex},eL l<=h->∀x∈l,az 0 x<=h
 |y::r,E,x,I=>by
  simp only[eL]at E;rcases aam.1 I with rfl|I
  .omega
  .exact RC (by omega) x I
section
variable {vs:List Vr} {cells:Int} (H:∀v∈vs,cJ v=true) (M:bH vs<=cells)
include H M
theorem OC{x:Ex}(Z:bE x=true)(hw:(dP vs x 2).1=0)(E:az 0 x<=64):OB cells (aj vs x).1:=by
 obtain⟨A',V⟩:=qN.1 hw;obtain⟨⟨f,i1,i2⟩,_,_,i4⟩:=qO H M x [] Z A' (by simpa using E);obtain rfl:=i2 V;exact⟨i1,λy D=>xp (i4 y D)⟩
theorem OD{ex:Bool}{x:Ex}{a:Int}(Z:bE x=true)(he:(aJ vs x).e=0)(E:az 0 x<=64)(U:iV cells a 1=true):dx ((aj vs x).1++[ins 6 a 0 0 0]) []=some []/\∀y∈(aj vs x).1++[ins 6 a 0 0 0],Ar cells y/\¬iL y:=by
 obtain⟨⟨f,i1,i2⟩,_,_,i4⟩:=qO H M x [] Z he (by simpa using E);constructor
 .rw[eE,i1];have:=DR [] f;simp only[aba]at this;simp[dx,dH,ins,this]
 .intro y D;rcases aaA.1 D with D|D
  .exact xp (i4 y D)
  .simp at D;subst D;exact⟨.inr ⟨by simp[fZ,ins,U],by simp[ins]⟩,by simp[iL,ins]⟩
theorem xq{ex:Bool}{l:List ax}(h:dx l []=some []/\∀y∈l,Ar cells y/\¬iL y):Fg cells ex l:=
 iF.plain h.1 (λx I=>(h.2 x I).1) (λx I=>(h.2 x I).2) (aak _)
omit H in
theorem ab6{c:Int}(h:iV cells c 1=true)(l:List Int):OB cells (ins 1 0 0 0 0::cK c l):=by
 have key:∀(n:Nat)(l:List Int),l.length<=n->dx (cK c l) [true]=some [true]/\∀x∈cK c l,Ar cells x/\¬iL x:=by
  intro n;induction n with
  |zero=>
   intro l N;obtain rfl:l=[]:=aaB (by omega);exact⟨rfl,by simp[cK]⟩
  |succ n ih=>
   intro l N;match l,N with
   |[],_=>exact⟨rfl,by simp[cK]⟩
   |[a],_=>exact⟨rfl,by simp[cK]⟩
   |a::b::r,N=>
    obtain⟨i1,i2⟩:=ih r (by simp at N;omega);constructor
    .have:=aaU [];simp only[aba,aeR]at this;simp[cK,dx,dH,ins,qg,this,i1]
    .intro x I;simp only[cK,aam]at I;rcases I with rfl|rfl|I
     .exact⟨.inr ⟨by simp[fZ,ins,h],by simp[ins]⟩,by simp[iL,ins]⟩
     .exact⟨.inr ⟨by simp[fZ,ins,Bv],by simp[ins]⟩,by simp[iL,ins]⟩
     .exact i2 x I
 obtain⟨i1,i2⟩:=key l.length l (aak _);refine⟨by simp[dx,dH,ins,qg,i1],λx I=>?_⟩;rcases aam.1 I with rfl|I
 .exact⟨.inr ⟨by simp[fZ,ins],by simp[ins]⟩,by simp[iL,ins]⟩
 .exact i2 x I
theorem OE{s:Tx}{v:Vr}(h:bk vs s=some v)(U:¬v.arr=true)(E:v.ty<=2):iV cells (bA vs s).1 1=true:=by
 have A1:∀v∈vs,0<=bR v:=λv J=>oI (H v J);have A7:=yw A1 h;have A8:bR v=1:=by unfold bR;rw[aaf U,aaf (by omega)]
 exact kN (by omega) (by omega) (by omega)
theorem ab7{s:Tx}{v:Vr}(h:bk vs s=some v)(U:v.arr=true):N4 cells (ins 7 (bA vs s).1 0 v.lo v.hi)=true:=by
 have A1:∀v∈vs,0<=bR v:=λv J=>oI (H v J);have A7:=yw A1 h;have A0:=H v (yt h).1;simp only[cJ,Ds]at A0;have O:=A0.2.2.1;rw[aav U]at O;have O:=aa6 O;have A8:bR v=v.hi-v.lo+1:=by unfold bR;rw[aav U]
 have A3:iV cells (bA vs s).1 (v.hi-v.lo+1)=true:=kN (by omega) (by omega) (by omega);unfold N4;simp only[Ds];exact⟨⟨⟨aep (show (0:Int)<=v.lo by omega),aep (show v.lo<=v.hi by omega)⟩,aep (show v.hi<=255 by omega)⟩,A3⟩
theorem K7{s:Tx}{v:Vr}(h:bk vs s=some v)(E:2<v.ty):0<=(bA vs s).1/\(bA vs s).1+(eI v.ty).length<=cells/\0<(eI v.ty).length:=by
 have A1:∀v∈vs,0<=bR v:=λv J=>oI (H v J);have A7:=yw A1 h;have A0:=H v (yt h).1;have A9:rK v.ty=true:=by
  rcases Ro A0 with h|h
  .omega
  .exact h.2.2
 simp only[cJ,Ds]at A0;have A2:¬v.arr=true:=by
  intro U;have O:=A0.2.2.1;rw[aav U]at O;have O:=aa6 O;omega
 have A8:bR v=(eI v.ty).length:=by unfold bR;rw[aaf A2,aav E]
 refine⟨by omega,by omega,?_⟩;unfold rK at A9;have:=aa6 A9;omega
theorem ako{ex:Bool}{to val:Ex}{line:Int}(A4:bO to=3\/bO to=4)(f1:bE to=true)(f2:bE val=true)(h:(Iy vs to val line).1=0)(E:(if bO to=3 then az 0 val else max (fE 0 (da to)) (az 1 val))<=64):
 Fg cells ex (if bO to=3 then (aj vs val).1++[ins 6 (bA vs (dI to)).1 0 0 0]else pE vs (da to)++((aj vs val).1++[ins 7 (bA vs (dI to)).1 0 (bA vs (dI to)).2.lo (bA vs (dI to)).2.hi])):=by
 obtain⟨op,n,name,field,sub,l⟩:=to;simp only[pV,DM,pW]at A4 E⊢;unfold Iy at h;simp only[DM]at h;cases J:bk vs name with
 |none=>rw[J]at h;simp at h
 |some v=>
  rw[J]at h;simp only at h;split at h
  .simp at h
  .obtain⟨q1,AC⟩:=b9.1 h;obtain⟨AD,_⟩:=b9.1 AC;have q1:(aJ vs (.mk op n name field sub l)).e=0:=q1;have q2:(aJ vs val).e=0:=AD;have AE:=JJ f1 q1;obtain⟨AF,AG⟩:=EI f1;have AH:=iX J;unfold aJ at q1;rw[aaf (by omega),aav (by omega),J]at q1;simp only at q1;rw[aaf (by omega)]at q1;by_cases AA:v.arr≠decide (op=4)\/2<v.ty
   .rw[aav AA]at q1;simp[cW]at q1
   .have AB:v.arr=decide (op=4):=by
     cases AQ:v.arr<;>cases AR:decide (op=4)<;>simp_all
    have AS:¬2<v.ty:=λh=>AA (.inr h);by_cases AI:op=3
    .subst AI;have E:az 0 val<=64:=E;have A2:¬v.arr=true:=by rw[AB];decide
     exact xq (l:=(aj vs val).1++[ins 6 (bA vs name).1 0 0 0]) H M (OD (ex:=ex) H M f2 q2 E (OE H M J A2 (by omega)))
    .have AJ:op=4:=by omega
     subst AJ;have E:max (fE 0 sub) (az 1 val)<=64:=E;obtain⟨z,rfl⟩:∃z,sub=[z]:=by
      match sub,AF with
      |[z],_=>exact⟨z,rfl⟩
      |[],h=>simp[dW]at h
      |_::_::_,h=>simp[dW]at h
     simp only[fE]at E;have AK:=(gT _).1 AG z (by simp);obtain⟨⟨f,i1,_⟩,_,_,i4⟩:=qO H M z [] AK (AE z (by simp)) (by simp;omega);obtain⟨⟨g,A5,_⟩,_,_,AL⟩:=qO H M val [f] f2 q2 (by simp;omega);have A2:v.arr=true:=by rw[AB];decide
     have O:=ab7 H M J A2;simp only[pE,AH];refine xq (l:=(aj vs z).1++((aj vs val).1++[ins 7 (bA vs name).1 0 v.lo v.hi])) H M ⟨?_,?_⟩
     .rw[eE,i1];simp only[aba,aek];rw[eE,A5];have:=Zf [] f g;simp only[aba,aeR]at this;simp[dx,dH,ins,this]
     .intro y D;rcases aaA.1 D with D|D
      .exact xp (i4 y D)
      .rcases aaA.1 D with D|D
       .exact xp (AL y D)
       .simp at D;subst D;refine⟨.inr ⟨?_,by simp[ins]⟩,by simp[iL,ins]⟩;unfold fZ;simp only[ins]at O⊢;simpa using O
theorem RD{name:Tx}{v:Vr}{line:Int}(J:bk vs name=some v)(E:2<v.ty):∀(fs:List Tx)(xs:List Ex)(p:List Tx),xs.length=fs.length->bY xs=true->(jW vs v.ty line fs xs p).1=0->eL xs<=64->
 dx (cV vs name fs xs) []=some []/\∀y∈cV vs name fs xs,Ar cells y/\¬iL y
 |[],[],p,_,_,_,_=>⟨rfl,by simp[cV]⟩
 |f::fs,x::xs,p,N,Z,h,AM=>by
  simp only[bY,Ds]at Z;simp only[eL]at AM;unfold jW at h;cases A6:mE v.ty f with
  |none=>rw[A6]at h;simp at h
  |some q=>
   rw[A6]at h;simp only at h;split at h
   .simp at h
   .split at h
    .simp at h
    .obtain⟨A4,AN⟩:=b9.1 h;obtain⟨i1,i2⟩:=RD J E fs xs (p++[f]) (by simpa using N) Z.2 AN (by omega);obtain⟨_,q2,j,q3,AT⟩:=s7 J E A6;obtain⟨AU,AV,AW⟩:=K7 H M J E;have A3:iV cells (fL vs name f).1 1=true:=kN (by rw[q3];omega) (by omega) (by rw[q3];omega);obtain⟨A5,AO⟩:=OD (ex:=false) H M Z.1 (qN.1 A4).1 (by omega) A3;have e:cV vs name (f::fs) (x::xs)=((aj vs x).1++[ins 6 (fL vs name f).1 0 0 0])++cV vs name fs xs:=by simp[cV]
     rw[e];constructor
     .rw[eE,A5];exact i1
     .intro y D;rcases aaA.1 D with D|D
      .exact AO y D
      .exact i2 y D
 |[],_::_,_,N,_,_,_=>by simp at N
 |_::_,[],_,N,_,_,_=>by simp at N
end
def qQ{vs:List Vr}{I:Bool}:∀{cs:List Ex}{l:List (List Sm)},cs.length<=l.length->(eO vs I cs l).1=0->∀x∈cs,(dP vs x 2).1=0
 |c::cs,b::r,A1,h,x,D=>by
  obtain⟨V,Z⟩:=b9.1 h;obtain⟨_,A5⟩:=b9.1 Z;rcases aam.1 D with rfl|D
  .exact V
  .exact qQ (by simpa using A1) A5 x D
 |_::_,[],A1,_,_,_=>by simp at A1
section
variable {vs:List Vr} {cells:Int} (N:∀v∈vs,cJ v=true) (M:bH vs<=cells)
include N M
mutual
theorem ab8(I:Bool):∀(s:Sm)(c:Int),jr s=true->(kr vs I s).1=0->dN s<=64->0<=c->(b6 vs s c).2<=cells->Fg cells I (b6 vs s c).1
 | .mk op name to val conds A6 fields blocks line,c,J,h,H,O,E=>by
  simp only[jr,Ds,aaw]at J;obtain⟨Ag,Ah,AA,AC,A3,A7,Ai,Aj,A8⟩:=J;have AB:(op=1\/op=3\/op=5\/op=6)->bE val=true:=by
   intro V;rw[aav V]at AC;simp only[Ds]at AC;exact AC.2
  unfold kr at h;unfold dN at H;unfold b6 at E⊢;by_cases V:op=1
  .subst V;rw[aav rfl]at h;rw[aav rfl]at AA;simp only[Ds,aaw]at AA;simp only[ad1]at H⊢;exact ako N M AA.1 AA.2 (AB (.inl rfl)) h H
  .rw[aaf V]at h H;simp only[aaf V]at E⊢;by_cases Z:op=2
   .subst Z;rw[aav rfl]at h H;simp only[ad1]at E⊢;have U:cQ 2 conds.length A6.length fields.length blocks.length=true:=A7;simp[cQ]at U;refine Ma _ _ ?_ (BH I conds blocks c A8 h (by omega) O E);intro t AD;obtain⟨x,D,rfl⟩:=aaD.1 AD;exact OC N M ((gT _).1 A3 x D) (qQ (by omega) h x D) (RC (by omega) x D)
   .rw[aaf Z]at h H;simp only[aaf Z]at E⊢;by_cases A5:op=3
    .subst A5;rw[aav rfl]at h H;simp only[ad1]at E⊢;obtain⟨q1,q2⟩:=b9.1 h;have hm:=lF (vs:=vs) blocks (c+1);have AL:iV cells c 1=true:=kN O (by omega) (by omega);refine Fg.jn (xq N M (OD (ex:=I) N M (AB (.inr (.inl rfl))) (qN.1 q1).1 (by omega) AL)) ?_;refine Ma _ _ ?_ (BH I [] blocks (c+1) A8 q2 (by omega) (by omega) E);intro t AD;obtain⟨l,A1,rfl⟩:=aaD.1 AD;exact ab6 M AL l
    .rw[aaf A5]at h H;simp only[aaf A5]at E⊢;by_cases AE:op=4
     .subst AE;rw[aav rfl]at h H;simp only[ad1]at E⊢;have U:cQ 4 conds.length A6.length fields.length blocks.length=true:=A7;simp[cQ]at U;obtain⟨AR,_,_,AS⟩:=U;cases A0:bk vs name with
      |none=>rw[A0]at h;simp at h
      |some v=>
       rw[A0]at h;simp only at h;split at h
       .simp at h
       .split at h
        .simp at h
        .rename_i g2;obtain⟨q1,q2⟩:=b9.1 h;have hm:=K6 (vs:=vs) blocks (c+2);have AM:=OE N M A0 (λe=>g2 (.inl e)) (by omega);have AT:iV cells c 1=true:=kN O (by omega) (by omega);have AN:iV cells (c+1) 1=true:=kN (by omega) (by omega) (by omega);have AU:iV cells c 2=true:=kN O (by omega) (by omega);refine Fg.jn ?_ (afU AM AU AN (JN blocks (c+2) A8 q2 AS (by omega) (by omega) E));obtain⟨x,y,z,rfl⟩:∃x y z,conds=[x,y,z]:=by
          match conds,AR with
          |[x,y,z],_=>exact⟨x,y,z,rfl⟩
         obtain⟨AV,AF⟩:=b9.1 q1;obtain⟨AF,AG⟩:=b9.1 AF;obtain⟨AG,_⟩:=b9.1 AG;simp only[bY,Ds]at A3;simp only[fE,Int.zero_add,Int.reduceAdd]at H;obtain⟨⟨f,i1,_⟩,_,_,i4⟩:=qO N M x [] A3.1 (qN.1 AV).1 (by simp;omega);obtain⟨⟨g,AW,_⟩,_,_,AX⟩:=qO N M y [f] A3.2.1 (qN.1 AF).1 (by simp;omega);obtain⟨⟨k,AY,_⟩,_,_,AZ⟩:=qO N M z [f,g] A3.2.2.1 (qN.1 AG).1 (by simp;omega);refine xq N M ⟨?_,?_⟩
         .simp only[gd];rw[eE,eE,i1];simp only[aba,aek];rw[eE,AW];simp only[aeR,aba,aek];rw[AY];have t1:=DR [f,g] k;have t2:=DR [f] g;have t3:=DR [] f;simp only[aeR,aba]at t1 t2 t3;simp[dx,dH,ins,t1,t2,t3]
         .intro a A2;simp only[gd,aaA,aam,aaH,ajl]at A2;rcases A2 with (A2|A2|A2)|rfl|rfl|rfl
          .exact xp (i4 a A2)
          .exact xp (AX a A2)
          .exact xp (AZ a A2)
          .exact⟨.inr ⟨by simp[fZ,ins,AN],by simp[ins]⟩,by simp[iL,ins]⟩
          .exact⟨.inr ⟨by simp[fZ,ins,AT],by simp[ins]⟩,by simp[iL,ins]⟩
          .exact⟨.inr ⟨by simp[fZ,ins,AM],by simp[ins]⟩,by simp[iL,ins]⟩
     .rw[aaf AE]at h H;simp only[aaf AE]at E⊢;by_cases AH:op=5
      .subst AH;rw[aav rfl]at h;rw[aav (.inl rfl)]at H;simp only[ad1]at E⊢;have U:cQ 5 conds.length A6.length fields.length blocks.length=true:=A7;simp[cQ]at U;obtain⟨q1,q2⟩:=b9.1 h;exact Zk (OC N M (AB (.inr (.inr (.inl rfl)))) q1 (by omega)) (JN blocks c A8 q2 U.2.2.2 (by omega) O E)
      .rw[aaf AH]at h;simp only[aaf AH]at E⊢;by_cases AI:op=6
       .subst AI;rw[aav rfl]at h;rw[aav (.inr rfl)]at H;simp only[ad1]at E⊢;have U:cQ 6 conds.length A6.length fields.length blocks.length=true:=A7;simp[cQ]at U;obtain⟨q1,q2⟩:=b9.1 h;refine afT (OC N M (AB (.inr (.inr (.inr rfl)))) q2 (by omega)) (JN blocks c A8 q1 U.2.2.2 (by omega) O E) ?_;match blocks,U.2.2.2 with
        |[b],_=>exact Ug vs b c
       .rw[aaf AI]at h;rw[aaf (by omega)]at H;simp only[aaf AI]at E⊢;by_cases AJ:op=7
        .subst AJ;rw[aav rfl]at h;simp only[ad1]at⊢;split at h
         .rename_i A_;subst A_;refine⟨aak _,by simp[dx,dH,ins,mD],?_,?_,?_⟩
          .intro x D;simp at D;subst D;exact .inl (.inl rfl)
          .intro i x D AK A9;cases i with
           |zero=>simp at D;subst D;simp[ins]at A9
           |succ i=>simp at D
          .intro x D AK A9;simp at D;subst D;exact⟨rfl,.inr ⟨rfl,rfl⟩⟩
         .simp at h
        .rw[aaf AJ]at h;simp only[aaf AJ]at⊢;by_cases AO:op=8
         .subst AO;simp only[ad1];refine⟨aak _,by simp[dx,dH,ins,mD],?_,?_,?_⟩
          .intro x D;simp at D;subst D;exact .inl (.inl rfl)
          .intro i x D AK A9;cases i with
           |zero=>simp at D;subst D;simp[ins]at A9
           |succ i=>simp at D
          .intro x D AK A9;simp at D;subst D;exact⟨rfl,.inl rfl⟩
         .have Aa:op=9:=by omega
          subst Aa;rw[aav rfl]at h;rw[aaf (by omega)]at H;simp only[aaf AO];have U:cQ 9 conds.length A6.length fields.length blocks.length=true:=A7;simp[cQ]at U;cases A0:bk vs name with
          |none=>rw[A0]at h;simp at h
          |some v=>
           rw[A0]at h;simp only at h;split at h
           .simp at h
           .rename_i g1;have Ab:=iX A0;obtain⟨i1,i2⟩:=RD N M A0 (by omega) fields conds [] U.1 A3 h H;obtain⟨Ac,Ad,Ae⟩:=K7 N M A0 (by omega);refine xq N M ⟨?_,?_⟩
            .rw[eE,i1];simp[dx,dH,ins,mD]
            .intro y A4;rcases aaA.1 A4 with A4|A4
             .exact i2 y A4
             .simp at A4;subst A4;refine⟨.inr ⟨?_,by simp[ins]⟩,by simp[iL,ins]⟩;rw[Ab];have Af:iV cells (bA vs name).1 (eI v.ty).length=true:=kN Ac (by omega) Ad;simp[fZ,ins,pnN,Af];exact aep Ae
theorem xr(I:Bool):∀(l:List Sm)(c:Int),eF l=true->(eK vs I l).1=0->aM l<=64->0<=c->(ah vs l c).2<=cells->Fg cells I (ah vs l c).1
 |[],c,_,_,_,_,_=>iF.plain rfl (by simp[ah]) (by simp[ah]) (aak _)
 |x::r,c,J,h,H,O,E=>by
  simp only[eF,Ds]at J;simp only[aM]at H;obtain⟨V,Z⟩:=b9.1 h;simp only[ah]at E⊢;have AP:=uC (vs:=vs) x c;have AQ:=fm (vs:=vs) r (b6 vs x c).2;have i1:=ab8 I x c J.1 V (by omega) O (by omega);have i2:=xr I r (b6 vs x c).2 J.2 Z (by omega) (by omega) E;have tk:Fg cells I [ins 11 0 0 0 0]:=iF.plain (by rw[GA];rfl) (λx D=>by simp at D;subst D;exact qP.1) (λx D=>by simp at D;subst D;exact (qP (cells:=cells)).2) (aak _);exact Fg.jn (Fg.jn tk i1) i2
theorem BH(I:Bool):∀(cs:List Ex)(l:List (List Sm))(c:Int),cA l=true->(eO vs I cs l).1=0->bz l<=64->0<=c->(ay vs l c).2<=cells->∀b∈(ay vs l c).1,Fg cells I b
 |_,[],c,_,_,_,_,_,b,A'=>by simp[ay]at A'
 |[],x::r,c,J,h,H,O,E,b,A'=>by
  simp only[cA,Ds]at J;simp only[bz]at H;obtain⟨V,Z⟩:=b9.1 h;simp only[ay]at E A';have AP:=fm (vs:=vs) x c;have AQ:=lF (vs:=vs) r (ah vs x c).2;have i1:=xr I x c J.1 V (by omega) O (by omega);have i2:=BH I [] r (ah vs x c).2 J.2 Z (by omega) (by omega) E;rcases aam.1 A' with rfl|A'
  .exact i1
  .exact i2 b A'
 |_::cs,x::r,c,J,h,H,O,E,b,A'=>by
  simp only[cA,Ds]at J;simp only[bz]at H;obtain⟨_,h⟩:=b9.1 h;obtain⟨V,Z⟩:=b9.1 h;simp only[ay]at E A';have AP:=fm (vs:=vs) x c;have AQ:=lF (vs:=vs) r (ah vs x c).2;have i1:=xr I x c J.1 V (by omega) O (by omega);have i2:=BH I cs r (ah vs x c).2 J.2 Z (by omega) (by omega) E;rcases aam.1 A' with rfl|A'
  .exact i1
  .exact i2 b A'
theorem JN:∀(l:List (List Sm))(c:Int),cA l=true->(yr vs l).1=0->l.length=1->bz l<=64->0<=c->(lR vs l c).2<=cells->Fg cells true (lR vs l c).1
 |[b],c,J,h,_,H,O,E=>by
  simp only[cA,amN]at J;simp only[bz]at H;exact xr true b c J h (by omega) O E
 |[],_,_,_,A1,_,_,_=>by simp at A1
 |_::_::_,_,_,_,A1,_,_,_=>by simp at A1
end
end
def xu{op a b n m:Int}(h:op<9\/10<op):Flat [ins op a b n m]:=Flat.one (by simp[ins];omega)
section
variable {vs:List Vr}
mutual
theorem n8:∀x:Ex,bE x=true->(aJ vs x).e=0->Flat (aj vs x).1
 | .mk op n name field sub line,D,h=>by
  have AA:=Oz D;simp only[bE,Ds,aaw]at D;obtain⟨_,A3,_,_,V⟩:=D;unfold aJ at h;unfold aj;by_cases Z:op=1\/op=2
  .simp only[aav Z];exact xu (by omega)
  .rw[aaf Z]at h⊢;by_cases A':op=3\/op=4\/op=5
   .rw[aav A']at h;cases J:bk vs name with
    |none=>rw[J]at h;simp[cW]at h
    |some v=>
     rw[J]at h;simp only at h;have A0:(bA vs name).2=v:=iX J;by_cases M:op=5
     .rw[aav M]at h;rw[aaf (by omega),aav M];split at h
      .simp[cW]at h
      .rename_i AB;cases N:mE v.ty field with
       |none=>rw[N]at h;simp[cW]at h
       |some p=>
        obtain⟨_,hm,j,AC,_⟩:=Ot (i:=0) N;have A4:=s7 J (by omega) N;have AD:=WJ hm;have:(fL vs name field).2=p:=by
         obtain⟨_,_,_,_⟩:=A4;simp_all
        simp only[this];exact xu (by omega)
     .rw[aaf M]at h;split at h
      .simp[cW]at h
      .rename_i A5;simp only[amG,Int.not_lt]at A5;by_cases A1:op=4
       .rw[aav A1]at h;rw[aaf (by omega),aaf M,aav A1];simp only[A0];refine Flat.app (akp sub v.ty V h) (xu (by omega))
       .rw[aav (by omega)];simp only[A0];exact xu (by omega)
   .rw[aaf A']at h;rw[aaf (by omega),aaf (by omega),aaf (by omega)];exact Flat.app (akq sub op line V h (by rw[A3];unfold dW;split<;>(try split)<;>omega)) (xu (by omega))
theorem akp:∀(l:List Ex)(t:Int),bY l=true->(Ah vs t l).e=0->Flat (pE vs l)
 |[],t,_,_=>by unfold pE;exact Flat.nil
 |x::r,t,D,h=>by
  simp only[bY,Ds]at D;unfold pE;unfold Ah at h;split at h
  .rename_i he;exact absurd h he
  .rename_i he;exact n8 x D.1 (by simpa using he)
theorem akq:∀(l:List Ex)(op line:Int),bY l=true->(vg vs op line l).e=0->l.length<=2->Flat (gd vs l).1
 |[],_,_,_,_,_=>by unfold gd;exact Flat.nil
 |[x],op,line,D,h,_=>by
  simp only[bY,amN]at D;unfold vg at h;unfold gd;exact n8 x D (jq h).1
 |[x,y],op,line,D,h,_=>by
  simp only[bY,amN,Ds]at D;unfold vg at h;obtain⟨A6,A7,_⟩:=jq h;unfold gd gd;exact Flat.app (n8 x D.1 A6) (n8 y D.2 A7)
 |x::y::z::r,_,_,_,_,A8=>by simp at A8
end
theorem eZ{x:Ex}{t:Int}(h:(dP vs x t).1=0):(aJ vs x).e=0/\(aJ vs x).t=t:=by
 unfold dP at h;split at h
 .rename_i he;exact absurd h he
 .rename_i he;split at h
  .simp at h
  .rename_i A9;exact⟨by simpa using he,by simpa using A9⟩
theorem aaY(c:Int):∀l:List Int,Flat (cK c l)
 |[]=>by unfold cK;exact Flat.nil
 |[_]=>by unfold cK;exact Flat.nil
 |a::b::r=>by
  unfold cK;exact Flat.cons (by simp[ins]) (Flat.cons (by simp[ins]) (aaY c r))
end
def jf(ex:Bool)(x:ax):Prop:=(x.op=10->0<=x.a)/\(x.op=9->0<=x.a\/x.a= -2\/(ex=true/\x.a= -1))
def Jf(ex:Bool)(l:List ax):Prop:=∀x∈l,jf ex x
section
variable {ex:Bool}
theorem Flat.jf{l:List ax}(h:Flat l):Jf ex l:=λx E=>⟨λI=>absurd I (h x E).2,λI=>absurd I (h x E).1⟩
theorem Jf.app{a b:List ax}(O:Jf ex a)(U:Jf ex b):Jf ex (a++b):=λx E=>(aaA.1 E).elim (O x) (U x)
theorem Jf.nil:Jf ex []:=λ_ h=>by simp at h
theorem Jf.one{x:ax}(h:Am.jf ex x):Jf ex [x]:=λy H=>by simp at H;subst H;exact h
theorem Jf.mv{l:List ax}(h:Jf ex l)(k:Nat):Jf ex (dK k l):=by
 intro x E;obtain⟨y,H,rfl⟩:=aaD.1 E;have:=h y H;unfold Am.jf iK at*;split
 .rename_i A2;exact⟨λ_=>by simp only;omega,λ_=>.inl (by simp only;omega)⟩
 .exact this
theorem Jf.jn{a b:List ax}(O:Jf ex a)(U:Jf ex b):Jf ex (jn a b):=O.app (U.mv _)
theorem Jf.out{l:List ax}(h:Jf true l):Jf ex (qo l):=by
 intro x E;obtain⟨y,H,rfl⟩:=aaD.1 E;have:=h y H;unfold Am.jf kg at*;split
 .exact⟨λ_=>by simp only;omega,λ_=>.inl (by simp only;omega)⟩
 .rename_i A2;refine⟨this.1,λI=>?_⟩;rcases this.2 I with h|h|h
  .exact .inl h
  .exact .inr (.inl h)
  .exact absurd ⟨I,h.2⟩ A2
end
def OF{vs:List Vr}{name:Tx}:∀(fs:List Tx)(xs:List Ex),bY xs=true->(∀x∈xs,(aJ vs x).e=0)->Flat (cV vs name fs xs)
 |[],xs,_,_=>by cases xs<;>simp only[cV]<;>exact Flat.nil
 |_::_,[],_,_=>by simp only[cV];exact Flat.nil
 |f::fs,x::xs,D,h=>by
  simp only[bY,Ds]at D;simp only[cV];exact Flat.app (n8 x D.1 (h x (by simp))) (Flat.cons (by simp[ins]) (OF fs xs D.2 (λy H=>h y (by simp[H]))))
inductive Vl where
 |v (n:Int) (t:Bool)
 |f (e:Int)
 deriving DecidableEq
structure Mc where
 cells:List Int
 fuel:Nat
inductive Hw where
 |on
 |lv
 |rt
 |ft (e:Int)
 deriving DecidableEq
section
variable {vs:List Vr}
theorem ab9{x:Ex}{t:Int}(h:(dP vs x t).1=0):(aJ vs x).e=0/\(aJ vs x).t=t:=by
 unfold dP at h;split at h
 .exact absurd h (by assumption)
 .rename_i I;split at h
  .simp at h
  .rename_i D;exact⟨by simpa using I,by simpa using D⟩
theorem As{k line:Int}:∀(fs:List Tx)(xs:List Ex)(p:List Tx),xs.length=fs.length->(jW vs k line fs xs p).1=0->∀x∈xs,(aJ vs x).e=0
 |[],[],_,_,_,x,J=>by simp at J
 |f::fs,x::xs,p,M,h,y,E=>by
  simp only[jW]at h;cases H:mE k f with
  |none=>rw[H]at h;simp at h
  |some q=>
   rw[H]at h;simp only at h;split at h
   .simp at h
   .split at h
    .simp at h
    .obtain⟨D,N⟩:=b9.1 h;rcases aam.1 E with rfl|E
     .exact (ab9 D).1
     .exact As fs xs _ (by simpa using M) N y E
 |[],_::_,_,h,_,_,_=>by simp at h
 |_::_,[],_,h,_,_,_=>by simp at h
end
def EK:∀(ts bs:List (List ax)),(bs.map List.length).sum<=(ck ts bs).length
 |[],[]=>by simp[ck]
 |_::_,[]=>by simp[ck]
 |[],b::r=>by
  have ih:=EK [] r;rw[JM];simp only[aaK,ajr];split
  .rename_i h;subst h;simp
  .simp only[cv,aal,aao,aay];omega
 |t::ts,b::r=>by
  have ih:=EK ts r;rw[ck];simp only[aaK,ajr];generalize ck ts r=out at ih⊢;rw[cv];simp only[aal,aao,aay,nI];split
  .omega
  .simp only[aal,aao,aay];omega
section
variable {vs:List Vr}
mutual
theorem Uh:∀(s:Sm)(c:Int),(b6 vs s c).2<=c+(b6 vs s c).1.length
 | .mk op name to val conds H fields blocks line,c=>by
  have E:=λc=>Fz blocks c;have D:=λc=>Ui blocks c;unfold b6;split
  .simp only;omega
  .split
   .have q1:=E c;have q2:=EK (conds.map λx=>(aj vs x).1) (ay vs blocks c).1;simp only
    omega
   .split
    .have q1:=E (c+1);have q2:=EK (H.map λl=>ins 1 0 0 0 0::cK c l) (ay vs blocks (c+1)).1;simp only[cv,aal,aao,aay];omega
    .split
     .have q1:=D (c+2);simp only[cv,aal,aao,aay,jI,qp,nI];omega
     .split
      .have q1:=D c;simp only[ig,qp,aal,aao,aay,nI];omega
      .split
       .have q1:=D c;simp only[lP,qp,aal,aao,aay];omega
       .split
        .simp only;omega
        .split<;>(simp only;omega)
theorem nJ:∀(l:List Sm)(c:Int),(ah vs l c).2<=c+(ah vs l c).1.length
 |[],c=>by simp[ah]
 |x::r,c=>by
  have E:=Uh x c;have D:=nJ r (b6 vs x c).2;simp only[ah,cv,aao,aay];omega
theorem Fz:∀(l:List (List Sm))(c:Int),(ay vs l c).2<=c+(((ay vs l c).1.map List.length).sum:Nat)
 |[],c=>by simp[ay]
 |b::r,c=>by
  have E:=nJ b c;have D:=Fz r (ah vs b c).2;simp only[ay,aaK,ajr];omega
theorem Ui:∀(l:List (List Sm))(c:Int),(lR vs l c).2<=c+(lR vs l c).1.length
 |[],c=>by simp[lR]
 |b::r,c=>nJ b c
end
end
def yA:∀(l p:List Vr)(n:Int),n<=1024->(KZ l p n).1=0->n+bH l<=1024
 |[],_,n,E,_=>by simp[bH];exact E
 |v::r,p,n,E,h=>by
  unfold KZ at h;split at h
  .simp at h
  .split at h
   .simp at h
   .have:=yA r _ _ (by omega) h;simp only[bH];omega
def vK:∀(l:List Vr),(∀v∈l,0<=bR v)->0<=bH l
 |[],_=>by simp[bH]
 |y::l,h=>by
  have:=vK l (λv D=>h v (by simp[D]));have:=h y (by simp);simp only[bH];omega
def WU{p:Pg}(H:uT p=true)(M:jD p.body=true)(N:(xl p).1=0)(O:aM (cy p.body)<=64):
 Fg (ah p.vars (cy p.body) (bH p.vars)).2 false (ah p.vars (cy p.body) (bH p.vars)).1/\0<=bH p.vars/\bH p.vars<=1024/\bH p.vars<=(ah p.vars (cy p.body) (bH p.vars)).2/\
 (ah p.vars (cy p.body) (bH p.vars)).2<=bH p.vars+(ah p.vars (cy p.body) (bH p.vars)).1.length:=by
 simp only[uT,Ds,aaR]at H;obtain⟨_,_,I,U⟩:=H;obtain⟨V,Z⟩:=b9.1 N;obtain⟨A',a2,a3⟩:=s6 false p.body U M Z;have A1:=yA p.vars [] 0 (by omega) V;have J:=vK p.vars (λv D=>oI (I v D));have hm:=fm (vs:=p.vars) (cy p.body) (bH p.vars);have A0:=nJ (vs:=p.vars) (cy p.body) (bH p.vars);exact⟨xr I hm false (cy p.body) (bH p.vars) A' a3 O J (aje _),J,by omega,hm,A0⟩
def OG{P:Program}{w:World}{n:String}{d:DataW Unit}:∀{l:List (String×DataW Unit)}{ps:List MemPlace},DataW.LaidVars P w l ps->(n,d)∈l->
 ∃g t cs fuel p,P.globalNamed n=some g/\(P.globals[g]?).map (·.type)=some t/\w.var? P n=some cs/\DataW.trod (λ_=>()) P w 0 (λ_=>true) false fuel t cs.toList=some (d,p)
 |[],_,_,hm=>by simp at hm
 |(AF,AG)::r,ps,⟨g,t,cs,fuel,p,q,U,M,E,N,O,_⟩,hm=>by
  rcases aam.1 hm with hm|hm
  .cases hm;exact⟨g,t,cs,fuel,p,U,M,E,N⟩
  .exact OG O hm
def WV{H:Type}{enc:TypeId×Value->H}{P:Program}{w:World}{base:Nat}{sp:Nat->Bool}{held:Bool}{fuel:Nat}{t e:TypeId}{n:Nat}{k:IntKind}{cs:List Value}{Z:List (DataW H)}{p:List MemPlace}
 (y:P.underlying t=some (.array n e)) (he:P.underlying e=some (.int k)) (A':P.cellsOf e=1) (h:DataW.trod enc P w base sp held fuel t cs=some (.agg Z,p)):
 cs.length=P.cellsOf t/\Z.length=n/\∀i,i<n->∃z,cs[i]?=some (.int k z)/\Z[i]?=some (.lit (.int k z)):=by
 cases fuel with
 |zero=>simp[DataW.trod]at h
 |succ m=>
  unfold DataW.trod at h;rw[y]at h;simp only at h;split at h
  .rename_i A0;simp only[aap,abn,DataW.agg.injEq]at h;obtain⟨xs,A3,rfl,_⟩:=h;have U:xs.length=n:=by simpa using mapM_some_length A3
   refine⟨A0,by simpa using U,λi hi=>?_⟩;have M:=mapM_some_get A3 i i (by simp[hi]);have E:i<xs.length:=by omega
   have N:xs[i]?=some xs[i]:=by simp[E]
   rw[N,A']at M;obtain⟨z,O,A1,_⟩:=DataW.trod_int he M;refine⟨z,?_,by simp[N,A1]⟩;have V:=aeH (·[0]?) O;simpa [aaM,abp]using V
  .cases h
def OH{P:Program}{W:World}{l:List (String×DataW Unit)}{name:String}{g:Nat}{t e:TypeId}{n:Nat}{k:IntKind}{zs:List Int}
 (A0:laidMet P l W) (hm:(name,DataW.agg (zs.map λz=>.lit (.int k z)))∈l) (A2:P.globalNamed name=some g) (AA:(P.globals[g]?).map (·.type)=some t)
 (y:P.underlying t=some (.array n e)) (he:P.underlying e=some (.int k)) (A':P.cellsOf e=1) (AH:0<n) (AB:P.cellsOf t=n):
 (g<W.heap.size/\∀cs,D.agg (zs.map λz=>.int k z)=.agg cs->∃cur e A4,W.heap[g]?=some (.cells cur e A4)/\cur.size=cs.length)/\∃A5,aP W (λ_=>False) (.agg (zs.map λz=>.int k z)) A5/\∀(i:Nat)(c:Value),A5.cells[i]?=some c->W.cell? ⟨g,i,none⟩=some c:=by
 obtain⟨ps,J,_⟩:=A0;obtain⟨AI,AJ,cs,fuel,p,U,M,E,N⟩:=OG J hm;obtain rfl:=Option.some.inj (A2.symm.trans U);obtain rfl:=Option.some.inj (AA.symm.trans M);obtain⟨A6,O,A1⟩:=WV y he A' N;rw[AB]at A6;simp at O;have V:∀i z,zs[i]?=some z->W.cell? ⟨g,i,none⟩=some (.int k z):=by
  intro i z I;have hi:i<n:=by
   have:=(aai.1 I).1;omega
  obtain⟨AC,AD,A7⟩:=A1 i hi;simp[I]at A7;subst A7;rw[World.var?_cell A2 E i];simpa using AD
 refine⟨⟨?_,?_⟩,.agg (zs.map λz=>Value.int k z).toArray,?_,?_⟩
 .have I:∃z,zs[0]?=some z:=⟨zs[0]'(by omega),by simp[show 0<zs.length by omega]⟩
  obtain⟨z,I⟩:=I;exact (Gx (V 0 z I)).1
 .rintro AK AE;obtain rfl:=D.agg.inj AE;unfold World.var? at E;rw[A2]at E;simp only[aek]at E;split at E
  .rename_i cur e' A4 hh;cases E;exact⟨_,_,_,hh,by simp at O A6⊢;omega⟩
  .cases E
 .refine aP.qv (by simp) (λv J=>?_) (λi c v A8 J=>?_)
  .simp at J;obtain⟨z,_,rfl⟩:=J;rfl
  .simp only[aaV,aap]at A8 J;obtain⟨z,I,rfl⟩:=A8;obtain⟨AC,A9,rfl⟩:=J;rw[I]at A9;cases A9;exact .int k z
 .intro i c hi;simp[Value.cells]at hi;obtain⟨z,I,rfl⟩:=hi;exact V i z I
end Go.Am
end
section
namespace Go.Am
open Go
variable {H:Type} {enc:TypeId×Value->H}
theorem Uj{a:Assume}{C:Checked}{os:Os}{f:FuncId}{fn:Func}{s:OpenSpec}{k:(H:Type)->List (DataW H)->Bool}(I:s.cond=some k){conds:List PathCond}{apart fresh handsOn again:Bool}{X:World->Array Value->Prop}{F:Stop.Interp}
 (J:∀(w w':World)(args:Array Value),w.heap=w'.heap->X w args->X w' args)
 (own:ownKnob C.prog.godebug=none) (started:os.Started) (A':C.prog.inits.idxOf? f=none) (A0:C.prog.funcs[f]?=some fn)
 (witness:∃(w:World)(tape:Tape)(i:Input),w.os=os/\(w.forCall tape i).Shaped C.prog/\i.vars=[]/\Input.okWide C.prog (w.forCall tape i) .any w.heap.size f i/\
  ((s.pre enc C.prog fn conds apart (w.forCall tape i).memory i.args/\X (w.forCall tape i).memory i.args)/\sizedMet enc C.prog fn s apart (w.forCall tape i).memory i.args)/\a.holds C.prog (lone (Frame.enter C.prog f i.args .normal) [] (w.forCall tape i)))
 (A1:∀(W:World)(base:Nat)(args:Array Value)(N gs:List (DataW H))(before:List MemPlace),
  (∀(j:Nat) t v,fn.params[j]?=some t->args[j]?=some v->Value.okWide C.prog W .any base t v)->
  DataW.Whole enc C.prog fn.params.toList s.vars apart W args.toList N gs before->k H (N++gs)=true->X W args->W.ShapedOpen C.prog->
  Calls C.prog f args W λe y=>∃v,e=.returned v/\(s.at F).post enc C.prog fn apart fresh handsOn again W args v y):
 ReturnsInHanded a C os f .any (λw args=>(s.pre enc C.prog fn conds apart w args/\X w args)/\sizedMet enc C.prog fn s apart w args) ((s.at F).post enc C.prog fn apart fresh handsOn again):=by
 refine returnsInHanded_of_calls own started A' witness ?_;intro w tape i _ M _ E A2 _;obtain⟨_,_,_,A3,A4,_,_,_,_,A5⟩:=E;have e:A3=fn:=Option.some.inj (A4.symm.trans A0);subst e;obtain⟨⟨O,D⟩,A8⟩:=A2;obtain⟨N,gs,before,hw,A9,U⟩:=(OpenSpec.pre_some I conds apart _ _).1 O;have A6:=DataW.Whole.of_heap (w':=w.forCall tape i) (by rfl) hw;refine (A1 (w.forCall tape i) w.heap.size i.args N gs before A5 A6 U (J _ _ _ (by rfl) D) M).mono λe y ⟨v,he,O⟩=>?_;subst he;exact ChangeSpec.post_blind O
theorem II{C:Checked}{os:Os}{f:FuncId}{fn:Func}{s:OpenSpec}{k:(H:Type)->List (DataW H)->Bool}(I:s.cond=some k){conds:List PathCond}{apart:Bool}{X:World->Array Value->Prop}(modest:Bool)(w0:World)(args:Array Value)(fuel:Nat)(V:w0.os=os)
 (M:(w0.forCall (λ_ _=>0) ⟨#[],args,[]⟩).Shaped C.prog)
 (E:Input.okWideB C.prog (w0.forCall (λ_ _=>0) ⟨#[],args,[]⟩) f ⟨#[],args,[]⟩=true)
 {x:List (DataW H)×List (DataW H)×List MemPlace} (D:DataW.whole enc C.prog (w0.forCall (λ_ _=>0) ⟨#[],args,[]⟩).memory fn.params.toList s.vars apart args.toList fuel=some x)
 (A7:conds.all (PathCond.test C.prog ⟨fn.params.toList,x.1,s.bare.plain.varTypes C.prog,x.2.1⟩)=true) (U:k H (x.1++x.2.1)=true)
 (Z:s.bare.sizedB enc C.prog fn apart (w0.forCall (λ_ _=>0) ⟨#[],args,[]⟩).memory args fuel=true)
 (J:X (w0.forCall (λ_ _=>0) ⟨#[],args,[]⟩).memory args):
 ∃(w:World)(tape:Tape)(i:Input),w.os=os/\(w.forCall tape i).Shaped C.prog/\i.vars=[]/\Input.okWide C.prog (w.forCall tape i) .any w.heap.size f i/\
  ((s.pre enc C.prog fn conds apart (w.forCall tape i).memory i.args/\X (w.forCall tape i).memory i.args)/\sizedMet enc C.prog fn s apart (w.forCall tape i).memory i.args)/\({modest:=modest}:Assume).holds C.prog (lone (Frame.enter C.prog f i.args .normal) [] (w.forCall tape i)):=
 ⟨w0,λ_ _=>0,⟨#[],args,[]⟩,V,M,(Input.okWide_of_okWideB (base:=0) E).1,(Input.okWide_of_okWideB E).2,
  ⟨⟨(OpenSpec.pre_some I conds apart _ _).2 ⟨x.1,x.2.1,x.2.2,DataW.Whole_of_whole D,A7,U⟩,J⟩,sizedMet_of_sizedB Z⟩,by
  simp only[Assume.holds];exact⟨by simp,by simp,λ_=>Modest.zero,by simp,by simp⟩⟩
def WW{H:Type}(enc:TypeId×Value->H)(P:Program)(s:OpenSpec)(k:(H:Type)->List (DataW H)->Bool)(conds:List PathCond)(apart:Bool)(w:World)(ts:List TypeId)(args:List Value)(fuel:Nat):Bool:=
 match DataW.whole enc P w ts s.vars apart args fuel with
 |some x=>conds.all (PathCond.test P ⟨ts,x.1,s.bare.plain.varTypes P,x.2.1⟩)&&k H (x.1++x.2.1)
 |none=>false
theorem IJ{C:Checked}{os:Os}{f:FuncId}{fn:Func}{s:OpenSpec}{k:(H:Type)->List (DataW H)->Bool}(I:s.cond=some k){conds:List PathCond}{apart:Bool}{X:World->Array Value->Prop}(modest:Bool)(w0:World)(args:Array Value)(fuel:Nat)(V:w0.os=os)
 (M:(w0.forCall (λ_ _=>0) ⟨#[],args,[]⟩).Shaped C.prog)
 (E:Input.okWideB C.prog (w0.forCall (λ_ _=>0) ⟨#[],args,[]⟩) f ⟨#[],args,[]⟩=true)
 (D:WW enc C.prog s k conds apart (w0.forCall (λ_ _=>0) ⟨#[],args,[]⟩).memory fn.params.toList args.toList fuel=true)
 (Z:s.bare.sizedB enc C.prog fn apart (w0.forCall (λ_ _=>0) ⟨#[],args,[]⟩).memory args fuel=true)
 (J:X (w0.forCall (λ_ _=>0) ⟨#[],args,[]⟩).memory args):
 ∃(w:World)(tape:Tape)(i:Input),w.os=os/\(w.forCall tape i).Shaped C.prog/\i.vars=[]/\Input.okWide C.prog (w.forCall tape i) .any w.heap.size f i/\
  ((s.pre enc C.prog fn conds apart (w.forCall tape i).memory i.args/\X (w.forCall tape i).memory i.args)/\sizedMet enc C.prog fn s apart (w.forCall tape i).memory i.args)/\({modest:=modest}:Assume).holds C.prog (lone (Frame.enter C.prog f i.args .normal) [] (w.forCall tape i)):=by
 unfold WW at D;split at D
 .rename_i x hw;simp only[Ds]at D;exact II I modest w0 args fuel V M E hw D.1 D.2 Z J
 .cases D
end Go.Am
end
