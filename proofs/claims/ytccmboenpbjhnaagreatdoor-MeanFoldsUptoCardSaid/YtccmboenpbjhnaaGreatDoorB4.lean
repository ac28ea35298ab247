/-
  Texts of one proof, one behind the other.
-/
import Derived.Test.YtccmboenpbjhnaaGreatDoorB3
import Derived.Test.YtccmboenpbjhnaaGreatDoorProg
import Derived.KernelRfl
import Derived.Lib.Bytealg
import Derived.Lib.Index
import Derived.Lib.Strings
set_option linter.all false
section
namespace Go.Am
open Go
inductive Ex where
 |mk (op n:Int) (name field:Tx) (sub:List Ex) (line:Int)
inductive Sm where
 |mk (op:Int) (name:Tx) (to val:Ex) (E:List Ex) (H:List (List Int)) (fields:List Tx) (I:List (List Sm)) (line:Int)
instance:Inhabited Ex:=⟨.mk 0 0 [] [] [] 0⟩
instance:Inhabited Sm:=⟨.mk 0 [] default default [] [] [] [] 0⟩
structure Vr where
 name:Tx
 ty:Int
 sec:Int
 arr:Bool
 lo:Int
 hi:Int
 init:Int
 line:Int
 deriving DecidableEq
structure Pg where
 name:Tx
 vars:List Vr
 body:List Sm
mutual
def bL:Ex->D
 | .mk op n name field sub line=>.agg [.int .i64 op,.int .i64 n,.str name,.str field,.list (j8 sub),.int .i64 line]
def j8:List Ex->List D
 |[]=>[]
 |x::r=>bL x::j8 r
end
theorem sU:∀l:List Ex,j8 l=l.map bL
 |[]=>rfl
 |x::r=>by simp[j8,sU r]
def Eo:Ex->List D
 | .mk op n name field sub line=>[.int .i64 op,.int .i64 n,.str name,.str field,.list (j8 sub),.int .i64 line]
theorem HE(x:Ex):bL x=.agg (Eo x):=by cases x;rfl
def il(l:List Int):D:=.list (l.map λn=>.int .i64 n)
mutual
def cK:Sm->D
 | .mk op name to val E H fields I line=>.agg (.int .i64 op::.str name::(Eo to++(Eo val++[.list (j8 E),.list (H.map il),.list (fields.map .str),.list (rY I),.int .i64 line])))
def qt:List Sm->List D
 |[]=>[]
 |x::r=>cK x::qt r
def rY:List (List Sm)->List D
 |[]=>[]
 |b::r=>.list (qt b)::rY r
end
theorem wI:∀l:List Sm,qt l=l.map cK
 |[]=>rfl
 |x::r=>by simp[qt,wI r]
theorem Bf:∀l:List (List Sm),rY l=l.map λb=>.list (b.map cK)
 |[]=>rfl
 |x::r=>by simp[rY,Bf r,wI]
def dK(v:Vr):List D:=[.str v.name,.int .i64 v.ty,.int .i64 v.sec,.bool v.arr,.int .i64 v.lo,.int .i64 v.hi,.int .i64 v.init,.int .i64 v.line]
def bx(v:Vr):D:=.agg (dK v)
structure PS where
 at_:Nat
 deep:Int
 vars:List Vr
structure Er where
 e:Int
 line:Int
 En:Int
 deriving DecidableEq
abbrev PM(α:Type):=PR Er PS α
abbrev wr(n:Int):Int:=IntKind.i64.wrap n
section
variable (L:List fg)
def tX(s:PS):PM fg:=match L[s.at_]? with
 |some t=>.ok t s
 |none=>.out
def QV{α:Type}(e:Int)(t:fg)(s:PS):PM α:=.bad ⟨e,t.line,t.En⟩ s
def isW(t:fg)(w:Tx):Bool:=(decide (t.kind=2)||decide (t.kind=4))&&decide (t.text=w)
def isS(w:Tx)(s:PS):PM Bool:=(tX L s).bind λt s=>.ok (isW t w) s
def anyS:List Tx->PS->PM Bool
 |[],s=>.ok false s
 |w::r,s=>(isS L w s).bind λb s=>if b=true then .ok true s else anyS r s
def Bg(s:PS):PM fg:=(tX L s).bind λt s=>.ok t (if t.kind=0 then s else {s with at_:=s.at_+1})
def j9(w:Tx)(s:PS):PM Bool:=(isS L w s).bind λb s=>if b=true then (Bg L s).bind λ_ s=>.ok true s else .ok false s
def iF(w:Tx)(s:PS):PM Unit:=(j9 L w s).bind λb s=>if b=true then .ok () s else (tX L s).bind λt s=>QV 5 t s
def yb(k:Int)(s:PS):PM fg:=(tX L s).bind λt s=>if t.kind=k then Bg L s else (tX L s).bind λt s=>QV 5 t s
def ZV(s:PS):PM Unit:=if 32<wr (s.deep+1)then (tX L {s with deep:=wr (s.deep+1)}).bind λt s=>QV 13 t s else .ok () {s with deep:=wr (s.deep+1)}
def QW(s:PS):PM Unit:=.ok () {s with deep:=wr (s.deep-1)}
structure Kd where
 at_:fg
 kind:Int
 arr:Bool
 lo:Int
 hi:Int
def Mo(s:PS):PM Int:=(j9 L [45] s).bind λb s=>if b=true then (yb L 3 s).bind λt s=>.ok (wr (-t.n)) s else (yb L 3 s).bind λt s=>.ok t.n s
def lvT:List (List Tx):=[[[79,82]],[[88,79,82]],[[65,78,68]],[[61],[60,62],[60],[62],[60,61],[62,61]],[[43],[45]],[[42],[47],[77,79,68]]]
def opT:List Tx:=[[43],[45],[42],[47],[77,79,68],[61],[60,62],[60],[62],[60,61],[62,61],[65,78,68],[88,79,82],[79,82]]
def ae5(w:Tx):List Tx->Nat->Int
 |[],_=> -1
 |x::r,i=>if w=x then i else ae5 w r (i+1)
def opI(w:Tx):Int:=8+ae5 w opT 0
def wJ:Ex:=.mk 0 0 [] [] [] 0
def ZW(t:fg):Ex:=.mk 3 0 t.text [] [] t.line
def Ep(op:Int)(A:Tx)(l:List Ex)(line:Int):Ex:=.mk op 0 A [] l line
def GR(s:PS):PM Bool:=(tX L s).bind λt s=>if t.kind=3 then .ok true s else isS L [45] s
def Mp:Nat->List Int->PS->PM (List Int)
 |0,_,_=>.out
 |f+1,l,s=>(Mo L s).bind λlo s=>(j9 L [46,46] s).bind λb s=>(if b=true then Mo L s else .ok lo s).bind λhi s=>
  if l.length<100000 then (j9 L [44] s).bind λb s=>if b=true then Mp f (l++[lo,hi]) s else (iF L [58] s).bind λ_ s=>.ok (l++[lo,hi]) s else .out
def Xy(s:PS):PM Bool:=(GR L s).bind λb s=>if b=true then .ok true s else (isS L [69,76,83,69] s).bind λb s=>if b=true then .ok true s else isS L [69,78,68,95,67,65,83,69] s
mutual
def tY:Nat->Nat->PS->PM Ex
 |0,_,_=>.out
 |f+1,n,s=>if n=6 then wK f s else if n<6 then (tY f (n+1) s).bind λx s=>Au f n x s else .out
def Au:Nat->Nat->Ex->PS->PM Ex
 |0,_,_,_=>.out
 |f+1,n,x,s=>(anyS L (lvT.getD n []) s).bind λb s=>if b=true then (Bg L s).bind λt s=>(tY f (n+1) s).bind λy s=>
  if n=3 then .ok (Ep (opI t.text) [] [x,y] t.line) s else Au f n (Ep (opI t.text) [] [x,y] t.line) s
  else .ok x s
def wK:Nat->PS->PM Ex
 |0,_=>.out
 |f+1,s=>(tX L s).bind λt s=>(isS L [45] s).bind λb s=>
  if b=true then Es f 6 t s else (isS L [78,79,84] s).bind λb s=>if b=true then Es f 7 t s else wL f s
def Es:Nat->Int->fg->PS->PM Ex
 |0,_,_,_=>.out
 |f+1,op,t,s=>(ZV L s).bind λ_ s=>(Bg L s).bind λ_ s=>(wK f s).bind λx s=>(QW s).bind λ_ s=>.ok (Ep op [] [x] t.line) s
def lH:Nat->PS->PM Ex
 |0,_=>.out
 |f+1,s=>tY f 0 s
def wO:Nat->PS->PM Ex
 |0,_=>.out
 |f+1,s=>(ZV L s).bind λ_ s=>(iF L [91] s).bind λ_ s=>(lH f s).bind λx s=>(iF L [93] s).bind λ_ s=>(QW s).bind λ_ s=>.ok x s
def wL:Nat->PS->PM Ex
 |0,_=>.out
 |f+1,s=>(tX L s).bind λt s=>
  if t.kind=3 then (Bg L s).bind λu s=>.ok (.mk 1 u.n [] [] [] t.line) s else
  (j9 L [84,82,85,69] s).bind λb s=>if b=true then .ok (.mk 2 1 [] [] [] t.line) s else
  (j9 L [70,65,76,83,69] s).bind λb s=>if b=true then .ok (.mk 2 0 [] [] [] t.line) s else
  (isS L [40] s).bind λb s=>if b=true then (ZV L s).bind λ_ s=>(Bg L s).bind λ_ s=>(lH f s).bind λx s=>(iF L [41] s).bind λ_ s=>(QW s).bind λ_ s=>.ok x s else
  (yb L 1 s).bind λ_ s=>
  (isS L [91] s).bind λb s=>if b=true then (wO f s).bind λx s=>.ok (Ep 4 t.text [x] t.line) s else
  (j9 L [46] s).bind λb s=>if b=true then (yb L 1 s).bind λu s=>.ok (.mk 5 0 t.text u.text [] t.line) s else .ok (ZW t) s
end
def ae6(op:Int):Sm:=.mk op [] wJ wJ [] [] [] [] 0
def aok(line:Int):Sm->Sm
 | .mk op name to val E H fields I _=>.mk op name to val E H fields I line
mutual
def nR:Nat->List Tx->PS->PM (List Sm)
 |0,_,_=>.out
 |f+1,ends,s=>wP f ends [] s
def wP:Nat->List Tx->List Sm->PS->PM (List Sm)
 |0,_,_,_=>.out
 |f+1,ends,l,s=>(anyS L ends s).bind λb s=>if b=true then .ok l s else (Bh f s).bind λx s=>if l.length<100000 then wP f ends (l++[x]) s else .out
def Bh:Nat->PS->PM Sm
 |0,_=>.out
 |f+1,s=>(tX L s).bind λt s=>(ZV L s).bind λ_ s=>(Et f s).bind λx s=>(iF L [59] s).bind λ_ s=>(QW s).bind λ_ s=>.ok (aok t.line x) s
def Et:Nat->PS->PM Sm
 |0,_=>.out
 |f+1,s=>
  (j9 L [73,70] s).bind λb s=>if b=true then rG f s else
  (j9 L [67,65,83,69] s).bind λb s=>if b=true then Av f s else
  (j9 L [70,79,82] s).bind λb s=>if b=true then tZ f s else
  (j9 L [87,72,73,76,69] s).bind λb s=>if b=true then (lH L f s).bind λv s=>(iF L [68,79] s).bind λ_ s=>(nR f [[69,78,68,95,87,72,73,76,69]] s).bind λl s=>(iF L [69,78,68,95,87,72,73,76,69] s).bind λ_ s=>.ok (.mk 5 [] wJ v [] [] [] [l] 0) s else
  (j9 L [82,69,80,69,65,84] s).bind λb s=>if b=true then (nR f [[85,78,84,73,76]] s).bind λl s=>(iF L [85,78,84,73,76] s).bind λ_ s=>(lH L f s).bind λv s=>(iF L [69,78,68,95,82,69,80,69,65,84] s).bind λ_ s=>.ok (.mk 6 [] wJ v [] [] [] [l] 0) s else
  (j9 L [69,88,73,84] s).bind λb s=>if b=true then .ok (ae6 7) s else
  (j9 L [82,69,84,85,82,78] s).bind λb s=>if b=true then .ok (ae6 8) s else
  (yb L 1 s).bind λA s=>(j9 L [40] s).bind λb s=>if b=true then Eu f A.text s else
  (isS L [91] s).bind λb s=>(if b=true then (wO L f s).bind λx s=>.ok (Ep 4 A.text [x] A.line) s else .ok (ZW A) s).bind λto s=>
  (iF L [58,61] s).bind λ_ s=>(lH L f s).bind λv s=>.ok (.mk 1 [] to v [] [] [] [] 0) s
def rG:Nat->PS->PM Sm
 |0,_=>.out
 |f+1,s=>mM f [] [] s
def mM:Nat->List Ex->List (List Sm)->PS->PM Sm
 |0,_,_,_=>.out
 |f+1,c,l,s=>(lH L f s).bind λx s=>(iF L [84,72,69,78] s).bind λ_ s=>(nR f [[69,76,83,73,70],[69,76,83,69],[69,78,68,95,73,70]] s).bind λb s=>
  if c.length<100000/\l.length<100000 then (j9 L [69,76,83,73,70] s).bind λm s=>if m=true then mM f (c++[x]) (l++[b]) s else
   (j9 L [69,76,83,69] s).bind λm s=>(if m=true then (nR f [[69,78,68,95,73,70]] s).bind λz s=>.ok (l++[b]++[z]) s else .ok (l++[b]) s).bind λl s=>(iF L [69,78,68,95,73,70] s).bind λ_ s=>.ok (.mk 2 [] wJ wJ (c++[x]) [] [] l 0) s
  else .out
def Av:Nat->PS->PM Sm
 |0,_=>.out
 |f+1,s=>(lH L f s).bind λv s=>(iF L [79,70] s).bind λ_ s=>ub f v [] [] s
def ub:Nat->Ex->List (List Int)->List (List Sm)->PS->PM Sm
 |0,_,_,_,_=>.out
 |f+1,v,c,l,s=>(GR L s).bind λb s=>
  if b=true then (Mp L f [] s).bind λx s=>(yc f [] s).bind λb s=>if c.length<100000/\l.length<100000 then ub f v (c++[x]) (l++[b]) s else .out
  else (j9 L [69,76,83,69] s).bind λm s=>(if m=true then (nR f [[69,78,68,95,67,65,83,69]] s).bind λz s=>if l.length<100000 then .ok (l++[z]) s else .out else .ok l s).bind λl s=>(iF L [69,78,68,95,67,65,83,69] s).bind λ_ s=>.ok (.mk 3 [] wJ v [] c [] l 0) s
def yc:Nat->List Sm->PS->PM (List Sm)
 |0,_,_=>.out
 |f+1,l,s=>(Xy L s).bind λb s=>if b=true then .ok l s else (Bh f s).bind λx s=>if l.length<100000 then yc f (l++[x]) s else .out
def tZ:Nat->PS->PM Sm
 |0,_=>.out
 |f+1,s=>(yb L 1 s).bind λA s=>(iF L [58,61] s).bind λ_ s=>(lH L f s).bind λa s=>(iF L [84,79] s).bind λ_ s=>(lH L f s).bind λb s=>
  (tX L s).bind λt s=>(j9 L [66,89] s).bind λm s=>(if m=true then lH L f s else .ok (.mk 1 1 [] [] [] t.line) s).bind λc s=>
  (iF L [68,79] s).bind λ_ s=>(nR f [[69,78,68,95,70,79,82]] s).bind λl s=>(iF L [69,78,68,95,70,79,82] s).bind λ_ s=>.ok (.mk 4 A.text wJ wJ [a,b,c] [] [] [l] 0) s
def Eu:Nat->Tx->PS->PM Sm
 |0,_,_=>.out
 |f+1,A,s=>(j9 L [41] s).bind λb s=>if b=true then .ok (.mk 9 A wJ wJ [] [] [] [] 0) s else yd f A [] [] s
def yd:Nat->Tx->List Tx->List Ex->PS->PM Sm
 |0,_,_,_,_=>.out
 |f+1,A,c,l,s=>(yb L 1 s).bind λt s=>(iF L [58,61] s).bind λ_ s=>(lH L f s).bind λx s=>
  if c.length<100000/\l.length<100000 then (j9 L [44] s).bind λb s=>if b=true then yd f A (c++[t.text]) (l++[x]) s else (iF L [41] s).bind λ_ s=>.ok (.mk 9 A wJ wJ (l++[x]) [] (c++[t.text]) [] 0) s
  else .out
end
end
def bO:Ex->Int| .mk a _ _ _ _ _=>a
def fW:Ex->Int| .mk _ a _ _ _ _=>a
def dS:Ex->Tx| .mk _ _ a _ _ _=>a
def eS:Ex->Tx| .mk _ _ _ a _ _=>a
def cV:Ex->List Ex| .mk _ _ _ _ a _=>a
def jq:Ex->Int| .mk _ _ _ _ _ a=>a
@[simp] theorem iP{a b c d e f}:bO (.mk a b c d e f)=a:=rfl
@[simp] theorem rH{a b c d e f}:fW (.mk a b c d e f)=b:=rfl
@[simp] theorem Ew{a b c d e f}:dS (.mk a b c d e f)=c:=rfl
@[simp] theorem Ju{a b c d e f}:eS (.mk a b c d e f)=d:=rfl
@[simp] theorem mO{a b c d e f}:cV (.mk a b c d e f)=e:=rfl
@[simp] theorem Jv{a b c d e f}:jq (.mk a b c d e f)=f:=rfl
theorem ZX(x:Ex):Eo x=[.int .i64 (bO x),.int .i64 (fW x),.str (dS x),.str (eS x),.list ((cV x).map bL),.int .i64 (jq x)]:=by cases x;simp[Eo,sU]
theorem au(x:Ex):bL x=.agg [.int .i64 (bO x),.int .i64 (fW x),.str (dS x),.str (eS x),.list ((cV x).map bL),.int .i64 (jq x)]:=by rw[HE,ZX]
def bj:Sm->Int| .mk a _ _ _ _ _ _ _ _=>a
def gM:Sm->Tx| .mk _ a _ _ _ _ _ _ _=>a
def eB:Sm->Ex| .mk _ _ a _ _ _ _ _ _=>a
def dc:Sm->Ex| .mk _ _ _ a _ _ _ _ _=>a
def bJ:Sm->List Ex| .mk _ _ _ _ a _ _ _ _=>a
def cM:Sm->List (List Int)| .mk _ _ _ _ _ a _ _ _=>a
def dE:Sm->List Tx| .mk _ _ _ _ _ _ a _ _=>a
def aQ:Sm->List (List Sm)| .mk _ _ _ _ _ _ _ a _=>a
def kS:Sm->Int| .mk _ _ _ _ _ _ _ _ a=>a
@[simp] theorem UF{a b c d e f g h i}:bj (.mk a b c d e f g h i)=a:=rfl
@[simp] theorem avE{a b c d e f g h i}:gM (.mk a b c d e f g h i)=b:=rfl
@[simp] theorem avF{a b c d e f g h i}:eB (.mk a b c d e f g h i)=c:=rfl
@[simp] theorem avG{a b c d e f g h i}:dc (.mk a b c d e f g h i)=d:=rfl
@[simp] theorem ae7{a b c d e f g h i}:bJ (.mk a b c d e f g h i)=e:=rfl
@[simp] theorem as3{a b c d e f g h i}:cM (.mk a b c d e f g h i)=f:=rfl
@[simp] theorem ae8{a b c d e f g h i}:dE (.mk a b c d e f g h i)=g:=rfl
@[simp] theorem ae9{a b c d e f g h i}:aQ (.mk a b c d e f g h i)=h:=rfl
@[simp] theorem avH{a b c d e f g h i}:kS (.mk a b c d e f g h i)=i:=rfl
def lS(l:List Sm):D:=.list (l.map cK)
theorem cG(x:Sm):cK x=.agg [.int .i64 (bj x),.str (gM x),
 .int .i64 (bO (eB x)),.int .i64 (fW (eB x)),.str (dS (eB x)),.str (eS (eB x)),.list ((cV (eB x)).map bL),.int .i64 (jq (eB x)),
 .int .i64 (bO (dc x)),.int .i64 (fW (dc x)),.str (dS (dc x)),.str (eS (dc x)),.list ((cV (dc x)).map bL),.int .i64 (jq (dc x)),
 .list ((bJ x).map bL),.list ((cM x).map il),.list ((dE x).map .str),.list ((aQ x).map lS),.int .i64 (kS x)]:=by
 cases x;simp[cK,ZX,sU,Bf,lS]
def Xz(c:UInt8):Bool:=(decide (65<=c.toNat)&&decide (c.toNat<=90))||(decide (97<=c.toNat)&&decide (c.toNat<=122))
def XA(c:UInt8):Bool:=decide (48<=c.toNat)&&decide (c.toNat<=57)
def uT:List UInt8->Nat->Bool
 |[],_=>true
 |c::r,i=>(Xz c||(!decide (i=0)&&(decide (c=95)||XA c)))&&uT r (i+1)
def dn(s:Tx):Bool:=decide (1<=s.length)&&(decide (s.length<=16)&&(!uS s&&uT s 0))
structure Pn where
 name:Tx
 ty:Int
 Jw:Bool
 deriving DecidableEq
def de(p:Pn):D:=.agg [.str p.name,.int .i64 p.ty,.bool p.Jw]
def ka(ins outs:List (Tx×Bool))(n:Nat):List Pn:=ins.map (λx=>⟨x.1,if x.2 then 1 else 2,true⟩)++outs.map (λx=>⟨x.1,if x.2 then 1 else 2,false⟩)++List.replicate n ⟨[],1,false⟩
def Bi:List (Tx×Bool):=[([68,111,110,101],false),([66,117,115,121],false),([65,99,116,105,118,101],false),([67,111,109,109,97,110,100,65,98,111,114,116,101,100],false),([69,114,114,111,114],false)]
def Mq:List (Int×List Pn):=[
 (10,ka [([73,78],false),([80,84],true)] [([81],false),([69,84],true)] 0),
 (11,ka [([73,78],false),([80,84],true)] [([81],false),([69,84],true)] 0),
 (12,ka [([73,78],false),([80,84],true)] [([81],false),([69,84],true)] 2),
 (13,ka [([67,85],false),([82],false),([80,86],true)] [([81],false),([67,86],true)] 1),
 (14,ka [([67,68],false),([76,68],false),([80,86],true)] [([81],false),([67,86],true)] 1),
 (15,ka [([67,76,75],false)] [([81],false)] 1),
 (16,ka [([67,76,75],false)] [([81],false)] 1),
 (17,ka [([83,49],false),([82],false)] [([81,49],false)] 0),
 (18,ka [([83],false),([82,49],false)] [([81,49],false)] 0),
 (20,ka [([65,120,105,115],true),([69,110,97,98,108,101],false)] [([83,116,97,116,117,115],false),([69,114,114,111,114],false)] 0),
 (21,ka [([65,120,105,115],true),([69,120,101,99,117,116,101],false)] Bi 2),
 (22,ka [([65,120,105,115],true),([69,120,101,99,117,116,101],false)] Bi 2),
 (23,ka [([65,120,105,115],true),([69,120,101,99,117,116,101],false)] Bi 2),
 (24,ka [([65,120,105,115],true),([69,120,101,99,117,116,101],false),([80,111,115,105,116,105,111,110],true),([86,101,108,111,99,105,116,121],true),([66,117,102,102,101,114,77,111,100,101],true)] Bi 2),
 (25,ka [([65,120,105,115],true),([69,120,101,99,117,116,101],false),([68,105,115,116,97,110,99,101],true),([86,101,108,111,99,105,116,121],true),([66,117,102,102,101,114,77,111,100,101],true)] Bi 2),
 (26,ka [([65,120,105,115],true),([69,120,101,99,117,116,101],false),([68,105,115,116,97,110,99,101],true),([86,101,108,111,99,105,116,121],true),([66,117,102,102,101,114,77,111,100,101],true)] Bi 2),
 (27,ka [([65,120,105,115],true),([69,120,101,99,117,116,101],false),([86,101,108,111,99,105,116,121],true)] [([73,110,86,101,108,111,99,105,116,121],false),([66,117,115,121],false),([65,99,116,105,118,101],false),([67,111,109,109,97,110,100,65,98,111,114,116,101,100],false),([69,114,114,111,114],false)] 2),
 (28,ka [([65,120,105,115],true),([69,120,101,99,117,116,101],false),([77,97,115,116,101,114],true),([78,117,109,101,114,97,116,111,114],true),([68,101,110,111,109,105,110,97,116,111,114],true)] [([73,110,71,101,97,114],false),([66,117,115,121],false),([65,99,116,105,118,101],false),([67,111,109,109,97,110,100,65,98,111,114,116,101,100],false),([69,114,114,111,114],false)] 2),
 (29,ka [([65,120,105,115],true),([69,120,101,99,117,116,101],false)] [([68,111,110,101],false),([69,114,114,111,114],false)] 1),
 (30,ka [([65,120,105,115],true),([69,120,101,99,117,116,101],false),([80,111,115,105,116,105,111,110],true)] [([68,111,110,101],false),([69,114,114,111,114],false)] 1),
 (31,ka [([65,120,105,115],true),([69,110,97,98,108,101],false),([80,101,114,99,101,110,116],true)] [([69,110,97,98,108,101,100],false)] 0)]
def ye:List (Int×List Pn)->Int->List Pn
 |[],_=>[]
 |(a,l)::r,k=>if a=k then l else ye r k
def bC(k:Int):List Pn:=ye Mq k
def yf:List Pn->Tx->Option Pn
 |[],_=>none
 |p::r,s=>if p.name=s/\s≠[]then some p else yf r s
def l7(k:Int)(s:Tx):Option Pn:=yf (bC k) s
def bz:List Vr->Tx->Option Vr
 |[],_=>none
 |v::r,s=>if v.name=s then some v else bz r s
def cq(v:Vr):Int:=if v.arr=true then v.hi-v.lo+1 else if 2<v.ty then (bC v.ty).length else 1
structure Te where
 t:Int
 e:Int
 line:Int
 deriving DecidableEq
def gv(t:Int):Te:=⟨t,0,0⟩
def df(e line:Int):Te:=⟨0,e,line⟩
def gW(op t:Int):Int:=if op=6\/(8<=op/\op<=12)\/(15<=op/\op<=18)then 1 else if op=13\/op=14 then t else 2
def jE(op:Int):Int:=if op=6\/(8<=op/\op<=12)then 1 else 2
def cj(op line:Int)(a b:Te):Te:=
 if a.e≠0 then ⟨0,a.e,a.line⟩else if b.e≠0 then ⟨0,b.e,b.line⟩else
 if a.t≠gW op a.t\/b.t≠gW op a.t then df 10 line else gv (jE op)
theorem kT{op line:Int}{a b:Te}(h:(cj op line a b).e=0):a.e=0/\b.e=0/\a.t=gW op a.t/\b.t=gW op a.t/\cj op line a b=gv (jE op):=by
 unfold cj at h⊢;by_cases A:a.e≠0
 ·rw[abT A]at h;exact absurd h A
 ·rw[abN A]at h⊢;by_cases E:b.e≠0
  ·rw[abT E]at h;exact absurd h E
  ·rw[abN E]at h⊢;by_cases H:a.t≠gW op a.t\/b.t≠gW op a.t
   ·rw[abT H]at h;simp[df]at h
   ·rw[abN H];simp only[ne_eq,amr,Decidable.not_not]at A E H;exact⟨A,E,H.1,H.2,rfl⟩
mutual
def aL(vs:List Vr):Ex->Te
 | .mk op _ name field sub line=>
  if op=1\/op=2 then gv op
  else if op=3\/op=4\/op=5 then
   match bz vs name with
   |none=>df 9 line
   |some v=>
    if op=5 then (if v.ty<=2 then df 10 line else match l7 v.ty field with
     |none=>df 9 line
     |some p=>gv p.ty)
    else if v.arr≠decide (op=4)\/2<v.ty then df 10 line
    else if op=4 then Ey vs v.ty sub
    else gv v.ty
  else Aw vs op line sub
def Ey(vs:List Vr)(t:Int):List Ex->Te
 |[]=>gv t
 |x::_=>if (aL vs x).e≠0 then df (aL vs x).e (aL vs x).line else if (aL vs x).t≠1 then df 10 (jq x)else gv t
def Aw(vs:List Vr)(op line:Int):List Ex->Te
 |[]=>gv 0
 |[x]=>cj op line (aL vs x) (aL vs x)
 |x::y::_=>cj op line (aL vs x) (aL vs y)
end
def dz(vs:List Vr)(x:Ex)(t:Int):Int×Int:=if (aL vs x).e≠0 then ((aL vs x).e,(aL vs x).line)else if (aL vs x).t≠t then (10,jq x)else (0,0)
def oe(b:Int):Nat:=
 if b=10 then 4 else if b=11 then 4 else if b=12 then 6 else if b=13 then 6 else if b=14 then 6 else if b=15 then 3 else if b=16 then 3 else if b=17 then 3 else if b=18 then 3 else if b=20 then 4 else if b=21 then 9 else if b=22 then 9 else if b=23 then 9 else if b=24 then 12 else if b=25 then 12 else if b=26 then 12 else if b=27 then 10 else if b=28 then 12 else if b=29 then 5 else if b=30 then 6 else if b=31 then 4 else 0
def kU:List Int:=[10,11,12,13,14,15,16,17,18,20,21,22,23,24,25,26,27,28,29,30,31]
theorem yg{b:Int}(A:b∉kU):bC b=[]:=by
 simp only[kU,abV,aed,amt,amr]at A;obtain⟨D,E,H,I,J,M,N,O,T,U,V,Y,Z,y,A',A0,A1,A2,A3,A4,A5⟩:=A;unfold bC Mq;simp only[ye,abN (ahl D),abN (ahl E),abN (ahl H),abN (ahl I),abN (ahl J),abN (ahl M),abN (ahl N),abN (ahl O),abN (ahl T),abN (ahl U),abN (ahl V),abN (ahl Y),abN (ahl Z),abN (ahl y),abN (ahl A'),abN (ahl A0),abN (ahl A1),abN (ahl A2),abN (ahl A3),abN (ahl A4),abN (ahl A5)]
theorem Ax(b:Int):(bC b).length<=20:=by
 by_cases A:b∈kU
 ·simp only[kU,abV,aed,amt]at A;rcases A with rfl|rfl|rfl|rfl|rfl|rfl|rfl|rfl|rfl|rfl|rfl|rfl|rfl|rfl|rfl|rfl|rfl|rfl|rfl|rfl|rfl<;>decide
 ·rw[yg A];decide
def ZY(x:aV)(n:Int):Bool:=decide (x.n<=n)&&decide (n<=x.m)
def yN(C:List Int)(k:Int):Int:=C[k.toNat]?.getD 0
def ajx(C:List Int)(x:aV):Bool:=decide (0<=yN C (x.b+1)/\yN C x.a<=yN C x.b)||decide (yN C (x.b+1)<0/\yN C x.b<=yN C x.a)
theorem Ay(k a b q e:Int):(sG k a b q e).length=4:=by unfold sG;(repeat' split)<;>rfl
theorem uU(k a b q e p r:Int):(oa k a b q e p r).length=6:=by unfold oa ZQ ZR ZS;dsimp only;(repeat' split)<;>rfl
theorem UH(k a b q:Int):(sH k a b q).length=3:=by unfold sH;(repeat' split)<;>rfl
theorem GU(k:Int)(c:List Int):(gH k c).length=c.length:=by
 unfold gH;split
 ·exact UH ..
 ·exact Ay ..
 ·exact uU ..
 ·rfl
structure Ms where
 cells:List Int
 ud:List Int
 at_:Int
 fuel:Int
 fault:Int
def Ms.pop(s:Ms):Ms:={s with ud:=s.ud.dropLast}
def Ms.push(s:Ms)(n:Int):Ms:={s with ud:=s.ud++[n]}
def Ms.top(s:Ms):Int:=s.ud.getLast?.getD 0
def afb(C:List Int)(k n:Int):List Int:=C.set k.toNat n
def ajy(x:aV)(s:Ms):Option Ms:=
 if x.op=1 then some (s.push x.n)
 else if x.op=2 then some (s.push (yN s.cells x.a))
 else if x.op=3 then some (s.push (dk (decide (yN s.cells x.a≠0))))
 else if x.op=4\/x.op=5 then
  (if ZY x s.top=true then some (s.pop.push (if x.op=4 then yN s.cells (x.a+(s.top-x.n))else dk (decide (yN s.cells (x.a+(s.top-x.n))≠0))))else some {s.pop with fault:=3})
 else if x.op=6 then some {s.pop with cells:=afb s.cells x.a s.top}
 else if x.op=7 then
  (if ZY x s.pop.top=true then some {s.pop.pop with cells:=afb s.cells (x.a+(s.pop.top-x.n)) s.top} else some {s.pop.pop with fault:=3})
 else none
def doF(x:aV)(s:Ms):Ms:=
 if x.b=6\/x.b=7 then
  (if (kh x.b s.top (decide (x.a=1))).2.2=0 then s.pop.push (kh x.b s.top (decide (x.a=1))).1 else {s.pop with fault:=(kh x.b s.top (decide (x.a=1))).2.2})
 else
  (if (ik x.b s.pop.top s.top (decide (x.a=1))).2.2=0 then s.pop.pop.push (ik x.b s.pop.top s.top (decide (x.a=1))).1 else {s.pop.pop with fault:=(ik x.b s.pop.top s.top (decide (x.a=1))).2.2})
def afc(x:aV)(C:List Int):List Int:=C.take x.a.toNat++gH x.b ((C.drop x.a.toNat).take (oe x.b))++C.drop (x.a.toNat+oe x.b)
def aol(x:aV)(s:Ms):Ms:=
 if x.op=8 then doF x s
 else if x.op=9 then {s with at_:=x.a}
 else if x.op=10 then (if s.top=0 then {s.pop with at_:=x.a} else s.pop)
 else if x.op=11 then (if s.fuel=0 then {s with fault:=4} else {s with fuel:=s.fuel-1})
 else if x.op=12 then {s with cells:=afc x s.cells}
 else if x.op=13 then s.push (dk (ajx s.cells x))
 else if x.op=14 then s.push (dk (decide (x.n<=yN s.cells x.a/\yN s.cells x.a<=x.m)))
 else s
def QX(x:aV)(s:Ms):Ms:=
 match ajy x {s with at_:=s.at_+1} with
 |some t=>t
 |none=>aol x {s with at_:=s.at_+1}
inductive HF(l:List aV):Ms->Ms->Prop
 |fault (s:Ms) (h:s.fault≠0):HF l s s
 |fin (s:Ms) (x:aV) (A6:s.fault=0) (A7:l[s.at_.toNat]?=some x) (h:x.op=15):HF l s s
 |step (s:Ms) (x:aV) (t:Ms) (A6:s.fault=0) (A7:l[s.at_.toNat]?=some x) (h:x.op≠15) (A8:HF l (QX x s) t):HF l s t
end Go.Am
end
section
namespace Go.Am
open Go
open Go.Proofs
abbrev T2(t:Nat)(k:TK)(s:Nat):Prop:=tk Tryz.prog t=k/\fm Tryz.prog t=some s
abbrev T3(t:Nat)(k:TK)(s:Nat)(z:List AV):Prop:=T2 t k s/\sq Tryz.prog t=some z
abbrev T5(t:Nat)(k:TK)(s:Nat)(z:List AV)(b:Nat)(d:D):Prop:=T3 t k s z/\y9 Tryz.prog t=some b/\mo Tryz.prog t=some d
abbrev FF(t i o y:Nat):Prop:=xc Tryz.prog t i=some o/\Il Tryz.prog t i=some y
@[simp] theorem azA:T2 1 (.func) 1:=by and_intros<;>kernel_rfl
@[simp] theorem azB:T5 2 (.int .i64) 1 ([.d (.int .i64 0)]) 8 (.int .i64 0):=by and_intros<;>kernel_rfl
@[simp] theorem azC:T5 3 (.int .i64) 1 ([.d (.int .i64 0)]) 8 (.int .i64 0):=by and_intros<;>kernel_rfl
@[simp] theorem azD:T5 4 (.bool) 1 ([.d (.bool false)]) 1 (.bool false):=by and_intros<;>kernel_rfl
@[simp] theorem azE:T5 5 (.int .u8) 1 ([.d (.int .u8 0)]) 1 (.int .u8 0):=by and_intros<;>kernel_rfl
@[simp] theorem azF:T5 6 (.int .u8) 1 ([.d (.int .u8 0)]) 1 (.int .u8 0):=by and_intros<;>kernel_rfl
@[simp] theorem azG:T5 7 (.struct) 4 ([.d (.int .i64 0),.d (.int .i64 0),.d (.bool false),.d (.int .u8 0)]) 24 (.agg ([.int .i64 0,.int .i64 0,.bool false,.int .u8 0])):=by and_intros<;>kernel_rfl
@[simp] theorem avP:FF 7 0 0 2:=by and_intros<;>kernel_rfl
@[simp] theorem avQ:FF 7 1 1 3:=by and_intros<;>kernel_rfl
@[simp] theorem avR:FF 7 2 2 4:=by and_intros<;>kernel_rfl
@[simp] theorem avS:FF 7 3 3 6:=by and_intros<;>kernel_rfl
@[simp] theorem aom:bp Tryz.prog 7=some [(0,1),(1,1),(2,1),(3,1)]:=by kernel_rfl
@[simp] theorem azH:T5 8 (.struct) 4 ([.d (.int .i64 0),.d (.int .i64 0),.d (.bool false),.d (.int .u8 0)]) 24 (.agg ([.int .i64 0,.int .i64 0,.bool false,.int .u8 0])):=by and_intros<;>kernel_rfl
@[simp] theorem avT:FF 8 0 0 2:=by and_intros<;>kernel_rfl
@[simp] theorem avU:FF 8 1 1 3:=by and_intros<;>kernel_rfl
@[simp] theorem avV:FF 8 2 2 4:=by and_intros<;>kernel_rfl
@[simp] theorem avW:FF 8 3 3 6:=by and_intros<;>kernel_rfl
@[simp] theorem aon:bp Tryz.prog 8=some [(0,1),(1,1),(2,1),(3,1)]:=by kernel_rfl
@[simp] theorem azI:T5 9 (.str) 1 ([.d (.str [])]) 16 (.str []):=by and_intros<;>kernel_rfl
@[simp] theorem as4:eO Tryz.prog 9=true:=by kernel_rfl
@[simp] theorem ayo:T5 10 (.str) 1 ([.d (.str [])]) 16 (.str []):=by and_intros<;>kernel_rfl
@[simp] theorem aoo:eO Tryz.prog 10=true:=by kernel_rfl
@[simp] theorem ayp:T5 11 (.str) 1 ([.d (.str [])]) 16 (.str []):=by and_intros<;>kernel_rfl
@[simp] theorem aop:eO Tryz.prog 11=true:=by kernel_rfl
@[simp] theorem ayq:T5 12 (.int .u64) 1 ([.d (.int .u64 0)]) 8 (.int .u64 0):=by and_intros<;>kernel_rfl
@[simp] theorem ayr:T5 13 (.struct) 2 ([.d (.str []),.d (.int .u64 0)]) 24 (.agg ([.str [],.int .u64 0])):=by and_intros<;>kernel_rfl
@[simp] theorem as5:FF 13 0 0 9:=by and_intros<;>kernel_rfl
@[simp] theorem as6:FF 13 1 1 12:=by and_intros<;>kernel_rfl
@[simp] theorem amA:bp Tryz.prog 13=some [(0,1),(1,1)]:=by kernel_rfl
@[simp] theorem ays:T5 14 (.struct) 2 ([.d (.str []),.d (.int .u64 0)]) 24 (.agg ([.str [],.int .u64 0])):=by and_intros<;>kernel_rfl
@[simp] theorem as7:FF 14 0 0 9:=by and_intros<;>kernel_rfl
@[simp] theorem as8:FF 14 1 1 12:=by and_intros<;>kernel_rfl
@[simp] theorem amB:bp Tryz.prog 14=some [(0,1),(1,1)]:=by kernel_rfl
@[simp] theorem ayt:T2 15 (.ptr 348) 1:=by and_intros<;>kernel_rfl
@[simp] theorem ayu:T2 16 (.ptr 351) 1:=by and_intros<;>kernel_rfl
@[simp] theorem ayv:T2 17 (.ptr 359) 1:=by and_intros<;>kernel_rfl
@[simp] theorem ayw:T3 18 (.struct) 1 ([.lit (.pointer none)]):=by and_intros<;>kernel_rfl
@[simp] theorem as9:FF 18 0 0 17:=by and_intros<;>kernel_rfl
@[simp] theorem amC:bp Tryz.prog 18=some [(0,1)]:=by kernel_rfl
@[simp] theorem ayx:T3 19 (.struct) 1 ([.lit (.pointer none)]):=by and_intros<;>kernel_rfl
@[simp] theorem ata:FF 19 0 0 17:=by and_intros<;>kernel_rfl
@[simp] theorem amD:bp Tryz.prog 19=some [(0,1)]:=by kernel_rfl
@[simp] theorem ayy:T2 20 (.iface) 1:=by and_intros<;>kernel_rfl
@[simp] theorem ayz:T5 21 (.int .i32) 1 ([.d (.int .i32 0)]) 4 (.int .i32 0):=by and_intros<;>kernel_rfl
@[simp] theorem ayA:T5 22 (.slice 64) 1 ([.lit (.slice none 0 0)]) 24 (.list []):=by and_intros<;>kernel_rfl
@[simp] theorem aoq:eO Tryz.prog 22=true:=by kernel_rfl
@[simp] theorem ayB:T5 23 (.slice 119) 1 ([.lit (.slice none 0 0)]) 24 (.list []):=by and_intros<;>kernel_rfl
@[simp] theorem aor:eO Tryz.prog 23=true:=by kernel_rfl
@[simp] theorem ayC:T5 24 (.struct) 3 ([.d (.str []),.lit (.slice none 0 0),.lit (.slice none 0 0)]) 64 (.agg ([.str [],.list [],.list []])):=by and_intros<;>kernel_rfl
@[simp] theorem atb:FF 24 0 0 9:=by and_intros<;>kernel_rfl
@[simp] theorem atc:FF 24 1 1 22:=by and_intros<;>kernel_rfl
@[simp] theorem atd:FF 24 2 2 23:=by and_intros<;>kernel_rfl
@[simp] theorem amE:bp Tryz.prog 24=some [(0,1),(1,1),(2,1)]:=by kernel_rfl
@[simp] theorem ayD:T5 25 (.struct) 3 ([.d (.str []),.lit (.slice none 0 0),.lit (.slice none 0 0)]) 64 (.agg ([.str [],.list [],.list []])):=by and_intros<;>kernel_rfl
@[simp] theorem ate:FF 25 0 0 9:=by and_intros<;>kernel_rfl
@[simp] theorem atf:FF 25 1 1 22:=by and_intros<;>kernel_rfl
@[simp] theorem atg:FF 25 2 2 23:=by and_intros<;>kernel_rfl
@[simp] theorem amF:bp Tryz.prog 25=some [(0,1),(1,1),(2,1)]:=by kernel_rfl
@[simp] theorem ayE:T5 26 (.slice 2) 1 ([.lit (.slice none 0 0)]) 24 (.list []):=by and_intros<;>kernel_rfl
@[simp] theorem aos:eO Tryz.prog 26=true:=by kernel_rfl
@[simp] theorem ayF:T2 27 (.func) 1:=by and_intros<;>kernel_rfl
@[simp] theorem ayG:T2 28 (.func) 1:=by and_intros<;>kernel_rfl
@[simp] theorem ayH:T5 29 (.struct) 2 ([.d (.int .i64 0),.d (.int .i64 0)]) 16 (.agg ([.int .i64 0,.int .i64 0])):=by and_intros<;>kernel_rfl
@[simp] theorem ath:FF 29 0 0 3:=by and_intros<;>kernel_rfl
@[simp] theorem ati:FF 29 1 1 3:=by and_intros<;>kernel_rfl
@[simp] theorem amG:bp Tryz.prog 29=some [(0,1),(1,1)]/\b9 Tryz.prog 29=some [.int .i64,.int .i64]:=by and_intros<;>kernel_rfl
@[simp] theorem ayI:T5 30 (.struct) 2 ([.d (.int .i64 0),.d (.int .i64 0)]) 16 (.agg ([.int .i64 0,.int .i64 0])):=by and_intros<;>kernel_rfl
@[simp] theorem atj:FF 30 0 0 3:=by and_intros<;>kernel_rfl
@[simp] theorem atk:FF 30 1 1 3:=by and_intros<;>kernel_rfl
@[simp] theorem amH:bp Tryz.prog 30=some [(0,1),(1,1)]/\b9 Tryz.prog 30=some [.int .i64,.int .i64]:=by and_intros<;>kernel_rfl
@[simp] theorem ayJ:T2 31 (.func) 1:=by and_intros<;>kernel_rfl
@[simp] theorem ayK:T5 32 (.slice 49) 1 ([.lit (.slice none 0 0)]) 24 (.list []):=by and_intros<;>kernel_rfl
@[simp] theorem aot:eO Tryz.prog 32=true:=by kernel_rfl
@[simp] theorem ayL:T5 33 (.struct) 3 ([.lit (.slice none 0 0),.d (.int .i64 0),.d (.int .i64 0)]) 40 (.agg ([.list [],.int .i64 0,.int .i64 0])):=by and_intros<;>kernel_rfl
@[simp] theorem atl:FF 33 0 0 32:=by and_intros<;>kernel_rfl
@[simp] theorem atm:FF 33 1 1 3:=by and_intros<;>kernel_rfl
@[simp] theorem atn:FF 33 2 2 3:=by and_intros<;>kernel_rfl
@[simp] theorem amI:bp Tryz.prog 33=some [(0,1),(1,1),(2,1)]:=by kernel_rfl
@[simp] theorem ayM:T5 34 (.struct) 3 ([.lit (.slice none 0 0),.d (.int .i64 0),.d (.int .i64 0)]) 40 (.agg ([.list [],.int .i64 0,.int .i64 0])):=by and_intros<;>kernel_rfl
@[simp] theorem ato:FF 34 0 0 32:=by and_intros<;>kernel_rfl
@[simp] theorem atp:FF 34 1 1 3:=by and_intros<;>kernel_rfl
@[simp] theorem atq:FF 34 2 2 3:=by and_intros<;>kernel_rfl
@[simp] theorem amJ:bp Tryz.prog 34=some [(0,1),(1,1),(2,1)]:=by kernel_rfl
@[simp] theorem ayN:T5 35 (.int .i64) 1 ([.d (.int .i64 0)]) 8 (.int .i64 0):=by and_intros<;>kernel_rfl
@[simp] theorem ayO:T5 40 (.struct) 3 ([.lit (.slice none 0 0),.d (.int .i64 0),.d (.int .i64 0)]) 40 (.agg ([.list [],.int .i64 0,.int .i64 0])):=by and_intros<;>kernel_rfl
@[simp] theorem atr:FF 40 0 0 26:=by and_intros<;>kernel_rfl
@[simp] theorem ats:FF 40 1 1 3:=by and_intros<;>kernel_rfl
@[simp] theorem att:FF 40 2 2 3:=by and_intros<;>kernel_rfl
@[simp] theorem amK:bp Tryz.prog 40=some [(0,1),(1,1),(2,1)]:=by kernel_rfl
@[simp] theorem ayP:T5 41 (.struct) 3 ([.lit (.slice none 0 0),.d (.int .i64 0),.d (.int .i64 0)]) 40 (.agg ([.list [],.int .i64 0,.int .i64 0])):=by and_intros<;>kernel_rfl
@[simp] theorem atu:FF 41 0 0 26:=by and_intros<;>kernel_rfl
@[simp] theorem atv:FF 41 1 1 3:=by and_intros<;>kernel_rfl
@[simp] theorem atw:FF 41 2 2 3:=by and_intros<;>kernel_rfl
@[simp] theorem amL:bp Tryz.prog 41=some [(0,1),(1,1),(2,1)]:=by kernel_rfl
@[simp] theorem ayQ:T2 46 (.func) 1:=by and_intros<;>kernel_rfl
@[simp] theorem ayR:T5 48 (.struct) 5 ([.d (.int .i64 0),.d (.int .i64 0),.d (.int .i64 0),.d (.int .i64 0),.d (.int .i64 0)]) 40 (.agg ([.int .i64 0,.int .i64 0,.int .i64 0,.int .i64 0,.int .i64 0])):=by and_intros<;>kernel_rfl
@[simp] theorem atx:FF 48 0 0 3:=by and_intros<;>kernel_rfl
@[simp] theorem aty:FF 48 1 1 3:=by and_intros<;>kernel_rfl
@[simp] theorem atz:FF 48 2 2 3:=by and_intros<;>kernel_rfl
@[simp] theorem atA:FF 48 3 3 2:=by and_intros<;>kernel_rfl
@[simp] theorem atB:FF 48 4 4 2:=by and_intros<;>kernel_rfl
@[simp] theorem amM:bp Tryz.prog 48=some [(0,1),(1,1),(2,1),(3,1),(4,1)]/\b9 Tryz.prog 48=some [.int .i64,.int .i64,.int .i64,.int .i64,.int .i64]:=by and_intros<;>kernel_rfl
@[simp] theorem ayS:T5 49 (.struct) 5 ([.d (.int .i64 0),.d (.int .i64 0),.d (.int .i64 0),.d (.int .i64 0),.d (.int .i64 0)]) 40 (.agg ([.int .i64 0,.int .i64 0,.int .i64 0,.int .i64 0,.int .i64 0])):=by and_intros<;>kernel_rfl
@[simp] theorem atC:FF 49 0 0 3:=by and_intros<;>kernel_rfl
@[simp] theorem atD:FF 49 1 1 3:=by and_intros<;>kernel_rfl
@[simp] theorem atE:FF 49 2 2 3:=by and_intros<;>kernel_rfl
@[simp] theorem atG:FF 49 3 3 2:=by and_intros<;>kernel_rfl
@[simp] theorem atH:FF 49 4 4 2:=by and_intros<;>kernel_rfl
@[simp] theorem amN:bp Tryz.prog 49=some [(0,1),(1,1),(2,1),(3,1),(4,1)]/\b9 Tryz.prog 49=some [.int .i64,.int .i64,.int .i64,.int .i64,.int .i64]:=by and_intros<;>kernel_rfl
@[simp] theorem ayT:T5 54 (.struct) 5 ([.d (.int .i64 0),.d (.str []),.d (.int .i64 0),.d (.int .i64 0),.d (.int .i64 0)]) 48 (.agg ([.int .i64 0,.str [],.int .i64 0,.int .i64 0,.int .i64 0])):=by and_intros<;>kernel_rfl
@[simp] theorem atJ:FF 54 0 0 3:=by and_intros<;>kernel_rfl
@[simp] theorem atK:FF 54 1 1 9:=by and_intros<;>kernel_rfl
@[simp] theorem atM:FF 54 2 2 2:=by and_intros<;>kernel_rfl
@[simp] theorem atN:FF 54 3 3 3:=by and_intros<;>kernel_rfl
@[simp] theorem atO:FF 54 4 4 3:=by and_intros<;>kernel_rfl
@[simp] theorem amO:bp Tryz.prog 54=some [(0,1),(1,1),(2,1),(3,1),(4,1)]/\b9 Tryz.prog 54=some [.int .i64,.str,.int .i64,.int .i64,.int .i64]:=by and_intros<;>kernel_rfl
@[simp] theorem ayU:T5 55 (.struct) 5 ([.d (.int .i64 0),.d (.str []),.d (.int .i64 0),.d (.int .i64 0),.d (.int .i64 0)]) 48 (.agg ([.int .i64 0,.str [],.int .i64 0,.int .i64 0,.int .i64 0])):=by and_intros<;>kernel_rfl
@[simp] theorem atP:FF 55 0 0 3:=by and_intros<;>kernel_rfl
@[simp] theorem atQ:FF 55 1 1 9:=by and_intros<;>kernel_rfl
@[simp] theorem atS:FF 55 2 2 2:=by and_intros<;>kernel_rfl
@[simp] theorem atT:FF 55 3 3 3:=by and_intros<;>kernel_rfl
@[simp] theorem atU:FF 55 4 4 3:=by and_intros<;>kernel_rfl
@[simp] theorem amP:bp Tryz.prog 55=some [(0,1),(1,1),(2,1),(3,1),(4,1)]/\b9 Tryz.prog 55=some [.int .i64,.str,.int .i64,.int .i64,.int .i64]:=by and_intros<;>kernel_rfl
@[simp] theorem ayV:T2 57 (.func) 1:=by and_intros<;>kernel_rfl
@[simp] theorem ayW:T2 59 (.func) 1:=by and_intros<;>kernel_rfl
@[simp] theorem ayX:T5 63 (.struct) 8 ([.d (.str []),.d (.int .i64 0),.d (.int .i64 0),.d (.bool false),.d (.int .i64 0),.d (.int .i64 0),.d (.int .i64 0),.d (.int .i64 0)]) 72 (.agg ([.str [],.int .i64 0,.int .i64 0,.bool false,.int .i64 0,.int .i64 0,.int .i64 0,.int .i64 0])):=by and_intros<;>kernel_rfl
@[simp] theorem atV:FF 63 0 0 9:=by and_intros<;>kernel_rfl
@[simp] theorem atW:FF 63 1 1 3:=by and_intros<;>kernel_rfl
@[simp] theorem atX:FF 63 2 2 3:=by and_intros<;>kernel_rfl
@[simp] theorem atY:FF 63 3 3 4:=by and_intros<;>kernel_rfl
@[simp] theorem atZ:FF 63 4 4 2:=by and_intros<;>kernel_rfl
@[simp] theorem at0:FF 63 5 5 2:=by and_intros<;>kernel_rfl
@[simp] theorem at1:FF 63 6 6 2:=by and_intros<;>kernel_rfl
@[simp] theorem at3:FF 63 7 7 3:=by and_intros<;>kernel_rfl
@[simp] theorem amQ:bp Tryz.prog 63=some [(0,1),(1,1),(2,1),(3,1),(4,1),(5,1),(6,1),(7,1)]/\b9 Tryz.prog 63=some [.str,.int .i64,.int .i64,.bool,.int .i64,.int .i64,.int .i64,.int .i64]:=by and_intros<;>kernel_rfl
@[simp] theorem ayY:T5 64 (.struct) 8 ([.d (.str []),.d (.int .i64 0),.d (.int .i64 0),.d (.bool false),.d (.int .i64 0),.d (.int .i64 0),.d (.int .i64 0),.d (.int .i64 0)]) 72 (.agg ([.str [],.int .i64 0,.int .i64 0,.bool false,.int .i64 0,.int .i64 0,.int .i64 0,.int .i64 0])):=by and_intros<;>kernel_rfl
@[simp] theorem at4:FF 64 0 0 9:=by and_intros<;>kernel_rfl
@[simp] theorem at5:FF 64 1 1 3:=by and_intros<;>kernel_rfl
@[simp] theorem at6:FF 64 2 2 3:=by and_intros<;>kernel_rfl
@[simp] theorem at7:FF 64 3 3 4:=by and_intros<;>kernel_rfl
@[simp] theorem aua:FF 64 4 4 2:=by and_intros<;>kernel_rfl
@[simp] theorem aub:FF 64 5 5 2:=by and_intros<;>kernel_rfl
@[simp] theorem auc:FF 64 6 6 2:=by and_intros<;>kernel_rfl
@[simp] theorem aud:FF 64 7 7 3:=by and_intros<;>kernel_rfl
@[simp] theorem amR:bp Tryz.prog 64=some [(0,1),(1,1),(2,1),(3,1),(4,1),(5,1),(6,1),(7,1)]/\b9 Tryz.prog 64=some [.str,.int .i64,.int .i64,.bool,.int .i64,.int .i64,.int .i64,.int .i64]:=by and_intros<;>kernel_rfl
@[simp] theorem ayZ:T2 65 (.func) 1:=by and_intros<;>kernel_rfl
@[simp] theorem ay0:T5 70 (.slice 3) 1 ([.lit (.slice none 0 0)]) 24 (.list []):=by and_intros<;>kernel_rfl
@[simp] theorem aou:eO Tryz.prog 70=true:=by kernel_rfl
@[simp] theorem ay1:T5 71 (.struct) 3 ([.lit (.slice none 0 0),.d (.int .i64 0),.lit (.slice none 0 0)]) 56 (.agg ([.list [],.int .i64 0,.list []])):=by and_intros<;>kernel_rfl
@[simp] theorem aue:FF 71 0 0 70:=by and_intros<;>kernel_rfl
@[simp] theorem auf:FF 71 1 1 3:=by and_intros<;>kernel_rfl
@[simp] theorem aug:FF 71 2 2 26:=by and_intros<;>kernel_rfl
@[simp] theorem amS:bp Tryz.prog 71=some [(0,1),(1,1),(2,1)]:=by kernel_rfl
@[simp] theorem ay2:T5 72 (.struct) 3 ([.lit (.slice none 0 0),.d (.int .i64 0),.lit (.slice none 0 0)]) 56 (.agg ([.list [],.int .i64 0,.list []])):=by and_intros<;>kernel_rfl
@[simp] theorem auh:FF 72 0 0 70:=by and_intros<;>kernel_rfl
@[simp] theorem aui:FF 72 1 1 3:=by and_intros<;>kernel_rfl
@[simp] theorem auj:FF 72 2 2 26:=by and_intros<;>kernel_rfl
@[simp] theorem amT:bp Tryz.prog 72=some [(0,1),(1,1),(2,1)]:=by kernel_rfl
@[simp] theorem ay3:T2 73 (.func) 1:=by and_intros<;>kernel_rfl
@[simp] theorem ay4:T2 90 (.func) 1:=by and_intros<;>kernel_rfl
@[simp] theorem ay5:T5 93 (.slice 96) 1 ([.lit (.slice none 0 0)]) 24 (.list []):=by and_intros<;>kernel_rfl
@[simp] theorem aov:eO Tryz.prog 93=true:=by kernel_rfl
@[simp] theorem ay6:T5 94 (.struct) 10 ([.d (.str []),.lit (.slice none 0 0),.lit (.slice none 0 0),.lit (.slice none 0 0),.d (.int .i64 0),.lit (.slice none 0 0),.lit (.slice none 0 0),.lit (.slice none 0 0),.d (.int .i64 0),.d (.int .i64 0)]) 184 (.agg ([.str [],.list [],.list [],.list [],.int .i64 0,.list [],.list [],.list [],.int .i64 0,.int .i64 0])):=by and_intros<;>kernel_rfl
@[simp] theorem auk:FF 94 0 0 25:=by and_intros<;>kernel_rfl
@[simp] theorem aul:FF 94 1 3 72:=by and_intros<;>kernel_rfl
@[simp] theorem aum:FF 94 2 6 93:=by and_intros<;>kernel_rfl
@[simp] theorem aun:FF 94 3 7 26:=by and_intros<;>kernel_rfl
@[simp] theorem auo:FF 94 4 8 3:=by and_intros<;>kernel_rfl
@[simp] theorem aup:FF 94 5 9 3:=by and_intros<;>kernel_rfl
@[simp] theorem amU:bp Tryz.prog 94=some [(0,3),(3,3),(6,1),(7,1),(8,1),(9,1)]:=by kernel_rfl
@[simp] theorem ay7:T5 95 (.struct) 10 ([.d (.str []),.lit (.slice none 0 0),.lit (.slice none 0 0),.lit (.slice none 0 0),.d (.int .i64 0),.lit (.slice none 0 0),.lit (.slice none 0 0),.lit (.slice none 0 0),.d (.int .i64 0),.d (.int .i64 0)]) 184 (.agg ([.str [],.list [],.list [],.list [],.int .i64 0,.list [],.list [],.list [],.int .i64 0,.int .i64 0])):=by and_intros<;>kernel_rfl
@[simp] theorem auq:FF 95 0 0 25:=by and_intros<;>kernel_rfl
@[simp] theorem aur:FF 95 1 3 72:=by and_intros<;>kernel_rfl
@[simp] theorem aus:FF 95 2 6 93:=by and_intros<;>kernel_rfl
@[simp] theorem aut:FF 95 3 7 26:=by and_intros<;>kernel_rfl
@[simp] theorem auu:FF 95 4 8 3:=by and_intros<;>kernel_rfl
@[simp] theorem auv:FF 95 5 9 3:=by and_intros<;>kernel_rfl
@[simp] theorem amV:bp Tryz.prog 95=some [(0,3),(3,3),(6,1),(7,1),(8,1),(9,1)]:=by kernel_rfl
@[simp] theorem ay8:T5 96 (.slice 150) 1 ([.lit (.slice none 0 0)]) 24 (.list []):=by and_intros<;>kernel_rfl
@[simp] theorem aow:eO Tryz.prog 96=true:=by kernel_rfl
@[simp] theorem ay9:T2 97 (.func) 1:=by and_intros<;>kernel_rfl
@[simp] theorem aza:T2 99 (.ptr 101) 1:=by and_intros<;>kernel_rfl
@[simp] theorem avX:T5 100 (.struct) 7 ([.d (.str []),.lit (.slice none 0 0),.lit (.slice none 0 0),.lit (.slice none 0 0),.lit (.slice none 0 0),.lit (.slice none 0 0),.d (.int .i64 0)]) 144 (.agg ([.str [],.list [],.list [],.list [],.list [],.list [],.int .i64 0])):=by and_intros<;>kernel_rfl
@[simp] theorem aoy:FF 100 0 0 25:=by and_intros<;>kernel_rfl
@[simp] theorem aoz:FF 100 1 3 70:=by and_intros<;>kernel_rfl
@[simp] theorem aoA:FF 100 2 4 93:=by and_intros<;>kernel_rfl
@[simp] theorem aoB:FF 100 3 5 26:=by and_intros<;>kernel_rfl
@[simp] theorem aoC:FF 100 4 6 3:=by and_intros<;>kernel_rfl
@[simp] theorem ajz:bp Tryz.prog 100=some [(0,3),(3,1),(4,1),(5,1),(6,1)]:=by kernel_rfl
@[simp] theorem avY:T5 101 (.struct) 7 ([.d (.str []),.lit (.slice none 0 0),.lit (.slice none 0 0),.lit (.slice none 0 0),.lit (.slice none 0 0),.lit (.slice none 0 0),.d (.int .i64 0)]) 144 (.agg ([.str [],.list [],.list [],.list [],.list [],.list [],.int .i64 0])):=by and_intros<;>kernel_rfl
@[simp] theorem aoD:FF 101 0 0 25:=by and_intros<;>kernel_rfl
@[simp] theorem aoE:FF 101 1 3 70:=by and_intros<;>kernel_rfl
@[simp] theorem aoF:FF 101 2 4 93:=by and_intros<;>kernel_rfl
@[simp] theorem aoG:FF 101 3 5 26:=by and_intros<;>kernel_rfl
@[simp] theorem aoH:FF 101 4 6 3:=by and_intros<;>kernel_rfl
@[simp] theorem ajA:bp Tryz.prog 101=some [(0,3),(3,1),(4,1),(5,1),(6,1)]:=by kernel_rfl
@[simp] theorem avZ:T5 102 (.struct) 1 ([.d (.int .i64 0)]) 8 (.agg ([.int .i64 0])):=by and_intros<;>kernel_rfl
@[simp] theorem aoI:FF 102 0 0 3:=by and_intros<;>kernel_rfl
@[simp] theorem ajB:bp Tryz.prog 102=some [(0,1)]/\b9 Tryz.prog 102=some [.int .i64]:=by and_intros<;>kernel_rfl
@[simp] theorem av0:T5 103 (.struct) 1 ([.d (.int .i64 0)]) 8 (.agg ([.int .i64 0])):=by and_intros<;>kernel_rfl
@[simp] theorem aoJ:FF 103 0 0 3:=by and_intros<;>kernel_rfl
@[simp] theorem ajC:bp Tryz.prog 103=some [(0,1)]/\b9 Tryz.prog 103=some [.int .i64]:=by and_intros<;>kernel_rfl
@[simp] theorem av1:T2 111 (.func) 1:=by and_intros<;>kernel_rfl
@[simp] theorem av2:T5 112 (.slice 114) 1 ([.lit (.slice none 0 0)]) 24 (.list []):=by and_intros<;>kernel_rfl
@[simp] theorem amW:eO Tryz.prog 112=true:=by kernel_rfl
@[simp] theorem av3:T5 113 (.struct) 6 ([.d (.int .i64 0),.d (.int .i64 0),.d (.str []),.d (.str []),.lit (.slice none 0 0),.d (.int .i64 0)]) 80 (.agg ([.int .i64 0,.int .i64 0,.str [],.str [],.list [],.int .i64 0])):=by and_intros<;>kernel_rfl
@[simp] theorem aoK:FF 113 0 0 3:=by and_intros<;>kernel_rfl
@[simp] theorem aoL:FF 113 1 1 2:=by and_intros<;>kernel_rfl
@[simp] theorem aoM:FF 113 2 2 9:=by and_intros<;>kernel_rfl
@[simp] theorem aoN:FF 113 3 3 9:=by and_intros<;>kernel_rfl
@[simp] theorem aoO:FF 113 4 4 112:=by and_intros<;>kernel_rfl
@[simp] theorem aoP:FF 113 5 5 3:=by and_intros<;>kernel_rfl
@[simp] theorem ajD:bp Tryz.prog 113=some [(0,1),(1,1),(2,1),(3,1),(4,1),(5,1)]:=by kernel_rfl
@[simp] theorem av4:T5 114 (.struct) 6 ([.d (.int .i64 0),.d (.int .i64 0),.d (.str []),.d (.str []),.lit (.slice none 0 0),.d (.int .i64 0)]) 80 (.agg ([.int .i64 0,.int .i64 0,.str [],.str [],.list [],.int .i64 0])):=by and_intros<;>kernel_rfl
@[simp] theorem aoQ:FF 114 0 0 3:=by and_intros<;>kernel_rfl
@[simp] theorem aoR:FF 114 1 1 2:=by and_intros<;>kernel_rfl
@[simp] theorem aoS:FF 114 2 2 9:=by and_intros<;>kernel_rfl
@[simp] theorem aoT:FF 114 3 3 9:=by and_intros<;>kernel_rfl
@[simp] theorem aoU:FF 114 4 4 112:=by and_intros<;>kernel_rfl
@[simp] theorem aoV:FF 114 5 5 3:=by and_intros<;>kernel_rfl
@[simp] theorem ajE:bp Tryz.prog 114=some [(0,1),(1,1),(2,1),(3,1),(4,1),(5,1)]:=by kernel_rfl
@[simp] theorem av5:T5 115 (.slice 26) 1 ([.lit (.slice none 0 0)]) 24 (.list []):=by and_intros<;>kernel_rfl
@[simp] theorem amX:eO Tryz.prog 115=true:=by kernel_rfl
@[simp] theorem av6:T5 116 (.slice 9) 1 ([.lit (.slice none 0 0)]) 24 (.list []):=by and_intros<;>kernel_rfl
@[simp] theorem amY:eO Tryz.prog 116=true:=by kernel_rfl
@[simp] theorem av7:T5 117 (.slice 23) 1 ([.lit (.slice none 0 0)]) 24 (.list []):=by and_intros<;>kernel_rfl
@[simp] theorem amZ:eO Tryz.prog 117=true:=by kernel_rfl
@[simp] theorem av8:T5 118 (.struct) 19 ([.d (.int .i64 0),.d (.str []),.d (.int .i64 0),.d (.int .i64 0),.d (.str []),.d (.str []),.lit (.slice none 0 0),.d (.int .i64 0),.d (.int .i64 0),.d (.int .i64 0),.d (.str []),.d (.str []),.lit (.slice none 0 0),.d (.int .i64 0),.lit (.slice none 0 0),.lit (.slice none 0 0),.lit (.slice none 0 0),.lit (.slice none 0 0),.d (.int .i64 0)]) 288 (.agg ([.int .i64 0,.str [],.int .i64 0,.int .i64 0,.str [],.str [],.list [],.int .i64 0,.int .i64 0,.int .i64 0,.str [],.str [],.list [],.int .i64 0,.list [],.list [],.list [],.list [],.int .i64 0])):=by and_intros<;>kernel_rfl
@[simp] theorem aoW:FF 118 0 0 3:=by and_intros<;>kernel_rfl
@[simp] theorem aoX:FF 118 1 1 9:=by and_intros<;>kernel_rfl
@[simp] theorem aoY:FF 118 2 2 114:=by and_intros<;>kernel_rfl
@[simp] theorem aoZ:FF 118 3 8 114:=by and_intros<;>kernel_rfl
@[simp] theorem ao0:FF 118 4 14 112:=by and_intros<;>kernel_rfl
@[simp] theorem ao1:FF 118 5 15 115:=by and_intros<;>kernel_rfl
@[simp] theorem ao2:FF 118 6 16 116:=by and_intros<;>kernel_rfl
@[simp] theorem ao3:FF 118 7 17 117:=by and_intros<;>kernel_rfl
@[simp] theorem ao4:FF 118 8 18 3:=by and_intros<;>kernel_rfl
@[simp] theorem ajF:bp Tryz.prog 118=some [(0,1),(1,1),(2,6),(8,6),(14,1),(15,1),(16,1),(17,1),(18,1)]:=by kernel_rfl
@[simp] theorem av9:T5 119 (.struct) 19 ([.d (.int .i64 0),.d (.str []),.d (.int .i64 0),.d (.int .i64 0),.d (.str []),.d (.str []),.lit (.slice none 0 0),.d (.int .i64 0),.d (.int .i64 0),.d (.int .i64 0),.d (.str []),.d (.str []),.lit (.slice none 0 0),.d (.int .i64 0),.lit (.slice none 0 0),.lit (.slice none 0 0),.lit (.slice none 0 0),.lit (.slice none 0 0),.d (.int .i64 0)]) 288 (.agg ([.int .i64 0,.str [],.int .i64 0,.int .i64 0,.str [],.str [],.list [],.int .i64 0,.int .i64 0,.int .i64 0,.str [],.str [],.list [],.int .i64 0,.list [],.list [],.list [],.list [],.int .i64 0])):=by and_intros<;>kernel_rfl
@[simp] theorem ao5:FF 119 0 0 3:=by and_intros<;>kernel_rfl
@[simp] theorem ao6:FF 119 1 1 9:=by and_intros<;>kernel_rfl
@[simp] theorem ao7:FF 119 2 2 114:=by and_intros<;>kernel_rfl
@[simp] theorem ao8:FF 119 3 8 114:=by and_intros<;>kernel_rfl
@[simp] theorem ao9:FF 119 4 14 112:=by and_intros<;>kernel_rfl
@[simp] theorem apa:FF 119 5 15 115:=by and_intros<;>kernel_rfl
@[simp] theorem apb:FF 119 6 16 116:=by and_intros<;>kernel_rfl
@[simp] theorem apc:FF 119 7 17 117:=by and_intros<;>kernel_rfl
@[simp] theorem apd:FF 119 8 18 3:=by and_intros<;>kernel_rfl
@[simp] theorem ajG:bp Tryz.prog 119=some [(0,1),(1,1),(2,6),(8,6),(14,1),(15,1),(16,1),(17,1),(18,1)]:=by kernel_rfl
@[simp] theorem awa:T2 122 (.ptr 125) 1:=by and_intros<;>kernel_rfl
@[simp] theorem awb:T5 123 (.slice 4) 1 ([.lit (.slice none 0 0)]) 24 (.list []):=by and_intros<;>kernel_rfl
@[simp] theorem am0:eO Tryz.prog 123=true:=by kernel_rfl
@[simp] theorem awc:T5 124 (.struct) 5 ([.lit (.slice none 0 0),.d (.int .i64 0),.d (.int .i64 0),.lit (.slice none 0 0),.lit (.slice none 0 0)]) 88 (.agg ([.list [],.int .i64 0,.int .i64 0,.list [],.list []])):=by and_intros<;>kernel_rfl
@[simp] theorem ape:FF 124 0 0 34:=by and_intros<;>kernel_rfl
@[simp] theorem apf:FF 124 1 3 123:=by and_intros<;>kernel_rfl
@[simp] theorem apg:FF 124 2 4 123:=by and_intros<;>kernel_rfl
@[simp] theorem ajH:bp Tryz.prog 124=some [(0,3),(3,1),(4,1)]:=by kernel_rfl
@[simp] theorem awd:T5 125 (.struct) 5 ([.lit (.slice none 0 0),.d (.int .i64 0),.d (.int .i64 0),.lit (.slice none 0 0),.lit (.slice none 0 0)]) 88 (.agg ([.list [],.int .i64 0,.int .i64 0,.list [],.list []])):=by and_intros<;>kernel_rfl
@[simp] theorem aph:FF 125 0 0 34:=by and_intros<;>kernel_rfl
@[simp] theorem api:FF 125 1 3 123:=by and_intros<;>kernel_rfl
@[simp] theorem apj:FF 125 2 4 123:=by and_intros<;>kernel_rfl
@[simp] theorem ajI:bp Tryz.prog 125=some [(0,3),(3,1),(4,1)]:=by kernel_rfl
@[simp] theorem awe:T5 127 (.slice 130) 1 ([.lit (.slice none 0 0)]) 24 (.list []):=by and_intros<;>kernel_rfl
@[simp] theorem am1:eO Tryz.prog 127=true:=by kernel_rfl
@[simp] theorem awf:T2 128 (.func) 1:=by and_intros<;>kernel_rfl
@[simp] theorem awg:T5 129 (.struct) 4 ([.d (.int .i64 0),.d (.str []),.d (.str []),.lit (.slice none 0 0)]) 64 (.agg ([.int .i64 0,.str [],.str [],.list []])):=by and_intros<;>kernel_rfl
@[simp] theorem apk:FF 129 0 0 3:=by and_intros<;>kernel_rfl
@[simp] theorem apl:FF 129 1 1 9:=by and_intros<;>kernel_rfl
@[simp] theorem apm:FF 129 2 2 9:=by and_intros<;>kernel_rfl
@[simp] theorem apn:FF 129 3 3 116:=by and_intros<;>kernel_rfl
@[simp] theorem ajJ:bp Tryz.prog 129=some [(0,1),(1,1),(2,1),(3,1)]:=by kernel_rfl
@[simp] theorem awh:T5 130 (.struct) 4 ([.d (.int .i64 0),.d (.str []),.d (.str []),.lit (.slice none 0 0)]) 64 (.agg ([.int .i64 0,.str [],.str [],.list []])):=by and_intros<;>kernel_rfl
@[simp] theorem apo:FF 130 0 0 3:=by and_intros<;>kernel_rfl
@[simp] theorem apq:FF 130 1 1 9:=by and_intros<;>kernel_rfl
@[simp] theorem apr:FF 130 2 2 9:=by and_intros<;>kernel_rfl
@[simp] theorem aps:FF 130 3 3 116:=by and_intros<;>kernel_rfl
@[simp] theorem ajK:bp Tryz.prog 130=some [(0,1),(1,1),(2,1),(3,1)]:=by kernel_rfl
@[simp] theorem awi:T2 133 (.func) 1:=by and_intros<;>kernel_rfl
@[simp] theorem awj:T5 149 (.struct) 3 ([.d (.str []),.d (.int .i64 0),.d (.bool false)]) 32 (.agg ([.str [],.int .i64 0,.bool false])):=by and_intros<;>kernel_rfl
@[simp] theorem apt:FF 149 0 0 9:=by and_intros<;>kernel_rfl
@[simp] theorem apu:FF 149 1 1 3:=by and_intros<;>kernel_rfl
@[simp] theorem apv:FF 149 2 2 4:=by and_intros<;>kernel_rfl
@[simp] theorem ajL:bp Tryz.prog 149=some [(0,1),(1,1),(2,1)]/\b9 Tryz.prog 149=some [.str,.int .i64,.bool]:=by and_intros<;>kernel_rfl
@[simp] theorem awk:T5 150 (.struct) 3 ([.d (.str []),.d (.int .i64 0),.d (.bool false)]) 32 (.agg ([.str [],.int .i64 0,.bool false])):=by and_intros<;>kernel_rfl
@[simp] theorem apw:FF 150 0 0 9:=by and_intros<;>kernel_rfl
@[simp] theorem apx:FF 150 1 1 3:=by and_intros<;>kernel_rfl
@[simp] theorem apy:FF 150 2 2 4:=by and_intros<;>kernel_rfl
@[simp] theorem ajM:bp Tryz.prog 150=some [(0,1),(1,1),(2,1)]/\b9 Tryz.prog 150=some [.str,.int .i64,.bool]:=by and_intros<;>kernel_rfl
@[simp] theorem awl:T5 152 (.struct) 5 ([.d (.int .i64 0),.d (.str []),.d (.str []),.d (.str []),.d (.int .i64 0)]) 64 (.agg ([.int .i64 0,.str [],.str [],.str [],.int .i64 0])):=by and_intros<;>kernel_rfl
@[simp] theorem apz:FF 152 0 0 3:=by and_intros<;>kernel_rfl
@[simp] theorem apA:FF 152 1 1 9:=by and_intros<;>kernel_rfl
@[simp] theorem apB:FF 152 2 2 9:=by and_intros<;>kernel_rfl
@[simp] theorem apC:FF 152 3 3 9:=by and_intros<;>kernel_rfl
@[simp] theorem apD:FF 152 4 4 3:=by and_intros<;>kernel_rfl
@[simp] theorem ajN:bp Tryz.prog 152=some [(0,1),(1,1),(2,1),(3,1),(4,1)]/\b9 Tryz.prog 152=some [.int .i64,.str,.str,.str,.int .i64]:=by and_intros<;>kernel_rfl
@[simp] theorem awm:T5 153 (.struct) 5 ([.d (.int .i64 0),.d (.str []),.d (.str []),.d (.str []),.d (.int .i64 0)]) 64 (.agg ([.int .i64 0,.str [],.str [],.str [],.int .i64 0])):=by and_intros<;>kernel_rfl
@[simp] theorem apE:FF 153 0 0 3:=by and_intros<;>kernel_rfl
@[simp] theorem apF:FF 153 1 1 9:=by and_intros<;>kernel_rfl
@[simp] theorem apG:FF 153 2 2 9:=by and_intros<;>kernel_rfl
@[simp] theorem apH:FF 153 3 3 9:=by and_intros<;>kernel_rfl
@[simp] theorem apI:FF 153 4 4 3:=by and_intros<;>kernel_rfl
@[simp] theorem ajO:bp Tryz.prog 153=some [(0,1),(1,1),(2,1),(3,1),(4,1)]/\b9 Tryz.prog 153=some [.int .i64,.str,.str,.str,.int .i64]:=by and_intros<;>kernel_rfl
@[simp] theorem awn:T5 157 (.slice 55) 1 ([.lit (.slice none 0 0)]) 24 (.list []):=by and_intros<;>kernel_rfl
@[simp] theorem am2:eO Tryz.prog 157=true:=by kernel_rfl
@[simp] theorem awo:T5 160 (.struct) 6 ([.d (.int .i64 0),.d (.int .i64 0),.d (.str []),.d (.int .i64 0),.d (.int .i64 0),.d (.int .i64 0)]) 56 (.agg ([.int .i64 0,.int .i64 0,.str [],.int .i64 0,.int .i64 0,.int .i64 0])):=by and_intros<;>kernel_rfl
@[simp] theorem apJ:FF 160 0 0 35:=by and_intros<;>kernel_rfl
@[simp] theorem apK:FF 160 1 1 55:=by and_intros<;>kernel_rfl
@[simp] theorem ajP:bp Tryz.prog 160=some [(0,1),(1,5)]/\b9 Tryz.prog 160=some [.int .i64,.int .i64,.str,.int .i64,.int .i64,.int .i64]:=by and_intros<;>kernel_rfl
@[simp] theorem awp:T5 161 (.struct) 6 ([.d (.int .i64 0),.d (.int .i64 0),.d (.str []),.d (.int .i64 0),.d (.int .i64 0),.d (.int .i64 0)]) 56 (.agg ([.int .i64 0,.int .i64 0,.str [],.int .i64 0,.int .i64 0,.int .i64 0])):=by and_intros<;>kernel_rfl
@[simp] theorem apL:FF 161 0 0 35:=by and_intros<;>kernel_rfl
@[simp] theorem apM:FF 161 1 1 55:=by and_intros<;>kernel_rfl
@[simp] theorem ajQ:bp Tryz.prog 161=some [(0,1),(1,5)]/\b9 Tryz.prog 161=some [.int .i64,.int .i64,.str,.int .i64,.int .i64,.int .i64]:=by and_intros<;>kernel_rfl
@[simp] theorem awq:T2 163 (.ptr 165) 1:=by and_intros<;>kernel_rfl
@[simp] theorem awr:T5 164 (.struct) 4 ([.lit (.slice none 0 0),.d (.int .i64 0),.d (.int .i64 0),.lit (.slice none 0 0)]) 64 (.agg ([.list [],.int .i64 0,.int .i64 0,.list []])):=by and_intros<;>kernel_rfl
@[simp] theorem apN:FF 164 0 0 157:=by and_intros<;>kernel_rfl
@[simp] theorem apO:FF 164 1 1 3:=by and_intros<;>kernel_rfl
@[simp] theorem apP:FF 164 2 2 3:=by and_intros<;>kernel_rfl
@[simp] theorem apQ:FF 164 3 3 22:=by and_intros<;>kernel_rfl
@[simp] theorem ajR:bp Tryz.prog 164=some [(0,1),(1,1),(2,1),(3,1)]:=by kernel_rfl
@[simp] theorem aws:T5 165 (.struct) 4 ([.lit (.slice none 0 0),.d (.int .i64 0),.d (.int .i64 0),.lit (.slice none 0 0)]) 64 (.agg ([.list [],.int .i64 0,.int .i64 0,.list []])):=by and_intros<;>kernel_rfl
@[simp] theorem apR:FF 165 0 0 157:=by and_intros<;>kernel_rfl
@[simp] theorem apS:FF 165 1 1 3:=by and_intros<;>kernel_rfl
@[simp] theorem apT:FF 165 2 2 3:=by and_intros<;>kernel_rfl
@[simp] theorem apU:FF 165 3 3 22:=by and_intros<;>kernel_rfl
@[simp] theorem ajS:bp Tryz.prog 165=some [(0,1),(1,1),(2,1),(3,1)]:=by kernel_rfl
@[simp] theorem awt:T5 181 (.slice 112) 1 ([.lit (.slice none 0 0)]) 24 (.list []):=by and_intros<;>kernel_rfl
@[simp] theorem am3:eO Tryz.prog 181=true:=by kernel_rfl
@[simp] theorem awu:T5 202 (.slice 153) 1 ([.lit (.slice none 0 0)]) 24 (.list []):=by and_intros<;>kernel_rfl
@[simp] theorem am4:eO Tryz.prog 202=true:=by kernel_rfl
@[simp] theorem awv:T2 205 (.func) 1:=by and_intros<;>kernel_rfl
@[simp] theorem aww:T2 209 (.ptr 211) 1:=by and_intros<;>kernel_rfl
@[simp] theorem awx:T5 210 (.struct) 4 ([.d (.str []),.d (.int .i64 0),.d (.int .i64 0),.d (.int .i64 0)]) 40 (.agg ([.str [],.int .i64 0,.int .i64 0,.int .i64 0])):=by and_intros<;>kernel_rfl
@[simp] theorem apV:FF 210 0 0 9:=by and_intros<;>kernel_rfl
@[simp] theorem apW:FF 210 1 1 3:=by and_intros<;>kernel_rfl
@[simp] theorem apX:FF 210 2 2 3:=by and_intros<;>kernel_rfl
@[simp] theorem apY:FF 210 3 3 3:=by and_intros<;>kernel_rfl
@[simp] theorem ajT:bp Tryz.prog 210=some [(0,1),(1,1),(2,1),(3,1)]/\b9 Tryz.prog 210=some [.str,.int .i64,.int .i64,.int .i64]:=by and_intros<;>kernel_rfl
@[simp] theorem awy:T5 211 (.struct) 4 ([.d (.str []),.d (.int .i64 0),.d (.int .i64 0),.d (.int .i64 0)]) 40 (.agg ([.str [],.int .i64 0,.int .i64 0,.int .i64 0])):=by and_intros<;>kernel_rfl
@[simp] theorem apZ:FF 211 0 0 9:=by and_intros<;>kernel_rfl
@[simp] theorem ap0:FF 211 1 1 3:=by and_intros<;>kernel_rfl
@[simp] theorem ap1:FF 211 2 2 3:=by and_intros<;>kernel_rfl
@[simp] theorem ap2:FF 211 3 3 3:=by and_intros<;>kernel_rfl
@[simp] theorem ajU:bp Tryz.prog 211=some [(0,1),(1,1),(2,1),(3,1)]/\b9 Tryz.prog 211=some [.str,.int .i64,.int .i64,.int .i64]:=by and_intros<;>kernel_rfl
@[simp] theorem awz:T2 237 (.func) 1:=by and_intros<;>kernel_rfl
@[simp] theorem awA:T5 251 (.arr 256 5) 256 (List.replicate 256 (.d (.int .u8 0))) 256 (.agg (List.replicate 256 (.int .u8 0))):=by and_intros<;>kernel_rfl
@[simp] theorem ajV:bp Tryz.prog 251=none:=by kernel_rfl
@[simp] theorem awB:T2 253 (.func) 1:=by and_intros<;>kernel_rfl
@[simp] theorem awC:T2 255 (.func) 1:=by and_intros<;>kernel_rfl
@[simp] theorem awD:T2 256 (.func) 1:=by and_intros<;>kernel_rfl
@[simp] theorem awE:T2 262 (.func) 1:=by and_intros<;>kernel_rfl
@[simp] theorem awF:T2 279 (.func) 1:=by and_intros<;>kernel_rfl
@[simp] theorem awG:T5 282 (.slice 284) 1 ([.lit (.slice none 0 0)]) 24 (.list []):=by and_intros<;>kernel_rfl
@[simp] theorem am5:eO Tryz.prog 282=true:=by kernel_rfl
@[simp] theorem awH:T5 283 (.struct) 2 ([.d (.int .i64 0),.d (.int .i64 0)]) 16 (.agg ([.int .i64 0,.int .i64 0])):=by and_intros<;>kernel_rfl
@[simp] theorem ap3:FF 283 0 0 3:=by and_intros<;>kernel_rfl
@[simp] theorem ap4:FF 283 1 1 3:=by and_intros<;>kernel_rfl
@[simp] theorem ajW:bp Tryz.prog 283=some [(0,1),(1,1)]/\b9 Tryz.prog 283=some [.int .i64,.int .i64]:=by and_intros<;>kernel_rfl
@[simp] theorem awI:T5 284 (.struct) 2 ([.d (.int .i64 0),.d (.int .i64 0)]) 16 (.agg ([.int .i64 0,.int .i64 0])):=by and_intros<;>kernel_rfl
@[simp] theorem ap5:FF 284 0 0 3:=by and_intros<;>kernel_rfl
@[simp] theorem ap6:FF 284 1 1 3:=by and_intros<;>kernel_rfl
@[simp] theorem ajX:bp Tryz.prog 284=some [(0,1),(1,1)]/\b9 Tryz.prog 284=some [.int .i64,.int .i64]:=by and_intros<;>kernel_rfl
@[simp] theorem awJ:T5 285 (.int .u32) 1 ([.d (.int .u32 0)]) 4 (.int .u32 0):=by and_intros<;>kernel_rfl
@[simp] theorem awK:T2 287 (.ptr 318) 1:=by and_intros<;>kernel_rfl
@[simp] theorem awL:T5 289 (.struct) 2 ([.d (.str []),.d (.int .i64 0)]) 24 (.agg ([.str [],.int .i64 0])):=by and_intros<;>kernel_rfl
@[simp] theorem ap7:FF 289 0 0 9:=by and_intros<;>kernel_rfl
@[simp] theorem ap8:FF 289 1 1 2:=by and_intros<;>kernel_rfl
@[simp] theorem ajY:bp Tryz.prog 289=some [(0,1),(1,1)]/\b9 Tryz.prog 289=some [.str,.int .i64]:=by and_intros<;>kernel_rfl
@[simp] theorem awM:T5 290 (.slice 289) 1 ([.lit (.slice none 0 0)]) 24 (.list []):=by and_intros<;>kernel_rfl
@[simp] theorem am6:eO Tryz.prog 290=true:=by kernel_rfl
@[simp] theorem awN:T5 292 (.struct) 9 ([.d (.int .i64 0),.d (.str []),.d (.int .i64 0),.d (.int .i64 0),.d (.int .i64 0),.d (.int .i64 0),.d (.bool false),.d (.int .i64 0),.d (.int .i64 0)]) 80 (.agg ([.int .i64 0,.str [],.int .i64 0,.int .i64 0,.int .i64 0,.int .i64 0,.bool false,.int .i64 0,.int .i64 0])):=by and_intros<;>kernel_rfl
@[simp] theorem ap9:FF 292 0 0 55:=by and_intros<;>kernel_rfl
@[simp] theorem aqa:FF 292 1 5 3:=by and_intros<;>kernel_rfl
@[simp] theorem aqb:FF 292 2 6 4:=by and_intros<;>kernel_rfl
@[simp] theorem aqc:FF 292 3 7 2:=by and_intros<;>kernel_rfl
@[simp] theorem aqd:FF 292 4 8 2:=by and_intros<;>kernel_rfl
@[simp] theorem ajZ:bp Tryz.prog 292=some [(0,5),(5,1),(6,1),(7,1),(8,1)]/\b9 Tryz.prog 292=some [.int .i64,.str,.int .i64,.int .i64,.int .i64,.int .i64,.bool,.int .i64,.int .i64]:=by and_intros<;>kernel_rfl
@[simp] theorem awO:T5 293 (.struct) 9 ([.d (.int .i64 0),.d (.str []),.d (.int .i64 0),.d (.int .i64 0),.d (.int .i64 0),.d (.int .i64 0),.d (.bool false),.d (.int .i64 0),.d (.int .i64 0)]) 80 (.agg ([.int .i64 0,.str [],.int .i64 0,.int .i64 0,.int .i64 0,.int .i64 0,.bool false,.int .i64 0,.int .i64 0])):=by and_intros<;>kernel_rfl
@[simp] theorem aqe:FF 293 0 0 55:=by and_intros<;>kernel_rfl
@[simp] theorem aqf:FF 293 1 5 3:=by and_intros<;>kernel_rfl
@[simp] theorem aqg:FF 293 2 6 4:=by and_intros<;>kernel_rfl
@[simp] theorem aqh:FF 293 3 7 2:=by and_intros<;>kernel_rfl
@[simp] theorem aqi:FF 293 4 8 2:=by and_intros<;>kernel_rfl
@[simp] theorem aj0:bp Tryz.prog 293=some [(0,5),(5,1),(6,1),(7,1),(8,1)]/\b9 Tryz.prog 293=some [.int .i64,.str,.int .i64,.int .i64,.int .i64,.int .i64,.bool,.int .i64,.int .i64]:=by and_intros<;>kernel_rfl
@[simp] theorem awP:T5 298 (.int .u64) 1 ([.d (.int .u64 0)]) 8 (.int .u64 0):=by and_intros<;>kernel_rfl
@[simp] theorem awQ:T5 315 (.slice 321) 1 ([.lit (.slice none 0 0)]) 24 (.list []):=by and_intros<;>kernel_rfl
@[simp] theorem am7:eO Tryz.prog 315=true:=by kernel_rfl
@[simp] theorem awR:T5 316 (.slice 324) 1 ([.lit (.slice none 0 0)]) 24 (.list []):=by and_intros<;>kernel_rfl
@[simp] theorem am8:eO Tryz.prog 316=true:=by kernel_rfl
@[simp] theorem awS:T5 317 (.struct) 3 ([.lit (.slice none 0 0),.lit (.slice none 0 0),.d (.int .i64 0)]) 56 (.agg ([.list [],.list [],.int .i64 0])):=by and_intros<;>kernel_rfl
@[simp] theorem aqj:FF 317 0 0 315:=by and_intros<;>kernel_rfl
@[simp] theorem aqk:FF 317 1 1 316:=by and_intros<;>kernel_rfl
@[simp] theorem aql:FF 317 2 2 3:=by and_intros<;>kernel_rfl
@[simp] theorem aj1:bp Tryz.prog 317=some [(0,1),(1,1),(2,1)]:=by kernel_rfl
@[simp] theorem awT:T5 318 (.struct) 3 ([.lit (.slice none 0 0),.lit (.slice none 0 0),.d (.int .i64 0)]) 56 (.agg ([.list [],.list [],.int .i64 0])):=by and_intros<;>kernel_rfl
@[simp] theorem aqm:FF 318 0 0 315:=by and_intros<;>kernel_rfl
@[simp] theorem aqn:FF 318 1 1 316:=by and_intros<;>kernel_rfl
@[simp] theorem aqo:FF 318 2 2 3:=by and_intros<;>kernel_rfl
@[simp] theorem aj2:bp Tryz.prog 318=some [(0,1),(1,1),(2,1)]:=by kernel_rfl
@[simp] theorem awU:T5 319 (.int .u16) 1 ([.d (.int .u16 0)]) 2 (.int .u16 0):=by and_intros<;>kernel_rfl
@[simp] theorem awV:T5 320 (.struct) 3 ([.d (.int .u16 0),.d (.int .u16 0),.d (.int .u16 0)]) 6 (.agg ([.int .u16 0,.int .u16 0,.int .u16 0])):=by and_intros<;>kernel_rfl
@[simp] theorem aqp:FF 320 0 0 319:=by and_intros<;>kernel_rfl
@[simp] theorem aqq:FF 320 1 1 319:=by and_intros<;>kernel_rfl
@[simp] theorem aqr:FF 320 2 2 319:=by and_intros<;>kernel_rfl
@[simp] theorem aj3:bp Tryz.prog 320=some [(0,1),(1,1),(2,1)]/\b9 Tryz.prog 320=some [.int .u16,.int .u16,.int .u16]:=by and_intros<;>kernel_rfl
@[simp] theorem awW:T5 321 (.struct) 3 ([.d (.int .u16 0),.d (.int .u16 0),.d (.int .u16 0)]) 6 (.agg ([.int .u16 0,.int .u16 0,.int .u16 0])):=by and_intros<;>kernel_rfl
@[simp] theorem aqs:FF 321 0 0 319:=by and_intros<;>kernel_rfl
@[simp] theorem aqt:FF 321 1 1 319:=by and_intros<;>kernel_rfl
@[simp] theorem aqu:FF 321 2 2 319:=by and_intros<;>kernel_rfl
@[simp] theorem aj4:bp Tryz.prog 321=some [(0,1),(1,1),(2,1)]/\b9 Tryz.prog 321=some [.int .u16,.int .u16,.int .u16]:=by and_intros<;>kernel_rfl
@[simp] theorem awX:T5 323 (.struct) 3 ([.d (.int .u32 0),.d (.int .u32 0),.d (.int .u32 0)]) 12 (.agg ([.int .u32 0,.int .u32 0,.int .u32 0])):=by and_intros<;>kernel_rfl
@[simp] theorem aqv:FF 323 0 0 285:=by and_intros<;>kernel_rfl
@[simp] theorem aqw:FF 323 1 1 285:=by and_intros<;>kernel_rfl
@[simp] theorem aqx:FF 323 2 2 285:=by and_intros<;>kernel_rfl
@[simp] theorem aj5:bp Tryz.prog 323=some [(0,1),(1,1),(2,1)]/\b9 Tryz.prog 323=some [.int .u32,.int .u32,.int .u32]:=by and_intros<;>kernel_rfl
@[simp] theorem awY:T5 324 (.struct) 3 ([.d (.int .u32 0),.d (.int .u32 0),.d (.int .u32 0)]) 12 (.agg ([.int .u32 0,.int .u32 0,.int .u32 0])):=by and_intros<;>kernel_rfl
@[simp] theorem aqy:FF 324 0 0 285:=by and_intros<;>kernel_rfl
@[simp] theorem aqz:FF 324 1 1 285:=by and_intros<;>kernel_rfl
@[simp] theorem aqA:FF 324 2 2 285:=by and_intros<;>kernel_rfl
@[simp] theorem aj6:bp Tryz.prog 324=some [(0,1),(1,1),(2,1)]/\b9 Tryz.prog 324=some [.int .u32,.int .u32,.int .u32]:=by and_intros<;>kernel_rfl
@[simp] theorem awZ:T5 327 (.int .u64) 1 ([.d (.int .u64 0)]) 8 (.int .u64 0):=by and_intros<;>kernel_rfl
@[simp] theorem aw0:T2 336 (.ptr 321) 1:=by and_intros<;>kernel_rfl
@[simp] theorem aw1:T2 337 (.ptr 324) 1:=by and_intros<;>kernel_rfl
@[simp] theorem aw2:T5 344 (.slice 116) 1 ([.lit (.slice none 0 0)]) 24 (.list []):=by and_intros<;>kernel_rfl
@[simp] theorem am9:eO Tryz.prog 344=true:=by kernel_rfl
@[simp] theorem aw3:T3 347 (.struct) 4 ([.lit (.pointer none),.lit (.pointer none),.lit (.pointer none),.d (.str [])]):=by and_intros<;>kernel_rfl
@[simp] theorem aqB:FF 347 0 0 17:=by and_intros<;>kernel_rfl
@[simp] theorem aqC:FF 347 1 1 17:=by and_intros<;>kernel_rfl
@[simp] theorem aqD:FF 347 2 2 17:=by and_intros<;>kernel_rfl
@[simp] theorem aqE:FF 347 3 3 9:=by and_intros<;>kernel_rfl
@[simp] theorem aj7:bp Tryz.prog 347=some [(0,1),(1,1),(2,1),(3,1)]:=by kernel_rfl
@[simp] theorem aw4:T3 348 (.struct) 4 ([.lit (.pointer none),.lit (.pointer none),.lit (.pointer none),.d (.str [])]):=by and_intros<;>kernel_rfl
@[simp] theorem aqF:FF 348 0 0 17:=by and_intros<;>kernel_rfl
@[simp] theorem aqG:FF 348 1 1 17:=by and_intros<;>kernel_rfl
@[simp] theorem aqH:FF 348 2 2 17:=by and_intros<;>kernel_rfl
@[simp] theorem aqI:FF 348 3 3 9:=by and_intros<;>kernel_rfl
@[simp] theorem aj8:bp Tryz.prog 348=some [(0,1),(1,1),(2,1),(3,1)]:=by kernel_rfl
@[simp] theorem aw5:T5 349 (.arr 0 16) 0 ([]) 0 (.agg ([])):=by and_intros<;>kernel_rfl
@[simp] theorem aj9:bp Tryz.prog 349=none:=by kernel_rfl
@[simp] theorem aw6:T5 350 (.struct) 0 ([]) 0 (.agg ([])):=by and_intros<;>kernel_rfl
@[simp] theorem aka:bp Tryz.prog 350=some [(0,0)]:=by kernel_rfl
@[simp] theorem aw7:T5 351 (.struct) 0 ([]) 0 (.agg ([])):=by and_intros<;>kernel_rfl
@[simp] theorem akb:bp Tryz.prog 351=some [(0,0)]:=by kernel_rfl
@[simp] theorem aw8:T5 352 (.int .u8) 1 ([.d (.int .u8 0)]) 1 (.int .u8 0):=by and_intros<;>kernel_rfl
@[simp] theorem aw9:T5 353 (.int .u8) 1 ([.d (.int .u8 0)]) 1 (.int .u8 0):=by and_intros<;>kernel_rfl
@[simp] theorem axa:T2 354 (.func) 1:=by and_intros<;>kernel_rfl
@[simp] theorem axb:T2 355 (.ptr 5) 1:=by and_intros<;>kernel_rfl
@[simp] theorem axc:T5 356 (.int .i32) 1 ([.d (.int .i32 0)]) 4 (.int .i32 0):=by and_intros<;>kernel_rfl
@[simp] theorem axd:T5 357 (.int .i32) 1 ([.d (.int .i32 0)]) 4 (.int .i32 0):=by and_intros<;>kernel_rfl
@[simp] theorem axe:T3 358 (.struct) 11 ([.d (.int .u64 0),.d (.int .u64 0),.d (.int .u32 0),.d (.int .u8 0),.d (.int .u8 0),.d (.int .u8 0),.d (.int .u8 0),.lit .nilFunc,.lit (.pointer none),.d (.int .i32 0),.d (.int .i32 0)]):=by and_intros<;>kernel_rfl
@[simp] theorem aqJ:FF 358 0 0 12:=by and_intros<;>kernel_rfl
@[simp] theorem aqK:FF 358 1 1 12:=by and_intros<;>kernel_rfl
@[simp] theorem aqL:FF 358 2 2 285:=by and_intros<;>kernel_rfl
@[simp] theorem aqM:FF 358 3 3 352:=by and_intros<;>kernel_rfl
@[simp] theorem aqN:FF 358 4 4 5:=by and_intros<;>kernel_rfl
@[simp] theorem aqO:FF 358 5 5 5:=by and_intros<;>kernel_rfl
@[simp] theorem aqP:FF 358 6 6 353:=by and_intros<;>kernel_rfl
@[simp] theorem aqQ:FF 358 7 7 354:=by and_intros<;>kernel_rfl
@[simp] theorem aqR:FF 358 8 8 355:=by and_intros<;>kernel_rfl
@[simp] theorem aqS:FF 358 9 9 356:=by and_intros<;>kernel_rfl
@[simp] theorem ana:FF 358 10 10 357:=by and_intros<;>kernel_rfl
@[simp] theorem akc:bp Tryz.prog 358=some [(0,1),(1,1),(2,1),(3,1),(4,1),(5,1),(6,1),(7,1),(8,1),(9,1),(10,1)]:=by kernel_rfl
@[simp] theorem axf:T3 359 (.struct) 11 ([.d (.int .u64 0),.d (.int .u64 0),.d (.int .u32 0),.d (.int .u8 0),.d (.int .u8 0),.d (.int .u8 0),.d (.int .u8 0),.lit .nilFunc,.lit (.pointer none),.d (.int .i32 0),.d (.int .i32 0)]):=by and_intros<;>kernel_rfl
@[simp] theorem aqT:FF 359 0 0 12:=by and_intros<;>kernel_rfl
@[simp] theorem aqU:FF 359 1 1 12:=by and_intros<;>kernel_rfl
@[simp] theorem aqV:FF 359 2 2 285:=by and_intros<;>kernel_rfl
@[simp] theorem aqW:FF 359 3 3 352:=by and_intros<;>kernel_rfl
@[simp] theorem aqX:FF 359 4 4 5:=by and_intros<;>kernel_rfl
@[simp] theorem aqY:FF 359 5 5 5:=by and_intros<;>kernel_rfl
@[simp] theorem aqZ:FF 359 6 6 353:=by and_intros<;>kernel_rfl
@[simp] theorem aq0:FF 359 7 7 354:=by and_intros<;>kernel_rfl
@[simp] theorem aq1:FF 359 8 8 355:=by and_intros<;>kernel_rfl
@[simp] theorem aq2:FF 359 9 9 356:=by and_intros<;>kernel_rfl
@[simp] theorem anb:FF 359 10 10 357:=by and_intros<;>kernel_rfl
@[simp] theorem akd:bp Tryz.prog 359=some [(0,1),(1,1),(2,1),(3,1),(4,1),(5,1),(6,1),(7,1),(8,1),(9,1),(10,1)]:=by kernel_rfl
end Go.Am
end
section
namespace Go.Am
open Go
def Jx:List D->Option D
 |[.str s,.str t]=>if s.length<4294967281 then some (.int .i64 (Go.Lib.index s t))else none
 |_=>none
def UI:List D->Option D
 |[.str s,.int .u8 c]=>some (.int .i64 (Go.Lib.indexByte s c.toNat.toUInt8))
 |_=>none
def UJ:List D->Option D
 |[.str s,.str p]=>some (.bool (Go.Lib.hasPrefix s p))
 |_=>none
attribute [simp] Jx.eq_1 UI.eq_1 UJ.eq_1
section
variable {X:Ctx} {U:br} {md:Bool} {all:List Oper} {S:St}
@[simp] theorem ai1{d:Option Tmp}{op:Op}{ty:TypeId}{pos:String}{M:Array Edge}:eE X U md all S ⟨d,op,ty,pos,M,none⟩=fi X U S ⟨d,op,ty,pos,M,none⟩ (di X.P S ⟨d,op,ty,pos,M,none⟩):=rfl
@[simp] theorem aq3{I:List Nat}{i:Nat}{A:List aX}:rV X md all I i [] S A=some (CK A []):=by rw[FC,aeP];rfl
theorem UK{I:List Nat}{i:Nat}{o:Oper}{r:List Oper}{A:List aX}:rV X md all I i (o::r) S A=if I.contains i=true then (match eE X (λ_ _ _=>none) md all S o with
 |some (S1,p)=>rV X md all I (i+1) r S1 (p::A)
 |none=>none)else rV X md all I (i+1) r (S.put o.dst false .bf) (⟨[],[],false,.bf⟩::A):=by
 simp only[rV];cases I.contains i<;>rfl
end
attribute [simp] UK fi.eq_1 fi.eq_2 fi.eq_3 Qk.eq_1 Qj.eq_1 Qj.eq_2 fS.eq_1 fS.eq_2 fQ.eq_1 fQ.eq_2 jR.eq_1 jR.eq_2 St.kill.eq_1 Fl.eq_1 Fl.eq_2 zL.eq_1 zL.eq_2
attribute [simp] ae4 acJ Xx UC
section
variable {N J α:Type} {X:Ctx} {md:Bool} {O:Nat×List (List Nat)} {S:St} {d:Option Nat} {all q:List Oper} {A:List aX} {k:Kt} {r:PR N J α} {f:α->J->Option eZ} {g:N->J->Option eZ}
@[simp] theorem anc:ph X md O S d all q A k (r.el f g)=r.el (λa s=>ph X md O S d all q A k (f a s)) (λe s=>ph X md O S d all q A k (g e s)):=by cases r<;>rfl
@[simp] theorem auw:tM S (r.el f g)=r.el (λa s=>tM S (f a s)) (λe s=>tM S (g e s)):=by cases r<;>rfl
@[simp] theorem auy{p:ax}{T:Nat}{rs:List ResultVar}{f:α->J->Option St}{g:N->J->Option St}:Cx X p T rs (r.el f g)=r.el (λa s=>Cx X p T rs (f a s)) (λe s=>Cx X p T rs (g e s)):=by cases r<;>rfl
end
attribute [simp] Uw QQ Ux QR QS Lt QT Uy Uz QU
attribute [simp] Ej.eq_1 FG.eq_1 Jr.eq_1 HD.eq_1 HD.eq_2 Bc.eq_1 Bc.eq_2 Cx.eq_1 Cx.eq_2 tM.eq_1 Cw.eq_1 Cw.eq_2 Cw.eq_3 sA.eq_1 UB Ek.eq_1 Ek.eq_2
section
variable {X:Ctx} {f:FuncId} {S:St} {E:List DF} {H:Aq} {b:Code}
@[simp] theorem auz:Ej X f b H .ret S E=H .ret S E:=rfl
@[simp] theorem auA{t:TypeId}{x:D}:Ej X f b H (.panic t x) S E=H (.panic t x) S E:=rfl
@[simp] theorem auB{i:Nat}:Ej X f b H (.exit i) S E=H (.exit i) S E:=rfl
@[simp] theorem ane{id:Nat}{t:TypeId}{x:D}:FG X f id H (.panic t x) S E=H (.panic t x) S E:=rfl
@[simp] theorem aq4{md:Bool}{all r:List Oper}{t:TypeId}{x:D}:Jr X md all r E H (.panic t x) S=H (.panic t x) S E:=rfl
end
@[simp] theorem adz:lF none=[]:=rfl
@[simp] theorem adA(k v:Nat):lF (some ⟨k,v,.dead⟩)=[]:=rfl
@[simp] theorem afd(k v:Nat)(cs:List AV):lF (some ⟨k,v,.box cs⟩)=kL cs:=rfl
@[simp] theorem afe(k v sz:Nat)(ai:List D):lF (some ⟨k,v,.vec sz ai⟩)=[]:=rfl
@[simp] theorem aff(k v:Nat)(ai:List (List D)):lF (some ⟨k,v,.vv ai none⟩)=[]:=rfl
@[simp] theorem ai2(k v:Nat)(ai:List (List D))(x:AV):lF (some ⟨k,v,.vv ai (some x)⟩)=iM x:=rfl
@[simp] theorem auC(m ρ bor nv ai y):vj m ρ bor nv (.vv ai y)=.vv ai (y.map (vw m ρ bor nv)):=rfl
@[simp] theorem anf(ai y):lP (.vv ai y)=(ai.all jH&&(match y with|none=>true|some x=>dI x)):=rfl
@[simp] theorem axg(ρ H ai y):DB ρ H (.vv ai y)=.vv ai (y.map (up ρ H)):=rfl
@[simp] theorem auD(I ai y):p8 I (.vv ai y)=.vv ai (y.map I):=rfl
@[simp] theorem aq5{E:Nat}{b:Bool}{c:Prop}[Decidable c]{x y:Option (Out×List (Nat×ay))}:qg E b (if c then x else y)=if c then qg E b x else qg E b y:=by split<;>rfl
@[simp] theorem adB(P t A len ps):gB P t A len ps none=none:=by
 unfold gB;split<;>simp_all
@[simp] theorem ake(P t A len n x o):gB P t A len [(n,.d x)] o=none:=by
 unfold gB;split<;>simp_all
@[simp] theorem afg(P t A len n x o):gB P t A len [(n,.agg x)] o=none:=by
 unfold gB;split<;>simp_all
@[simp] theorem afh(P t A len o):gB P t A len [] o=none:=by
 unfold gB;split<;>simp_all
@[simp] theorem afi(P t A len p q r o):gB P t A len (p::q::r) o=none:=by
 unfold gB;split<;>simp_all
@[simp] theorem afj(P t A len k v c):gB P t A len [(0,.lit (.slice none 0 0))] (some ⟨k,v,c⟩)=(match tk P t with
 | .slice e=>match fm P e,mo P e with
  |some sz,some _=>some (.dg (sz=1/\len=1) (.vec A (v+1) 0 1) ⟨A,v+1,.box [.lit (.slice none 0 0)]⟩)
  |_,_=>none
 |_=>none):=rfl
attribute [simp] qC.eq_1
attribute [simp] Di.eq_1 xf.eq_1
attribute [simp] Gh.go St.tE.eq_1 St.cls.eq_1 St.shut.eq_1 St.tF.eq_1
end Go.Am
end
section
namespace Go.Am
open Go
open Go.Proofs
set_option maxRecDepth 10000
@[simp] def ZZ:Nat->List Nat
 |0=>[1,2,3]
 |1=>[1,2,3,8]
 |2=>[6]
 |3=>[1,2,3,20]
 |4=>[6]
 |5=>[6]
 |_=>[]
@[simp] def od9:Nat->List (List Nat)
 |5=>[[1,2,4,6,7],[0,2,4,6,7],[0,1,4,6,7],[4,6,7],[0,1,2,3,6,7],[6,7],[0,1,2,3,4,5,7],[0,1,2,3,4,5,6],[],[],[]]
 |_=>[]
@[simp] def fp9:ax:=⟨[],false,[250],[],false⟩
@[simp] def UL:Nat->List Nat
 |0=>[1]
 |1=>[1,3]
 |2=>[2]
 |_=>[]
@[simp] def XB:ax:=⟨[],false,[150],[],false⟩
@[simp] def UM:Nat->List Nat
 |0=>[1]
 |1=>[1,14]
 |2=>[2]
 |3=>[1,3]
 |4=>[1,3,19]
 |5=>[1,3]
 |6=>[1,3,4]
 |7=>[1,3,4,40]
 |8=>[2]
 |9=>[1,3,4,54]
 |10=>[2]
 |11=>[1,3,4,93]
 |12=>[2]
 |13=>[1,3,125]
 |14=>[2]
 |15=>[2]
 |_=>[]
@[simp] def afl:Nat->Bool
 |9=>true
 |11=>true
 |13=>true
 |_=>false
@[simp] def XF:ax:=⟨[],false,[150,300],[],false⟩
@[simp] def UN:Nat->List Nat
 |0=>[1,2]
 |1=>[1,2,3]
 |2=>[1,2,3,4]
 |3=>[1,2,3,4,11]
 |4=>[1,2,3,4]
 |5=>[1,2,3,4,6]
 |6=>[1,2,3,4,28]
 |7=>[2]
 |8=>[1,2,3,4]
 |9=>[1,2,3,4,45]
 |10=>[2]
 |11=>[2]
 |_=>[]
@[simp] def afm:Nat->List (List Nat)
 |5=>[[2,4,5,6,7,8,9,14],[2,4,5,6,7,8,9,14],[0,1,4,5,6,7,8,9,14],[4,5,6,7,8,9,14],[0,1,2,3,6,14],[0,1,2,3,6,14],[0,1,2,3,4,5,14],[0,1,2,3,14],[0,1,2,3,14],[0,1,2,3,14],[14],[14],[13,14],[12,14,15],[0,1,2,3,4,5,6,7,8,9,10,11,12,13],[13],[]]
 |_=>[]
@[simp] def XG:ax:=⟨[],false,[150,200,350],[],false⟩
@[simp] def UO:Nat->List Nat
 |0=>[2,3]
 |1=>[4]
 |_=>[]
@[simp] def XH:ax:=⟨[],false,[200,250],[],false⟩
@[simp] def UP:Nat->List Nat
 |0=>[1,2,3,6]
 |1=>[1,2,3,6,7]
 |2=>[1,2,3,6,7,8]
 |3=>[3,6,8,33]
 |4=>[6]
 |5=>[3,6,8,40,41,42]
 |6=>[3,6,8,40,41,42,43]
 |7=>[3,6,8,10,40,41,42]
 |8=>[3,6,8,40,41,42]
 |9=>[3,6,8,40,41,42]
 |10=>[3,6,8]
 |11=>[6,8]
 |12=>[6]
 |_=>[]
@[simp] def afn:Nat->List (List Nat)
 |2=>[[1,2,3,4,5,8],[0,3,4,5,8],[0,3,4,5,8],[0,1,2,5,8],[0,1,2,5,8],[0,1,2,3,4,8],[8],[8],[0,1,2,3,4,5,6,7],[]]
 |8=>[[1,2,3,4,5,6,7,8,9],[0,5,6,7,8],[0,5,6,7,8],[0,5,6,7,8],[0,5,6,7,8],[0,1,2,3,4],[0,1,2,3,4],[0,1,2,3,4],[0,1,2,3,4],[0],[],[],[]]
 |12=>[[4,5,6,7],[4,5,6,7],[4,5,6,7],[4,5,6,7],[0,1,2,3],[0,1,2,3],[0,1,2,3],[0,1,2,3],[],[]]
 |_=>[]
@[simp] def afo:Nat->List Gh
 |2=>[.jS 1100 4 1101 1]
 |_=>[]
@[simp] def Jy:ax:=⟨[],false,[250,400,450,500,600,951,1100,1101],[],false⟩
@[simp] def UQ:Nat->List Nat
 |0=>[]
 |1=>[1]
 |2=>[4]
 |3=>[0]
 |_=>[]
@[simp] def afp:Nat->Bool
 |3=>true
 |_=>false
@[simp] def XI:ax:=⟨[],false,[150,250,300],[],false⟩
@[simp] def UR:Nat->List Nat
 |0=>[1]
 |1=>[2]
 |_=>[]
@[simp] def afq:Nat->Bool
 |1=>true
 |_=>false
@[simp] def XJ:ax:=⟨[],false,[150],[],false⟩
@[simp] def US:Nat->List Nat
 |0=>[1,2]
 |1=>[1,2]
 |2=>[2]
 |_=>[]
@[simp] def XK:ax:=⟨[],false,[150,200],[],false⟩
@[simp] def UT:Nat->List Nat
 |0=>[1,2]
 |1=>[2,6,7]
 |2=>[4,5]
 |_=>[]
@[simp] def XL:ax:=⟨[],false,[200],[],false⟩
@[simp] def UU:Nat->List Nat
 |0=>[0]
 |1=>[0,17]
 |2=>[2]
 |3=>[0,3]
 |4=>[0,3,21]
 |5=>[0,3]
 |6=>[0,3,4]
 |7=>[0,3,4,5]
 |8=>[0,3,58]
 |9=>[2]
 |10=>[2]
 |_=>[]
@[simp] def afr:Nat->Bool
 |1=>true
 |7=>true
 |8=>true
 |_=>false
@[simp] def XM:ax:=⟨[],false,[],[],false⟩
@[simp] def UW:Nat->List Nat
 |0=>[0]
 |1=>[0,3]
 |2=>[0,3,4]
 |3=>[0,3,4,9]
 |4=>[0,3,4]
 |5=>[0,3,4,18]
 |6=>[2]
 |7=>[2]
 |_=>[]
@[simp] def XN:ax:=⟨[],false,[],[],false⟩
@[simp] def UX:Nat->List Nat
 |0=>[0]
 |1=>[0,3]
 |2=>[0,3,20]
 |3=>[0,3]
 |4=>[0,3,4]
 |5=>[0,3,4,5,6,7]
 |6=>[0,3,4,6,7,59]
 |7=>[2]
 |8=>[0,3,4,7,89]
 |9=>[2]
 |10=>[0,3,4,118]
 |11=>[2]
 |12=>[0,3,4,8,9,10,11,12]
 |13=>[0,3,4,8,9,10,11,12,120]
 |14=>[0,3,4,8,9,10,11,12,120,121]
 |15=>[0,3,4,8,9,10,11,12]
 |16=>[0,3,4,8,9,10,11,12,120,131]
 |17=>[0,3,4,8,9,10,11,12]
 |18=>[0,3,4,8,9,10,11,12,120,139]
 |19=>[0,3,4,8,9,10,11,12]
 |20=>[0,3,4,8,9,10,11,12,120,141]
 |21=>[0,3,4,8,9,10,11,12,120,141]
 |22=>[0,3,4,8,9,10,11,12]
 |23=>[0,3,4,8,9,10,11,12,144]
 |24=>[0,3,4,8,9,10,11,12]
 |25=>[0,3,4,186]
 |26=>[2]
 |27=>[0,3,4,13]
 |28=>[0,3,4,13,191]
 |29=>[0,3,4,13]
 |30=>[0,3,4,13,200]
 |31=>[2]
 |32=>[0,3,4,14]
 |33=>[0,3,4,14,205]
 |34=>[0,3,4,14]
 |35=>[0,3,4,14,224]
 |36=>[2]
 |37=>[0,3,4,14,15]
 |38=>[0,3,4,14,15,232]
 |39=>[0,3,4,14,15]
 |40=>[0,3,4,14,15,243]
 |41=>[2]
 |42=>[0,3,4,16]
 |43=>[0,3,4,16,248]
 |44=>[0,3,4,16]
 |45=>[0,3,4,16,257]
 |46=>[2]
 |47=>[2]
 |_=>[]
@[simp] def afs:Nat->Bool
 |6=>true
 |8=>true
 |10=>true
 |35=>true
 |_=>false
@[simp] def aft:Nat->List (List Nat)
 |15=>[[4,5,6,7],[4,5,6,7],[4,5,6,7],[4,5,6,7],[0,1,2,3,8],[0,1,2,3,8],[0,1,2,3,8],[0,1,2,3,8],[4,5,6,7],[],[]]
 |17=>[[3,4,5],[3,4,5],[3,4,5],[0,1,2,6],[0,1,2,6],[0,1,2,6],[3,4,5],[],[]]
 |24=>[[3,4,5],[3,4,5],[3,4,5],[0,1,2,6],[0,1,2,6],[0,1,2,6],[3,4,5],[]]
 |_=>[]
@[simp] def XO:ax:=⟨[],false,[300],[],false⟩
@[simp] def UY:Nat->List Nat
 |0=>[0,1,4]
 |1=>[0,1,4,6]
 |2=>[0,1,4,6,10]
 |3=>[0,1,4,6]
 |4=>[0,1,4,6,19]
 |5=>[4,5]
 |6=>[4,5]
 |_=>[]
@[simp] def XP:ax:=⟨[],false,[300],[],false⟩
@[simp] def UZ:Nat->List Nat
 |0=>[1]
 |1=>[1,4]
 |2=>[2]
 |3=>[1,13]
 |4=>[2]
 |5=>[2]
 |_=>[]
@[simp] def XQ:ax:=⟨[],false,[150],[],false⟩
@[simp] def U0:Nat->List Nat
 |0=>[0,1,2,6]
 |1=>[0,1,2,6,7]
 |2=>[0,1,2,6,7,12]
 |3=>[0,1,2,6,7]
 |4=>[0,1,2,6,7,8]
 |5=>[0,1,2,6,7,8,24]
 |6=>[6]
 |7=>[6]
 |_=>[]
@[simp] def XR:ax:=⟨[],false,[400,500],[],false⟩
@[simp] def U1:Nat->List Nat
 |0=>[1,2]
 |1=>[1,2,3]
 |2=>[2,3,8,9,10]
 |3=>[2,3,8,9,10,11]
 |4=>[2,3,5,8,9,10]
 |5=>[2,3,5,8,9,10]
 |6=>[2,3,5,6,8,9,10]
 |7=>[2,3,5,6,8,9,10]
 |8=>[2,3,5,8,9,10]
 |9=>[2,3,5,8,9,10,40]
 |10=>[2,3,8,9,10]
 |11=>[2,3,8,9,10]
 |12=>[2]
 |_=>[]
@[simp] def afu:Nat->List Gh
 |1=>[.jS 250 0 251 1,.jS 250 2 252 1]
 |_=>[]
@[simp] def XS:ax:=⟨[],false,[150,200,250,251,252,350],[],false⟩
@[simp] def U2:Nat->List Nat
 |0=>[0,1]
 |1=>[0,1,10]
 |2=>[4]
 |3=>[0,1,5]
 |4=>[0,1,5,14]
 |5=>[0,1,5]
 |6=>[0,1,5,25]
 |7=>[4]
 |8=>[4]
 |_=>[]
@[simp] def afv:Nat->List (List Nat)
 |6=>[[1,4,5,6,7],[0,4,5,6,7],[4,5,6,7],[4,5,6,7],[0,1,2,3,5],[0,1,2,3,4],[0,1,2,3],[0,1,2,3],[]]
 |_=>[]
@[simp] def XT:ax:=⟨[],false,[],[],false⟩
@[simp] def U3:Nat->List Nat
 |0=>[0]
 |1=>[0,4]
 |2=>[2]
 |3=>[2]
 |_=>[]
@[simp] def Jz:ax:=⟨[],true,[200,350],[],true⟩
@[simp] def U4:Nat->List Nat
 |0=>[0]
 |1=>[0,14]
 |2=>[2]
 |3=>[0,3]
 |4=>[0,3,4]
 |5=>[0,3,4,19]
 |6=>[0,3,4]
 |7=>[0,3,4,28]
 |8=>[3,4,5]
 |9=>[3,4,5,6]
 |10=>[3,4,5,6,36]
 |11=>[3,4,5,6]
 |12=>[3,4,5,6,7]
 |13=>[3,4,5,6,7,8]
 |14=>[3,4,5,6,7,8,52]
 |15=>[3,4,5,6,7,8]
 |16=>[3,4,5,6,7,8,55]
 |17=>[3,4,5,6,7,8]
 |18=>[3,4,5,6,8]
 |19=>[3,4,5,6]
 |20=>[2]
 |21=>[2]
 |_=>[]
@[simp] def XU:ax:=⟨[],false,[350,500],[],false⟩
@[simp] def U5:Nat->List Nat
 |0=>[0]
 |1=>[3,4]
 |2=>[3,12]
 |3=>[2]
 |4=>[3,5]
 |5=>[5,21,22]
 |6=>[5,21,22,23]
 |7=>[5,21,22]
 |8=>[5,21,22]
 |9=>[2]
 |_=>[]
@[simp] def afw:Nat->List (List Nat)
 |4=>[[3,4],[3,4],[3,4],[0,1,2],[0,1,2],[],[],[]]
 |_=>[]
@[simp] def XV:ax:=⟨[],false,[250,851],[],false⟩
@[simp] def U6:Nat->List Nat
 |0=>[0,1,2]
 |1=>[0,1,2,7]
 |2=>[0,1,2,3,4]
 |3=>[0,1,2,3,14]
 |4=>[0,1,3]
 |5=>[]
 |_=>[]
@[simp] def afx:Nat->List (List Nat)
 |5=>[[4,5,6,7,8,9],[4,5,6,7,8,9],[4,5,6,7,8,9],[4,5,6,7,8,9],[0,1,2,3,6,7,8,9],[0,1,2,3,6,7,8,9],[0,1,2,3,4,5],[0,1,2,3,4,5],[0,1,2,3,4,5],[0,1,2,3,4,5],[],[]]
 |_=>[]
@[simp] def JA:ax:=⟨[1,2,3,4,5,6],false,[250],[],false⟩
@[simp] def U7:Nat->List Nat
 |0=>[0,1]
 |1=>[0,8,9,10]
 |2=>[0,8,9,10,11]
 |3=>[0,6,8,9,10]
 |4=>[0,7,8,9,10]
 |5=>[0,7,8,9,10,18]
 |6=>[4]
 |7=>[0,8,9,10]
 |8=>[4]
 |_=>[]
@[simp] def XW:ax:=⟨[1,2],false,[400],[],false⟩
@[simp] def U8:Nat->List Nat
 |0=>[0,2,3,4]
 |1=>[2,3,4,5]
 |2=>[2,3,4,5,14]
 |3=>[2,3,4]
 |4=>[2,3,4,5]
 |5=>[2,3,4,6]
 |6=>[2,3,4]
 |_=>[]
@[simp] def afy:Nat->List (List Nat)
 |3=>[[1,2],[0,2,3],[0,1,3,4],[1,2],[2],[]]
 |_=>[]
@[simp] def afz:Nat->List Gh
 |5=>[.jS 1150 3 1151 8]
 |_=>[]
@[simp] def JB:ax:=⟨[],false,[200,250,300,1150,1151],[],false⟩
@[simp] def U9:Nat->List Nat
 |0=>[0]
 |1=>[0,3]
 |2=>[3,9,10,11]
 |3=>[3,9,10,11,12]
 |4=>[3,5,9,10,11]
 |5=>[3,5,9,10,11]
 |6=>[3,5,6,9,10,11]
 |7=>[3,5,6,9,10,11,28,29,30]
 |8=>[3,5,6,9,10,11,28,29,30,31]
 |9=>[3,5,6,8,9,10,11,28,29,30]
 |10=>[3,5,6,9,10,11,28,29,30]
 |11=>[3,5,6,9,10,11,28,29,30]
 |12=>[3,5,9,10,11]
 |13=>[3,9,10,11]
 |14=>[3,9,10,11]
 |15=>[2]
 |_=>[]
@[simp] def afA:Nat->List (List Nat)
 |5=>[[3,4,6,7],[3,4,6,7],[3,4,6,7],[0,1,2,6,7],[0,1,2,6,7],[6,7,9],[0,1,2,3,4,5],[0,1,2,3,4,5],[9],[5,8],[],[],[],[],[]]
 |_=>[]
@[simp] def afB:Nat->List Gh
 |1000002=>[.freeze 400]
 |_=>[]
@[simp] def XX:ax:=⟨[],false,[250,350,400],[],false⟩
@[simp] def Va:Nat->List Nat
 |0=>[0,1]
 |1=>[0,1,6,7]
 |2=>[0,1,6,7,8]
 |3=>[0,1,6,7,8,26]
 |4=>[0,1,6,7,8]
 |5=>[0,1,6,7,8]
 |6=>[0,1,6,7,8,9]
 |7=>[0,1,6,7,8,9,42,43,44]
 |8=>[0,1,6,7,8,9,42,43,44,45]
 |9=>[0,1,6,7,8,9,11,42,43,44]
 |10=>[0,1,6,7,8,9,12,13,42,43,44]
 |11=>[0,1,6,7,8,9,13,42,43,44]
 |12=>[0,1,6,7,8,9,42,43,44]
 |13=>[0,1,6,7,8,9,42,43,44]
 |14=>[0,1,6,7,8,9]
 |15=>[0,1,6,7,8,9,14]
 |16=>[0,1,6,7,8,9,14,88]
 |17=>[0,1,6,7,8,9,14]
 |18=>[0,1,6,7,8,9,14]
 |19=>[0,1,6,7,8,9,15]
 |20=>[0,1,6,7,8,9,15,111]
 |21=>[0,1,6,7,8,9,15]
 |22=>[0,1,6,7,8,9,15,16,17]
 |23=>[0,1,6,7,8,9,15,17]
 |24=>[0,1,6,7,8,9,15]
 |25=>[4,5]
 |_=>[]
@[simp] def XY:ax:=⟨[],false,[550],[],false⟩
@[simp] def Vb:Nat->List Nat
 |0=>[0]
 |1=>[0,5,6,7]
 |2=>[0,5,6,7,8]
 |3=>[0,4,5,6,7]
 |4=>[0,5,6,7,13]
 |5=>[2]
 |6=>[0,5,6,7]
 |7=>[2]
 |_=>[]
@[simp] def XZ:ax:=⟨[],false,[],[],false⟩
@[simp] def Vc:Nat->List Nat
 |0=>[]
 |1=>[0]
 |_=>[]
@[simp] def afC:ax:=⟨[],false,[],[],false⟩
@[simp] def Vd:Nat->List Nat
 |0=>[0]
 |1=>[2,3,4]
 |_=>[]
@[simp] def X0:ax:=⟨[],false,[],[],false⟩
@[simp] def Ve:Nat->List Nat
 |0=>[0]
 |1=>[0,3]
 |2=>[0,3,11]
 |3=>[0,3]
 |4=>[0,3,4]
 |5=>[0,3,4,5,6,7]
 |6=>[0,3,4,5,6,7,18]
 |7=>[0,3,4,5,6,7,18]
 |8=>[0,3,4,5,6,7,18]
 |9=>[0,3,4,5,6,7,18]
 |10=>[0,3,4,5,6,7,18]
 |11=>[2]
 |12=>[0,3,4,5,6,7,54]
 |13=>[0,3,4,5,6,7]
 |14=>[0,3,4,5,6,7,58]
 |15=>[0,3,4,5,6,7]
 |16=>[0,3,4,5,6,7,62]
 |17=>[0,3,4,5,6,7]
 |18=>[0,3,4,5,6,7,66]
 |19=>[0,3,4,5,6,7]
 |20=>[0,3,4,5,6,7,75]
 |21=>[0,3,4,5,6,7]
 |22=>[0,3,125]
 |23=>[2]
 |24=>[2]
 |_=>[]
@[simp] def afD:Nat->Bool
 |7=>true
 |22=>true
 |_=>false
@[simp] def X7:ax:=⟨[],false,[300],[],false⟩
@[simp] def Vf:Nat->List Nat
 |0=>[1]
 |1=>[2]
 |_=>[]
@[simp] def Ya:ax:=⟨[],false,[150],[],false⟩
@[simp] def Vg:Nat->List Nat
 |0=>[0,2,4,6]
 |1=>[0,2,4,6,25]
 |2=>[0,2,4,6,25,26]
 |3=>[0,4,6,7,8]
 |4=>[0,4,6,7,37]
 |5=>[6]
 |6=>[0,4,6,44]
 |7=>[6]
 |8=>[0,4,6,9,10]
 |9=>[0,4,6,9,10,58]
 |10=>[6]
 |11=>[4,6,9,10,11]
 |12=>[4,6,9,10,11,69]
 |13=>[6]
 |14=>[4,6,73]
 |15=>[6]
 |16=>[0,2,4,6,25,77]
 |17=>[0,2,4,6,12]
 |18=>[0,2,4,6,12,83]
 |19=>[0,2,4,6,12]
 |20=>[0,2,4,6,12,90]
 |21=>[0,2,4,6,12,13]
 |22=>[0,2,4,6,12,13,100]
 |23=>[6]
 |24=>[0,2,4,6,12,14]
 |25=>[0,2,4,6,12,14,112]
 |26=>[6]
 |27=>[0,2,4,6,25,114]
 |28=>[0,2,4,6,15]
 |29=>[0,2,4,6,15,122]
 |30=>[6]
 |31=>[0,2,4,6,16]
 |32=>[0,2,4,6,16,128]
 |33=>[0,2,4,6,16]
 |34=>[0,2,4,6,16,17]
 |35=>[0,2,4,6,16,17,141]
 |36=>[6]
 |37=>[0,2,4,6,25,143]
 |38=>[0,4,6,18,19]
 |39=>[0,4,6,18,153]
 |40=>[6]
 |41=>[0,4,6,18,159]
 |42=>[6]
 |43=>[0,4,6,169]
 |44=>[6]
 |45=>[0,4,6,20]
 |46=>[0,4,6,20,177]
 |47=>[0,4,6,20]
 |48=>[0,4,6,20,21]
 |49=>[0,4,6,20,21,189]
 |50=>[6]
 |51=>[6]
 |52=>[0,2,4,6,25,197]
 |53=>[0,4,6,22]
 |54=>[0,4,6,22,205]
 |55=>[6]
 |56=>[6]
 |57=>[0,2,4,6,25,213]
 |58=>[0,4,6,23]
 |59=>[0,4,6,23,223]
 |60=>[6]
 |61=>[6]
 |62=>[0,2,4,6,25,229]
 |63=>[4,6,232]
 |64=>[6]
 |65=>[0,4,6,236]
 |66=>[6]
 |67=>[6]
 |_=>[]
@[simp] def Yb:ax:=⟨[],false,[300,400,450,600,750,800,850,950,1000,1150,1200,1250],[],false⟩
@[simp] def Vh:Nat->List Nat
 |0=>[1]
 |1=>[1,3]
 |2=>[2]
 |3=>[1,12]
 |4=>[2]
 |5=>[2]
 |_=>[]
@[simp] def Yc:ax:=⟨[],false,[150],[],false⟩
@[simp] def Vi:Nat->List Nat
 |0=>[0,1]
 |1=>[0,5]
 |2=>[0,5,13]
 |3=>[4]
 |4=>[0,5,15]
 |5=>[0,5,15,16]
 |6=>[0,5,15,16]
 |7=>[0,5,15,16]
 |8=>[5]
 |9=>[0,5,15,23]
 |10=>[0,5,15,23]
 |11=>[5]
 |12=>[5,15,29]
 |13=>[5]
 |14=>[5]
 |15=>[5,15,51]
 |16=>[5]
 |17=>[5]
 |18=>[5,15,73]
 |19=>[5]
 |20=>[5,94]
 |21=>[5]
 |22=>[4]
 |_=>[]
@[simp] def afE:Nat->Bool
 |13=>true
 |16=>true
 |19=>true
 |21=>true
 |_=>false
@[simp] def Yd:ax:=⟨[],true,[300,451],[],false⟩
@[simp] def Vj:Nat->List Nat
 |0=>[1,2]
 |1=>[1,2,4]
 |2=>[2,4,5]
 |3=>[2,4,5,11]
 |4=>[2,3]
 |5=>[2,3]
 |_=>[]
@[simp] def Ye:ax:=⟨[],false,[150,200],[],false⟩
@[simp] def Vk:Nat->List Nat
 |0=>[0,1]
 |1=>[0,1,5]
 |2=>[1,5,12,13,14]
 |3=>[1,5,12,13,14,15]
 |4=>[1,5,7,12,13,14]
 |5=>[1,5,7,8,12,13,14]
 |6=>[1,5,8,9,10,12,13,14]
 |7=>[1,5,8,9,12,13,14,26]
 |8=>[1,5,8,12,13,14]
 |9=>[1,5,12,13,14]
 |10=>[1,5,12,13,14]
 |11=>[4]
 |_=>[]
@[simp] def afF:ax:=⟨[],true,[300,350,500],[],false⟩
@[simp] def Vm:Nat->List Nat
 |0=>[0,3]
 |1=>[0,3]
 |2=>[0,3,8]
 |3=>[0,3,8,9]
 |4=>[]
 |5=>[0,3,8,14]
 |6=>[4]
 |7=>[0,3,8,19]
 |8=>[4]
 |9=>[0,3,8,24]
 |10=>[4]
 |11=>[0,3,8,30]
 |12=>[0,3,8,30]
 |13=>[4]
 |14=>[0,3,8,37]
 |15=>[4]
 |16=>[0,3,8,39]
 |17=>[4]
 |18=>[0,3,41]
 |19=>[]
 |20=>[4]
 |_=>[]
@[simp] def Yf:ax:=⟨[1,2],false,[250],[],false⟩
@[simp] def Vn:Nat->List Nat
 |0=>[0,4]
 |1=>[0,4,13]
 |2=>[2,3,4]
 |3=>[4,5]
 |4=>[4,5,6]
 |5=>[4,5,6,7]
 |6=>[4,5,6,7,8]
 |7=>[4,5,6,8,29]
 |8=>[2,3,4]
 |9=>[4,5,6,8,33]
 |10=>[2,3,4]
 |11=>[4,5,6,8,9,10]
 |12=>[4,5,6,8,9,10,50]
 |13=>[2,3,4]
 |14=>[4,5,6,9]
 |15=>[4,5,6]
 |_=>[]
@[simp] def afG:Nat->List (List Nat)
 |6=>[[4,5,6,7,9],[4,5,6,7,9],[4,5,6,7,9],[4,5,6,7,9],[0,1,2,3,9],[0,1,2,3,9],[0,1,2,3,9],[0,1,2,3,9],[9],[0,1,2,3,4,5,6,7,8],[]]
 |8=>[[1,2],[0],[0],[]]
 |11=>[[2,7],[2,7],[0,1,7],[7],[7],[6,7],[5,7,8],[0,1,2,3,4,5,6],[6],[]]
 |13=>[[1,2],[0,2,3],[0,1],[1],[]]
 |_=>[]
@[simp] def QY:ax:=⟨[],false,[200,300,400,500,550,950],[],false⟩
@[simp] def Vo:Nat->List Nat
 |0=>[0,1,2,3]
 |1=>[0,1,2,3,8]
 |2=>[0,1,2,3,4,5]
 |3=>[0,1,2,3,4,15]
 |4=>[0,1,2,4]
 |5=>[]
 |_=>[]
@[simp] def afH:Nat->List (List Nat)
 |5=>[[1,2,3,4],[0,3,4,5],[0,3,4,5],[0,1,2,5,6],[0,1,2,5,6],[1,2,3,4],[3,4],[]]
 |_=>[]
@[simp] def JC:ax:=⟨[],false,[300],[],false⟩
@[simp] def Vp:Nat->List Nat
 |0=>[0,2]
 |1=>[0,2]
 |2=>[0,2,3]
 |3=>[0,2,3]
 |4=>[0,2,3]
 |5=>[0,2,3]
 |6=>[0,2,3]
 |7=>[2,3]
 |8=>[2]
 |_=>[]
@[simp] def afI:ax:=⟨[],false,[200,250],[],false⟩
@[simp] def Vq:Nat->List Nat
 |0=>[1,2]
 |1=>[1,2,3]
 |2=>[1,2,3,20,21,22]
 |3=>[1,2,3,20,21,22,23]
 |4=>[1,2,3,5,20,21,22]
 |5=>[1,2,3,20,21,22]
 |6=>[1,2,3,20,21,22]
 |7=>[1,2,3]
 |8=>[1,2,3,36]
 |9=>[2]
 |10=>[1,2,3,8]
 |11=>[1,2,3,44]
 |12=>[2]
 |13=>[1,2,3,9]
 |14=>[1,2,3,9,10]
 |15=>[1,2,9,10,46,47,48]
 |16=>[1,2,9,10,46,47,48,49]
 |17=>[1,2,9,10,12,46,47,48]
 |18=>[1,2,9,10,13,14,15,46,47,48]
 |19=>[1,2,9,10,13,14,46,47,48,59]
 |20=>[2]
 |21=>[1,2,9,10,14,46,47,48]
 |22=>[1,2,9,10,46,47,48]
 |23=>[1,2,9,10,46,47,48]
 |24=>[1,2,9,10,77]
 |25=>[2]
 |26=>[1,2,16,17,18]
 |27=>[1,2,16,17,98]
 |28=>[2]
 |29=>[2]
 |_=>[]
@[simp] def afJ:Nat->Bool
 |27=>true
 |_=>false
@[simp] def Yg:ax:=⟨[],false,[150,200,250,350,550,700],[],false⟩
@[simp] def Mr:Nat->List Nat
 |0=>[0]
 |1=>[0,3]
 |2=>[3,6,7,8]
 |3=>[3,6,7,8,9]
 |4=>[3,5,6,7,8]
 |5=>[3,6,7,8]
 |6=>[3,6,7,8]
 |7=>[2]
 |_=>[]
@[simp] def QZ:ax:=⟨[],false,[250,350],[],false⟩
@[simp] def Mt:Nat->List Nat
 |0=>[0,1]
 |1=>[0,1,6,7]
 |2=>[0,1,6,7,8]
 |3=>[0,1,6,7,8,19]
 |4=>[0,1,6,7,8]
 |5=>[0,1,6,7,8,9,10]
 |6=>[0,1,6,7,8,10]
 |7=>[0,1,6,7,8]
 |8=>[4,5]
 |_=>[]
@[simp] def Q0:ax:=⟨[],false,[],[],false⟩
@[simp] def Mu:Nat->List Nat
 |0=>[0,3,5]
 |1=>[0,3,5,6]
 |2=>[0,3,5,6,21]
 |3=>[0,3,5,6,21,22]
 |4=>[0,3,5,6,21,22]
 |5=>[4,5]
 |6=>[0,3,5,6,21,28]
 |7=>[0,3,5,6,21,28]
 |8=>[0,3,5,6,28]
 |9=>[0,3,5,6,7,8]
 |10=>[0,3,5,6,7,40]
 |11=>[4,5]
 |12=>[0,3,5,6,7,46]
 |13=>[3,5,6,7,49]
 |14=>[4,5]
 |15=>[3,5,9,10]
 |16=>[3,5,9,60]
 |17=>[4,5]
 |18=>[4,5]
 |19=>[0,3,5,6,7,77]
 |20=>[4,5]
 |21=>[0,3,5,7,81]
 |22=>[5,7,11]
 |23=>[5,7,11,90]
 |24=>[4,5]
 |25=>[4,5]
 |26=>[0,3,5,6,12,13]
 |27=>[0,3,5,6,12,13,106]
 |28=>[4,5]
 |29=>[0,3,5,6,12,13,14]
 |30=>[0,3,5,6,12,13,14,112]
 |31=>[3,5,6,12,13,14]
 |32=>[3,5,6,12,13,14,124]
 |33=>[4,5]
 |34=>[3,5,6,12,14,15]
 |35=>[3,5,6,12,14,15,16]
 |36=>[5,6,12,14,15,16,127]
 |37=>[5,6,12,14,15,16,127,128]
 |38=>[5,6,12,14,15,16,127,128]
 |39=>[5,6,12,14,15,16,127,128]
 |40=>[5,6,12,14,15,16,127,128]
 |41=>[5,6,12,14,15,16,127,128]
 |42=>[5,6,12,14,15,16,127,128]
 |43=>[5,6,12,14,15,16]
 |44=>[5,6,12,14,15,16,127,135]
 |45=>[5,6,12,14,15,16,127,135]
 |46=>[5,6,12,14,15,16]
 |47=>[5,6,12,14,15,16,127,139]
 |48=>[5,6,12,14,15,16,127,139]
 |49=>[5,6,12,14,15,16,127,139]
 |50=>[5,6,12,14,15,16,139]
 |51=>[5,6,12,14,15,16]
 |52=>[5,6,16,151]
 |53=>[4,5]
 |54=>[4,5]
 |_=>[]
@[simp] def Z0:Nat->List (List Nat)
 |11=>[[3],[3],[3],[0,1,2],[]]
 |14=>[[1],[0],[]]
 |17=>[[3],[3],[3],[0,1,2],[]]
 |20=>[[1],[0],[]]
 |24=>[[1],[0],[]]
 |28=>[[1],[0],[]]
 |33=>[[1],[0],[]]
 |53=>[[1],[0],[]]
 |_=>[]
@[simp] def Q1:ax:=⟨[],false,[250,350,400,450,550,650,750],[],false⟩
@[simp] def Mv:Nat->List Nat
 |0=>[0,2,4,6]
 |1=>[2,4,6,7,8]
 |2=>[4,6,8,22]
 |3=>[6]
 |4=>[6]
 |_=>[]
@[simp] def Q2:ax:=⟨[],false,[300,400,500],[],false⟩
@[simp] def Mw:Nat->List Nat
 |0=>[0,3,4]
 |1=>[0,3,4,5,6]
 |2=>[0,3,4,5,20]
 |3=>[4]
 |4=>[0,3,4,5,26]
 |5=>[4]
 |6=>[0,3,4,5,7]
 |7=>[0,3,4,5,7,34]
 |8=>[0,3,4,5,7]
 |9=>[0,3,4,5,7,8,9]
 |10=>[0,3,4,5,7,8,54]
 |11=>[4]
 |12=>[0,3,4,5,7,8,10]
 |13=>[0,3,4,5,7,8,10,60]
 |14=>[0,3,4,5,7,8,10]
 |15=>[0,3,4,5,7,8,10,73]
 |16=>[4]
 |17=>[0,3,4,5,7,11]
 |18=>[0,3,4,5,7,11,88]
 |19=>[4]
 |20=>[4]
 |_=>[]
@[simp] def Z1:Nat->List (List Nat)
 |9=>[[2,3,4,5,6,11],[2,3,4,5,6,11],[0,1,4,11],[0,1,4,11],[0,1,2,3,11],[0,1,11],[0,1,11],[11],[11],[10,11],[9,11,12],[0,1,2,3,4,5,6,7,8,9,10],[10],[]]
 |15=>[[2,5,6,7,8,9],[2,5,6,7,8,9],[0,1,5,6,7,8,9],[5,6,7,8,9],[5,6,7,8,9],[0,1,2,3,4,7],[0,1,2,3,4,7],[0,1,2,3,4,5,6],[0,1,2,3,4],[0,1,2,3,4],[]]
 |17=>[[1,2,3,4,5,6,7,9],[0,3,6,7,9],[0,3,6,7,9],[0,1,2,6,7,9],[0,6,7,9],[0,6,7,9],[0,1,2,3,4,5,9],[0,1,2,3,4,5,9],[9],[0,1,2,3,4,5,6,7,8],[]]
 |_=>[]
@[simp] def Q3:ax:=⟨[],false,[250,300,350,500,650],[],false⟩
@[simp] def Mx:Nat->List Nat
 |0=>[0,1,2]
 |1=>[0,1,2,11,12,13]
 |2=>[0,1,2,11,12,13,14]
 |3=>[0,1,2,10,11,12,13]
 |4=>[0,1,2,11,12,13,25]
 |5=>[6,7,8]
 |6=>[0,1,2,11,12,13]
 |7=>[0,1,2,27]
 |8=>[6,7,8]
 |9=>[0,1,2,40]
 |10=>[6,7,8]
 |11=>[0,1,44]
 |12=>[6,7,8]
 |13=>[0,1,57]
 |14=>[6,7,8]
 |15=>[0,1,75]
 |16=>[6,7,8]
 |17=>[6,7,8]
 |_=>[]
@[simp] def Z2:Nat->List (List Nat)
 |12=>[[1,2,3,4,5,6],[0,4,5,6],[0,4,5,6],[0,4,5,6],[0,1,2,3],[0,1,2,3],[0,1,2,3],[],[9,10],[8,10],[8,9],[],[],[]]
 |14=>[[1,2,3,4,5,6],[0,4,5,6],[0,4,5,6],[0,4,5,6],[0,1,2,3],[0,1,2,3],[0,1,2,3],[],[9,10],[8,10],[8,9],[],[],[]]
 |16=>[[1,2,3,4,5,6],[0,4,5,6],[0,4,5,6],[0,4,5,6],[0,1,2,3],[0,1,2,3],[0,1,2,3],[],[9,10],[8,10],[8,9],[],[],[]]
 |_=>[]
@[simp] def Q4:ax:=⟨[],false,[],[],false⟩
@[simp] def My:Nat->List Nat
 |0=>[0,3]
 |1=>[0,3,4]
 |2=>[3,4,6]
 |3=>[3,4,6,7]
 |4=>[3,4,12]
 |5=>[]
 |6=>[3]
 |7=>[]
 |8=>[3,4,6,29]
 |9=>[3,4,34]
 |10=>[]
 |11=>[3,4,42]
 |12=>[3]
 |13=>[]
 |14=>[3,4,55]
 |15=>[3,4,72]
 |16=>[3,4]
 |17=>[3,4,80]
 |18=>[3,4]
 |19=>[3,4]
 |20=>[3]
 |21=>[]
 |_=>[]
@[simp] def Z3:Nat->Bool
 |15=>true
 |_=>false
@[simp] def Z4:Nat->List (List Nat)
 |5=>[[1],[0,2,3],[1],[1],[],[]]
 |7=>[[1,2,3,4,5,6,7,8],[0,4,5,6],[0,4,5,6],[0,4,5,6],[0,1,2,3],[0,1,2,3],[0,1,2,3],[0],[0],[],[]]
 |10=>[[1],[0,2,3],[1],[1],[],[]]
 |13=>[[1,2,3,4,5,6,7,8],[0,4,5,6],[0,4,5,6],[0,4,5,6],[0,1,2,3],[0,1,2,3],[0,1,2,3],[0],[0],[],[]]
 |16=>[[1],[0,2,3],[1],[1],[],[]]
 |18=>[[1,2,3,4,5,6,7,8],[0,4,5,6],[0,4,5,6],[0,4,5,6],[0,1,2,3],[0,1,2,3],[0,1,2,3],[0],[0],[],[]]
 |19=>[[1,2,3],[0],[0],[0],[],[]]
 |21=>[[1,2,3,4,5],[0],[0],[0],[0],[0],[],[]]
 |_=>[]
@[simp] def Q5:ax:=⟨[0],false,[250],[1],false⟩
@[simp] def Mz:Nat->List Nat
 |0=>[0,1,4]
 |1=>[1,4,16]
 |2=>[1,4,20]
 |3=>[1]
 |4=>[1,29]
 |5=>[1]
 |6=>[1]
 |7=>[1,4,48]
 |8=>[1]
 |9=>[1,60]
 |10=>[1]
 |11=>[1]
 |12=>[]
 |_=>[]
@[simp] def Z5:Nat->Bool
 |0=>true
 |4=>true
 |9=>true
 |_=>false
@[simp] def Z6:Nat->List (List Nat)
 |6=>[[1,2,3,4,5,6,7,8],[0,4,5,6],[0,4,5,6],[0,4,5,6],[0,1,2,3],[0,1,2,3],[0,1,2,3],[0],[0],[],[]]
 |_=>[]
@[simp] def Q6:ax:=⟨[0],false,[],[1],false⟩
@[simp] def MA:Nat->List Nat
 |0=>[0]
 |1=>[3]
 |2=>[2]
 |3=>[2]
 |_=>[]
@[simp] def Q7:ax:=⟨[],false,[],[],false⟩
@[simp] def MB:Nat->List Nat
 |0=>[]
 |1=>[0]
 |_=>[]
@[simp] def Z7:ax:=⟨[],false,[],[],false⟩
@[simp] def MD:Nat->List Nat
 |0=>[0,1]
 |1=>[0,1,7,8]
 |2=>[0,1,7,8,9]
 |3=>[0,1,5,7,8]
 |4=>[0,1,5,7,8,16]
 |5=>[4]
 |6=>[0,1,7,8]
 |7=>[4]
 |_=>[]
@[simp] def Q8:ax:=⟨[],false,[],[],false⟩
@[simp] def ME:Nat->List Nat
 |0=>[1,2]
 |1=>[3]
 |_=>[]
@[simp] def Q9:ax:=⟨[],false,[200],[],false⟩
@[simp] def MF:Nat->List Nat
 |0=>[0]
 |1=>[0,3]
 |2=>[0,3,4]
 |3=>[0,3,4,5]
 |4=>[0,3,4,5,6]
 |5=>[0,3,4,5,6,16]
 |6=>[0,3,4,5,6]
 |7=>[0,3,4,5,6,7]
 |8=>[0,3,4,5,6,7]
 |9=>[0,3,4,5,6,8]
 |10=>[0,3,5,6,8]
 |11=>[0,3,4,5,6]
 |12=>[0,3,37]
 |13=>[2]
 |14=>[0,9]
 |15=>[0,9,10]
 |16=>[0,9,10]
 |17=>[0,9,10,12]
 |18=>[0,9,10,12,53]
 |19=>[0,9,10,12]
 |20=>[0,9,10,11,12]
 |21=>[0,9,10,11,12,60]
 |22=>[0,9,10,11,12,66]
 |23=>[0,9,10,11,12]
 |24=>[0,9,10,12]
 |25=>[0,9,10,12]
 |26=>[0,9,10,12]
 |27=>[0,9,10,12,91]
 |28=>[0,9,10,12]
 |29=>[0,9,10,11,12]
 |30=>[0,9,10,11,98]
 |31=>[9]
 |32=>[2]
 |_=>[]
@[simp] def Z8:Nat->Bool
 |18=>true
 |27=>true
 |_=>false
@[simp] def Z9:ax:=⟨[],false,[2150],[],false⟩
@[simp] def MG:Nat->List Nat
 |0=>[0,1]
 |1=>[4,5]
 |_=>[]
@[simp] def aaa:ax:=⟨[],false,[],[],false⟩
@[simp] def MH:Nat->List Nat
 |0=>[0,6]
 |1=>[0]
 |2=>[]
 |_=>[]
@[simp] def Ra:ax:=⟨[1,2],false,[],[],false⟩
@[simp] def MI:Nat->List Nat
 |0=>[0,3]
 |1=>[0,3,4,5]
 |2=>[0,3,4,5,19]
 |3=>[]
 |4=>[0,3,4,5,6]
 |5=>[0,4,5,6,7]
 |6=>[]
 |_=>[]
@[simp] def aab:Nat->List (List Nat)
 |3=>[[4,5,6,7,8],[4,5,6,7,8],[4,5,6,7,8],[4,5,6,7,8],[0,1,2,3,5,6,7,8],[0,1,2,3,4,6,7],[0,1,2,3,4,5],[0,1,2,3,4,5],[0,1,2,3,4],[],[]]
 |6=>[[4,5,6,7,8],[4,5,6,7,8],[4,5,6,7,8],[4,5,6,7,8],[0,1,2,3,5,6,8],[0,1,2,3,4,6,8],[0,1,2,3,4,5,8],[0,1,2,3,8],[0,1,2,3,4,5,6,7],[],[]]
 |_=>[]
@[simp] def Rb:ax:=⟨[1,2],false,[250,350],[],false⟩
@[simp] def MJ:Nat->List Nat
 |0=>[0,3]
 |1=>[0,3,8,9,10]
 |2=>[0,3,8,9,10,11]
 |3=>[0,3,5,6,8,9,10]
 |4=>[0,3,5,8,9,10,18]
 |5=>[4]
 |6=>[0,3,8,9,10]
 |7=>[4]
 |_=>[]
@[simp] def Rc:ax:=⟨[1,2],false,[250,400],[],false⟩
@[simp] def ML:Nat->List Nat
 |0=>[0,3]
 |1=>[0,3,5]
 |2=>[0,3,5,14,15,16]
 |3=>[0,3,5,14,15,16,17]
 |4=>[0,3,5,6,7,14,15,16]
 |5=>[0,3,5,6,7,8,14,15,16]
 |6=>[0,3,5,6,7,8,14,15,16,25]
 |7=>[0,3,5,6,7,8,14,15,16]
 |8=>[0,3,5,6,7,8,14,15,16,42]
 |9=>[4]
 |10=>[0,3,5,14,15,16]
 |11=>[4]
 |_=>[]
@[simp] def aac:Nat->Bool
 |8=>true
 |_=>false
@[simp] def Rd:ax:=⟨[1,2],false,[250],[],false⟩
@[simp] def MM:Nat->List Nat
 |0=>[0]
 |1=>[0,4]
 |2=>[2]
 |3=>[2]
 |_=>[]
@[simp] def Re:ax:=⟨[],false,[],[],false⟩
@[simp] def MN:Nat->List Nat
 |0=>[0,3]
 |1=>[0,3,5]
 |2=>[0,3,5,7]
 |3=>[0,3,5,7,8]
 |4=>[0,3,5,7,8,9]
 |5=>[0,3,5,8,9]
 |6=>[0,3,5,8,9]
 |7=>[0,3,5,8,9,75]
 |8=>[4]
 |9=>[0,3,5,8,9,10]
 |10=>[0,3,5,8,9,10,83]
 |11=>[4]
 |12=>[0,3,5,8,9,11,13]
 |13=>[0,3,5,8,9,11,13,100]
 |14=>[0,3,5,8,9,11]
 |15=>[0,3,5,8,9]
 |_=>[]
@[simp] def aad:Nat->Bool
 |7=>true
 |_=>false
@[simp] def Rf:ax:=⟨[1,2],false,[250,400],[],false⟩
@[simp] def MO:Nat->List Nat
 |0=>[0,3]
 |1=>[0,3,8]
 |2=>[0,3]
 |3=>[0,3,15]
 |4=>[4]
 |5=>[0,3,5]
 |6=>[0,3,5,23]
 |7=>[4]
 |8=>[0,3,27]
 |9=>[0,3]
 |10=>[0,3,34]
 |11=>[4]
 |_=>[]
@[simp] def Rg:ax:=⟨[1,2],false,[250],[],false⟩
@[simp] def MP:Nat->List Nat
 |0=>[0,3]
 |1=>[0,3,4,5]
 |2=>[0,3,4,5,19,20,21]
 |3=>[0,3,4,5,19,20,21,22]
 |4=>[0,3,4,5,6,7,19,20,21]
 |5=>[0,3,4,5,6,8,19,20,21]
 |6=>[0,3,4,5,19,20,21]
 |7=>[0,3,4,5,19,20,21]
 |8=>[0,4,5,10]
 |9=>[]
 |_=>[]
@[simp] def aae:Nat->List (List Nat)
 |6=>[[4,5,6,7,8,9,10,11],[4,5,6,7,8,9,10,11],[4,5,6,7,8,9,10,11],[4,5,6,7,8,9,10,11],[0,1,2,3,5,6,7,8,9,10,11],[0,1,2,3,4,6,7,8,9,10],[0,1,2,3,4,5,8],[0,1,2,3,4,5,8],[0,1,2,3,4,5,6,7],[0,1,2,3,4,5],[0,1,2,3,4,5],[0,1,2,3,4],[],[]]
 |9=>[[4,6,7,8,9,10,11,12,13,14,15,16,17],[4,6,7,8,9,10,11,12,13,14,15,16,17],[4,6,7,8,9,10,11,12,13,14,15,16,17],[4,6,7,8,9,10,11,12,13,14,15,16,17],[0,1,2,3,6,7,8,9,10,11,12,13,14,15,16,17],[6,7,8,9,10,11,12,13,14,15,16,17],[0,1,2,3,4,5,8,9,10,11,12,13,14,15,16],[0,1,2,3,4,5,8,9,10,11,12,13,14,15,16],[0,1,2,3,4,5,6,7,12,13,14,15],[0,1,2,3,4,5,6,7,12,13,14,15],[0,1,2,3,4,5,6,7,12,13,14,15],[0,1,2,3,4,5,6,7,12,13,14,15],[0,1,2,3,4,5,6,7,8,9,10,11,13,14,15],[0,1,2,3,4,5,6,7,8,9,10,11,12,14],[0,1,2,3,4,5,6,7,8,9,10,11,12,13],[0,1,2,3,4,5,6,7,8,9,10,11,12],[0,1,2,3,4,5,6,7],[0,1,2,3,4,5],[]]
 |_=>[]
@[simp] def Rh:ax:=⟨[1,2],false,[250,350,550,3551],[],false⟩
@[simp] def MQ:Nat->List Nat
 |0=>[0]
 |1=>[0,3]
 |2=>[2]
 |3=>[0,3,8]
 |4=>[2]
 |5=>[0,3,11]
 |6=>[0]
 |7=>[0,3,27]
 |8=>[0,3,4]
 |9=>[0,3,4,33]
 |10=>[0,4]
 |11=>[0]
 |12=>[0,3,39]
 |13=>[0,5]
 |14=>[0,5,46]
 |15=>[2]
 |16=>[0]
 |_=>[]
@[simp] def aaf:Nat->Bool
 |5=>true
 |_=>false
@[simp] def Ri:ax:=⟨[],false,[],[],false⟩
@[simp] def MR:Nat->List Nat
 |0=>[0]
 |1=>[2]
 |_=>[]
@[simp] def aag:Nat->List (List Nat)
 |1=>[[4,5,6,7],[4,5,6,7],[4,5,6,7],[4,5,6,7],[0,1,2,3],[0,1,2,3],[0,1,2,3],[0,1,2,3],[],[]]
 |_=>[]
@[simp] def Rj:ax:=⟨[],false,[],[],false⟩
@[simp] def MS:Nat->List Nat
 |0=>[0,3,4]
 |1=>[0,3,4]
 |2=>[0,3,4,6]
 |3=>[0,3,4,6,13]
 |4=>[4,5]
 |5=>[0,3,4,6]
 |6=>[0,3,4,16]
 |7=>[0,3,4,6]
 |8=>[0,3,4,6]
 |9=>[0,3,4,6,26]
 |10=>[0,3,4,6]
 |11=>[0,3,4,6,29]
 |12=>[4,5]
 |13=>[0,3,4,31]
 |14=>[0,3,4,7,8,9]
 |15=>[0,3,4,7,8,9,42]
 |16=>[4,5]
 |17=>[0,3,4,6,8]
 |18=>[0,3,4,6]
 |19=>[3,4]
 |20=>[4,5]
 |_=>[]
@[simp] def Rk:ax:=⟨[],false,[250,300],[],false⟩
@[simp] def MT:Nat->List Nat
 |0=>[0,4,5]
 |1=>[0,4,5,6]
 |2=>[0,4,5]
 |3=>[0,4,5,23]
 |4=>[0,4,5]
 |5=>[0,4,5]
 |6=>[0,4,5]
 |7=>[0,4,5]
 |_=>[]
@[simp] def aah:Nat->List (List Nat)
 |3=>[[4,5,6,7],[4,5,6,7],[4,5,6,7],[4,5,6,7],[0,1,2,3],[0,1,2,3],[0,1,2,3],[0,1,2,3],[],[]]
 |_=>[]
@[simp] def Rn:ax:=⟨[],false,[],[],false⟩
@[simp] def MU:Nat->List Nat
 |0=>[0,7]
 |1=>[]
 |_=>[]
@[simp] def aai:ax:=⟨[1],false,[],[],false⟩
@[simp] def MV:Nat->List Nat
 |0=>[0,1,4]
 |1=>[0,4,9]
 |2=>[0,4]
 |3=>[4]
 |_=>[]
@[simp] def aaj:ax:=⟨[1],false,[300],[],false⟩
@[simp] def MW:Nat->List Nat
 |0=>[0,2]
 |1=>[0,2,3]
 |2=>[0,6]
 |3=>[0,2]
 |4=>[0,9]
 |5=>[0,2]
 |6=>[0,2,14]
 |7=>[0,2]
 |_=>[]
@[simp] def aak:ax:=⟨[],false,[],[],false⟩
@[simp] def MX:Nat->List Nat
 |0=>[0,1]
 |1=>[0,1,5]
 |2=>[0,1,5,10]
 |3=>[0,1,5]
 |4=>[4]
 |_=>[]
@[simp] def aal:ax:=⟨[1],false,[350],[],false⟩
@[simp] def MY:Nat->List Nat
 |0=>[1]
 |1=>[1,5]
 |2=>[2,3,4]
 |3=>[1,11]
 |4=>[2,3,4]
 |5=>[1,17]
 |6=>[2,3,4]
 |7=>[2,3,4]
 |_=>[]
@[simp] def aam:Nat->Bool
 |5=>true
 |_=>false
@[simp] def Ro:ax:=⟨[],false,[150],[],false⟩
@[simp] def MZ:Nat->List Nat
 |0=>[0]
 |1=>[3]
 |2=>[2]
 |3=>[2]
 |_=>[]
@[simp] def Rp:ax:=⟨[],false,[],[],false⟩
@[simp] def M0:Nat->List Nat
 |0=>[0,1,2,6]
 |1=>[0,2,6,7]
 |2=>[6]
 |3=>[0,2,6,12]
 |4=>[6]
 |5=>[6]
 |_=>[]
@[simp] def Rq:ax:=⟨[],false,[400],[],false⟩
@[simp] def M1:Nat->List Nat
 |0=>[0,1,4]
 |1=>[1,4,6]
 |2=>[1,4,6,7]
 |3=>[1,4,6,7,13]
 |4=>[1,4,6,7]
 |5=>[1,4,6,7,26]
 |6=>[4,5]
 |7=>[4,5]
 |_=>[]
@[simp] def aan:Nat->Bool
 |5=>true
 |_=>false
@[simp] def Rs:ax:=⟨[],false,[300],[],false⟩
@[simp] def M3:Nat->List Nat
 |0=>[0,3,4]
 |1=>[3,4,5,6]
 |2=>[3,4,6,19]
 |3=>[4]
 |4=>[4]
 |_=>[]
@[simp] def Rt:ax:=⟨[],false,[250,300,400],[],false⟩
@[simp] def M4:Nat->List Nat
 |0=>[0,1,2]
 |1=>[0,1,2,11]
 |2=>[9,10]
 |3=>[9,24]
 |4=>[6,7,8]
 |5=>[6,7,8]
 |6=>[1,26]
 |7=>[6,7,8]
 |8=>[6,7,8]
 |_=>[]
@[simp] def Rv:ax:=⟨[],false,[],[],false⟩
@[simp] def M5:Nat->List Nat
 |0=>[0,1,2]
 |1=>[1,2,9]
 |2=>[1,2,9,10]
 |3=>[6,7,8]
 |4=>[1,2,9,16]
 |5=>[1,2,9,16]
 |6=>[6,7,8]
 |7=>[1,2,9,23]
 |8=>[6,7,8]
 |9=>[1,2,28]
 |10=>[6,7,8]
 |11=>[6,7,8]
 |_=>[]
@[simp] def Rx:ax:=⟨[],false,[],[],false⟩
@[simp] def M6:Nat->List Nat
 |0=>[0,1,2]
 |1=>[0,1,2,9]
 |2=>[0,1,2,9,10]
 |3=>[0,1,2,9,10,11]
 |4=>[1,2,9,10,11,12]
 |5=>[1,2,9,10,11,12,13]
 |6=>[9,10,11]
 |7=>[1,2,9,10,11,12,21]
 |8=>[9,10,11]
 |9=>[1,2,9,10,11,12,29]
 |10=>[9,10,11]
 |11=>[1,2,9,10,11,12,37]
 |12=>[9,10,11]
 |13=>[1,2,9,10,11,45]
 |14=>[9,10,11]
 |15=>[9,10,11,53]
 |16=>[6,7,8]
 |17=>[9,56]
 |18=>[6,7,8]
 |19=>[6,7,8]
 |_=>[]
@[simp] def Ry:ax:=⟨[],false,[],[],false⟩
@[simp] def M7:Nat->List Nat
 |0=>[0,1,2]
 |1=>[0,1,2,9]
 |2=>[1,2,9,10]
 |3=>[1,2,9,10,11]
 |4=>[9]
 |5=>[1,2,9,10,16]
 |6=>[9]
 |7=>[1,2,9,10,21]
 |8=>[9]
 |9=>[1,2,9,10,26]
 |10=>[9]
 |11=>[1,2,9,10,31]
 |12=>[9]
 |13=>[1,2,9,36]
 |14=>[9]
 |15=>[6,7,8]
 |_=>[]
@[simp] def Rz:ax:=⟨[],false,[],[],false⟩
@[simp] def M8:Nat->List Nat
 |0=>[0,7]
 |1=>[]
 |_=>[]
@[simp] def aao:Nat->List (List Nat)
 |0=>[[3,4,5],[3,4,5],[3,4,5],[0,1,2],[0,1,2],[0,1,2],[]]
 |_=>[]
@[simp] def RA:ax:=⟨[1],false,[],[],false⟩
@[simp] def M9:Nat->List Nat
 |0=>[0,1]
 |1=>[0,1,5]
 |2=>[0,1,5,6]
 |3=>[0,1,5,6,14]
 |4=>[0,1,5,6,14,15,16]
 |5=>[0,1,5,6,7,8,14]
 |6=>[0,1,5,6,7,14,21]
 |7=>[0,1,5,6,7,14,23]
 |8=>[0,1,5,6,14]
 |9=>[0,1,5,6,14]
 |10=>[0,1,5,6,7,14,33]
 |11=>[0,1,5,6,14]
 |12=>[0,5,6,36]
 |13=>[0,5]
 |14=>[0,5,9]
 |15=>[0,9,47,48,49]
 |16=>[0,9,47,48,49,50]
 |17=>[0,9,10,11,47,48,49]
 |18=>[0,9,47,48,49]
 |19=>[0,9,47,48,49]
 |20=>[4]
 |_=>[]
@[simp] def aap:ax:=⟨[],false,[650,700,2400],[],false⟩
@[simp] def Na:Nat->List Nat
 |0=>[0]
 |1=>[0,5]
 |2=>[6]
 |3=>[6,7]
 |4=>[6,7]
 |5=>[6,7]
 |6=>[6,7]
 |7=>[6,7]
 |8=>[6,7]
 |9=>[6,7]
 |10=>[7]
 |11=>[2]
 |12=>[2]
 |13=>[2]
 |_=>[]
@[simp] def aaq:ax:=⟨[],false,[],[],false⟩
@[simp] def Nb:Nat->List Nat
 |0=>[0,1]
 |1=>[0,1,9]
 |2=>[4,5]
 |3=>[4,5]
 |_=>[]
@[simp] def aar:ax:=⟨[],false,[],[],false⟩
@[simp] def Nc:Nat->List Nat
 |0=>[0,1,5]
 |1=>[0,5,6]
 |2=>[4,5]
 |_=>[]
@[simp] def aas:Nat->List (List Nat)
 |2=>[[4,7,8,9,10,11,12,13,14],[4,7,8,9,10,11,12,13,14],[4,7,8,9,10,11,12,13,14],[4,7,8,9,10,11,12,13,14],[0,1,2,3,7,8,9,10,11,12,13,14],[7,8,9,10,11,12,13,14],[7,8,9,10,11,12,13,14],[0,1,2,3,4,5,6,12,15],[0,1,2,3,4,5,6,12,15],[0,1,2,3,4,5,6,12,15],[0,1,2,3,4,5,6,12,15],[0,1,2,3,4,5,6,12,15],[0,1,2,3,4,5,6,7,8,9,10,11,15],[0,1,2,3,4,5,6,15],[0,1,2,3,4,5,6,15],[7,8,9,10,11,12,13,14],[]]
 |_=>[]
@[simp] def RB:ax:=⟨[1,2],false,[350],[],false⟩
@[simp] def Nd:Nat->List Nat
 |0=>[0,3]
 |1=>[5]
 |2=>[4]
 |_=>[]
@[simp] def RC:ax:=⟨[1,2],false,[250],[2000],false⟩
@[simp] def Nf:Nat->List Nat
 |0=>[0,2,4]
 |1=>[0,2,4,16]
 |2=>[0,2,4]
 |3=>[6]
 |_=>[]
@[simp] def RD:ax:=⟨[],false,[300],[],false⟩
@[simp] def Ng:Nat->List Nat
 |0=>[0,2,4]
 |1=>[0,2,4,11]
 |2=>[6]
 |3=>[6]
 |_=>[]
@[simp] def RE:ax:=⟨[1,2],false,[300],[],false⟩
@[simp] def Nh:Nat->List Nat
 |0=>[0,1,5,7]
 |1=>[0,5,7,8]
 |2=>[0,7,8,9]
 |3=>[6,7]
 |_=>[]
@[simp] def aat:Nat->List (List Nat)
 |3=>[[4,7,9,10,11,12,13,14,15,16,17,18],[4,7,9,10,11,12,13,14,15,16,17,18],[4,7,9,10,11,12,13,14,15,16,17,18],[4,7,9,10,11,12,13,14,15,16,17,18],[0,1,2,3,7,9,10,11,12,13,14,15,16,17,18],[7,9,10,11,12,13,14,15,16,17,18],[7,9,10,11,12,13,14,15,16,17,18],[0,1,2,3,4,5,6,9,10,11,12,13,14,15,16,17,18],[9,10,11,12,13,14,15,16,17,18],[0,1,2,3,4,5,6,7,8,13,16,19],[0,1,2,3,4,5,6,7,8,13,16,19],[0,1,2,3,4,5,6,7,8,13,16,19],[0,1,2,3,4,5,6,7,8,13,16,19],[0,1,2,3,4,5,6,7,8,9,10,11,12,16,19],[0,1,2,3,4,5,6,7,8,16,19],[0,1,2,3,4,5,6,7,8,16,19],[0,1,2,3,4,5,6,7,8,9,10,11,12,13,14,15,19],[0,1,2,3,4,5,6,7,8,19],[0,1,2,3,4,5,6,7,8,19],[9,10,11,12,13,14,15,16,17,18],[]]
 |_=>[]
@[simp] def RG:ax:=⟨[1,2],false,[350,450],[],false⟩
@[simp] def Ni:Nat->List Nat
 |0=>[0,1]
 |1=>[4]
 |_=>[]
@[simp] def aau:ax:=⟨[],false,[],[],false⟩
@[simp] def Nj:Nat->List Nat
 |0=>[0,1]
 |1=>[4]
 |_=>[]
@[simp] def RH:ax:=⟨[],false,[],[],false⟩
@[simp] def Nk:Nat->List Nat
 |0=>[0,1]
 |1=>[4]
 |_=>[]
@[simp] def aav:ax:=⟨[],false,[],[],false⟩
@[simp] def Nl:Nat->List Nat
 |0=>[0]
 |1=>[2]
 |_=>[]
@[simp] def aaw:Nat->Bool
 |1=>true
 |_=>false
@[simp] def RJ:ax:=⟨[],false,[],[],false⟩
@[simp] def Nn:Nat->List Nat
 |0=>[0,1]
 |1=>[0,1,5]
 |2=>[0,1,5,16]
 |3=>[0,1,5]
 |4=>[4]
 |_=>[]
@[simp] def aax:Nat->Bool
 |2=>true
 |_=>false
@[simp] def RL:ax:=⟨[],false,[],[],false⟩
@[simp] def No:Nat->List Nat
 |0=>[0]
 |1=>[2]
 |_=>[]
@[simp] def aay:Nat->Bool
 |1=>true
 |_=>false
@[simp] def RN:ax:=⟨[],false,[],[],false⟩
@[simp] def Np:Nat->List Nat
 |0=>[0]
 |1=>[2]
 |_=>[]
@[simp] def RO:ax:=⟨[],false,[],[],false⟩
@[simp] def Nq:Nat->List Nat
 |0=>[0]
 |1=>[2]
 |_=>[]
@[simp] def RP:ax:=⟨[],false,[],[],false⟩
@[simp] def Nr:Nat->List Nat
 |0=>[0]
 |1=>[0,5,6]
 |2=>[0,5,6,16,17,18]
 |3=>[0,5,6,16,17,18,19]
 |4=>[0,5,6,8,16,17,18]
 |5=>[0,5,6,8,16,17,18,25]
 |6=>[0,5,6,16,17,18]
 |7=>[0,5,6,16,17,18]
 |8=>[0,5,6,9]
 |9=>[0,5,6,9,59]
 |10=>[2,3,4]
 |11=>[0,5,6,9,10]
 |12=>[0,5,9,10,11]
 |13=>[0,5,9,10,11,63]
 |14=>[0,5,9,10,11]
 |15=>[0,5,9,10,11,12]
 |16=>[0,5,9,10,11,12,75]
 |17=>[2,3,4]
 |18=>[0,5,9,10,11]
 |19=>[2,3,4]
 |_=>[]
@[simp] def aaz:Nat->Bool
 |9=>true
 |_=>false
@[simp] def aaA:Nat->List (List Nat)
 |6=>[[2,3,4],[2,3,4],[0,1,5],[0,1,5],[0,1,5],[2,3,4],[]]
 |_=>[]
@[simp] def RQ:ax:=⟨[],false,[350,500],[],false⟩
@[simp] def Ns:Nat->List Nat
 |0=>[0]
 |1=>[0,5,6,7]
 |2=>[0,5,6,7,8]
 |3=>[0,4,5,6,7]
 |4=>[0,5,6,7,13]
 |5=>[2]
 |6=>[0,5,6,7]
 |7=>[18]
 |8=>[2]
 |9=>[2]
 |_=>[]
@[simp] def RR:ax:=⟨[],false,[],[],false⟩
@[simp] def Nt:Nat->List Nat
 |0=>[0,1]
 |1=>[0,8]
 |2=>[4]
 |3=>[]
 |4=>[4]
 |_=>[]
@[simp] def aaB:ax:=⟨[1],false,[],[],false⟩
@[simp] def Nu:Nat->List Nat
 |0=>[0,3]
 |1=>[]
 |_=>[]
@[simp] def aaC:ax:=⟨[],false,[250],[],false⟩
@[simp] def Nv:Nat->List Nat
 |0=>[0,2]
 |1=>[2]
 |_=>[]
@[simp] def aaD:Nat->List (List Nat)
 |1=>[[4,5,6,7],[4,5,6,7],[4,5,6,7],[4,5,6,7],[0,1,2,3],[0,1,2,3],[0,1,2,3],[0,1,2,3],[],[],[]]
 |_=>[]
@[simp] def aaE:ax:=⟨[1],false,[200],[],false⟩
@[simp] def Nw:Nat->List Nat
 |0=>[0,2]
 |1=>[0,2,3]
 |2=>[0,2,3,8]
 |3=>[2,3]
 |4=>[2]
 |_=>[]
@[simp] def aaF:ax:=⟨[1],false,[200,250],[],false⟩
@[simp] def Nx:Nat->List Nat
 |0=>[0,1,4]
 |1=>[0,1,4,5]
 |2=>[0,1,4,5]
 |3=>[0,1,4,5,26]
 |4=>[0,1,4]
 |5=>[0,1,4,31]
 |6=>[0,1,4]
 |7=>[0,1,4,6]
 |8=>[0,1,4,6,7]
 |9=>[0,1,4,6,7,37]
 |10=>[0,1,4,6,8,9]
 |11=>[0,1,4,6,8,56]
 |12=>[0,1,4,6,8]
 |13=>[0,1,4,6,7]
 |14=>[0,1,4,6,7]
 |15=>[0,1,6,7,63,64,65]
 |16=>[0,1,6,7,63,64,65,66]
 |17=>[0,1,6,7,11,63,64,65]
 |18=>[0,1,6,7,63,64,65]
 |19=>[0,1,6,7,63,64,65]
 |_=>[]
@[simp] def aaG:Nat->List (List Nat)
 |18=>[[1,2,3,4,5,6,7,8,9,10,11,12,13,14,15,16,17,18,19,20,21],[0,5,6,7,8,9,10,11,12,13,14,15,16,17,18,19,20],[0,5,6,7,8,9,10,11,12,13,14,15,16,17,18,19,20],[0,5,6,7,8,9,10,11,12,13,14,15,16,17,18,19,20],[0,5,6,7,8,9,10,11,12,13,14,15,16,17,18,19,20],[0,1,2,3,4,7,8,9,10,11,12,13,14,15,16,17,18],[0,1,2,3,4,7,8,9,10,11,12,13,14,15,16,17,18],[0,1,2,3,4,5,6,9,10,11,12,13,14,15,16,17,18],[0,1,2,3,4,5,6,9,10,11,12,13,14,15,16,17,18],[0,1,2,3,4,5,6,7,8,10,11,12,13,14,15,16,17,18],[0,1,2,3,4,5,6,7,8,9,12,13,14,15,16,17,18],[0,1,2,3,4,5,6,7,8,9,12,13,14,15,16,17,18],[0,1,2,3,4,5,6,7,8,9,10,11,14,15,16,17,18],[0,1,2,3,4,5,6,7,8,9,10,11,14,15,16,17,18],[0,1,2,3,4,5,6,7,8,9,10,11,12,13,16,17,18],[0,1,2,3,4,5,6,7,8,9,10,11,12,13,16,17,18],[0,1,2,3,4,5,6,7,8,9,10,11,12,13,14,15,17,18],[0,1,2,3,4,5,6,7,8,9,10,11,12,13,14,15,16],[0,1,2,3,4,5,6,7,8,9,10,11,12,13,14,15,16],[0,1,2,3,4],[0,1,2,3,4],[0],[],[],[]]
 |_=>[]
@[simp] def aaH:ax:=⟨[],false,[300,350,400,650],[],false⟩
@[simp] def Ny:Nat->List Nat
 |0=>[0,1]
 |1=>[4]
 |_=>[]
@[simp] def aaI:ax:=⟨[1],false,[],[],false⟩
@[simp] def Nz:Nat->List Nat
 |0=>[0,1]
 |1=>[1,5]
 |2=>[4]
 |_=>[]
@[simp] def aaJ:ax:=⟨[1],false,[350],[],false⟩
@[simp] def NA:Nat->List Nat
 |0=>[0,2]
 |1=>[0,2,3]
 |2=>[0,2,3]
 |3=>[0,2,3,4]
 |4=>[0,2,3,4]
 |5=>[2,3,4]
 |6=>[2,4]
 |7=>[2]
 |_=>[]
@[simp] def aaK:ax:=⟨[1],false,[200,250,300],[],false⟩
@[simp] def NB:Nat->List Nat
 |0=>[0,1]
 |1=>[0,1,7,8]
 |2=>[0,1,7,8,9]
 |3=>[0,1,5,7,8]
 |4=>[0,1,5,7,8,16]
 |5=>[4]
 |6=>[0,1,7,8]
 |7=>[4]
 |_=>[]
@[simp] def RS:ax:=⟨[],false,[],[],false⟩
@[simp] def NC:Nat->List Nat
 |0=>[0,1]
 |1=>[0,1,7,8]
 |2=>[0,1,7,8,9]
 |3=>[0,1,5,7,8]
 |4=>[0,1,5,7,8,16]
 |5=>[4]
 |6=>[0,1,7,8]
 |7=>[4]
 |_=>[]
@[simp] def RU:ax:=⟨[],false,[],[],false⟩
@[simp] def ND:Nat->List Nat
 |0=>[0,1]
 |1=>[0,1,6]
 |2=>[6,21]
 |3=>[4,5]
 |4=>[4,5]
 |_=>[]
@[simp] def RV:ax:=⟨[],false,[],[],false⟩
@[simp] def NF:Nat->List Nat
 |0=>[0,1]
 |1=>[0,1,6]
 |2=>[6,21]
 |3=>[4,5]
 |4=>[4,5]
 |_=>[]
@[simp] def RW:ax:=⟨[],false,[],[],false⟩
@[simp] def NG:Nat->List Nat
 |0=>[0,1]
 |1=>[0,1,6,7]
 |2=>[0,1,7,17]
 |3=>[4,5]
 |4=>[4,5]
 |_=>[]
@[simp] def RX:ax:=⟨[],false,[],[],false⟩
@[simp] def NH:Nat->List Nat
 |0=>[0,1]
 |1=>[0,1,6]
 |2=>[4,5]
 |3=>[0,1,9]
 |4=>[4,5]
 |5=>[4,5]
 |_=>[]
@[simp] def RY:ax:=⟨[],false,[],[],false⟩
@[simp] def NI:Nat->List Nat
 |0=>[0,1]
 |1=>[0,1,6]
 |2=>[0,1,6,7]
 |3=>[4,5]
 |4=>[0,1,9]
 |5=>[4,5]
 |6=>[4,5]
 |_=>[]
@[simp] def RZ:ax:=⟨[],false,[],[],false⟩
@[simp] def NJ:Nat->List Nat
 |0=>[0,1]
 |1=>[0,1,5]
 |2=>[0,1,5,6]
 |3=>[0,1,5,6,32]
 |4=>[4]
 |5=>[1,7]
 |6=>[1,7,54]
 |7=>[4]
 |8=>[4]
 |_=>[]
@[simp] def aaL:Nat->Bool
 |3=>true
 |6=>true
 |_=>false
@[simp] def aaM:ax:=⟨[],false,[],[],false⟩
@[simp] def NK:Nat->List Nat
 |0=>[0,1]
 |1=>[4]
 |_=>[]
@[simp] def aaN:Nat->Bool
 |1=>true
 |_=>false
@[simp] def aaO:ax:=⟨[],false,[],[],false⟩
@[simp] def NL:Nat->List Nat
 |0=>[0,3]
 |1=>[4]
 |_=>[]
@[simp] def R0:ax:=⟨[1,2],false,[250],[],false⟩
@[simp] def NM:Nat->List Nat
 |0=>[0,3]
 |1=>[0,3,24]
 |2=>[0,3,24,25]
 |3=>[4,5]
 |4=>[0,3,24,29]
 |5=>[4,5]
 |6=>[0,3,24,33]
 |7=>[0,6,7]
 |8=>[4,5]
 |9=>[0,3,24,50]
 |10=>[0,3,8,9]
 |11=>[0,8,9,10]
 |12=>[4,5]
 |13=>[0,3,79]
 |14=>[0,12,13]
 |15=>[4,5]
 |16=>[0,3,14]
 |17=>[0,3,14,15]
 |18=>[0,3,14,15,99,100,101]
 |19=>[0,3,14,15,99,100,101,102]
 |20=>[0,3,14,17,99,100,101]
 |21=>[0,3,14,18,19,99,100,101]
 |22=>[0,3,14,19,99,100,101]
 |23=>[0,3,14,15,99,100,101]
 |24=>[0,3,14,15,99,100,101]
 |25=>[20,21,22]
 |26=>[20,21,22,127]
 |27=>[20,21]
 |28=>[4,5]
 |_=>[]
@[simp] def aaP:Nat->List (List Nat)
 |8=>[[1,2,3,5,6,7],[0,2,3,5,6,7],[0,1,5,6,7],[0,1,5,6,7],[5,6,7],[0,1,2,3,4,8],[0,1,2,3,4,8],[0,1,2,3,4,8],[5,6,7],[]]
 |12=>[[1,2,3,4,5,6,8,9,10],[0,2,3,5,6,8,9,10],[0,1,3,5,6,8,9,10],[0,1,2,5,6,8,9,10],[0,5,6,8,9,10],[0,1,2,3,4,8,9,10],[0,1,2,3,4,8,9,10],[8,9,10],[0,1,2,3,4,5,6,7,11],[0,1,2,3,4,5,6,7,11],[0,1,2,3,4,5,6,7,11],[8,9,10],[]]
 |15=>[[1,2,3,5,6,7],[0,2,3,5,6,7],[0,1,5,6,7],[0,1,5,6,7],[5,6,7],[0,1,2,3,4,8],[0,1,2,3,4,8],[0,1,2,3,4,8],[5,6,7],[]]
 |_=>[]
@[simp] def R3:ax:=⟨[1,2],false,[250,450,550,750,800,950],[],false⟩
@[simp] def NN:Nat->List Nat
 |0=>[1,2]
 |1=>[3]
 |_=>[]
@[simp] def R4:ax:=⟨[],false,[200],[],false⟩
@[simp] def NO:Nat->List Nat
 |0=>[0,1]
 |1=>[4]
 |_=>[]
@[simp] def aaQ:Nat->Bool
 |1=>true
 |_=>false
@[simp] def aaR:ax:=⟨[],false,[],[],false⟩
@[simp] def NP:Nat->List Nat
 |0=>[0,1]
 |1=>[4]
 |_=>[]
@[simp] def aaS:ax:=⟨[],false,[],[],false⟩
@[simp] def NQ:Nat->List Nat
 |0=>[0,1]
 |1=>[0,1,5]
 |2=>[0,1,5,16]
 |3=>[4]
 |4=>[0,1,5,24]
 |5=>[4]
 |6=>[0,1,5,31]
 |7=>[4]
 |8=>[0,1,5,36]
 |9=>[4]
 |10=>[0,1,5,6]
 |11=>[0,1,5,6,7]
 |12=>[0,1,5,6,7,8]
 |13=>[0,1,5,6,7,8,9]
 |14=>[0,1,5,6,7,8,9,10]
 |15=>[0,1,5,6,7,8,9,10,59]
 |16=>[0,1,5,6,7,8,9,10,64]
 |17=>[0,1,5,6,7,8,9,10,11]
 |18=>[0,1,5,6,7,8,9,10,11,73]
 |19=>[4]
 |20=>[0,1,5,6,7,8,9,10]
 |21=>[0,1,5,6,7,8,9,10,93]
 |22=>[4]
 |23=>[0,1,5,6,7,8,9,10]
 |24=>[0,1,5,6,7,8,9,10]
 |25=>[0,1,5,6,7,8,9,10,107]
 |26=>[8,12]
 |27=>[8,12,114]
 |28=>[4]
 |29=>[4]
 |30=>[0,1,5,6,7,8,9,10,132]
 |31=>[8,13]
 |32=>[8,13,139]
 |33=>[4]
 |34=>[4]
 |35=>[4]
 |_=>[]
@[simp] def aaT:Nat->Bool
 |21=>true
 |25=>true
 |_=>false
@[simp] def aaU:ax:=⟨[],false,[],[],false⟩
@[simp] def NR:Nat->List Nat
 |0=>[0,1]
 |1=>[4]
 |_=>[]
@[simp] def R5:ax:=⟨[],false,[],[],false⟩
@[simp] def NS:Nat->List Nat
 |0=>[0,1]
 |1=>[3]
 |_=>[]
@[simp] def aaV:Nat->List (List Nat)
 |1=>[[2],[2],[0,1],[],[]]
 |_=>[]
@[simp] def R6:ax:=⟨[],false,[],[],false⟩
@[simp] def NT:Nat->List Nat
 |0=>[0]
 |1=>[0,3]
 |2=>[2]
 |3=>[0,9]
 |4=>[2]
 |5=>[2]
 |_=>[]
@[simp] def R7:ax:=⟨[],false,[],[],false⟩
@[simp] def NU:Nat->List Nat
 |0=>[0,2]
 |1=>[0,2,3]
 |2=>[0,2,3,4,5]
 |3=>[0,2,3,4,15]
 |4=>[2,3]
 |5=>[2]
 |6=>[0,2,3,20]
 |7=>[2]
 |8=>[2,3,6]
 |9=>[2,3,6]
 |10=>[2,3,6,32]
 |11=>[2,3]
 |12=>[2]
 |_=>[]
@[simp] def aaW:ax:=⟨[1],false,[200,250,400],[],false⟩
@[simp] def NV:Nat->List Nat
 |0=>[0]
 |1=>[0,4]
 |2=>[2,3]
 |3=>[0,7]
 |4=>[2,3]
 |5=>[2,3]
 |_=>[]
@[simp] def aaX:ax:=⟨[1],false,[],[],false⟩
@[simp] def NW:Nat->List Nat
 |0=>[0,1]
 |1=>[0,1,7,8]
 |2=>[0,1,7,8,9]
 |3=>[0,1,5,7,8]
 |4=>[0,1,5,7,8,16]
 |5=>[4]
 |6=>[0,1,7,8]
 |7=>[4]
 |_=>[]
@[simp] def aaY:ax:=⟨[1],false,[],[],false⟩
@[simp] def NX:Nat->List Nat
 |0=>[0]
 |1=>[0,13]
 |2=>[]
 |_=>[]
@[simp] def aaZ:ax:=⟨[1],false,[],[],false⟩
@[simp] def NY:Nat->List Nat
 |0=>[0,2]
 |1=>[0,2,7]
 |2=>[2]
 |3=>[0,2,12]
 |4=>[2]
 |5=>[0,2,17]
 |6=>[2]
 |7=>[0,2,22]
 |8=>[0,2,3]
 |9=>[0,2,3]
 |10=>[0,2,3]
 |11=>[2,3]
 |12=>[2]
 |13=>[0,2,38]
 |14=>[0,2,4]
 |15=>[0,2,4]
 |16=>[0,2,4]
 |17=>[2,4]
 |18=>[2]
 |19=>[0,2,54]
 |20=>[2]
 |21=>[0,2,58]
 |22=>[2]
 |23=>[0,2,5]
 |24=>[0,2,5,65]
 |25=>[2]
 |26=>[0,2,5,6]
 |27=>[0,2,5,6,76]
 |28=>[0,2,6]
 |29=>[0,2,6]
 |30=>[2]
 |_=>[]
@[simp] def aa0:Nat->List (List Nat)
 |28=>[[2,3,4,5,6],[2,3,4,5,6],[0,1,5,6],[0,1,5,6],[0,1,5,6],[0,1,2,3,4],[0,1,2,3,4],[],[]]
 |30=>[[1,2],[0],[0],[],[]]
 |_=>[]
@[simp] def aa1:ax:=⟨[1],false,[200,250,300,350,400],[],false⟩
@[simp] def NZ:Nat->List Nat
 |0=>[]
 |_=>[]
@[simp] def aa2:ax:=⟨[1],false,[],[],false⟩
@[simp] def N0:Nat->List Nat
 |0=>[0,1]
 |1=>[0,1,6]
 |2=>[0,1,6,7]
 |3=>[0,1,6,7,8]
 |4=>[0,1,6,7,8,9]
 |5=>[0,1,6,7,8,9,10]
 |6=>[0,1,6,7,9,11]
 |7=>[0,1,6,7,9,11,12]
 |8=>[0,1,6,7,9,12,13]
 |9=>[0,1,7,9,12,13]
 |10=>[0,1,4]
 |11=>[4,5]
 |_=>[]
@[simp] def R8:ax:=⟨[],false,[],[],false⟩
@[simp] def N1:Nat->List Nat
 |0=>[0]
 |1=>[0,4]
 |2=>[2]
 |3=>[2]
 |_=>[]
@[simp] def R9:ax:=⟨[],false,[],[],false⟩
@[simp] def N2:Nat->List Nat
 |0=>[0,1]
 |1=>[0,1,6]
 |2=>[4,5]
 |3=>[0,15]
 |4=>[4,5]
 |5=>[4,5]
 |_=>[]
@[simp] def Sa:ax:=⟨[],false,[],[],false⟩
@[simp] def N3:Nat->List Nat
 |0=>[0,1]
 |1=>[0,1,17]
 |2=>[0,1,19,20]
 |3=>[0,1,19,20,21]
 |4=>[0,1,5,19,20]
 |5=>[0,1,6,19,20]
 |6=>[0,1,6,19,20,31]
 |7=>[4]
 |8=>[0,1,6,19,20,37]
 |9=>[4]
 |10=>[0,1,19,20]
 |11=>[4]
 |12=>[0,1,7]
 |13=>[0,1,7,8]
 |14=>[0,1,7,8,62]
 |15=>[0,1,7,8,9]
 |16=>[0,1,7,8,9,10]
 |17=>[0,1,7,8,9,10,85]
 |18=>[4]
 |19=>[0,1,7,8,9,110]
 |20=>[0,1,7,8]
 |21=>[0,1,7,8]
 |22=>[4]
 |_=>[]
@[simp] def aa3:Nat->List (List Nat)
 |9=>[[],[],[],[],[],[],[7,8,9,10,12,13,14,15],[6,12,13,14,15],[6,12,13,14,15],[6,12,13,14,15],[6,12,13,14,15],[12,13,14,15],[6,7,8,9,10,11],[6,7,8,9,10,11],[6,7,8,9,10,11],[6,7,8,9,10,11],[],[],[],[]]
 |18=>[[],[],[],[],[],[],[7,8,9,10,12,13,14,15],[6,12,13,14,15],[6,12,13,14,15],[6,12,13,14,15],[6,12,13,14,15],[12,13,14,15],[6,7,8,9,10,11],[6,7,8,9,10,11],[6,7,8,9,10,11],[6,7,8,9,10,11],[],[],[],[]]
 |_=>[]
@[simp] def aa4:ax:=⟨[],false,[],[],false⟩
@[simp] def N4:Nat->List Nat
 |0=>[0,1]
 |1=>[0,1,13]
 |2=>[0,1,15,16]
 |3=>[0,1,15,16,17]
 |4=>[0,1,5,15,16]
 |5=>[0,1,6,15,16]
 |6=>[0,1,6,15,16,27]
 |7=>[4]
 |8=>[0,1,6,15,16,33]
 |9=>[4]
 |10=>[0,1,15,16]
 |11=>[4]
 |12=>[0,1,7]
 |13=>[0,1,7,8]
 |14=>[0,1,7,8,58]
 |15=>[0,1,7,8,9]
 |16=>[0,1,7,8,9,10]
 |17=>[0,1,7,8,9,10,78]
 |18=>[4]
 |19=>[0,1,7,8,9,95]
 |20=>[0,1,7,8]
 |21=>[0,1,7,8]
 |22=>[4]
 |_=>[]
@[simp] def aa5:Nat->List (List Nat)
 |9=>[[],[],[],[],[],[],[7,8,9,10,12,13,14,15],[6,12,13,14,15],[6,12,13,14,15],[6,12,13,14,15],[6,12,13,14,15],[12,13,14,15],[6,7,8,9,10,11],[6,7,8,9,10,11],[6,7,8,9,10,11],[6,7,8,9,10,11],[],[],[],[]]
 |_=>[]
@[simp] def aa6:ax:=⟨[],false,[600],[],false⟩
@[simp] def N5:Nat->List Nat
 |0=>[1,2]
 |1=>[3]
 |_=>[]
@[simp] def Sb:ax:=⟨[],false,[200],[],false⟩
@[simp] def N6:Nat->List Nat
 |0=>[0,1,2]
 |1=>[0,1,8]
 |2=>[6]
 |3=>[6]
 |_=>[]
@[simp] def Sc:ax:=⟨[1,2],false,[],[],false⟩
@[simp] def N7:Nat->List Nat
 |0=>[0]
 |1=>[2]
 |_=>[]
@[simp] def aa7:ax:=⟨[],false,[],[],false⟩
@[simp] def N8:Nat->List Nat
 |0=>[0,1]
 |1=>[0,1,5,6]
 |2=>[0,1,5,6,7]
 |3=>[0,1,5,6,7,8]
 |4=>[0,1,5,6,7,8,9]
 |5=>[0,1,5,6,7,8,9,20]
 |6=>[0,1,5,6,7,8,9]
 |7=>[0,1,5,6,7,8,9]
 |8=>[0,1,5,6,7,8,39]
 |9=>[4]
 |10=>[0,1,5,6,7,8,10]
 |11=>[0,1,5,6,7,8,10,44]
 |12=>[0,1,5,6,7,8,10]
 |13=>[0,1,5,6,7,8,10]
 |14=>[0,1,5,6,7,8,10]
 |15=>[0,1,5,6,7,8,10]
 |16=>[0,1,5,6,7,8,10,77]
 |17=>[4]
 |18=>[4]
 |_=>[]
@[simp] def aa8:Nat->Bool
 |8=>true
 |16=>true
 |_=>false
@[simp] def aa9:ax:=⟨[],false,[],[],false⟩
@[simp] def N9:Nat->List Nat
 |0=>[0,1]
 |1=>[0,1,7,8]
 |2=>[0,1,7,8,9]
 |3=>[0,1,5,7,8]
 |4=>[0,1,5,7,8,16]
 |5=>[4]
 |6=>[0,1,7,8]
 |7=>[4]
 |_=>[]
@[simp] def Sd:ax:=⟨[],false,[],[],false⟩
@[simp] def Oa:Nat->List Nat
 |0=>[0]
 |1=>[0,4]
 |2=>[2,3]
 |3=>[7]
 |4=>[2,3]
 |5=>[2,3]
 |_=>[]
@[simp] def aba:ax:=⟨[1],false,[],[],false⟩
@[simp] def Ob:Nat->List Nat
 |0=>[0,3,4]
 |1=>[0,3,4]
 |2=>[0,3,4]
 |3=>[0,3,4]
 |4=>[0,3,4,5]
 |5=>[0,3,4,5,27]
 |6=>[0,3,4,5]
 |7=>[0,3,4]
 |8=>[0,3,4]
 |9=>[0,3,4]
 |10=>[0,3,4,6,7]
 |11=>[0,3,4,6,44]
 |12=>[3,4,6]
 |13=>[3,4]
 |14=>[4]
 |_=>[]
@[simp] def abb:Nat->List (List Nat)
 |7=>[[2,3],[2,3],[0,1],[0,1],[],[]]
 |_=>[]
@[simp] def abc:ax:=⟨[1],false,[250,300,350],[],false⟩
@[simp] def Oc:Nat->List Nat
 |0=>[1]
 |1=>[1,3]
 |2=>[3,4]
 |3=>[3,4,10]
 |4=>[2]
 |5=>[2]
 |_=>[]
@[simp] def abd:ax:=⟨[],false,[150],[],false⟩
@[simp] def Od:Nat->List Nat
 |0=>[0]
 |1=>[0,4]
 |2=>[2]
 |3=>[2]
 |_=>[]
@[simp] def abe:ax:=⟨[1],false,[],[],false⟩
@[simp] def Oe:Nat->List Nat
 |0=>[0,2]
 |1=>[0,2,3]
 |2=>[0,2,3]
 |3=>[0,2,3]
 |4=>[0,2,3]
 |5=>[0,2,3,24]
 |6=>[0,2,3,26]
 |7=>[0,2,3]
 |8=>[2,3]
 |9=>[2]
 |_=>[]
@[simp] def abf:Nat->List (List Nat)
 |2=>[[2,3,4],[2,3,4],[0,1],[0,1],[0,1],[],[],[]]
 |4=>[[2,3,4,5],[2,3,4,5],[0,1,3],[0,1,2],[0,1],[0,1],[],[],[]]
 |7=>[[2,3,4,5],[2,3,4,5],[0,1,3],[0,1,2],[0,1],[0,1],[],[],[]]
 |_=>[]
@[simp] def abg:Nat->List Gh
 |1=>[.jS 250 14 251 6,.jS 250 17 252 1]
 |_=>[]
@[simp] def abh:ax:=⟨[1],false,[200,250,251,252],[],false⟩
@[simp] def Of:Nat->List Nat
 |0=>[0,2]
 |1=>[0,2,3]
 |2=>[0,2,3]
 |3=>[0,2,3,11]
 |4=>[0,2,3]
 |5=>[0,2,3,4]
 |6=>[0,2,3,4,31]
 |7=>[0,2,3,4]
 |8=>[0,2,3]
 |9=>[0,2,3,44]
 |10=>[0,2,3]
 |11=>[2,3]
 |12=>[2]
 |_=>[]
@[simp] def abi:Nat->Bool
 |6=>true
 |_=>false
@[simp] def abj:Nat->List (List Nat)
 |4=>[[2,3,4],[2,3,4],[0,1],[0,1],[0,1],[],[],[]]
 |10=>[[2,3,4,5],[2,3,4,5],[0,1,3],[0,1,2],[0,1],[0,1],[],[],[]]
 |_=>[]
@[simp] def abk:Nat->List Gh
 |1=>[.jS 250 15 251 1,.jS 250 17 252 1]
 |1000002=>[.freeze 300]
 |_=>[]
@[simp] def abl:ax:=⟨[1],false,[200,250,251,252,300],[],false⟩
@[simp] def Og:Nat->List Nat
 |0=>[0,2]
 |1=>[0,2,3]
 |2=>[0,2,3]
 |3=>[0,2,3,4]
 |4=>[0,2,3,4]
 |5=>[0,2,3]
 |6=>[0,2,3,5]
 |7=>[0,2,3,5,26]
 |8=>[0,2,3,5]
 |9=>[0,2,3]
 |10=>[0,2,3]
 |11=>[0,2,3]
 |12=>[2,3]
 |13=>[2]
 |_=>[]
@[simp] def abm:Nat->List (List Nat)
 |5=>[[1,2],[0],[0],[],[],[]]
 |_=>[]
@[simp] def abn:ax:=⟨[1],false,[200,250,300,350,1050],[],false⟩
@[simp] def Oh:Nat->List Nat
 |0=>[0,2]
 |1=>[2]
 |_=>[]
@[simp] def abo:ax:=⟨[1],false,[200],[],false⟩
@[simp] def Oi:Nat->List Nat
 |0=>[0,1,4]
 |1=>[0,4,5]
 |2=>[0,4,5,9]
 |3=>[4]
 |4=>[0,4,5]
 |5=>[0,4,5]
 |6=>[0,4,5]
 |7=>[0,4,5,30]
 |8=>[4,5]
 |9=>[4]
 |_=>[]
@[simp] def abp:Nat->List (List Nat)
 |4=>[[2,3,4,5],[2,3,4,5],[0,1],[0,1],[0,1],[0,1],[],[],[]]
 |6=>[[2,3,4],[2,3,4],[0,1],[0,1],[0,1],[],[],[]]
 |_=>[]
@[simp] def abq:Nat->List Gh
 |1=>[.jS 350 14 351 6,.jS 350 16 352 1]
 |_=>[]
@[simp] def abr:ax:=⟨[1],false,[300,350,351,352],[],false⟩
@[simp] def Oj:Nat->List Nat
 |0=>[0,2]
 |1=>[0,2]
 |2=>[0,2]
 |3=>[0,2,3]
 |4=>[0,2,3]
 |5=>[2,3]
 |6=>[2]
 |_=>[]
@[simp] def abt:ax:=⟨[1],false,[200,250],[],false⟩
@[simp] def Ok:Nat->List Nat
 |0=>[0]
 |1=>[3]
 |2=>[2]
 |3=>[2]
 |_=>[]
@[simp] def Se:ax:=⟨[],false,[],[],false⟩
@[simp] def Ol:Nat->List Nat
 |0=>[0]
 |1=>[0,4]
 |2=>[0,4,5]
 |3=>[0,4,5,12]
 |4=>[0,4,5]
 |5=>[0,4,5]
 |6=>[0,4,6,7]
 |7=>[4,6,7,8]
 |8=>[4,6,7,8,25]
 |9=>[4,6,7,8]
 |10=>[4,6,7,8,30]
 |11=>[4,6,7,8]
 |12=>[4,6,7,8]
 |13=>[2,3]
 |_=>[]
@[simp] def abu:ax:=⟨[],false,[],[],false⟩
@[simp] def Om:Nat->List Nat
 |0=>[1,2]
 |1=>[3]
 |_=>[]
@[simp] def abv:ax:=⟨[],false,[200],[],false⟩
@[simp] def On:Nat->List Nat
 |0=>[0]
 |1=>[2]
 |_=>[]
@[simp] def abw:Nat->Bool
 |1=>true
 |_=>false
@[simp] def abx:ax:=⟨[1],false,[],[],false⟩
@[simp] def Oo:Nat->List Nat
 |0=>[0]
 |1=>[0,3]
 |2=>[0,3,4]
 |3=>[0,3,4,5]
 |4=>[0,3,4,5,10]
 |5=>[0,3,4,5]
 |6=>[0,3]
 |7=>[0,3,20]
 |8=>[3]
 |9=>[2]
 |_=>[]
@[simp] def aby:ax:=⟨[1],false,[250],[],false⟩
@[simp] def Oq:Nat->List Nat
 |0=>[0,1,4]
 |1=>[0,1,4,5]
 |2=>[0,1,4,5,12]
 |3=>[4]
 |4=>[0,1,4,5,6]
 |5=>[0,1,4,5,6,25]
 |6=>[0,1,4,5,6,7]
 |7=>[0,1,4,5,6]
 |8=>[0,1,4,5,6,41]
 |9=>[4]
 |_=>[]
@[simp] def abz:Nat->List (List Nat)
 |7=>[[3,4,5,6,9,10],[3,4,5,6,9,10],[3,4,5,6,9,10],[0,1,2,4,5,6,7,9,10],[0,1,2,3,5,6,9,10],[0,1,2,3,4,9,10],[0,1,2,3,4,9,10],[3,9,10],[9,10],[0,1,2,3,4,5,6,7,8],[0,1,2,3,4,5,6,7,8],[],[]]
 |_=>[]
@[simp] def abA:ax:=⟨[1],false,[300,400,450],[],false⟩
@[simp] def Ot:Nat->List Nat
 |0=>[]
 |1=>[0]
 |_=>[]
@[simp] def abB:ax:=⟨[],false,[],[],false⟩
@[simp] def Ou:Nat->List Nat
 |0=>[0,2]
 |1=>[0,2,3]
 |2=>[0,2,3]
 |3=>[2]
 |4=>[0,2,3,10]
 |5=>[0,2,3,4]
 |6=>[0,2,3,13]
 |7=>[0,2,3,4]
 |8=>[0,2,3,4]
 |9=>[0,2,3,4]
 |10=>[0,2,5]
 |11=>[2,5]
 |12=>[2]
 |_=>[]
@[simp] def abC:Nat->List (List Nat)
 |10=>[[1,2,3,4,5,7],[0,4,5,7],[0,4,5,7],[0,4,5,7],[0,1,2,3,7],[0,1,2,3,7],[7],[0,1,2,3,4,5,6],[]]
 |_=>[]
@[simp] def abD:ax:=⟨[1],false,[200,250,350],[],false⟩
@[simp] def Ov:Nat->List Nat
 |0=>[0]
 |1=>[0,3]
 |2=>[2]
 |_=>[]
@[simp] def abE:ax:=⟨[],false,[],[],false⟩
@[simp] def Ow:Nat->List Nat
 |0=>[0,2]
 |1=>[0,2,3]
 |2=>[0,2,3,7]
 |3=>[2]
 |4=>[0,2,3,17]
 |5=>[2]
 |6=>[0,2,3,23]
 |7=>[2]
 |8=>[0,2,3,29]
 |9=>[0,2]
 |10=>[0,2]
 |11=>[0,2,4]
 |12=>[0,2,4]
 |13=>[2,4]
 |14=>[2]
 |15=>[0,2,3]
 |16=>[0,2,3,45]
 |17=>[2]
 |18=>[0,2,3,56]
 |19=>[2]
 |20=>[2]
 |_=>[]
@[simp] def abF:Nat->List (List Nat)
 |3=>[[3,4],[3,4],[3,4],[0,1,2],[0,1,2],[],[]]
 |17=>[[2,3,4,5,6],[2,3,4,5,6],[0,1,5,6],[0,1,5,6],[0,1,5,6],[0,1,2,3,4],[0,1,2,3,4],[],[]]
 |19=>[[2,3,4,5,6],[2,3,4,5,6],[0,1,5,6],[0,1,5,6],[0,1,5,6],[0,1,2,3,4],[0,1,2,3,4],[],[]]
 |_=>[]
@[simp] def abG:ax:=⟨[1],false,[200,250,300],[],false⟩
def od3:Nat->List (List Nat)
 |9=>[[],[],[],[4,5,7,8,9],[3,5,7,8,9],[3,4,7,8,9],[7,8,9],[3,4,5,6,8,9],[3,4,5,6,7,9],[3,4,5,6,7,8],[],[],[],[]]
 |_=>[]
def od4:Nat->List (List Nat)
 |6=>[[],[],[],[4,5,7,8,9],[3,5,7,8,9],[3,4,7,8,9],[7,8,9],[3,4,5,6,8,9],[3,4,5,6,7,9],[3,4,5,6,7,8],[],[],[],[]]
 |_=>[]
def od7:Nat->List (List Nat)
 |5=>[[1,2,4,5,6,7,8,10,11],[0,2,4,5,6,7,8,10,11],[0,1,4,5,6,7,8,10,11],[4,5,6,7,8,10,11],[0,1,2,3,5,6,7,8,10,11],[0,1,2,3,4,6,7,8,10,11],[0,1,2,3,4,5,7,10,11],[0,1,2,3,4,5,6,10,11],[0,1,2,3,4,5,10,11],[10,11],[0,1,2,3,4,5,6,7,8,9,11],[0,1,2,3,4,5,6,7,8,9,10],[],[]]
 |_=>[]
def od8:Nat->List (List Nat)
 |5=>[[1,2,3],[0,2,3,4],[0,1,3],[0,1,2],[1],[]]
 |6=>[[2,4,5,6,7],[2,4,5,6,7],[0,1,4,5,6,7],[4,5,6,7],[0,1,2,3,6,8,9],[0,1,2,3,6,8,9],[0,1,2,3,4,5,8,9],[0,1,2,3,8,9],[4,5,6,7],[4,5,6,7],[],[]]
 |7=>[[1,2,4,5,6,8,9],[0,2,4,5,6,8,9],[0,1,4,5,6,8,9],[4,5,6,8,9],[0,1,2,3,5,6,8,9],[0,1,2,3,4,6,8,9],[0,1,2,3,4,5,8,9],[8,9],[0,1,2,3,4,5,6,7,9],[0,1,2,3,4,5,6,7,8],[],[]]
 |10=>[[1,2,3,4,5,6],[0,2,3,4,5],[0,1,4,5],[0,1,4,5],[0,1,2,3],[0,1,2,3],[0],[],[]]
 |_=>[]
def aq6:Nat->List (List Nat)
 |9=>[[1,2,4,5,6],[0,2,4,5,6],[0,1,4,5,6],[4,5,6],[0,1,2,3,5,6],[0,1,2,3,4,6],[0,1,2,3,4,5],[],[],[]]
 |_=>[]
def aq7:Nat->List (List Nat)
 |8=>[[4,5,6,7,8],[4,5,6,7,8],[4,5,6,7,8],[4,5,6,7,8],[0,1,2,3,5,6,7,8],[0,1,2,3,4],[0,1,2,3,4],[0,1,2,3,4],[0,1,2,3,4],[],[],[]]
 |_=>[]
def aq8:Nat->List (List Nat)
 |3=>[[1,2,3,4,5,6,7,8,9],[0,3,4,5,6,7,9],[0,3,4,5,6,7,9],[0,1,2,5,6,9],[0,1,2,5,6,9],[0,1,2,3,4,9],[0,1,2,3,4,9],[0,1,2,9],[0,9],[0,1,2,3,4,5,6,7,8],[],[],[]]
 |5=>[[2,3,4,5,8],[2,3,4,5,8],[0,1,8],[0,1,8],[0,1,8],[0,1,8],[8],[8],[0,1,2,3,4,5,6,7],[]]
 |10=>[[4,5,8,9,10,11,12,13,14,15],[4,5,8,9,10,11,12,13,14,15],[4,5,8,9,10,11,12,13,14,15],[4,5,8,9,10,11,12,13,14,15],[0,1,2,3,8,9,10,11,12,13,14,15],[0,1,2,3,8,9,10,11,12,13,14,15],[8,9,10,11,12,13,14,15],[8,9,10,11,12,13,14,15],[0,1,2,3,4,5,6,7,12,13,14,15],[0,1,2,3,4,5,6,7,12,13,14,15],[0,1,2,3,4,5,6,7,12,13,14,15],[0,1,2,3,4,5,6,7,12,13,14,15],[0,1,2,3,4,5,6,7,8,9,10,11],[0,1,2,3,4,5,6,7,8,9,10,11],[0,1,2,3,4,5,6,7,8,9,10,11],[0,1,2,3,4,5,6,7,8,9,10,11],[],[]]
 |_=>[]
def aq9:Nat->List (List Nat)
 |1=>[[1,2,3,4,5,6],[0,3,4,6],[0,3,4,6],[0,1,2,4,6],[0,1,2,3,6],[0,6],[0,1,2,3,4,5],[],[],[]]
 |5=>[[1,2,3,4,5,6,7,8,9,10,11,12,13],[0,5,6,7,8,9,10,11,12],[0,5,6,7,8,9,10,11,12],[0,5,6,7,8,9,10,11,12],[0,5,6,7,8,9,10,11,12],[0,1,2,3,4,7],[0,1,2,3,4,7],[0,1,2,3,4,5,6],[0,1,2,3,4],[0,1,2,3,4],[0,1,2,3,4],[0,1,2,3,4],[0,1,2,3,4],[0],[],[],[]]
 |7=>[[4,5,6,7,8,9,10,11],[4,5,6,7,8,9,10,11],[4,5,6,7,8,9,10,11],[4,5,6,7,8,9,10,11],[0,1,2,3,8,9,10,11],[0,1,2,3,8,9,10,11],[0,1,2,3,8,9,10,11],[0,1,2,3,8,9,10,11],[0,1,2,3,4,5,6,7],[0,1,2,3,4,5,6,7],[0,1,2,3,4,5,6,7],[0,1,2,3,4,5,6,7],[],[]]
 |_=>[]
def ara:Nat->List (List Nat)
 |6=>[[2,5,6,7,8,9],[2,5,6,7,8,9],[0,1,5,6,7,8,9],[5,6,7,8,9],[5,6,7,8,9],[0,1,2,3,4,7],[0,1,2,3,4,7],[0,1,2,3,4,5,6],[0,1,2,3,4],[0,1,2,3,4],[]]
 |_=>[]
def arb:Nat->List (List Nat)
 |3=>[[1,2,3],[0,2,3,4],[0,1,3,4,5],[0,1,2,4,5,6],[1,2,3],[2,3],[3],[]]
 |10=>[[1,2],[0,2,3],[0,1,3,4,5],[1,2],[2],[2],[]]
 |_=>[]
def arc:Nat->List (List Nat)
 |1=>[[1,2,3,4],[0],[0],[0],[0],[],[],[]]
 |_=>[]
def ard:Nat->List (List Nat)
 |1=>[[1,2,3,4,5,6,7],[0,5,6],[0,5,6],[0,5,6],[0,5,6],[0,1,2,3,4],[0,1,2,3,4],[0],[],[],[]]
 |3=>[[1,2,3,4,5,6,7,8,9],[0,5,6,7,8],[0,5,6,7,8],[0,5,6,7,8],[0,5,6,7,8],[0,1,2,3,4],[0,1,2,3,4],[0,1,2,3,4],[0,1,2,3,4],[0],[],[],[]]
 |_=>[]
def are:Nat->List (List Nat)
 |6=>[[1,2,3,4,5,6,7,8],[0,5,6],[0,5,6],[0,5,6],[0,5,6],[0,1,2,3,4],[0,1,2,3,4],[0],[0],[]]
 |8=>[[1,2,3,4,5,6,7,8,9,10],[0,5,6],[0,5,6],[0,5,6],[0,5,6],[0,1,2,3,4],[0,1,2,3,4],[0],[0],[0],[0],[]]
 |11=>[[1,2,3],[0,2,3],[0,1],[0,1],[],[],[7],[6,8],[7],[]]
 |18=>[[4,5,6],[4,5,6],[4,5,6],[4,5,6],[0,1,2,3,6],[0,1,2,3,6],[0,1,2,3,4,5],[],[]]
 |21=>[[1,2,3],[0,2,3],[0,1],[0,1],[],[],[7],[6,8],[7],[]]
 |_=>[]
def arf:Nat->List (List Nat)
 |15=>[[4,5,7,8,9,10,11,12,13,14,15,16,17,18,19,20],[4,5,7,8,9,10,11,12,13,14,15,16,17,18,19,20],[4,5,7,8,9,10,11,12,13,14,15,16,17,18,19,20],[4,5,7,8,9,10,11,12,13,14,15,16,17,18,19,20],[0,1,2,3,7,8,9,10,11,12,13,14,15,16,17,18,19,20],[0,1,2,3,7,8,9,10,11,12,13,14,15,16,17,18,19,20],[7,8,9,10,11,12,13,14,15,16,17,18,19,20],[0,1,2,3,4,5,6,9,10,11,12,13,14,15,16,17,18,19],[0,1,2,3,4,5,6,9,10,11,12,13,14,15,16,17,18,19],[0,1,2,3,4,5,6,7,8,13,14,15,16,17,18],[0,1,2,3,4,5,6,7,8,13,14,15,16,17,18],[0,1,2,3,4,5,6,7,8,13,14,15,16,17,18],[0,1,2,3,4,5,6,7,8,13,14,15,16,17,18],[0,1,2,3,4,5,6,7,8,9,10,11,12,15,16,17,18],[0,1,2,3,4,5,6,7,8,9,10,11,12,15,16,17,18],[0,1,2,3,4,5,6,7,8,9,10,11,12,13,14,17],[0,1,2,3,4,5,6,7,8,9,10,11,12,13,14,17],[0,1,2,3,4,5,6,7,8,9,10,11,12,13,14,15,16],[0,1,2,3,4,5,6,7,8,9,10,11,12,13,14],[0,1,2,3,4,5,6,7,8],[0,1,2,3,4,5,6],[]]
 |19=>[[4,5],[4,5],[4,5],[4,5],[0,1,2,3],[0,1,2,3],[],[],[]]
 |_=>[]
def arh:Nat->List (List Nat)
 |5=>[[1,2,3,4,5,6,7,8],[0,3,4,5,6,7],[0,3,4,5,6,7],[0,1,2,4,5,6,7],[0,1,2,3,5],[0,1,2,3,4],[0,1,2,3],[0,1,2,3],[0],[],[],[]]
 |_=>[]
def ari:Nat->List (List Nat)
 |12=>[[2,3,4,5,6,7,8,9,10,11],[2,3,4,5,6,7,8,9,10,11],[0,1,3,7],[0,1,2,7],[0,1,7],[0,1,7],[0,1,7],[0,1,2,3,4,5,6],[0,1],[0,1],[0,1],[0,1],[],[],[]]
 |17=>[[2,3,4,5,6,7,8,9,10,11],[2,3,4,5,6,7,8,9,10,11],[0,1,3,7],[0,1,2,7],[0,1,7],[0,1,7],[0,1,7],[0,1,2,3,4,5,6],[0,1],[0,1],[0,1],[0,1],[],[],[]]
 |_=>[]
def arj:Nat->List (List Nat)
 |5=>[[4,5],[4,5],[4,5],[4,5],[0,1,2,3],[0,1,2,3],[],[]]
 |_=>[]
def ark:Nat->List (List Nat)
 |16=>[[4,5,6,7,8,9,10,11,12,13,14,15],[4,5,6,7,8,9,10,11,12,13,14,15],[4,5,6,7,8,9,10,11,12,13,14,15],[4,5,6,7,8,9,10,11,12,13,14,15],[0,1,2,3,5,6,7,8,9,10,11,12,13,14,15],[0,1,2,3,4,9,12,13,14],[0,1,2,3,4,9,12,13,14],[0,1,2,3,4,9,12,13,14],[0,1,2,3,4,9,12,13,14],[0,1,2,3,4,5,6,7,8,12,13,14],[0,1,2,3,4,12,13,14],[0,1,2,3,4,12,13,14],[0,1,2,3,4,5,6,7,8,9,10,11],[0,1,2,3,4,5,6,7,8,9,10,11],[0,1,2,3,4,5,6,7,8,9,10,11],[0,1,2,3,4],[],[]]
 |18=>[[1,2,3,4,5,6,7,8],[0,5,6,7],[0,5,6,7],[0,5,6,7],[0,5,6,7],[0,1,2,3,4],[0,1,2,3,4],[0,1,2,3,4],[0],[],[],[]]
 |_=>[]
def arl:Nat->List (List Nat)
 |0=>[[4,5,6],[4,5,6],[4,5,6],[4,5,6],[0,1,2,3,5,6],[0,1,2,3,4],[0,1,2,3,4],[],[],[]]
 |_=>[]
def arn:Nat->List (List Nat)
 |5=>[[1],[0],[],[],[],[],[7,8,9,10,11],[6,8],[6,7],[6],[6],[6],[],[],[],[],[],[],[19,23,24,25,26,27,28,29,30,31],[18,23,24,25,26,27,28,29,30,31],[23,24,25,26,27,28,29,30,31],[23,24,25,26,27,28,29,30,31],[23,24,25,26,27,28,29,30,31],[18,19,20,21,22,24,25,26,27,28],[18,19,20,21,22,23,25],[18,19,20,21,22,23,24],[18,19,20,21,22,23],[18,19,20,21,22,23],[18,19,20,21,22,23],[18,19,20,21,22],[18,19,20,21,22],[18,19,20,21,22],[],[]]
 |_=>[]
def aro:Nat->List (List Nat)
 |0=>[[1,2,3,4,5],[0,5,6,7],[0,5,6,7],[0,5,6,7],[0,5,6,7],[0,1,2,3,4,6,7],[1,2,3,4,5],[1,2,3,4,5],[],[]]
 |_=>[]
def arp:Nat->List (List Nat)
 |2=>[[1,2,3,4],[0,5,6],[0,5,6],[0,5,6],[0,5,6],[1,2,3,4],[1,2,3,4],[],[],[]]
 |_=>[]
def arq:Nat->List (List Nat)
 |4=>[[3,4,5,6,7,8,9,10,11,12],[3,4,5,6,7,8,9,10,11,12],[3,4,5,6,7,8,9,10,11,12],[0,1,2,7,9,10,11,12],[0,1,2,7,9,10,11,12],[0,1,2,7,9,10,11,12],[0,1,2,7,9,10,11,12],[0,1,2,3,4,5,6,9,10,11,12],[0,1,2,9,10,11,12],[0,1,2,3,4,5,6,7,8],[0,1,2,3,4,5,6,7,8],[0,1,2,3,4,5,6,7,8],[0,1,2,3,4,5,6,7,8],[],[],[]]
 |_=>[]
def ars:Nat->List (List Nat)
 |1=>[[4,5,8,9,10,11,12,13,14,15,16,17,18,19,20,21,22,23,24],[4,5,8,9,10,11,12,13,14,15,16,17,18,19,20,21,22,23,24],[4,5,8,9,10,11,12,13,14,15,16,17,18,19,20,21,22,23,24],[4,5,8,9,10,11,12,13,14,15,16,17,18,19,20,21,22,23,24],[0,1,2,3,8,9,10,11,12,13,14,15,16,17,18,19,20,21,22,23,24],[0,1,2,3,8,9,10,11,12,13,14,15,16,17,18,19,20,21,22,23,24],[8,9,10,11,12,13,14,15,16,17,18,19,20,21,22,23,24],[8,9,10,11,12,13,14,15,16,17,18,19,20,21,22,23,24],[0,1,2,3,4,5,6,7,12,13,16,17,18,19,20,21,22,23,24,25],[0,1,2,3,4,5,6,7,12,13,16,17,18,19,20,21,22,23,24,25],[0,1,2,3,4,5,6,7,12,13,16,17,18,19,20,21,22,23,24,25],[0,1,2,3,4,5,6,7,12,13,16,17,18,19,20,21,22,23,24,25],[0,1,2,3,4,5,6,7,8,9,10,11,16,17,18,19,20,21,22,23,24,25],[0,1,2,3,4,5,6,7,8,9,10,11,16,17,18,19,20,21,22,23,24,25],[0,1,2,3,4,5,6,7,16,17,18,19,20,21,22,23,24,25],[0,1,2,3,4,5,6,7,16,17,18,19,20,21,22,23,24,25],[0,1,2,3,4,5,6,7,8,9,10,11,12,13,14,15,20,21,22,25,26],[0,1,2,3,4,5,6,7,8,9,10,11,12,13,14,15,20,21,22,25,26],[0,1,2,3,4,5,6,7,8,9,10,11,12,13,14,15,20,21,22,25,26],[0,1,2,3,4,5,6,7,8,9,10,11,12,13,14,15,20,21,22,25,26],[0,1,2,3,4,5,6,7,8,9,10,11,12,13,14,15,16,17,18,19,25,26],[0,1,2,3,4,5,6,7,8,9,10,11,12,13,14,15,16,17,18,19,25,26],[0,1,2,3,4,5,6,7,8,9,10,11,12,13,14,15,16,17,18,19,25,26],[0,1,2,3,4,5,6,7,8,9,10,11,12,13,14,15,25,26],[0,1,2,3,4,5,6,7,8,9,10,11,12,13,14,15,25,26],[8,9,10,11,12,13,14,15,16,17,18,19,20,21,22,23,24],[16,17,18,19,20,21,22,23,24],[]]
 |_=>[]
def art:Nat->List (List Nat)
 |64=>[[1,2,3,4,5,6,7],[0,3,4,5,6,7],[0,3,4,5,6,7],[0,1,2,5],[0,1,2,5],[0,1,2,3,4],[0,1,2],[0,1,2],[],[],[11],[10,12],[11],[]]
 |67=>[[2,3,4,5,6,7,8,9,10,11,12],[2,3,4,5,6,7,8,9,10,11,12],[0,1,3,4,5,6,7,8,9,10,11],[0,1,2,7,8,9,10],[0,1,2,7,8,9,10],[0,1,2,7,8,9,10],[0,1,2,7,8,9,10],[0,1,2,3,4,5,6,8,9,10],[0,1,2,3,4,5,6,7,9],[0,1,2,3,4,5,6,7,8],[0,1,2,3,4,5,6,7],[0,1,2],[0,1],[],[]]
 |71=>[[4,5,6,7,8,9,10],[4,5,6,7,8,9,10],[4,5,6,7,8,9,10],[4,5,6,7,8,9,10],[0,1,2,3,5,7,8,9,10],[0,1,2,3,4,7,8,9,10],[0,1,2,3,7,8,9,10],[0,1,2,3,4,5,6,8],[0,1,2,3,4,5,6,7],[0,1,2,3,4,5,6],[0,1,2,3,4,5,6],[],[]]
 |_=>[]
def aru:Nat->List (List Nat)
 |1=>[[4,5,11],[4,5,11],[4,5,11],[4,5,11],[0,1,2,3,11],[0,1,2,3,11],[11],[11],[9,10,11],[8,10,11,12],[8,9,11,12,13],[0,1,2,3,4,5,6,7,8,9,10],[9,10],[10],[]]
 |4=>[[4,5,6],[4,5,6],[4,5,6],[4,5,6],[0,1,2,3],[0,1,2,3],[0,1,2,3],[],[],[10,11],[9,11,12],[9,10,12,13],[10,11],[11]]
 |8=>[[1,2,3,4,5,6,7,8,9,10,11],[0,2,3,5,6,7,8,9,10],[0,1,5,6,7,8,9,10],[0,1,5,6,7,8,9,10],[0,5,6,7,8,9,10],[0,1,2,3,4,6,7,8,9],[0,1,2,3,4,5,8,9],[0,1,2,3,4,5,8,9],[0,1,2,3,4,5,6,7],[0,1,2,3,4,5,6,7],[0,1,2,3,4],[0],[],[],[]]
 |32=>[[1,2,3,4,5,6,7,8,9,10,11,12,13,14,15,16,17,18,19,20,21],[0,2,3,4,5,6,7,8,9,10,11,12,13,14,15,16,17,18,20],[0,1,4,7,10,11,12,13,14,15,16,17,18,20],[0,1,4,7,10,11,12,13,14,15,16,17,18,20],[0,1,2,3,7,10,11,12,13,14,15,16,17,18,20],[0,1,7,10,11,12,13,14,15,16,17,18,20],[0,1,7,10,11,12,13,14,15,16,17,18,20],[0,1,2,3,4,5,6,10,11,12,13,14,15,16,17,18,20],[0,1,10,11,12,13,14,15,16,17,18,20],[0,1,10,11,12,13,14,15,16,17,18,20],[0,1,2,3,4,5,6,7,8,9,12,15,16,20],[0,1,2,3,4,5,6,7,8,9,12,15,16,20],[0,1,2,3,4,5,6,7,8,9,10,11,15,16,20],[0,1,2,3,4,5,6,7,8,9,15,16,20],[0,1,2,3,4,5,6,7,8,9,15,16,20],[0,1,2,3,4,5,6,7,8,9,10,11,12,13,14,20],[0,1,2,3,4,5,6,7,8,9,10,11,12,13,14,20],[0,1,2,3,4,5,6,7,8,9,20],[0,1,2,3,4,5,6,7,8,9,20],[0,20],[0,1,2,3,4,5,6,7,8,9,10,11,12,13,14,15,16,17,18,19],[0],[],[]]
 |39=>[[1,2,3,4,6,7,8,9,10,12,13,14,15,16,18,19,20,21,22,23,24,25],[0,6,7,8,9,10,12,13,14,15,16,18,19,20,21,22,23,24,25],[0,6,7,8,9,10,12,13,14,15,16,18,19,20,21,22,23,24,25],[0,6,7,8,9,10,12,13,14,15,16,18,19,20,21,22,23,24,25],[0,6,7,8,9,10,12,13,14,15,16,18,19,20,21,22,23,24,25],[6,7,8,9,10,12,13,14,15,16,18,19,20,21,22,23,24,25],[0,1,2,3,4,5,7,8,9,10,12,13,14,15,16,18,19,20,21,22,23,24,25],[0,1,2,3,4,5,6,12,13,14,15,16,18,19,20,21,22,23,24,25],[0,1,2,3,4,5,6,12,13,14,15,16,18,19,20,21,22,23,24,25],[0,1,2,3,4,5,6,12,13,14,15,16,18,19,20,21,22,23,24,25],[0,1,2,3,4,5,6,12,13,14,15,16,18,19,20,21,22,23,24,25],[12,13,14,15,16,18,19,20,21,22,23,24,25],[0,1,2,3,4,5,6,7,8,9,10,11,13,14,15,16,18,19,20,21,22,23,24,25],[0,1,2,3,4,5,6,7,8,9,10,11,12,18,19,20,21,22,23,24,25],[0,1,2,3,4,5,6,7,8,9,10,11,12,18,19,20,21,22,23,24,25],[0,1,2,3,4,5,6,7,8,9,10,11,12,18,19,20,21,22,23,24,25],[0,1,2,3,4,5,6,7,8,9,10,11,12,18,19,20,21,22,23,24,25],[18,19,20,21,22,23,24,25],[0,1,2,3,4,5,6,7,8,9,10,11,12,13,14,15,16,17,21,22,23,24],[0,1,2,3,4,5,6,7,8,9,10,11,12,13,14,15,16,17,21,22,23,24],[0,1,2,3,4,5,6,7,8,9,10,11,12,13,14,15,16,17,21,22,23,24],[0,1,2,3,4,5,6,7,8,9,10,11,12,13,14,15,16,17,18,19,20,23,24],[0,1,2,3,4,5,6,7,8,9,10,11,12,13,14,15,16,17,18,19,20,23,24],[0,1,2,3,4,5,6,7,8,9,10,11,12,13,14,15,16,17,18,19,20,21,22],[0,1,2,3,4,5,6,7,8,9,10,11,12,13,14,15,16,17,18,19,20,21,22],[0,1,2,3,4,5,6,7,8,9,10,11,12,13,14,15,16,17],[],[],[]]
 |47=>[[2,3,4,6],[2,3,4,6],[0,1,3,4,6],[0,1,2,6],[0,1,2,6],[6],[0,1,2,3,4,5],[],[],[],[]]
 |53=>[[1,2,3,4,5,6,9,10],[0,3,4,5,9,10],[0,3,4,5,9,10],[0,1,2,4,5,9,10],[0,1,2,3,9,10],[0,1,2,3,9,10],[0,9,10],[9,10],[9,10],[0,1,2,3,4,5,6,7,8],[0,1,2,3,4,5,6,7,8],[],[]]
 |63=>[[4,5,6,7,8,9,10,16],[4,5,6,7,8,9,10,16],[4,5,6,7,8,9,10,16],[4,5,6,7,8,9,10,16],[0,1,2,3,6,7,8,9,10,16],[0,1,2,3,6,7,8,9,10,16],[0,1,2,3,4,5,8,16],[0,1,2,3,4,5,8,16],[0,1,2,3,4,5,6,7,16],[0,1,2,3,4,5,16],[0,1,2,3,4,5,16],[16],[16],[14,15,16],[13,15,16,17],[13,14,16,17,18],[0,1,2,3,4,5,6,7,8,9,10,11,12,13,14,15],[14,15],[15],[]]
 |_=>[]
def arv:Nat->List (List Nat)
 |6=>[[2,3,4,5,6,7,8],[2,3,4,5,6,7,8],[0,1,4],[0,1,4],[0,1,2,3],[0,1],[0,1],[0,1],[0,1],[],[],[]]
 |_=>[]
def akf:Nat->List (List Nat)
 |5=>[[1,2,3,4,5],[0,2,3,4,5,6,7],[0,1,4,5],[0,1,4,5],[0,1,2,3,6,7],[0,1,2,3,6,7],[1,4,5],[1,4,5],[],[]]
 |_=>[]
def akg:Nat->List (List Nat)
 |4=>[[4,7,8],[4,7,8],[4,7,8],[4,7,8],[0,1,2,3,7,8],[7,8],[7,8],[0,1,2,3,4,5,6],[0,1,2,3,4,5,6],[]]
 |7=>[[1,2,3,4,5,6,7],[0,5,6],[0,5,6],[0,5,6],[0,5,6],[0,1,2,3,4],[0,1,2,3,4],[0],[],[],[]]
 |_=>[]
def akh:Nat->List (List Nat)
 |1=>[[4,5,6,12],[4,5,6,12],[4,5,6,12],[4,5,6,12],[0,1,2,3,12],[0,1,2,3,12],[0,1,2,3,12],[12],[12],[10,11,12],[9,11,12,13],[9,10,12,13,14],[0,1,2,3,4,5,6,7,8,9,10,11],[10,11],[11],[]]
 |_=>[]
def aki:Nat->List (List Nat)
 |0=>[[1,2,3,4,5],[0,3],[0,3],[0,1,2],[0],[0],[]]
 |_=>[]
def akj:Nat->List (List Nat)
 |7=>[[4,5,11],[4,5,11],[4,5,11],[4,5,11],[0,1,2,3,11],[0,1,2,3,11],[11],[11],[9,10,11],[8,10,11,12],[8,9,11,12,13],[0,1,2,3,4,5,6,7,8,9,10],[9,10],[10],[]]
 |11=>[[4,5,11],[4,5,11],[4,5,11],[4,5,11],[0,1,2,3,11],[0,1,2,3,11],[11],[11],[9,10,11],[8,10,11,12],[8,9,11,12,13],[0,1,2,3,4,5,6,7,8,9,10],[9,10],[10],[]]
 |19=>[[4,5,6,7,13],[4,5,6,7,13],[4,5,6,7,13],[4,5,6,7,13],[0,1,2,3,6,7,13],[0,1,2,3,6,7,13],[0,1,2,3,4,5,13],[0,1,2,3,4,5,13],[13],[13],[11,12,13],[10,12,13,14],[10,11,13,14,15],[0,1,2,3,4,5,6,7,8,9,10,11,12],[11,12],[12],[]]
 |_=>[]
def akk:Nat->List (List Nat)
 |2=>[[4,5,11,12],[4,5,11,12],[4,5,11,12],[4,5,11,12],[0,1,2,3,11,12],[0,1,2,3,11,12],[11,12],[11,12],[9,10,11,12],[8,10,11,12,13],[8,9,11,12,13,14],[0,1,2,3,4,5,6,7,8,9,10,12],[0,1,2,3,4,5,6,7,8,9,10,11],[9,10],[10],[]]
 |_=>[]
def akl:Nat->List (List Nat)
 |1=>[[4,5,11],[4,5,11],[4,5,11],[4,5,11],[0,1,2,3,11],[0,1,2,3,11],[11],[11],[9,10,11],[8,10,11,12],[8,9,11,12,13],[0,1,2,3,4,5,6,7,8,9,10],[9,10],[10],[]]
 |5=>[[4,5,6,12],[4,5,6,12],[4,5,6,12],[4,5,6,12],[0,1,2,3,6,12],[0,1,2,3,6,12],[0,1,2,3,4,5,12],[12],[12],[10,11,12],[9,11,12,13],[9,10,12,13,14],[0,1,2,3,4,5,6,7,8,9,10,11],[10,11],[11],[]]
 |_=>[]
def akm:Nat->List (List Nat)
 |5=>[[5,8,9,10,11,12,13,14,15],[5,8,9,10,11,12,13,14,15],[5,8,9,10,11,12,13,14,15],[5,8,9,10,11,12,13,14,15],[5,8,9,10,11,12,13,14,15],[0,1,2,3,4,8,9,10,11,12,13,14,15],[8,9,10,11,12,13,14,15],[8,9,10,11,12,13,14,15],[0,1,2,3,4,5,6,7,13,16],[0,1,2,3,4,5,6,7,13,16],[0,1,2,3,4,5,6,7,13,16],[0,1,2,3,4,5,6,7,13,16],[0,1,2,3,4,5,6,7,13,16],[0,1,2,3,4,5,6,7,8,9,10,11,12,16],[0,1,2,3,4,5,6,7,16],[0,1,2,3,4,5,6,7,16],[8,9,10,11,12,13,14,15],[]]
 |_=>[]
def akn:Nat->List (List Nat)
 |4=>[[2,3,4],[2,3,4],[0,1,5],[0,1,5],[0,1,5],[2,3,4],[]]
 |_=>[]
def ako:Nat->List (List Nat)
 |10=>[[4,5,6,7],[4,5,6,7],[4,5,6,7],[4,5,6,7],[0,1,2,3,5,6,7],[0,1,2,3,4],[0,1,2,3,4],[0,1,2,3,4],[],[]]
 |18=>[[4,7,8,9],[4,7,8,9],[4,7,8,9],[4,7,8,9],[0,1,2,3,7,8,9],[7,8,9],[7,8,9],[0,1,2,3,4,5,6],[0,1,2,3,4,5,6],[0,1,2,3,4,5,6],[],[],[],[14,15],[13,15,16],[13,14,16,17],[14,15],[15],[]]
 |_=>[]
def akp:Nat->List (List Nat)
 |9=>[[5,8,10,11,12,13,14,15,16,17,18,19,20],[5,8,10,11,12,13,14,15,16,17,18,19,20],[5,8,10,11,12,13,14,15,16,17,18,19,20],[5,8,10,11,12,13,14,15,16,17,18,19,20],[5,8,10,11,12,13,14,15,16,17,18,19,20],[0,1,2,3,4,8,10,11,12,13,14,15,16,17,18,19,20],[8,10,11,12,13,14,15,16,17,18,19,20],[8,10,11,12,13,14,15,16,17,18,19,20],[0,1,2,3,4,5,6,7,10,11,12,13,14,15,16,17,18,19,20],[10,11,12,13,14,15,16,17,18,19,20],[0,1,2,3,4,5,6,7,8,9,14,17,21],[0,1,2,3,4,5,6,7,8,9,14,17,21],[0,1,2,3,4,5,6,7,8,9,14,17,21],[0,1,2,3,4,5,6,7,8,9,14,17,21],[0,1,2,3,4,5,6,7,8,9,10,11,12,13,17,21],[0,1,2,3,4,5,6,7,8,9,17,21],[0,1,2,3,4,5,6,7,8,9,17,21],[0,1,2,3,4,5,6,7,8,9,10,11,12,13,14,15,16,21],[0,1,2,3,4,5,6,7,8,9,21],[0,1,2,3,4,5,6,7,8,9,21],[0,1,2,3,4,5,6,7,8,9,21],[10,11,12,13,14,15,16,17,18,19,20],[]]
 |_=>[]
def akq:Nat->List (List Nat)
 |6=>[[3,4,5],[3,4,5],[3,4,5],[0,1,2],[0,1,2],[0,1,2],[],[]]
 |7=>[[3,4,5],[3,4,5],[3,4,5],[0,1,2],[0,1,2],[0,1,2],[],[]]
 |8=>[[3,4,5,6,7,8,9,10,11,12],[3,4,5,6,7,8,9,10,11,12],[3,4,5,6,7,8,9,10,11,12],[0,1,2,6,7,8,9,10,11,12],[0,1,2,6,7,8,9,10,11,12],[0,1,2,6,7,8,9,10,11,12],[0,1,2,3,4,5,7,8,9,12],[0,1,2,3,4,5,6,12],[0,1,2,3,4,5,6,12],[0,1,2,3,4,5,6,12],[0,1,2,3,4,5,12],[0,1,2,3,4,5,12],[0,1,2,3,4,5,6,7,8,9,10,11],[],[]]
 |11=>[[3,4,5],[3,4,5],[3,4,5],[0,1,2],[0,1,2],[0,1,2],[],[]]
 |14=>[[3,4,5],[3,4,5],[3,4,5],[0,1,2],[0,1,2],[0,1,2],[],[]]
 |15=>[[3,4,5,6,7,8,9,10,11,12],[3,4,5,6,7,8,9,10,11,12],[3,4,5,6,7,8,9,10,11,12],[0,1,2,6,7,8,9,10,11,12],[0,1,2,6,7,8,9,10,11,12],[0,1,2,6,7,8,9,10,11,12],[0,1,2,3,4,5,7,8,9,12],[0,1,2,3,4,5,6,12],[0,1,2,3,4,5,6,12],[0,1,2,3,4,5,6,12],[0,1,2,3,4,5,12],[0,1,2,3,4,5,12],[0,1,2,3,4,5,6,7,8,9,10,11],[],[]]
 |17=>[[3,4,5,6,7,8],[3,4,5,6,7,8],[3,4,5,6,7,8],[0,1,2,6,7,8,9],[0,1,2,6,7,8,9],[0,1,2,6,7,8,9],[0,1,2,3,4,5,9,10],[0,1,2,3,4,5,9,10],[0,1,2,3,4,5,9,10],[3,4,5,6,7,8],[6,7,8],[]]
 |24=>[[3,4,5,6,7,8,9,10,11,12,13],[3,4,5,6,7,8,9,10,11,12,13],[3,4,5,6,7,8,9,10,11,12,13],[0,1,2,6,7,8,9,10,11,12,13],[0,1,2,6,7,8,9,10,11,12,13],[0,1,2,6,7,8,9,10,11,12,13],[0,1,2,3,4,5,7,8,9,10,11,12,13],[0,1,2,3,4,5,6,8,9,10,11,12,13],[0,1,2,3,4,5,6,7,13],[0,1,2,3,4,5,6,7,13],[0,1,2,3,4,5,6,7,13],[0,1,2,3,4,5,6,7,13],[0,1,2,3,4,5,6,7,13],[0,1,2,3,4,5,6,7,8,9,10,11,12],[],[]]
 |31=>[[3,4,5,6,7,8,9,10,11,12,13,14,15,16,17,18,19,20],[3,4,5,6,7,8,9,10,11,12,13,14,15,16,17,18,19,20],[3,4,5,6,7,8,9,10,11,12,13,14,15,16,17,18,19,20],[0,1,2,6,7,8,9,10,11,12,13,14,15,16,17,18,19,20],[0,1,2,6,7,8,9,10,11,12,13,14,15,16,17,18,19,20],[0,1,2,6,7,8,9,10,11,12,13,14,15,16,17,18,19,20],[0,1,2,3,4,5,9,10,11,12,13,14,15,16,17,18,19,20],[0,1,2,3,4,5,9,10,11,12,13,14,15,16,17,18,19,20],[0,1,2,3,4,5,9,10,11,12,13,14,15,16,17,18,19,20],[0,1,2,3,4,5,6,7,8,10,11,12,15,16,17,18,19],[0,1,2,3,4,5,6,7,8,9,15,16,17,18,19],[0,1,2,3,4,5,6,7,8,9,15,16,17,18,19],[0,1,2,3,4,5,6,7,8,9,15,16,17,18,19],[0,1,2,3,4,5,6,7,8,15,16,17,18,19],[0,1,2,3,4,5,6,7,8,15,16,17,18,19],[0,1,2,3,4,5,6,7,8,9,10,11,12,13,14,16,17,18,19,20],[0,1,2,3,4,5,6,7,8,9,10,11,12,13,14,15],[0,1,2,3,4,5,6,7,8,9,10,11,12,13,14,15],[0,1,2,3,4,5,6,7,8,9,10,11,12,13,14,15],[0,1,2,3,4,5,6,7,8,9,10,11,12,13,14,15],[0,1,2,3,4,5,6,7,8,15],[],[]]
 |38=>[[3,4,5,6,7,8,9,10,11,12,13,14,15,16,17],[3,4,5,6,7,8,9,10,11,12,13,14,15,16,17],[3,4,5,6,7,8,9,10,11,12,13,14,15,16,17],[0,1,2,6,7,8,9,10,11,12,13,14,15,16,17],[0,1,2,6,7,8,9,10,11,12,13,14,15,16,17],[0,1,2,6,7,8,9,10,11,12,13,14,15,16,17],[0,1,2,3,4,5,9,10,11,12,13,14,15,16,17],[0,1,2,3,4,5,9,10,11,12,13,14,15,16,17],[0,1,2,3,4,5,9,10,11,12,13,14,15,16,17],[0,1,2,3,4,5,6,7,8,12,13,14,15,16],[0,1,2,3,4,5,6,7,8,12,13,14,15,16],[0,1,2,3,4,5,6,7,8,12,13,14,15,16],[0,1,2,3,4,5,6,7,8,9,10,11,13,14,15,16,17],[0,1,2,3,4,5,6,7,8,9,10,11,12],[0,1,2,3,4,5,6,7,8,9,10,11,12],[0,1,2,3,4,5,6,7,8,9,10,11,12],[0,1,2,3,4,5,6,7,8,9,10,11,12],[0,1,2,3,4,5,6,7,8,12],[],[]]
 |40=>[[3,4,5,6,7,8,9,10,11,12,13,14,15,16,17,18],[3,4,5,6,7,8,9,10,11,12,13,14,15,16,17,18],[3,4,5,6,7,8,9,10,11,12,13,14,15,16,17,18],[0,1,2,14,15,16,17],[0,1,2,14,15,16,17],[0,1,2,14,15,16,17],[0,1,2,14,15,16,17],[0,1,2,14,15,16,17],[0,1,2,14,15,16,17],[0,1,2,14,15,16,17],[0,1,2,14,15,16,17],[0,1,2,14,15,16,17],[0,1,2,14,15,16,17],[0,1,2,14,15,16,17],[0,1,2,3,4,5,6,7,8,9,10,11,12,13],[0,1,2,3,4,5,6,7,8,9,10,11,12,13],[0,1,2,3,4,5,6,7,8,9,10,11,12,13],[0,1,2,3,4,5,6,7,8,9,10,11,12,13],[0,1,2],[],[]]
 |42=>[[3,4,5,6,7,8,9,10,11,12,13,14,15,16,17,18],[3,4,5,6,7,8,9,10,11,12,13,14,15,16,17,18],[3,4,5,6,7,8,9,10,11,12,13,14,15,16,17,18],[0,1,2,14,15,16,17],[0,1,2,14,15,16,17],[0,1,2,14,15,16,17],[0,1,2,14,15,16,17],[0,1,2,14,15,16,17],[0,1,2,14,15,16,17],[0,1,2,14,15,16,17],[0,1,2,14,15,16,17],[0,1,2,14,15,16,17],[0,1,2,14,15,16,17],[0,1,2,14,15,16,17],[0,1,2,3,4,5,6,7,8,9,10,11,12,13],[0,1,2,3,4,5,6,7,8,9,10,11,12,13],[0,1,2,3,4,5,6,7,8,9,10,11,12,13],[0,1,2,3,4,5,6,7,8,9,10,11,12,13],[0,1,2],[],[]]
 |44=>[[3,4,5,6,7,8,9,10,11,12,13,14,15,16,17,18,19,20,21,22],[3,4,5,6,7,8,9,10,11,12,13,14,15,16,17,18,19,20,21,22],[3,4,5,6,7,8,9,10,11,12,13,14,15,16,17,18,19,20,21,22],[0,1,2,6,7,8,9,10,11,12,13,14,15,16,17,18,19,20,21,22],[0,1,2,6,7,8,9,10,11,12,13,14,15,16,17,18,19,20,21,22],[0,1,2,6,7,8,9,10,11,12,13,14,15,16,17,18,19,20,21,22],[0,1,2,3,4,5],[0,1,2,3,4,5],[0,1,2,3,4,5],[0,1,2,3,4,5],[0,1,2,3,4,5],[0,1,2,3,4,5],[0,1,2,3,4,5],[0,1,2,3,4,5],[0,1,2,3,4,5],[0,1,2,3,4,5],[0,1,2,3,4,5],[0,1,2,3,4,5],[0,1,2,3,4,5],[0,1,2,3,4,5],[0,1,2,3,4,5],[0,1,2,3,4,5],[0,1,2,3,4,5],[],[]]
 |46=>[[3,4,5,6,7,8,9,10,11,12,13,14,15,16,17,18,19,20,21,22],[3,4,5,6,7,8,9,10,11,12,13,14,15,16,17,18,19,20,21,22],[3,4,5,6,7,8,9,10,11,12,13,14,15,16,17,18,19,20,21,22],[0,1,2,6,7,8,9,10,11,12,13,14,15,16,17,18,19,20,21,22],[0,1,2,6,7,8,9,10,11,12,13,14,15,16,17,18,19,20,21,22],[0,1,2,6,7,8,9,10,11,12,13,14,15,16,17,18,19,20,21,22],[0,1,2,3,4,5],[0,1,2,3,4,5],[0,1,2,3,4,5],[0,1,2,3,4,5],[0,1,2,3,4,5],[0,1,2,3,4,5],[0,1,2,3,4,5],[0,1,2,3,4,5],[0,1,2,3,4,5],[0,1,2,3,4,5],[0,1,2,3,4,5],[0,1,2,3,4,5],[0,1,2,3,4,5],[0,1,2,3,4,5],[0,1,2,3,4,5],[0,1,2,3,4,5],[0,1,2,3,4,5],[],[]]
 |_=>[]
def akr:Nat->List (List Nat)
 |6=>[[2,5,6,7,8,9],[2,5,6,7,8,9],[0,1,5,6,7,8,9],[5,6,7,8,9],[5,6,7,8,9],[0,1,2,3,4,7,10],[0,1,2,3,4,7,10],[0,1,2,3,4,5,6,10],[0,1,2,3,4,10],[0,1,2,3,4,10],[5,6,7,8,9],[],[]]
 |_=>[]
def aks:Nat->List (List Nat)
 |10=>[[1,4,5,6],[0,4,5,6],[4,5,6],[4,5,6],[0,1,2,3,6],[0,1,2,3,6],[0,1,2,3,4,5],[],[],[]]
 |_=>[]
def akt:Nat->List (List Nat)
 |9=>[[1,3,4,5,6],[0,3,4,5,6],[3,4,5,6],[0,1,2,4,7],[0,1,2,3,7],[0,1,2,7],[0,1,2,7],[3,4,5,6],[],[]]
 |_=>[]
def aku:Nat->List (List Nat)
 |2=>[[2,3],[2,3],[0,1,4],[0,1,4],[2,3],[]]
 |_=>[]
def akv:Nat->List (List Nat)
 |17=>[[3,4,5],[3,4,5],[3,4,5],[0,1,2,6],[0,1,2,6],[0,1,2,6],[3,4,5],[]]
 |_=>[]
def akw:Nat->List (List Nat)
 |18=>[[5,6],[5,6],[5,6],[5,6],[5,6],[0,1,2,3,4],[0,1,2,3,4],[]]
 |_=>[]
def akx:Nat->List (List Nat)
 |3=>[[4,5,6,7,8,9,10,13],[4,5,6,7,8,9,10,13],[4,5,6,7,8,9,10,13],[4,5,6,7,8,9,10,13],[0,1,2,3,9,13],[0,1,2,3,9,13],[0,1,2,3,9,13],[0,1,2,3,9,13],[0,1,2,3,9,13],[0,1,2,3,4,5,6,7,8,13],[0,1,2,3,13],[13],[13],[0,1,2,3,4,5,6,7,8,9,10,11,12]]
 |9=>[[1,2,3,4,5,6,7,8,9,10,11,12],[0,5,6,7,8,9,10,11],[0,5,6,7,8,9,10,11],[0,5,6,7,8,9,10,11],[0,5,6,7,8,9,10,11],[0,1,2,3,4,10],[0,1,2,3,4,10],[0,1,2,3,4,10],[0,1,2,3,4,10],[0,1,2,3,4,10],[0,1,2,3,4,5,6,7,8,9],[0,1,2,3,4],[0],[],[],[]]
 |_=>[]
def aky:Nat->List (List Nat)
 |6=>[[1],[0,2],[1],[],[]]
 |_=>[]
def akz:Nat->List (List Nat)
 |8=>[[1,3,4,5,6],[0,3,4,5,6],[3,4,5,6],[0,1,2,4,7],[0,1,2,3,7],[0,1,2,7],[0,1,2,7],[3,4,5,6],[],[]]
 |_=>[]
def akA:Nat->List (List Nat)
 |5=>[[1,2,3,4,5,6,7,8,9,10,11],[0,2,3,4,5,6,7,8,9,10],[0,1,3,6,7,8,9,10],[0,1,2,6,7,8,9,10],[0,1,6,7,8,9,10],[0,1,6,7,8,9,10],[0,1,2,3,4,5,7,8],[0,1,2,3,4,5,6],[0,1,2,3,4,5,6],[0,1,2,3,4,5],[0,1,2,3,4,5],[0],[]]
 |_=>[]
def akB:Nat->List (List Nat)
 |4=>[[1,2,3,4],[0],[0],[0],[0],[]]
 |_=>[]
def akC:Nat->List (List Nat)
 |2=>[[1,2,3,4],[0],[0],[0],[0],[]]
 |9=>[[1,2,3,4],[0],[0],[0],[0],[]]
 |_=>[]
def akD:Nat->List (List Nat)
 |5=>[[4,5,6],[4,5,6],[4,5,6],[4,5,6],[0,1,2,3,7],[0,1,2,3,7],[0,1,2,3,7],[4,5,6],[]]
 |8=>[[4,5,11],[4,5,11],[4,5,11],[4,5,11],[0,1,2,3,11],[0,1,2,3,11],[11],[11],[9,10,11],[8,10,11,12],[8,9,11,12,13],[0,1,2,3,4,5,6,7,8,9,10],[9,10],[10],[]]
 |11=>[[4,5,6,7,13],[4,5,6,7,13],[4,5,6,7,13],[4,5,6,7,13],[0,1,2,3,6,7,13],[0,1,2,3,6,7,13],[0,1,2,3,4,5,13],[0,1,2,3,4,5,13],[13],[13],[11,12,13],[10,12,13,14],[10,11,13,14,15],[0,1,2,3,4,5,6,7,8,9,10,11,12],[11,12],[12],[]]
 |12=>[[1,2],[0,3],[0,3],[1,2],[]]
 |15=>[[4,5,11],[4,5,11],[4,5,11],[4,5,11],[0,1,2,3,11],[0,1,2,3,11],[11],[11],[9,10,11],[8,10,11,12],[8,9,11,12,13],[0,1,2,3,4,5,6,7,8,9,10],[9,10],[10],[]]
 |17=>[[1,2,3,4,5,6,7,8,9,10,13,14,15],[0,4,5,6,7,8,13,14,15],[0,4,5,6,7,8,13,14,15],[0,4,5,6,7,8,13,14,15],[0,1,2,3,5,6,7,8,13,14,15],[0,1,2,3,4,7,8,13,14,15],[0,1,2,3,4,7,8,13,14,15],[0,1,2,3,4,5,6,13,14,15],[0,1,2,3,4,5,6,13,14,15],[0,13,14,15],[0,13,14,15],[13,14,15],[13,14,15],[0,1,2,3,4,5,6,7,8,9,10,11,12,16],[0,1,2,3,4,5,6,7,8,9,10,11,12,16],[0,1,2,3,4,5,6,7,8,9,10,11,12,16],[13,14,15],[]]
 |29=>[[1,2,5,6,7],[0,5,6,7],[0,5,6,7],[5,6,7],[5,6,7],[0,1,2,3,4],[0,1,2,3,4],[0,1,2,3,4],[],[13],[13],[13],[13],[9,10,11,12],[]]
 |_=>[]
def akE:Nat->List (List Nat)
 |4=>[[1,2,7,8],[0,7,8],[0,7,8],[7,8],[7,8],[6,7,8],[5,7,8,9],[0,1,2,3,4,5,6,8],[0,1,2,3,4,5,6,7],[6],[]]
 |_=>[]
def akF:Nat->List (List Nat)
 |4=>[[1,2,4,6,7],[0,4,6,7],[0,4,6,7],[4,6,7],[0,1,2,3,6,7],[6,7],[0,1,2,3,4,5],[0,1,2,3,4,5],[]]
 |_=>[]
def akG:Nat->List (List Nat)
 |1=>[[1,4,5],[0,4,5],[4,5],[4,5],[0,1,2,3],[0,1,2,3],[]]
 |_=>[]
def akH:Nat->List (List Nat)
 |1=>[[1,4,5],[0,4,5],[4,5],[4,5],[0,1,2,3],[0,1,2,3],[]]
 |_=>[]
def akI:Nat->List (List Nat)
 |2=>[[2,3],[2,3],[0,1],[0,1],[]]
 |8=>[[2,4,7,8],[2,4,7,8],[0,1,4,7,8],[4,7,8],[0,1,2,3,7,8],[7,8],[7,8],[0,1,2,3,4,5,6],[0,1,2,3,4,5,6],[]]
 |9=>[[1,2,3,4,5,7,8,10,11,12,13,14,15],[0,3,7,8,10,11,12,13,14,15],[0,3,7,8,10,11,12,13,14,15],[0,1,2,7,8,10,11,12,13,14,15],[0,7,8,10,11,12,13,14,15],[0,7,8,10,11,12,13,14,15],[7,8,10,11,12,13,14,15],[0,1,2,3,4,5,6,10,11,12,13,14,15],[0,1,2,3,4,5,6,10,11,12,13,14,15],[10,11,12,13,14,15],[0,1,2,3,4,5,6,7,8,9,12],[0,1,2,3,4,5,6,7,8,9,12],[0,1,2,3,4,5,6,7,8,9,10,11],[0,1,2,3,4,5,6,7,8,9],[0,1,2,3,4,5,6,7,8,9],[0,1,2,3,4,5,6,7,8,9],[]]
 |_=>[]
def akJ:Nat->List (List Nat)
 |8=>[[1,4,5,6,7],[0,4,5,6,7],[4,5,6,7],[4,5,6,7],[0,1,2,3,5],[0,1,2,3,4],[0,1,2,3],[0,1,2,3],[],[]]
 |_=>[]
def akK:Nat->List (List Nat)
 |13=>[[1],[0,2],[1],[]]
 |_=>[]
def akL:Nat->List (List Nat)
 |5=>[[8,9],[8,9],[8,9],[8,9],[8,9],[8,9],[8,9],[8,9],[0,1,2,3,4,5,6,7],[0,1,2,3,4,5,6,7],[]]
 |_=>[]
def akM:Nat->List (List Nat)
 |6=>[[1,2,3,4,5,6,7],[0,2,3,4,5,7],[0,1,4,5,7],[0,1,4,5,7],[0,1,2,3,7],[0,1,2,3,7],[0,7],[0,1,2,3,4,5,6],[],[]]
 |10=>[[2,3],[2,3],[0,1],[0,1],[]]
 |12=>[[2,3],[2,3],[0,1],[0,1],[]]
 |15=>[[1,2,3,5,6],[0,5,6],[0,5,6],[0,5,6],[5,6],[0,1,2,3,4],[0,1,2,3,4],[]]
 |17=>[[2,3],[2,3],[0,1],[0,1],[]]
 |_=>[]
def akN:Nat->List (List Nat)
 |5=>[[1,4,5,6,7,9],[0,4,5,6,7,9],[4,5,6,7,9],[4,5,6,7,9],[0,1,2,3,5,9],[0,1,2,3,4,9],[0,1,2,3,9],[0,1,2,3,9],[9],[0,1,2,3,4,5,6,7,8],[],[]]
 |_=>[]
def akO:Nat->List (List Nat)
 |4=>[[1,4,5,6,7],[0,4,5,6,7],[4,5,6,7],[4,5,6,7],[0,1,2,3,5],[0,1,2,3,4],[0,1,2,3],[0,1,2,3],[]]
 |6=>[[1,4,5,6,7],[0,4,5,6,7],[4,5,6,7],[4,5,6,7],[0,1,2,3,5],[0,1,2,3,4],[0,1,2,3],[0,1,2,3],[]]
 |_=>[]
def akP:Nat->List (List Nat)
 |5=>[[1,5,6,7,8,10],[0,5,6,7,8,10],[5,6,7,8,10],[5,6,7,8,10],[5,6,7,8,10],[0,1,2,3,4,6,10],[0,1,2,3,4,5,10],[0,1,2,3,4,10],[0,1,2,3,4,10],[10],[0,1,2,3,4,5,6,7,8,9],[],[]]
 |_=>[]
def akQ:Nat->List (List Nat)
 |2=>[[2,3],[2,3],[0,1],[0,1],[]]
 |_=>[]
end Go.Am
end
section
namespace Go.Am
open Go Go.Proofs.Tryz
open Go.Proofs
set_option maxRecDepth 10000
abbrev zk:Nat->List Nat:=λ_=>[]
abbrev zg:Nat->List Gh:=λ_=>[]
abbrev zm:Nat->Bool:=λ_=>false
abbrev zf:ax:=⟨[],false,[],[],false⟩
abbrev zo:Nat->List (List Nat):=λ_=>[]
abbrev zl:Nat->List (Nat×Nat):=λ_=>[]
noncomputable def akR:List (Nat->List Nat):=[zk,zk,zk,zk,zk,zk,zk,zk,zk,ZZ,zk,zk,zk,UL,UM,UN,zk,zk,UO,zk,zk,zk,UP,zk,zk,zk,zk,UQ,UR,zk,US,zk,zk,zk,UT,UU,UW,UX,UY,UZ,U0,U1,zk,zk,zk,zk,zk,U2,U3,zk,zk,zk,U4,zk,U5,U6,U7,U8,zk,zk,U9,zk,zk,zk,zk,Va,Vb,Vc,Vd,Ve,Vf,Vg,Vh,zk,zk,zk,zk,zk,zk,zk,zk,zk,zk,zk,zk,Vi,zk,zk,zk,Vj,Vk,Vm,Vn,Vo,Vp,zk,zk,zk,zk,Vq,Mr,zk,zk,zk,zk,zk,zk,zk,Mt,Mu,Mv,Mw,zk,zk,zk,zk,zk,zk,zk,zk,zk,zk,zk,zk,zk,Mx,My,Mz,MA,zk,zk,zk,zk,zk,zk,zk,zk,MB,MD,ME,MF,MG,MH,MI,MJ,ML,MM,MN,MO,MP,MQ,MR,MS,MT,MU,MV,MW,MX,zk,zk,zk,zk,zk,zk,zk,zk,MY,MZ,M0,zk,zk,zk,zk,zk,zk,zk,zk,zk,zk,M1,M3,zk,zk,zk,zk,zk,zk,zk,zk,zk,zk,M4,M5,M6,M7,M8,zk,zk,zk,M9,Na,Nb,Nc,Nd,Nf,Ng,Nh,Ni,Nj,Nk,Nl,Nn,No,Np,Nq,Nr,Ns,Nt,Nu,Nv,Nw,Nx,Ny,Nz,NA,zk,zk,zk,zk,zk,zk,zk,zk,NB,zk,zk,zk,zk,zk,zk,zk,NC,zk,ND,NF,NG,NH,NI,NJ,NK,NL,NM,NN,NO,NP,NQ,NR,NS,NT,NU,NV,NW,NX,NY,NZ,zk,zk,zk,zk,zk,zk,zk,zk,zk,zk,zk,N0,N1,N2,N3,N4,N5,N6,zk,zk,N7,N8,N9,Oa,Ob,Oc,Od,Oe,Of,Og,Oh,Oi,Oj,zk,zk,zk,zk,zk,zk,zk,zk,Ok,Ol,Om,On,Oo,Oq,zk,zk,Ot,Ou,Ov,zk,Ow,zk,zk,zk,zk,zk,zk,zk,zk,zk,zk,zk,zk,zk,zk,zk,zk,zk,zk,zk,zk,zk,zk,zk,zk]
noncomputable def ghL:List (Nat->List Gh):=[zg,zg,zg,zg,zg,zg,zg,zg,zg,zg,zg,zg,zg,zg,zg,zg,zg,zg,zg,zg,zg,zg,afo,zg,zg,zg,zg,zg,zg,zg,zg,zg,zg,zg,zg,zg,zg,zg,zg,zg,zg,afu,zg,zg,zg,zg,zg,zg,zg,zg,zg,zg,zg,zg,zg,zg,zg,afz,zg,zg,afB,zg,zg,zg,zg,zg,zg,zg,zg,zg,zg,zg,zg,zg,zg,zg,zg,zg,zg,zg,zg,zg,zg,zg,zg,zg,zg,zg,zg,zg,zg,zg,zg,zg,zg,zg,zg,zg,zg,zg,zg,zg,zg,zg,zg,zg,zg,zg,zg,zg,zg,zg,zg,zg,zg,zg,zg,zg,zg,zg,zg,zg,zg,zg,zg,zg,zg,zg,zg,zg,zg,zg,zg,zg,zg,zg,zg,zg,zg,zg,zg,zg,zg,zg,zg,zg,zg,zg,zg,zg,zg,zg,zg,zg,zg,zg,zg,zg,zg,zg,zg,zg,zg,zg,zg,zg,zg,zg,zg,zg,zg,zg,zg,zg,zg,zg,zg,zg,zg,zg,zg,zg,zg,zg,zg,zg,zg,zg,zg,zg,zg,zg,zg,zg,zg,zg,zg,zg,zg,zg,zg,zg,zg,zg,zg,zg,zg,zg,zg,zg,zg,zg,zg,zg,zg,zg,zg,zg,zg,zg,zg,zg,zg,zg,zg,zg,zg,zg,zg,zg,zg,zg,zg,zg,zg,zg,zg,zg,zg,zg,zg,zg,zg,zg,zg,zg,zg,zg,zg,zg,zg,zg,zg,zg,zg,zg,zg,zg,zg,zg,zg,zg,zg,zg,zg,zg,zg,zg,zg,zg,zg,zg,zg,zg,zg,zg,zg,zg,zg,zg,zg,zg,zg,zg,zg,zg,zg,zg,zg,zg,zg,zg,abg,abk,zg,zg,abq,zg,zg,zg,zg,zg,zg,zg,zg,zg,zg,zg,zg,zg,zg,zg,zg,zg,zg,zg,zg,zg,zg,zg,zg,zg,zg,zg,zg,zg,zg,zg,zg,zg,zg,zg,zg,zg,zg,zg,zg,zg,zg,zg,zg,zg,zg]
noncomputable def mdL:List (Nat->Bool):=[zm,zm,zm,zm,zm,zm,zm,zm,zm,zm,zm,zm,zm,zm,afl,zm,zm,zm,zm,zm,zm,zm,zm,zm,zm,zm,zm,afp,afq,zm,zm,zm,zm,zm,zm,afr,zm,afs,zm,zm,zm,zm,zm,zm,zm,zm,zm,zm,zm,zm,zm,zm,zm,zm,zm,zm,zm,zm,zm,zm,zm,zm,zm,zm,zm,zm,zm,zm,zm,afD,zm,zm,zm,zm,zm,zm,zm,zm,zm,zm,zm,zm,zm,zm,zm,afE,zm,zm,zm,zm,zm,zm,zm,zm,zm,zm,zm,zm,zm,afJ,zm,zm,zm,zm,zm,zm,zm,zm,zm,zm,zm,zm,zm,zm,zm,zm,zm,zm,zm,zm,zm,zm,zm,zm,zm,zm,Z3,Z5,zm,zm,zm,zm,zm,zm,zm,zm,zm,zm,zm,zm,Z8,zm,zm,zm,zm,aac,zm,aad,zm,zm,aaf,zm,zm,zm,zm,zm,zm,zm,zm,zm,zm,zm,zm,zm,zm,zm,aam,zm,zm,zm,zm,zm,zm,zm,zm,zm,zm,zm,zm,aan,zm,zm,zm,zm,zm,zm,zm,zm,zm,zm,zm,zm,zm,zm,zm,zm,zm,zm,zm,zm,zm,zm,zm,zm,zm,zm,zm,zm,zm,zm,aaw,aax,aay,zm,zm,aaz,zm,zm,zm,zm,zm,zm,zm,zm,zm,zm,zm,zm,zm,zm,zm,zm,zm,zm,zm,zm,zm,zm,zm,zm,zm,zm,zm,zm,zm,zm,zm,zm,aaL,aaN,zm,zm,zm,aaQ,zm,aaT,zm,zm,zm,zm,zm,zm,zm,zm,zm,zm,zm,zm,zm,zm,zm,zm,zm,zm,zm,zm,zm,zm,zm,zm,zm,zm,zm,zm,zm,zm,aa8,zm,zm,zm,zm,zm,zm,abi,zm,zm,zm,zm,zm,zm,zm,zm,zm,zm,zm,zm,zm,zm,zm,abw,zm,zm,zm,zm,zm,zm,zm,zm,zm,zm,zm,zm,zm,zm,zm,zm,zm,zm,zm,zm,zm,zm,zm,zm,zm,zm,zm,zm,zm,zm,zm,zm,zm]
noncomputable def fpL:List (ax):=[zf,zf,zf,zf,zf,zf,zf,zf,zf,fp9,zf,zf,zf,XB,XF,XG,zf,zf,XH,zf,zf,zf,Jy,zf,zf,zf,zf,XI,XJ,zf,XK,zf,zf,zf,XL,XM,XN,XO,XP,XQ,XR,XS,zf,zf,zf,zf,zf,XT,Jz,zf,zf,zf,XU,zf,XV,JA,XW,JB,zf,zf,XX,zf,zf,zf,zf,XY,XZ,afC,X0,X7,Ya,Yb,Yc,zf,zf,zf,zf,zf,zf,zf,zf,zf,zf,zf,zf,Yd,zf,zf,zf,Ye,afF,Yf,QY,JC,afI,zf,zf,zf,zf,Yg,QZ,zf,zf,zf,zf,zf,zf,zf,Q0,Q1,Q2,Q3,zf,zf,zf,zf,zf,zf,zf,zf,zf,zf,zf,zf,zf,Q4,Q5,Q6,Q7,zf,zf,zf,zf,zf,zf,zf,zf,Z7,Q8,Q9,Z9,aaa,Ra,Rb,Rc,Rd,Re,Rf,Rg,Rh,Ri,Rj,Rk,Rn,aai,aaj,aak,aal,zf,zf,zf,zf,zf,zf,zf,zf,Ro,Rp,Rq,zf,zf,zf,zf,zf,zf,zf,zf,zf,zf,Rs,Rt,zf,zf,zf,zf,zf,zf,zf,zf,zf,zf,Rv,Rx,Ry,Rz,RA,zf,zf,zf,aap,aaq,aar,RB,RC,RD,RE,RG,aau,RH,aav,RJ,RL,RN,RO,RP,RQ,RR,aaB,aaC,aaE,aaF,aaH,aaI,aaJ,aaK,zf,zf,zf,zf,zf,zf,zf,zf,RS,zf,zf,zf,zf,zf,zf,zf,RU,zf,RV,RW,RX,RY,RZ,aaM,aaO,R0,R3,R4,aaR,aaS,aaU,R5,R6,R7,aaW,aaX,aaY,aaZ,aa1,aa2,zf,zf,zf,zf,zf,zf,zf,zf,zf,zf,zf,R8,R9,Sa,aa4,aa6,Sb,Sc,zf,zf,aa7,aa9,Sd,aba,abc,abd,abe,abh,abl,abn,abo,abr,abt,zf,zf,zf,zf,zf,zf,zf,zf,Se,abu,abv,abx,aby,abA,zf,zf,abB,abD,abE,zf,abG,zf,zf,zf,zf,zf,zf,zf,zf,zf,zf,zf,zf,zf,zf,zf,zf,zf,zf,zf,zf,zf,zf,zf,zf]
noncomputable def odL:List (Nat->List (List Nat)):=[zo,zo,zo,od3,od4,zo,zo,od7,od8,od9,zo,aq6,zo,zo,zo,afm,aq7,zo,zo,aq8,aq9,zo,afn,zo,zo,zo,ara,zo,zo,zo,zo,zo,arb,arc,zo,zo,zo,aft,zo,zo,zo,zo,zo,zo,ard,zo,zo,afv,zo,are,arf,zo,zo,zo,afw,afx,zo,afy,arh,ari,afA,zo,zo,arj,zo,zo,zo,zo,zo,zo,zo,zo,zo,ark,arl,arn,zo,zo,zo,zo,aro,zo,zo,arp,arq,zo,ars,zo,art,zo,zo,zo,afG,afH,zo,zo,zo,aru,arv,zo,zo,akf,akg,zo,zo,zo,zo,zo,zo,Z0,zo,Z1,zo,akh,zo,aki,akj,zo,akk,zo,zo,akl,zo,zo,zo,Z2,Z4,Z6,zo,akm,akn,zo,zo,ako,zo,akp,akq,zo,zo,zo,zo,zo,zo,aab,zo,zo,zo,zo,zo,aae,zo,aag,zo,aah,zo,zo,zo,zo,zo,akr,zo,aks,zo,akt,aku,akv,zo,zo,zo,zo,zo,zo,akw,zo,zo,zo,zo,akx,zo,zo,zo,aky,zo,zo,zo,akz,zo,akA,zo,akB,akC,zo,zo,zo,zo,aao,zo,zo,zo,zo,zo,zo,aas,zo,zo,zo,aat,zo,zo,zo,zo,zo,zo,zo,zo,aaA,zo,zo,zo,aaD,zo,aaG,zo,zo,zo,akD,zo,zo,zo,zo,zo,akE,zo,zo,akF,zo,akG,zo,akH,zo,akI,zo,zo,zo,zo,zo,zo,zo,zo,zo,zo,aaP,zo,zo,zo,zo,zo,aaV,zo,zo,zo,zo,zo,aa0,zo,zo,zo,zo,zo,akJ,akK,zo,akL,akM,zo,zo,zo,zo,zo,aa3,aa5,zo,zo,zo,zo,zo,zo,zo,zo,abb,zo,zo,abf,abj,abm,zo,abp,zo,akN,akO,akP,zo,akQ,zo,zo,zo,zo,zo,zo,zo,zo,abz,zo,zo,zo,abC,zo,zo,abF,zo,zo,zo,zo,zo,zo,zo,zo,zo,zo,zo,zo,zo,zo,zo,zo,zo,zo,zo,zo,zo,zo,zo,zo]
noncomputable def flL:List (Nat->List (Nat×Nat)):=[zl,zl,zl,zl,zl,zl,zl,zl,zl,zl,zl,zl,zl,zl,zl,zl,zl,zl,zl,zl,zl,zl,zl,zl,zl,zl,zl,zl,zl,zl,zl,zl,zl,zl,zl,zl,zl,zl,zl,zl,zl,zl,zl,zl,zl,zl,zl,zl,zl,zl,zl,zl,zl,zl,zl,zl,zl,zl,zl,zl,zl,zl,zl,zl,zl,zl,zl,zl,zl,zl,zl,zl,zl,zl,zl,zl,zl,zl,zl,zl,zl,zl,zl,zl,zl,zl,zl,zl,zl,zl,zl,zl,zl,zl,zl,zl,zl,zl,zl,zl,zl,zl,zl,zl,zl,zl,zl,zl,zl,zl,zl,zl,zl,zl,zl,zl,zl,zl,zl,zl,zl,zl,zl,zl,zl,zl,zl,zl,zl,zl,zl,zl,zl,zl,zl,zl,zl,zl,zl,zl,zl,zl,zl,zl,zl,zl,zl,zl,zl,zl,zl,zl,zl,zl,zl,zl,zl,zl,zl,zl,zl,zl,zl,zl,zl,zl,zl,zl,zl,zl,zl,zl,zl,zl,zl,zl,zl,zl,zl,zl,zl,zl,zl,zl,zl,zl,zl,zl,zl,zl,zl,zl,zl,zl,zl,zl,zl,zl,zl,zl,zl,zl,zl,zl,zl,zl,zl,zl,zl,zl,zl,zl,zl,zl,zl,zl,zl,zl,zl,zl,zl,zl,zl,zl,zl,zl,zl,zl,zl,zl,zl,zl,zl,zl,zl,zl,zl,zl,zl,zl,zl,zl,zl,zl,zl,zl,zl,zl,zl,zl,zl,zl,zl,zl,zl,zl,zl,zl,zl,zl,zl,zl,zl,zl,zl,zl,zl,zl,zl,zl,zl,zl,zl,zl,zl,zl,zl,zl,zl,zl,zl,zl,zl,zl,zl,zl,zl,zl,zl,zl,zl,zl,zl,zl,zl,zl,zl,zl,zl,zl,zl,zl,zl,zl,zl,zl,zl,zl,zl,zl,zl,zl,zl,zl,zl,zl,zl,zl,zl,zl,zl,zl,zl,zl,zl,zl,zl,zl,zl,zl,zl,zl,zl,zl,zl,zl,zl,zl,zl,zl,zl,zl,zl]
def bI:Type:=Int
variable [Inhabited bI]
def FJ:List Int:=[0,0,0,0,0,0,0,0,0,1,1,1,1,1,0,0,0,0,0,0,0,0,0,0,0,0,0,0,0,0,0,0,1,0,0,0,0,0,0,0,0,0,0,0,0,0,0,0,0,0,0,0,0,0,0,0,0,0,0,0,0,0,0,0,0,0,0,0,0,0,0,0,0,0,0,0,0,0,0,0,0,0,0,0,0,0,0,0,0,0,0,0,0,0,0,0,0,0,0,0,0,0,0,0,0,0,0,0,0,0,0,0,0,0,0,0,0,0,0,0,0,0,0,0,0,0,0,0,0,0,0,0,0,0,0,0,0,0,0,0,0,0,0,0,0,0,0,0,0,0,0,0,0,0,0,0,0,0,0,0,0,0,0,0,0,0,0,0,0,0,0,0,0,0,0,0,0,0,0,0,0,0,0,0,0,0,0,0,0,0,0,0,0,0,0,0,0,0,0,0,0,0,0,0,0,0,0,0,0,0,0,0,0,0,0,0,0,0,0,0,0,0,0,0,0,0,0,0,0,0,0,0,0,0,0,0,0,0,0,0,0,0,0,0,0,0,0,0,0,0,0,0,0,0,0,0]
def aC:List (Nat×D):=[(0,.agg (FJ.map λz=>.int .u8 z)),(2,.int .i64 (id (α:=Int) (default:bI)))]
@[simp] theorem azb:F3 aC 0=some (.agg (FJ.map λz=>.int .u8 z)):=rfl
def Yh:FuncId->Option (List AV->Option AV)
 |207=>some (n9 UJ)
 |209=>some (n9 Jx)
 |254=>some (n9 UI)
 |_=>none
noncomputable def ctx:Ctx:=⟨Tryz.prog,aC,λf=>akR.getD f (λ_=>[]),λf=>ghL.getD f (λ_=>[]),λf=>mdL.getD f (λ_=>false),λf=>fpL.getD f ⟨[],false,[],[],false⟩,λf=>odL.getD f (λ_=>[]),Yh,λf=>flL.getD f (λ_=>[]),none⟩
@[simp] theorem azc:ctx.P=Tryz.prog:=rfl
@[simp] theorem axq:ctx.gl=aC:=rfl
@[simp] def bq(fn:Func):Code:=fn.body.getD .skip
abbrev EF(n:Nat)(k:Nat->List Nat)(g:Nat->List Gh)(m:Nat->Bool)(p:ax)(l:Nat->List (Nat×Nat))(o:Nat->List (List Nat)):Prop:=ctx.pZ n=k/\ctx.gh n=g/\ctx.md n=m/\ctx.fp n=p/\ctx.fl n=l/\ctx.od n=o
abbrev RF(n c:Nat)(p:ax)(fn:Func)(rs:List ResultVar):Prop:=∀{args:List AV}{cs:List ay},jm c p args cs=true->ah ctx n args cs=aN ctx n (bq fn) (entry c aC args cs p.sites) (vI Tryz.prog p cs.length rs)
@[simp] theorem E9:EF 9 ZZ zg zm fp9 zl od9:=⟨rfl,rfl,rfl,rfl,rfl,rfl⟩
theorem arw:RF 9 31 fp9 f9 [.tmp 6]:=aw rfl rfl Tryz.func9 rfl (by kernel_rfl) Tryz.ntmps9 (by rw[Tryz.results9]) rfl rfl
@[simp] theorem E13:EF 13 UL zg zm XB zl zo:=⟨rfl,rfl,rfl,rfl,rfl,rfl⟩
theorem akS:RF 13 18 XB f13 [.tmp 2]:=aw rfl rfl Tryz.func13 rfl (by kernel_rfl) Tryz.ntmps13 (by rw[Tryz.results13]) rfl rfl
@[simp] theorem E14:EF 14 UM zg afl XF zl zo:=⟨rfl,rfl,rfl,rfl,rfl,rfl⟩
theorem akT:RF 14 129 XF f14 [.tmp 2]:=aw rfl rfl Tryz.func14 rfl (by kernel_rfl) Tryz.ntmps14 (by rw[Tryz.results14]) rfl rfl
@[simp] theorem E15:EF 15 UN zg zm XG zl afm:=⟨rfl,rfl,rfl,rfl,rfl,rfl⟩
theorem akU:RF 15 58 XG f15 [.cell 2 30]:=aw rfl rfl Tryz.func15 rfl (by kernel_rfl) Tryz.ntmps15 (by rw[Tryz.results15]) rfl rfl
@[simp] theorem E18:EF 18 UO zg zm XH zl zo:=⟨rfl,rfl,rfl,rfl,rfl,rfl⟩
theorem akV:RF 18 24 XH f18 [.tmp 4]:=aw rfl rfl Tryz.func18 rfl (by kernel_rfl) Tryz.ntmps18 (by rw[Tryz.results18]) rfl rfl
@[simp] theorem E22:EF 22 UP afo zm Jy zl afn:=⟨rfl,rfl,rfl,rfl,rfl,rfl⟩
theorem abH{args:List AV}{cs:List ay}(h:jm 73 Jy args cs=true):ah ctx 22 args cs=jx ctx 22 (bq f22) (entry 73 aC args cs Jy.sites) [] (Bc ctx Jy cs.length [.cell 6 41]):=
 GP rfl rfl Tryz.func22 rfl (by kernel_rfl) Tryz.ntmps22 (by rw[Tryz.results22]) rfl h
@[simp] theorem E27:EF 27 UQ zg afp XI zl zo:=⟨rfl,rfl,rfl,rfl,rfl,rfl⟩
theorem akW:RF 27 34 XI f27 [.tmp 0]:=aw rfl rfl Tryz.func27 rfl (by kernel_rfl) Tryz.ntmps27 (by rw[Tryz.results27]) rfl rfl
@[simp] theorem E28:EF 28 UR zg afq XJ zl zo:=⟨rfl,rfl,rfl,rfl,rfl,rfl⟩
theorem Sf:RF 28 15 XJ f28 [.tmp 2]:=aw rfl rfl Tryz.func28 rfl (by kernel_rfl) Tryz.ntmps28 (by rw[Tryz.results28]) rfl rfl
@[simp] theorem E30:EF 30 US zg zm XK zl zo:=⟨rfl,rfl,rfl,rfl,rfl,rfl⟩
theorem akX:RF 30 8 XK f30 [.cell 2 25]:=aw rfl rfl Tryz.func30 rfl (by kernel_rfl) Tryz.ntmps30 (by rw[Tryz.results30]) rfl rfl
@[simp] theorem E34:EF 34 UT zg zm XL zl zo:=⟨rfl,rfl,rfl,rfl,rfl,rfl⟩
theorem akY:RF 34 21 XL f34 [.tmp 4,.tmp 5]:=aw rfl rfl Tryz.func34 rfl (by kernel_rfl) Tryz.ntmps34 (by rw[Tryz.results34]) rfl rfl
@[simp] theorem E35:EF 35 UU zg afr XM zl zo:=⟨rfl,rfl,rfl,rfl,rfl,rfl⟩
theorem akZ:RF 35 59 XM f35 [.tmp 2]:=aw rfl rfl Tryz.func35 rfl (by kernel_rfl) Tryz.ntmps35 (by rw[Tryz.results35]) rfl rfl
@[simp] theorem E36:EF 36 UW zg zm XN zl zo:=⟨rfl,rfl,rfl,rfl,rfl,rfl⟩
theorem ak0:RF 36 24 XN f36 [.tmp 2]:=aw rfl rfl Tryz.func36 rfl (by kernel_rfl) Tryz.ntmps36 (by rw[Tryz.results36]) rfl rfl
@[simp] theorem E37:EF 37 UX zg afs XO zl aft:=⟨rfl,rfl,rfl,rfl,rfl,rfl⟩
theorem ak1:RF 37 258 XO f37 [.tmp 2]:=aw rfl rfl Tryz.func37 rfl (by kernel_rfl) Tryz.ntmps37 (by rw[Tryz.results37]) rfl rfl
@[simp] theorem E38:EF 38 UY zg zm XP zl zo:=⟨rfl,rfl,rfl,rfl,rfl,rfl⟩
theorem ak2:RF 38 25 XP f38 [.cell 4 64,.tmp 5]:=aw rfl rfl Tryz.func38 rfl (by kernel_rfl) Tryz.ntmps38 (by rw[Tryz.results38]) rfl rfl
@[simp] theorem E39:EF 39 UZ zg zm XQ zl zo:=⟨rfl,rfl,rfl,rfl,rfl,rfl⟩
theorem ak3:RF 39 18 XQ f39 [.tmp 2]:=aw rfl rfl Tryz.func39 rfl (by kernel_rfl) Tryz.ntmps39 (by rw[Tryz.results39]) rfl rfl
@[simp] theorem E40:EF 40 U0 zg zm XR zl zo:=⟨rfl,rfl,rfl,rfl,rfl,rfl⟩
theorem ak4:RF 40 27 XR f40 [.cell 6 30]:=aw rfl rfl Tryz.func40 rfl (by kernel_rfl) Tryz.ntmps40 (by rw[Tryz.results40]) rfl rfl
@[simp] theorem E41:EF 41 U1 afu zm XS zl zo:=⟨rfl,rfl,rfl,rfl,rfl,rfl⟩
theorem ak5:RF 41 51 XS f41 [.cell 2 72]:=aw rfl rfl Tryz.func41 rfl (by kernel_rfl) Tryz.ntmps41 (by rw[Tryz.results41]) rfl rfl
@[simp] theorem E47:EF 47 U2 zg zm XT zl afv:=⟨rfl,rfl,rfl,rfl,rfl,rfl⟩
theorem ak6:RF 47 26 XT f47 [.tmp 4]:=aw rfl rfl Tryz.func47 rfl (by kernel_rfl) Tryz.ntmps47 (by rw[Tryz.results47]) rfl rfl
@[simp] theorem E48:EF 48 U3 zg zm Jz zl zo:=⟨rfl,rfl,rfl,rfl,rfl,rfl⟩
theorem ak7{args:List AV}{cs:List ay}(h:jm 8 Jz args cs=true):ah ctx 48 args cs=gF (λargs=>aN ctx 48 (bq f48) (entry 8 aC args cs Jz.sites) (vI Tryz.prog Jz cs.length [.tmp 2])) args true:=
 FD rfl rfl Tryz.func48 rfl (by kernel_rfl) Tryz.ntmps48 (by rw[Tryz.results48]) rfl rfl h
@[simp] theorem E52:EF 52 U4 zg zm XU zl zo:=⟨rfl,rfl,rfl,rfl,rfl,rfl⟩
theorem ak8:RF 52 77 XU f52 [.tmp 2]:=aw rfl rfl Tryz.func52 rfl (by kernel_rfl) Tryz.ntmps52 (by rw[Tryz.results52]) rfl rfl
@[simp] theorem E54:EF 54 U5 zg zm XV zl afw:=⟨rfl,rfl,rfl,rfl,rfl,rfl⟩
theorem abI:RF 54 30 XV f54 [.tmp 2]:=aw rfl rfl Tryz.func54 rfl (by kernel_rfl) Tryz.ntmps54 (by rw[Tryz.results54]) rfl rfl
@[simp] theorem E55:EF 55 U6 zg zm JA zl afx:=⟨rfl,rfl,rfl,rfl,rfl,rfl⟩
theorem abJ{args A:List AV}{E:AV}{cs:List ay}(H:args.getLast?=some E)(I:args.dropLast=A)(h:jm 27 JA A cs=true):xZ ctx 55 args cs=sJ ctx 55 E (bq f55) (entry 27 aC A cs JA.sites) (Ek Tryz.prog JA cs.length []):=
 Mn Tryz.func55 rfl Tryz.ntmps55 (by rw[Tryz.results55]) rfl H I h
@[simp] theorem E56:EF 56 U7 zg zm XW zl zo:=⟨rfl,rfl,rfl,rfl,rfl,rfl⟩
theorem ak9:RF 56 21 XW f56 [.tmp 4]:=aw rfl rfl Tryz.func56 rfl (by kernel_rfl) Tryz.ntmps56 (by rw[Tryz.results56]) rfl rfl
@[simp] theorem E57:EF 57 U8 afz zm JB zl afy:=⟨rfl,rfl,rfl,rfl,rfl,rfl⟩
theorem ala{args:List AV}{cs:List ay}(h:jm 25 JB args cs=true):ah ctx 57 args cs=jx ctx 57 (bq f57) (entry 25 aC args cs JB.sites) [] (Bc ctx JB cs.length [.cell 2 25,.cell 3 35,.cell 4 55]):=
 GP rfl rfl Tryz.func57 rfl (by kernel_rfl) Tryz.ntmps57 (by rw[Tryz.results57]) rfl h
@[simp] theorem E60:EF 60 U9 afB zm XX zl afA:=⟨rfl,rfl,rfl,rfl,rfl,rfl⟩
theorem alb:RF 60 48 XX f60 [.tmp 2]:=aw rfl rfl Tryz.func60 rfl (by kernel_rfl) Tryz.ntmps60 (by rw[Tryz.results60]) rfl rfl
@[simp] theorem E65:EF 65 Va zg zm XY zl zo:=⟨rfl,rfl,rfl,rfl,rfl,rfl⟩
theorem alc:RF 65 136 XY f65 [.tmp 4,.tmp 5]:=aw rfl rfl Tryz.func65 rfl (by kernel_rfl) Tryz.ntmps65 (by rw[Tryz.results65]) rfl rfl
@[simp] theorem E66:EF 66 Vb zg zm XZ zl zo:=⟨rfl,rfl,rfl,rfl,rfl,rfl⟩
theorem ald:RF 66 15 XZ f66 [.tmp 2]:=aw rfl rfl Tryz.func66 rfl (by kernel_rfl) Tryz.ntmps66 (by rw[Tryz.results66]) rfl rfl
@[simp] theorem E67:EF 67 Vc zg zm afC zl zo:=⟨rfl,rfl,rfl,rfl,rfl,rfl⟩
@[simp] theorem E68:EF 68 Vd zg zm X0 zl zo:=⟨rfl,rfl,rfl,rfl,rfl,rfl⟩
theorem ale:RF 68 27 X0 f68 [.tmp 2,.tmp 3,.tmp 4]:=aw rfl rfl Tryz.func68 rfl (by kernel_rfl) Tryz.ntmps68 (by rw[Tryz.results68]) rfl rfl
@[simp] theorem E69:EF 69 Ve zg afD X7 zl zo:=⟨rfl,rfl,rfl,rfl,rfl,rfl⟩
theorem alf:RF 69 126 X7 f69 [.tmp 2]:=aw rfl rfl Tryz.func69 rfl (by kernel_rfl) Tryz.ntmps69 (by rw[Tryz.results69]) rfl rfl
@[simp] theorem E70:EF 70 Vf zg zm Ya zl zo:=⟨rfl,rfl,rfl,rfl,rfl,rfl⟩
theorem alg:RF 70 25 Ya f70 [.tmp 2]:=aw rfl rfl Tryz.func70 rfl (by kernel_rfl) Tryz.ntmps70 (by rw[Tryz.results70]) rfl rfl
@[simp] theorem E71:EF 71 Vg zg zm Yb zl zo:=⟨rfl,rfl,rfl,rfl,rfl,rfl⟩
theorem m8:RF 71 242 Yb f71 [.cell 6 30]:=aw rfl rfl Tryz.func71 rfl (by kernel_rfl) Tryz.ntmps71 (by rw[Tryz.results71]) rfl rfl
@[simp] theorem E72:EF 72 Vh zg zm Yc zl zo:=⟨rfl,rfl,rfl,rfl,rfl,rfl⟩
theorem alh:RF 72 20 Yc f72 [.tmp 2]:=aw rfl rfl Tryz.func72 rfl (by kernel_rfl) Tryz.ntmps72 (by rw[Tryz.results72]) rfl rfl
@[simp] theorem E85:EF 85 Vi zg afE Yd zl zo:=⟨rfl,rfl,rfl,rfl,rfl,rfl⟩
theorem ali:RF 85 116 Yd f85 [.tmp 4]:=aw rfl rfl Tryz.func85 rfl (by kernel_rfl) Tryz.ntmps85 (by rw[Tryz.results85]) rfl rfl
@[simp] theorem E89:EF 89 Vj zg zm Ye zl zo:=⟨rfl,rfl,rfl,rfl,rfl,rfl⟩
theorem abK:RF 89 17 Ye f89 [.cell 2 153,.tmp 3]:=aw rfl rfl Tryz.func89 rfl (by kernel_rfl) Tryz.ntmps89 (by rw[Tryz.results89]) rfl rfl
@[simp] theorem E90:EF 90 Vk zg zm afF zl zo:=⟨rfl,rfl,rfl,rfl,rfl,rfl⟩
@[simp] theorem E91:EF 91 Vm zg zm Yf zl zo:=⟨rfl,rfl,rfl,rfl,rfl,rfl⟩
theorem yh:RF 91 46 Yf f91 [.tmp 4]:=aw rfl rfl Tryz.func91 rfl (by kernel_rfl) Tryz.ntmps91 (by rw[Tryz.results91]) rfl rfl
@[simp] theorem E92:EF 92 Vn zg zm QY zl afG:=⟨rfl,rfl,rfl,rfl,rfl,rfl⟩
theorem alj:RF 92 62 QY f92 [.tmp 2,.tmp 3,.cell 4 55]:=aw rfl rfl Tryz.func92 rfl (by kernel_rfl) Tryz.ntmps92 (by rw[Tryz.results92]) rfl rfl
@[simp] theorem E93:EF 93 Vo zg zm JC zl afH:=⟨rfl,rfl,rfl,rfl,rfl,rfl⟩
theorem alk{args A:List AV}{E:AV}{cs:List ay}(H:args.getLast?=some E)(I:args.dropLast=A)(h:jm 22 JC A cs=true):xZ ctx 93 args cs=sJ ctx 93 E (bq f93) (entry 22 aC A cs JC.sites) (Ek Tryz.prog JC cs.length []):=
 Mn Tryz.func93 rfl Tryz.ntmps93 (by rw[Tryz.results93]) rfl H I h
@[simp] theorem E94:EF 94 Vp zg zm afI zl zo:=⟨rfl,rfl,rfl,rfl,rfl,rfl⟩
@[simp] theorem E99:EF 99 Vq zg afJ Yg zl zo:=⟨rfl,rfl,rfl,rfl,rfl,rfl⟩
theorem alm:RF 99 105 Yg f99 [.cell 2 114]:=aw rfl rfl Tryz.func99 rfl (by kernel_rfl) Tryz.ntmps99 (by rw[Tryz.results99]) rfl rfl
@[simp] theorem azJ:EF 100 Mr zg zm QZ zl zo:=⟨rfl,rfl,rfl,rfl,rfl,rfl⟩
theorem afK:RF 100 19 QZ f100 [.tmp 2]:=aw rfl rfl Tryz.func100 rfl (by kernel_rfl) Tryz.ntmps100 (by rw[Tryz.results100]) rfl rfl
@[simp] theorem azK:EF 108 Mt zg zm Q0 zl zo:=⟨rfl,rfl,rfl,rfl,rfl,rfl⟩
theorem afL:RF 108 44 Q0 f108 [.tmp 4,.tmp 5]:=aw rfl rfl Tryz.func108 rfl (by kernel_rfl) Tryz.ntmps108 (by rw[Tryz.results108]) rfl rfl
@[simp] theorem azL:EF 109 Mu zg zm Q1 zl Z0:=⟨rfl,rfl,rfl,rfl,rfl,rfl⟩
theorem en:RF 109 155 Q1 f109 [.tmp 4,.cell 5 30]:=aw rfl rfl Tryz.func109 rfl (by kernel_rfl) Tryz.ntmps109 (by rw[Tryz.results109]) rfl rfl
@[simp] theorem azM:EF 110 Mv zg zm Q2 zl zo:=⟨rfl,rfl,rfl,rfl,rfl,rfl⟩
theorem afM:RF 110 27 Q2 f110 [.cell 6 30]:=aw rfl rfl Tryz.func110 rfl (by kernel_rfl) Tryz.ntmps110 (by rw[Tryz.results110]) rfl rfl
@[simp] theorem azN:EF 111 Mw zg zm Q3 zl Z1:=⟨rfl,rfl,rfl,rfl,rfl,rfl⟩
theorem afN:RF 111 91 Q3 f111 [.cell 4 30]:=aw rfl rfl Tryz.func111 rfl (by kernel_rfl) Tryz.ntmps111 (by rw[Tryz.results111]) rfl rfl
@[simp] theorem azO:EF 125 Mx zg zm Q4 zl Z2:=⟨rfl,rfl,rfl,rfl,rfl,rfl⟩
theorem Vs:RF 125 93 Q4 f125 [.tmp 6,.tmp 7,.tmp 8]:=aw rfl rfl Tryz.func125 rfl (by kernel_rfl) Tryz.ntmps125 (by rw[Tryz.results125]) rfl rfl
@[simp] theorem azP:EF 126 My zg Z3 Q5 zl Z4:=⟨rfl,rfl,rfl,rfl,rfl,rfl⟩
theorem Vt:RF 126 105 Q5 f126 []:=aw rfl rfl Tryz.func126 rfl (by kernel_rfl) Tryz.ntmps126 (by rw[Tryz.results126]) rfl rfl
@[simp] theorem azQ:EF 127 Mz zg Z5 Q6 zl Z6:=⟨rfl,rfl,rfl,rfl,rfl,rfl⟩
theorem afO:RF 127 80 Q6 f127 []:=aw rfl rfl Tryz.func127 rfl (by kernel_rfl) Tryz.ntmps127 (by rw[Tryz.results127]) rfl rfl
@[simp] theorem azR:EF 128 MA zg zm Q7 zl zo:=⟨rfl,rfl,rfl,rfl,rfl,rfl⟩
theorem afP:RF 128 4 Q7 f128 [.tmp 2]:=aw rfl rfl Tryz.func128 rfl (by kernel_rfl) Tryz.ntmps128 (by rw[Tryz.results128]) rfl rfl
@[simp] theorem azS:EF 137 MB zg zm Z7 zl zo:=⟨rfl,rfl,rfl,rfl,rfl,rfl⟩
@[simp] theorem azT:EF 138 MD zg zm Q8 zl zo:=⟨rfl,rfl,rfl,rfl,rfl,rfl⟩
theorem Vu:RF 138 19 Q8 f138 [.tmp 4]:=aw rfl rfl Tryz.func138 rfl (by kernel_rfl) Tryz.ntmps138 (by rw[Tryz.results138]) rfl rfl
@[simp] theorem azU:EF 139 ME zg zm Q9 zl zo:=⟨rfl,rfl,rfl,rfl,rfl,rfl⟩
theorem Vv:RF 139 8 Q9 f139 [.tmp 3]:=aw rfl rfl Tryz.func139 rfl (by kernel_rfl) Tryz.ntmps139 (by rw[Tryz.results139]) rfl rfl
@[simp] theorem azV:EF 140 MF zg Z8 Z9 zl zo:=⟨rfl,rfl,rfl,rfl,rfl,rfl⟩
@[simp] theorem azW:EF 141 MG zg zm aaa zl zo:=⟨rfl,rfl,rfl,rfl,rfl,rfl⟩
@[simp] theorem azX:EF 142 MH zg zm Ra zl zo:=⟨rfl,rfl,rfl,rfl,rfl,rfl⟩
theorem afQ:RF 142 16 Ra f142 []:=aw rfl rfl Tryz.func142 rfl (by kernel_rfl) Tryz.ntmps142 (by rw[Tryz.results142]) rfl rfl
@[simp] theorem azY:EF 143 MI zg zm Rb zl aab:=⟨rfl,rfl,rfl,rfl,rfl,rfl⟩
theorem Vw:RF 143 51 Rb f143 []:=aw rfl rfl Tryz.func143 rfl (by kernel_rfl) Tryz.ntmps143 (by rw[Tryz.results143]) rfl rfl
@[simp] theorem azZ:EF 144 MJ zg zm Rc zl zo:=⟨rfl,rfl,rfl,rfl,rfl,rfl⟩
theorem afR:RF 144 33 Rc f144 [.tmp 4]:=aw rfl rfl Tryz.func144 rfl (by kernel_rfl) Tryz.ntmps144 (by rw[Tryz.results144]) rfl rfl
@[simp] theorem az0:EF 145 ML zg aac Rd zl zo:=⟨rfl,rfl,rfl,rfl,rfl,rfl⟩
theorem afS:RF 145 57 Rd f145 [.tmp 4]:=aw rfl rfl Tryz.func145 rfl (by kernel_rfl) Tryz.ntmps145 (by rw[Tryz.results145]) rfl rfl
@[simp] theorem az1:EF 146 MM zg zm Re zl zo:=⟨rfl,rfl,rfl,rfl,rfl,rfl⟩
theorem afT:RF 146 6 Re f146 [.tmp 2]:=aw rfl rfl Tryz.func146 rfl (by kernel_rfl) Tryz.ntmps146 (by rw[Tryz.results146]) rfl rfl
@[simp] theorem az2:EF 147 MN zg aad Rf zl zo:=⟨rfl,rfl,rfl,rfl,rfl,rfl⟩
theorem afU:RF 147 111 Rf f147 [.tmp 4]:=aw rfl rfl Tryz.func147 rfl (by kernel_rfl) Tryz.ntmps147 (by rw[Tryz.results147]) rfl rfl
@[simp] theorem az3:EF 148 MO zg zm Rg zl zo:=⟨rfl,rfl,rfl,rfl,rfl,rfl⟩
theorem afV:RF 148 35 Rg f148 [.tmp 4]:=aw rfl rfl Tryz.func148 rfl (by kernel_rfl) Tryz.ntmps148 (by rw[Tryz.results148]) rfl rfl
@[simp] theorem az4:EF 149 MP zg zm Rh zl aae:=⟨rfl,rfl,rfl,rfl,rfl,rfl⟩
theorem afW:RF 149 71 Rh f149 []:=aw rfl rfl Tryz.func149 rfl (by kernel_rfl) Tryz.ntmps149 (by rw[Tryz.results149]) rfl rfl
@[simp] theorem az5:EF 150 MQ zg aaf Ri zl zo:=⟨rfl,rfl,rfl,rfl,rfl,rfl⟩
theorem afX:RF 150 51 Ri f150 [.tmp 2]:=aw rfl rfl Tryz.func150 rfl (by kernel_rfl) Tryz.ntmps150 (by rw[Tryz.results150]) rfl rfl
@[simp] theorem az6:EF 151 MR zg zm Rj zl aag:=⟨rfl,rfl,rfl,rfl,rfl,rfl⟩
theorem afY:RF 151 12 Rj f151 [.tmp 2]:=aw rfl rfl Tryz.func151 rfl (by kernel_rfl) Tryz.ntmps151 (by rw[Tryz.results151]) rfl rfl
@[simp] theorem az7:EF 152 MS zg zm Rk zl zo:=⟨rfl,rfl,rfl,rfl,rfl,rfl⟩
theorem afZ:RF 152 54 Rk f152 [.cell 4 55,.tmp 5]:=aw rfl rfl Tryz.func152 rfl (by kernel_rfl) Tryz.ntmps152 (by rw[Tryz.results152]) rfl rfl
@[simp] theorem az8:EF 153 MT zg zm Rn zl aah:=⟨rfl,rfl,rfl,rfl,rfl,rfl⟩
theorem af0:RF 153 42 Rn f153 []:=aw rfl rfl Tryz.func153 rfl (by kernel_rfl) Tryz.ntmps153 (by rw[Tryz.results153]) rfl rfl
@[simp] theorem az9:EF 154 MU zg zm aai zl zo:=⟨rfl,rfl,rfl,rfl,rfl,rfl⟩
@[simp] theorem aAa:EF 155 MV zg zm aaj zl zo:=⟨rfl,rfl,rfl,rfl,rfl,rfl⟩
@[simp] theorem aAb:EF 156 MW zg zm aak zl zo:=⟨rfl,rfl,rfl,rfl,rfl,rfl⟩
@[simp] theorem aAc:EF 157 MX zg zm aal zl zo:=⟨rfl,rfl,rfl,rfl,rfl,rfl⟩
@[simp] theorem aAd:EF 166 MY zg aam Ro zl zo:=⟨rfl,rfl,rfl,rfl,rfl,rfl⟩
theorem af1:RF 166 41 Ro f166 [.tmp 2,.tmp 3,.tmp 4]:=aw rfl rfl Tryz.func166 rfl (by kernel_rfl) Tryz.ntmps166 (by rw[Tryz.results166]) rfl rfl
@[simp] theorem aAe:EF 167 MZ zg zm Rp zl zo:=⟨rfl,rfl,rfl,rfl,rfl,rfl⟩
theorem af2:RF 167 4 Rp f167 [.tmp 2]:=aw rfl rfl Tryz.func167 rfl (by kernel_rfl) Tryz.ntmps167 (by rw[Tryz.results167]) rfl rfl
@[simp] theorem aAf:EF 168 M0 zg zm Rq zl zo:=⟨rfl,rfl,rfl,rfl,rfl,rfl⟩
theorem af3:RF 168 25 Rq f168 [.cell 6 114]:=aw rfl rfl Tryz.func168 rfl (by kernel_rfl) Tryz.ntmps168 (by rw[Tryz.results168]) rfl rfl
@[simp] theorem aAg:EF 179 M1 zg aan Rs zl zo:=⟨rfl,rfl,rfl,rfl,rfl,rfl⟩
theorem af4:RF 179 32 Rs f179 [.cell 4 150,.tmp 5]:=aw rfl rfl Tryz.func179 rfl (by kernel_rfl) Tryz.ntmps179 (by rw[Tryz.results179]) rfl rfl
@[simp] theorem aAh:EF 180 M3 zg zm Rt zl zo:=⟨rfl,rfl,rfl,rfl,rfl,rfl⟩
theorem af5:RF 180 24 Rt f180 [.cell 4 30]:=aw rfl rfl Tryz.func180 rfl (by kernel_rfl) Tryz.ntmps180 (by rw[Tryz.results180]) rfl rfl
@[simp] theorem aAi:EF 191 M4 zg zm Rv zl zo:=⟨rfl,rfl,rfl,rfl,rfl,rfl⟩
theorem af6:RF 191 34 Rv f191 [.tmp 6,.tmp 7,.tmp 8]:=aw rfl rfl Tryz.func191 rfl (by kernel_rfl) Tryz.ntmps191 (by rw[Tryz.results191]) rfl rfl
@[simp] theorem aAj:EF 192 M5 zg zm Rx zl zo:=⟨rfl,rfl,rfl,rfl,rfl,rfl⟩
theorem af7:RF 192 33 Rx f192 [.tmp 6,.tmp 7,.tmp 8]:=aw rfl rfl Tryz.func192 rfl (by kernel_rfl) Tryz.ntmps192 (by rw[Tryz.results192]) rfl rfl
@[simp] theorem aAk:EF 193 M6 zg zm Ry zl zo:=⟨rfl,rfl,rfl,rfl,rfl,rfl⟩
theorem af8:RF 193 64 Ry f193 [.tmp 6,.tmp 7,.tmp 8]:=aw rfl rfl Tryz.func193 rfl (by kernel_rfl) Tryz.ntmps193 (by rw[Tryz.results193]) rfl rfl
@[simp] theorem aAl:EF 194 M7 zg zm Rz zl zo:=⟨rfl,rfl,rfl,rfl,rfl,rfl⟩
theorem af9:RF 194 43 Rz f194 [.tmp 6,.tmp 7,.tmp 8]:=aw rfl rfl Tryz.func194 rfl (by kernel_rfl) Tryz.ntmps194 (by rw[Tryz.results194]) rfl rfl
@[simp] theorem aAm:EF 195 M8 zg zm RA zl aao:=⟨rfl,rfl,rfl,rfl,rfl,rfl⟩
theorem Vx:RF 195 13 RA f195 []:=aw rfl rfl Tryz.func195 rfl (by kernel_rfl) Tryz.ntmps195 (by rw[Tryz.results195]) rfl rfl
@[simp] theorem aAn:EF 199 M9 zg zm aap zl zo:=⟨rfl,rfl,rfl,rfl,rfl,rfl⟩
@[simp] theorem aAo:EF 200 Na zg zm aaq zl zo:=⟨rfl,rfl,rfl,rfl,rfl,rfl⟩
@[simp] theorem aAp:EF 201 Nb zg zm aar zl zo:=⟨rfl,rfl,rfl,rfl,rfl,rfl⟩
@[simp] theorem aAq:EF 202 Nc zg zm RB zl aas:=⟨rfl,rfl,rfl,rfl,rfl,rfl⟩
theorem aga:RF 202 25 RB f202 [.tmp 4,.cell 5 64]:=aw rfl rfl Tryz.func202 rfl (by kernel_rfl) Tryz.ntmps202 (by rw[Tryz.results202]) rfl rfl
@[simp] theorem aAr:EF 203 Nd zg zm RC zl zo:=⟨rfl,rfl,rfl,rfl,rfl,rfl⟩
theorem agb:RF 203 14 RC f203 [.tmp 4]:=aw rfl rfl Tryz.func203 rfl (by kernel_rfl) Tryz.ntmps203 (by rw[Tryz.results203]) rfl rfl
@[simp] theorem aAs:EF 204 Nf zg zm RD zl zo:=⟨rfl,rfl,rfl,rfl,rfl,rfl⟩
theorem agc:RF 204 25 RD f204 [.tmp 6]:=aw rfl rfl Tryz.func204 rfl (by kernel_rfl) Tryz.ntmps204 (by rw[Tryz.results204]) rfl rfl
@[simp] theorem aAt:EF 205 Ng zg zm RE zl zo:=⟨rfl,rfl,rfl,rfl,rfl,rfl⟩
theorem agd:RF 205 19 RE f205 [.tmp 6]:=aw rfl rfl Tryz.func205 rfl (by kernel_rfl) Tryz.ntmps205 (by rw[Tryz.results205]) rfl rfl
@[simp] theorem aAu:EF 206 Nh zg zm RG zl aat:=⟨rfl,rfl,rfl,rfl,rfl,rfl⟩
theorem age:RF 206 41 RG f206 [.tmp 6,.cell 7 150]:=aw rfl rfl Tryz.func206 rfl (by kernel_rfl) Tryz.ntmps206 (by rw[Tryz.results206]) rfl rfl
@[simp] theorem aAv:EF 207 Ni zg zm aau zl zo:=⟨rfl,rfl,rfl,rfl,rfl,rfl⟩
@[simp] theorem aln{args:List AV}{cs:List ay}:ah ctx 207 args cs=mF (n9 UJ) args cs:=Ag rfl rfl
@[simp] theorem aAw:EF 208 Nj zg zm RH zl zo:=⟨rfl,rfl,rfl,rfl,rfl,rfl⟩
theorem agf:RF 208 8 RH f208 [.tmp 4]:=aw rfl rfl Tryz.func208 rfl (by kernel_rfl) Tryz.ntmps208 (by rw[Tryz.results208]) rfl rfl
@[simp] theorem aAx:EF 209 Nk zg zm aav zl zo:=⟨rfl,rfl,rfl,rfl,rfl,rfl⟩
@[simp] theorem alo{args:List AV}{cs:List ay}:ah ctx 209 args cs=mF (n9 Jx) args cs:=Ag rfl rfl
@[simp] theorem aAy:EF 210 Nl zg aaw RJ zl zo:=⟨rfl,rfl,rfl,rfl,rfl,rfl⟩
theorem agh:RF 210 17 RJ f210 [.tmp 2]:=aw rfl rfl Tryz.func210 rfl (by kernel_rfl) Tryz.ntmps210 (by rw[Tryz.results210]) rfl rfl
@[simp] theorem aAz:EF 211 Nn zg aax RL zl zo:=⟨rfl,rfl,rfl,rfl,rfl,rfl⟩
theorem Vy:RF 211 20 RL f211 [.tmp 4]:=aw rfl rfl Tryz.func211 rfl (by kernel_rfl) Tryz.ntmps211 (by rw[Tryz.results211]) rfl rfl
@[simp] theorem aAA:EF 212 No zg aay RN zl zo:=⟨rfl,rfl,rfl,rfl,rfl,rfl⟩
theorem agi:RF 212 13 RN f212 [.tmp 2]:=aw rfl rfl Tryz.func212 rfl (by kernel_rfl) Tryz.ntmps212 (by rw[Tryz.results212]) rfl rfl
@[simp] theorem aAB:EF 213 Np zg zm RO zl zo:=⟨rfl,rfl,rfl,rfl,rfl,rfl⟩
theorem agj:RF 213 6 RO f213 [.tmp 2]:=aw rfl rfl Tryz.func213 rfl (by kernel_rfl) Tryz.ntmps213 (by rw[Tryz.results213]) rfl rfl
@[simp] theorem aAC:EF 214 Nq zg zm RP zl zo:=⟨rfl,rfl,rfl,rfl,rfl,rfl⟩
theorem agk:RF 214 9 RP f214 [.tmp 2]:=aw rfl rfl Tryz.func214 rfl (by kernel_rfl) Tryz.ntmps214 (by rw[Tryz.results214]) rfl rfl
@[simp] theorem aAD:EF 215 Nr zg aaz RQ zl aaA:=⟨rfl,rfl,rfl,rfl,rfl,rfl⟩
theorem agl:RF 215 83 RQ f215 [.tmp 2,.tmp 3,.tmp 4]:=aw rfl rfl Tryz.func215 rfl (by kernel_rfl) Tryz.ntmps215 (by rw[Tryz.results215]) rfl rfl
@[simp] theorem aAE:EF 216 Ns zg zm RR zl zo:=⟨rfl,rfl,rfl,rfl,rfl,rfl⟩
theorem agm:RF 216 19 RR f216 [.tmp 2]:=aw rfl rfl Tryz.func216 rfl (by kernel_rfl) Tryz.ntmps216 (by rw[Tryz.results216]) rfl rfl
@[simp] theorem aAF:EF 217 Nt zg zm aaB zl zo:=⟨rfl,rfl,rfl,rfl,rfl,rfl⟩
@[simp] theorem aAG:EF 218 Nu zg zm aaC zl zo:=⟨rfl,rfl,rfl,rfl,rfl,rfl⟩
@[simp] theorem aAH:EF 219 Nv zg zm aaE zl aaD:=⟨rfl,rfl,rfl,rfl,rfl,rfl⟩
@[simp] theorem aAI:EF 220 Nw zg zm aaF zl zo:=⟨rfl,rfl,rfl,rfl,rfl,rfl⟩
@[simp] theorem aAJ:EF 221 Nx zg zm aaH zl aaG:=⟨rfl,rfl,rfl,rfl,rfl,rfl⟩
@[simp] theorem aAK:EF 222 Ny zg zm aaI zl zo:=⟨rfl,rfl,rfl,rfl,rfl,rfl⟩
@[simp] theorem aAL:EF 223 Nz zg zm aaJ zl zo:=⟨rfl,rfl,rfl,rfl,rfl,rfl⟩
@[simp] theorem aAM:EF 224 NA zg zm aaK zl zo:=⟨rfl,rfl,rfl,rfl,rfl,rfl⟩
@[simp] theorem aAN:EF 233 NB zg zm RS zl zo:=⟨rfl,rfl,rfl,rfl,rfl,rfl⟩
theorem agn:RF 233 19 RS f233 [.tmp 4]:=aw rfl rfl Tryz.func233 rfl (by kernel_rfl) Tryz.ntmps233 (by rw[Tryz.results233]) rfl rfl
@[simp] theorem aAO:EF 241 NC zg zm RU zl zo:=⟨rfl,rfl,rfl,rfl,rfl,rfl⟩
theorem ago:RF 241 19 RU f241 [.tmp 4]:=aw rfl rfl Tryz.func241 rfl (by kernel_rfl) Tryz.ntmps241 (by rw[Tryz.results241]) rfl rfl
@[simp] theorem aAP:EF 243 ND zg zm RV zl zo:=⟨rfl,rfl,rfl,rfl,rfl,rfl⟩
theorem agp:RF 243 23 RV f243 [.tmp 4,.tmp 5]:=aw rfl rfl Tryz.func243 rfl (by kernel_rfl) Tryz.ntmps243 (by rw[Tryz.results243]) rfl rfl
@[simp] theorem aAQ:EF 244 NF zg zm RW zl zo:=⟨rfl,rfl,rfl,rfl,rfl,rfl⟩
theorem agq:RF 244 23 RW f244 [.tmp 4,.tmp 5]:=aw rfl rfl Tryz.func244 rfl (by kernel_rfl) Tryz.ntmps244 (by rw[Tryz.results244]) rfl rfl
@[simp] theorem aAR:EF 245 NG zg zm RX zl zo:=⟨rfl,rfl,rfl,rfl,rfl,rfl⟩
theorem agr:RF 245 27 RX f245 [.tmp 4,.tmp 5]:=aw rfl rfl Tryz.func245 rfl (by kernel_rfl) Tryz.ntmps245 (by rw[Tryz.results245]) rfl rfl
@[simp] theorem aAS:EF 246 NH zg zm RY zl zo:=⟨rfl,rfl,rfl,rfl,rfl,rfl⟩
theorem ags:RF 246 19 RY f246 [.tmp 4,.tmp 5]:=aw rfl rfl Tryz.func246 rfl (by kernel_rfl) Tryz.ntmps246 (by rw[Tryz.results246]) rfl rfl
@[simp] theorem aAT:EF 247 NI zg zm RZ zl zo:=⟨rfl,rfl,rfl,rfl,rfl,rfl⟩
theorem agt:RF 247 14 RZ f247 [.tmp 4,.tmp 5]:=aw rfl rfl Tryz.func247 rfl (by kernel_rfl) Tryz.ntmps247 (by rw[Tryz.results247]) rfl rfl
@[simp] theorem aAU:EF 248 NJ zg aaL aaM zl zo:=⟨rfl,rfl,rfl,rfl,rfl,rfl⟩
@[simp] theorem aAV:EF 249 NK zg aaN aaO zl zo:=⟨rfl,rfl,rfl,rfl,rfl,rfl⟩
@[simp] theorem aAW:EF 250 NL zg zm R0 zl zo:=⟨rfl,rfl,rfl,rfl,rfl,rfl⟩
theorem agu:RF 250 12 R0 f250 [.tmp 4]:=aw rfl rfl Tryz.func250 rfl (by kernel_rfl) Tryz.ntmps250 (by rw[Tryz.results250]) rfl rfl
@[simp] theorem aAX:EF 251 NM zg zm R3 zl aaP:=⟨rfl,rfl,rfl,rfl,rfl,rfl⟩
theorem ue:RF 251 133 R3 f251 [.tmp 4,.tmp 5]:=aw rfl rfl Tryz.func251 rfl (by kernel_rfl) Tryz.ntmps251 (by rw[Tryz.results251]) rfl rfl
@[simp] theorem aAY:EF 252 NN zg zm R4 zl zo:=⟨rfl,rfl,rfl,rfl,rfl,rfl⟩
theorem agv:RF 252 8 R4 f252 [.tmp 3]:=aw rfl rfl Tryz.func252 rfl (by kernel_rfl) Tryz.ntmps252 (by rw[Tryz.results252]) rfl rfl
@[simp] theorem aAZ:EF 253 NO zg aaQ aaR zl zo:=⟨rfl,rfl,rfl,rfl,rfl,rfl⟩
@[simp] theorem aA0:EF 254 NP zg zm aaS zl zo:=⟨rfl,rfl,rfl,rfl,rfl,rfl⟩
@[simp] theorem alp{args:List AV}{cs:List ay}:ah ctx 254 args cs=mF (n9 UI) args cs:=Ag rfl rfl
@[simp] theorem aA1:EF 255 NQ zg aaT aaU zl zo:=⟨rfl,rfl,rfl,rfl,rfl,rfl⟩
@[simp] theorem aA2:EF 256 NR zg zm R5 zl zo:=⟨rfl,rfl,rfl,rfl,rfl,rfl⟩
theorem agw:RF 256 9 R5 f256 [.tmp 4]:=aw rfl rfl Tryz.func256 rfl (by kernel_rfl) Tryz.ntmps256 (by rw[Tryz.results256]) rfl rfl
@[simp] theorem aA3:EF 257 NS zg zm R6 zl aaV:=⟨rfl,rfl,rfl,rfl,rfl,rfl⟩
theorem agx:RF 257 8 R6 f257 [.tmp 3]:=aw rfl rfl Tryz.func257 rfl (by kernel_rfl) Tryz.ntmps257 (by rw[Tryz.results257]) rfl rfl
@[simp] theorem aA4:EF 258 NT zg zm R7 zl zo:=⟨rfl,rfl,rfl,rfl,rfl,rfl⟩
theorem agy:RF 258 20 R7 f258 [.tmp 2]:=aw rfl rfl Tryz.func258 rfl (by kernel_rfl) Tryz.ntmps258 (by rw[Tryz.results258]) rfl rfl
@[simp] theorem aA5:EF 259 NU zg zm aaW zl zo:=⟨rfl,rfl,rfl,rfl,rfl,rfl⟩
@[simp] theorem aA6:EF 260 NV zg zm aaX zl zo:=⟨rfl,rfl,rfl,rfl,rfl,rfl⟩
@[simp] theorem aA7:EF 261 NW zg zm aaY zl zo:=⟨rfl,rfl,rfl,rfl,rfl,rfl⟩
@[simp] theorem aA8:EF 262 NX zg zm aaZ zl zo:=⟨rfl,rfl,rfl,rfl,rfl,rfl⟩
@[simp] theorem aA9:EF 263 NY zg zm aa1 zl aa0:=⟨rfl,rfl,rfl,rfl,rfl,rfl⟩
@[simp] theorem aBa:EF 264 NZ zg zm aa2 zl zo:=⟨rfl,rfl,rfl,rfl,rfl,rfl⟩
@[simp] theorem aBb:EF 276 N0 zg zm R8 zl zo:=⟨rfl,rfl,rfl,rfl,rfl,rfl⟩
theorem agz:RF 276 51 R8 f276 [.tmp 4,.tmp 5]:=aw rfl rfl Tryz.func276 rfl (by kernel_rfl) Tryz.ntmps276 (by rw[Tryz.results276]) rfl rfl
@[simp] theorem aBc:EF 277 N1 zg zm R9 zl zo:=⟨rfl,rfl,rfl,rfl,rfl,rfl⟩
theorem agA:RF 277 10 R9 f277 [.tmp 2]:=aw rfl rfl Tryz.func277 rfl (by kernel_rfl) Tryz.ntmps277 (by rw[Tryz.results277]) rfl rfl
@[simp] theorem aBd:EF 278 N2 zg zm Sa zl zo:=⟨rfl,rfl,rfl,rfl,rfl,rfl⟩
theorem agB:RF 278 24 Sa f278 [.tmp 4,.tmp 5]:=aw rfl rfl Tryz.func278 rfl (by kernel_rfl) Tryz.ntmps278 (by rw[Tryz.results278]) rfl rfl
@[simp] theorem aBe:EF 279 N3 zg zm aa4 zl aa3:=⟨rfl,rfl,rfl,rfl,rfl,rfl⟩
@[simp] theorem aBf:EF 280 N4 zg zm aa6 zl aa5:=⟨rfl,rfl,rfl,rfl,rfl,rfl⟩
@[simp] theorem aBg:EF 281 N5 zg zm Sb zl zo:=⟨rfl,rfl,rfl,rfl,rfl,rfl⟩
theorem agC:RF 281 8 Sb f281 [.tmp 3]:=aw rfl rfl Tryz.func281 rfl (by kernel_rfl) Tryz.ntmps281 (by rw[Tryz.results281]) rfl rfl
@[simp] theorem aBh:EF 282 N6 zg zm Sc zl zo:=⟨rfl,rfl,rfl,rfl,rfl,rfl⟩
theorem agD:RF 282 25 Sc f282 [.tmp 6]:=aw rfl rfl Tryz.func282 rfl (by kernel_rfl) Tryz.ntmps282 (by rw[Tryz.results282]) rfl rfl
@[simp] theorem aBi:EF 285 N7 zg zm aa7 zl zo:=⟨rfl,rfl,rfl,rfl,rfl,rfl⟩
@[simp] theorem aBj:EF 286 N8 zg aa8 aa9 zl zo:=⟨rfl,rfl,rfl,rfl,rfl,rfl⟩
@[simp] theorem aBk:EF 287 N9 zg zm Sd zl zo:=⟨rfl,rfl,rfl,rfl,rfl,rfl⟩
theorem agE:RF 287 19 Sd f287 [.tmp 4]:=aw rfl rfl Tryz.func287 rfl (by kernel_rfl) Tryz.ntmps287 (by rw[Tryz.results287]) rfl rfl
@[simp] theorem aBl:EF 288 Oa zg zm aba zl zo:=⟨rfl,rfl,rfl,rfl,rfl,rfl⟩
@[simp] theorem aBm:EF 289 Ob zg zm abc zl abb:=⟨rfl,rfl,rfl,rfl,rfl,rfl⟩
@[simp] theorem aBn:EF 290 Oc zg zm abd zl zo:=⟨rfl,rfl,rfl,rfl,rfl,rfl⟩
@[simp] theorem aBo:EF 291 Od zg zm abe zl zo:=⟨rfl,rfl,rfl,rfl,rfl,rfl⟩
@[simp] theorem aBp:EF 292 Oe abg zm abh zl abf:=⟨rfl,rfl,rfl,rfl,rfl,rfl⟩
@[simp] theorem aBq:EF 293 Of abk abi abl zl abj:=⟨rfl,rfl,rfl,rfl,rfl,rfl⟩
@[simp] theorem aBr:EF 294 Og zg zm abn zl abm:=⟨rfl,rfl,rfl,rfl,rfl,rfl⟩
@[simp] theorem aBs:EF 295 Oh zg zm abo zl zo:=⟨rfl,rfl,rfl,rfl,rfl,rfl⟩
@[simp] theorem aBt:EF 296 Oi abq zm abr zl abp:=⟨rfl,rfl,rfl,rfl,rfl,rfl⟩
@[simp] theorem aBu:EF 297 Oj zg zm abt zl zo:=⟨rfl,rfl,rfl,rfl,rfl,rfl⟩
@[simp] theorem aBv:EF 306 Ok zg zm Se zl zo:=⟨rfl,rfl,rfl,rfl,rfl,rfl⟩
theorem agF:RF 306 4 Se f306 [.tmp 2]:=aw rfl rfl Tryz.func306 rfl (by kernel_rfl) Tryz.ntmps306 (by rw[Tryz.results306]) rfl rfl
@[simp] theorem aBw:EF 307 Ol zg zm abu zl zo:=⟨rfl,rfl,rfl,rfl,rfl,rfl⟩
@[simp] theorem aBx:EF 308 Om zg zm abv zl zo:=⟨rfl,rfl,rfl,rfl,rfl,rfl⟩
@[simp] theorem aBy:EF 309 On zg abw abx zl zo:=⟨rfl,rfl,rfl,rfl,rfl,rfl⟩
@[simp] theorem aBz:EF 310 Oo zg zm aby zl zo:=⟨rfl,rfl,rfl,rfl,rfl,rfl⟩
@[simp] theorem aBA:EF 311 Oq zg zm abA zl abz:=⟨rfl,rfl,rfl,rfl,rfl,rfl⟩
@[simp] theorem aBB:EF 314 Ot zg zm abB zl zo:=⟨rfl,rfl,rfl,rfl,rfl,rfl⟩
@[simp] theorem aBC:EF 315 Ou zg zm abD zl abC:=⟨rfl,rfl,rfl,rfl,rfl,rfl⟩
@[simp] theorem aBD:EF 316 Ov zg zm abE zl zo:=⟨rfl,rfl,rfl,rfl,rfl,rfl⟩
@[simp] theorem aBE:EF 318 Ow zg zm abG zl abF:=⟨rfl,rfl,rfl,rfl,rfl,rfl⟩
end Go.Am
end
section
namespace Go.Am
@[simp] def qu(t:fg):D:=.agg [.int .i64 t.kind,.str t.text,.int .i64 t.n,.int .i64 t.line,.int .i64 t.En]
end Go.Am
end
section
namespace Go.Am
open Go
def eT(op:Int):Nat:=if op=4\/op=6\/op=7 then 1 else if 7<op then 2 else 0
mutual
def bH:Ex->Bool
 | .mk op n name field sub _=>
  !decide ((op=1/\n<0)\/(op=2/\(n<0\/1<n))\/(2<op/\n≠0)\/op<1\/21<op)&&
  (decide (sub.length=eT op)&&((if op=3\/op=4\/op=5 then dn name else decide (name=[]))&&((if op=5 then dn field else decide (field=[]))&&bG sub)))
def bG:List Ex->Bool
 |[]=>true
 |x::r=>bH x&&bG r
end
theorem im:∀l:List Ex,bG l=true↔∀x∈l,bH x=true
 |[]=>by simp[bG]
 |x::r=>by simp[bG,im r]
def dL(x:Ex):Bool:=decide (bO x=0)&&(decide (fW x=0)&&decide ((dS x).length+(eS x).length+(cV x).length=0))
def Az(l:List Int):Bool:=!decide (l.length=0)&&(decide (l.length%2=0)&&l.all λn=>decide (n≠ -9223372036854775808))
def dq(op:Int)(D H fields A:Nat):Bool:=
 if op=2 then decide (D=max 1 D)&&(decide (H=0)&&(decide (fields=0)&&(decide (max 1 D<=A)&&decide (A<=max 1 D+1))))
 else if op=3 then decide (D=0)&&(decide (fields=0)&&(decide (H<=A)&&decide (A<=H+1)))
 else if op=4 then decide (D=3)&&(decide (H=0)&&(decide (fields=0)&&decide (A=1)))
 else if op=5\/op=6 then decide (D=0)&&(decide (H=0)&&(decide (fields=0)&&decide (A=1)))
 else if op=9 then decide (D=fields)&&(decide (H=0)&&decide (A=0))
 else decide (D=0)&&(decide (H=0)&&(decide (fields=0)&&decide (A=0)))
mutual
def jF:Sm->Bool
 | .mk op name to val D H fields A _=>
  decide (1<=op/\op<=9)&&((if op=4\/op=9 then dn name else decide (name=[]))&&
  ((if op=1 then decide (bO to=3\/bO to=4)&&bH to else dL to)&&
  ((if op=1\/op=3\/op=5\/op=6 then !dL val&&bH val else dL val)&&
  (bG D&&(dq op D.length H.length fields.length A.length&&
  (fields.all dn&&(H.all Az&&cH A)))))))
def eh:List Sm->Bool
 |[]=>true
 |x::r=>jF x&&eh r
def cH:List (List Sm)->Bool
 |[]=>true
 |b::r=>eh b&&cH r
end
def qL(k:Int):Bool:=(bC k).length≠0
def dQ(v:Vr):Bool:=
 dn v.name&&(decide (0<=v.sec/\v.sec<=2)&&(decide (v.ty=1\/v.ty=2)||qL v.ty)&&
 ((if v.arr=true then decide (v.ty<=2/\0<=v.lo/\v.lo<=v.hi/\v.hi<=255)else decide (v.lo=0/\v.hi=0))&&
 !decide (((v.arr=true\/2<v.ty)/\v.init≠0)\/(v.ty=2/\(v.init<0\/1<v.init))\/v.init= -9223372036854775808)))
def nC(p:Pg):Bool:=dn p.name&&(decide (p.vars.length<=64)&&(p.vars.all dQ&&eh p.body))
abbrev EL:=Int×Int
def eU(a b:EL):EL:=if a.1≠0 then a else b
def GW(a:Te):EL:=(a.e,a.line)
def JD(vs:List Vr)(to val:Ex)(line:Int):EL:=
 match bz vs (dS to)with
 |none=>(9,jq to)
 |some v=>if v.sec=1 then (1,jq to)else eU (GW (aL vs to)) (eU (GW (aL vs val)) (if (aL vs val).t≠(aL vs to).t then (10,line)else (0,0)))
def kV(vs:List Vr)(t:Int):List Ex->EL
 |[]=>(0,0)
 |x::r=>eU (dz vs x t) (kV vs t r)
def ib(vs:List Vr)(k line:Int):List Tx->List Ex->List Tx->EL
 |f::I,x::xs,p=>match l7 k f with
  |none=>(9,line)
  |some q=>if q.Jw=false then (9,line)else if f∈p then (11,line)else eU (dz vs x q.ty) (ib vs k line I xs (p++[f]))
 |_,_,_=>(0,0)
mutual
def kW(vs:List Vr)(E:Bool):Sm->EL
 | .mk op name to val D _ fields A line=>
  if op=1 then JD vs to val line
  else if op=2 then eN vs E D A
  else if op=3 then eU (dz vs val 1) (eN vs E [] A)
  else if op=4 then (match bz vs name with
   |none=>(9,line)
   |some v=>if v.sec=1 then (1,line)else if v.arr=true\/v.ty≠1 then (10,line)else eU (kV vs 1 D) (rJ vs A))
  else if op=5 then eU (dz vs val 2) (rJ vs A)
  else if op=6 then eU (rJ vs A) (dz vs val 2)
  else if op=7 then (if E=true then (0,0)else (14,line))
  else if op=9 then (match bz vs name with
   |none=>(9,line)
   |some v=>if v.ty<=2 then (10,line)else ib vs v.ty line fields D [])
  else (0,0)
def ep(vs:List Vr)(E:Bool):List Sm->EL
 |[]=>(0,0)
 |x::r=>eU (kW vs E x) (ep vs E r)
def eN(vs:List Vr)(E:Bool):List Ex->List (List Sm)->EL
 |_,[]=>(0,0)
 |[],b::r=>eU (ep vs E b) (eN vs E [] r)
 |c::cs,b::r=>eU (dz vs c 2) (eU (ep vs E b) (eN vs E cs r))
def rJ(vs:List Vr):List (List Sm)->EL
 |[]=>(0,0)
 |b::_=>ep vs true b
end
def GX:List Vr->List Vr->Int->EL
 |[],_,_=>(0,0)
 |v::r,p,n=>if (bz p v.name).isSome then (11,v.line)else if 1024<n+cq v then (13,v.line)else GX r (p++[v]) (n+cq v)
def mP(p:Pg):EL:=eU (GX p.vars [] 0) (ep p.vars false p.body)
def jr{α:Type}(p:α->Bool):List α->Nat->Int
 |[],_=> -1
 |x::r,i=>if p x=true then i else jr p r (i+1)
theorem yi{α:Type}(p:α->Bool):∀(l:List α)(i:Nat),jr p l i= -1\/(i<=jr p l i/\jr p l i<i+l.length)
 |[],i=>.inl rfl
 |x::r,i=>by
  unfold jr;split
  ·right;simp;omega
  ·rcases yi p r (i+1)with h|h
   ·exact .inl h
   ·right;simp only[ach];omega
end Go.Am
end
section
namespace Go.Am
open Go Go.Proofs
variable [Inhabited bI]
set_option maxRecDepth 20000
@[simp] theorem auE(a b:Tx):(a == b)=decide (a=b):=by by_cases h:a=b<;>simp[h]
end Go.Am
end
section
namespace Go.Am
open Go Go.Proofs Go.Proofs.Tryz
variable [Inhabited bI]
set_option maxRecDepth 20000
theorem arx:ah ctx 54 [.d (.int .i64 10)] []=some (.ret (.d (.list ((bC 10).map de))),[]):=bu 120 (by kernel_rfl)
theorem ary:ah ctx 54 [.d (.int .i64 11)] []=some (.ret (.d (.list ((bC 11).map de))),[]):=bu 120 (by kernel_rfl)
theorem arz:ah ctx 54 [.d (.int .i64 12)] []=some (.ret (.d (.list ((bC 12).map de))),[]):=bu 120 (by kernel_rfl)
theorem arA:ah ctx 54 [.d (.int .i64 13)] []=some (.ret (.d (.list ((bC 13).map de))),[]):=bu 120 (by kernel_rfl)
theorem arB:ah ctx 54 [.d (.int .i64 14)] []=some (.ret (.d (.list ((bC 14).map de))),[]):=bu 120 (by kernel_rfl)
theorem arC:ah ctx 54 [.d (.int .i64 15)] []=some (.ret (.d (.list ((bC 15).map de))),[]):=bu 120 (by kernel_rfl)
theorem arD:ah ctx 54 [.d (.int .i64 16)] []=some (.ret (.d (.list ((bC 16).map de))),[]):=bu 120 (by kernel_rfl)
theorem arE:ah ctx 54 [.d (.int .i64 17)] []=some (.ret (.d (.list ((bC 17).map de))),[]):=bu 120 (by kernel_rfl)
theorem arF:ah ctx 54 [.d (.int .i64 18)] []=some (.ret (.d (.list ((bC 18).map de))),[]):=bu 120 (by kernel_rfl)
theorem arG:ah ctx 54 [.d (.int .i64 20)] []=some (.ret (.d (.list ((bC 20).map de))),[]):=bu 120 (by kernel_rfl)
theorem arH:ah ctx 54 [.d (.int .i64 21)] []=some (.ret (.d (.list ((bC 21).map de))),[]):=bu 120 (by kernel_rfl)
theorem arI:ah ctx 54 [.d (.int .i64 22)] []=some (.ret (.d (.list ((bC 22).map de))),[]):=bu 120 (by kernel_rfl)
theorem arJ:ah ctx 54 [.d (.int .i64 23)] []=some (.ret (.d (.list ((bC 23).map de))),[]):=bu 120 (by kernel_rfl)
theorem arK:ah ctx 54 [.d (.int .i64 24)] []=some (.ret (.d (.list ((bC 24).map de))),[]):=bu 120 (by kernel_rfl)
theorem arL:ah ctx 54 [.d (.int .i64 25)] []=some (.ret (.d (.list ((bC 25).map de))),[]):=bu 120 (by kernel_rfl)
theorem arM:ah ctx 54 [.d (.int .i64 26)] []=some (.ret (.d (.list ((bC 26).map de))),[]):=bu 120 (by kernel_rfl)
theorem arN:ah ctx 54 [.d (.int .i64 27)] []=some (.ret (.d (.list ((bC 27).map de))),[]):=bu 120 (by kernel_rfl)
theorem arO:ah ctx 54 [.d (.int .i64 28)] []=some (.ret (.d (.list ((bC 28).map de))),[]):=bu 120 (by kernel_rfl)
theorem arP:ah ctx 54 [.d (.int .i64 29)] []=some (.ret (.d (.list ((bC 29).map de))),[]):=bu 120 (by kernel_rfl)
theorem arQ:ah ctx 54 [.d (.int .i64 30)] []=some (.ret (.d (.list ((bC 30).map de))),[]):=bu 120 (by kernel_rfl)
theorem arR:ah ctx 54 [.d (.int .i64 31)] []=some (.ret (.d (.list ((bC 31).map de))),[]):=bu 120 (by kernel_rfl)
def pq:D->Option Int
 | .agg [.int .i64 k,.str _,.str _,.str _,.int .i64 _]=>some k
 |_=>none
theorem BZ{d:D}{k:Int}(h:pq d=some k):∃a b c n,d=.agg [.int .i64 k,.str a,.str b,.str c,.int .i64 n]:=by
 unfold pq at h;split at h
 ·rename_i A' a b c n;cases h;exact⟨a,b,c,n,rfl⟩
 ·cases h
def Ox:Option (Out×List (Nat×ay))->Option (List (Option Int))
 |some (.ret (.d (.list l)),[])=>some (l.map pq)
 |_=>none
theorem agG:Ox (aK ctx 120 137 [] [])=some (kU.map some):=by kernel_rfl
theorem Yi:∃l:List D,ah ctx 137 [] []=some (.ret (.d (.list l)),[])/\l.map pq=kU.map some:=by
 have h:=agG;generalize T:aK ctx 120 137 [] []=r at h;unfold Ox at h;split at h
 ·rename_i l;exact⟨l,bu 120 T,by simpa using h⟩
 ·cases h
theorem Yj(d:D)(k b:Int)(E:pq d=some k):ah ctx 139 [.d d,.ptr 0 0 0] [.box [.d (.int .i64 b)]]=some (.ret (.d (.bool (decide (k=b)))),[(0,.box [.d (.int .i64 b)])]):=by
 obtain⟨a,e,c,n,rfl⟩:=BZ E;rw[Vv (by simp)];simp[f139]
theorem B0(b:Int):∀(rest pre:List D),(∀d∈rest,∃k,pq d=some k/\k≠b)->(pre++rest).length<1000->∀k:Kt,
 aN ctx 138 (.loop (Code.at (bq f138) [1,0,1,0,0])) ⟨19,aC,[(0,true,.d (.list (pre++rest))),(1,true,.fn 139 [.ptr 0 0 0]),(7,true,.d (.int .i64 (pre++rest).length)),(8,true,.d (.int .i64 pre.length))],[⟨0,0,.box [.d (.int .i64 b)]⟩]⟩ k=
  k (.exit 0) ⟨19,aC,[(0,true,.d (.list (pre++rest))),(1,true,.fn 139 [.ptr 0 0 0]),(7,true,.d (.int .i64 (pre++rest).length)),(8,true,.d (.int .i64 (pre++rest).length)),(9,true,.d (.bool false))],[⟨0,0,.box [.d (.int .i64 b)]⟩]⟩
 |[],pre,h,H,k=>by
  rw[ag];simp[f138]
 |d::rest,pre,h,H,k=>by
  obtain⟨M,I,U⟩:=h d (by simp);have N:=Yj d M b I;obtain⟨V,a2,a3,a4,rfl⟩:=BZ I;have ih:=B0 b rest (pre++[.agg [.int .i64 M,.str V,.str a2,.str a3,.int .i64 a4]]) (λd E=>h d (by simp[E])) (by simpa using H) k;have J:(pre.length:Int)<pre.length+(rest.length+1):=by omega
  have Y:IntKind.i64.wrap ((pre.length:Int)+1)=pre.length+1:=aH (by unfold aI;simp at H;omega);simp[U]at N;rw[ag];simp[f138]at ih⊢;simp[J,Y,N,ih]
theorem Sg(b:Int)(A:b∉kU):ah ctx 54 [.d (.int .i64 b)] []=some (.ret (.d (.list [])),[]):=by
 obtain⟨l,H,hm⟩:=Yi;have A0:l.length=21:=by have:=aeK List.length hm;simpa [kU]using this
 have Z:∀d∈l,∃k,pq d=some k/\k≠b:=by
  intro d E;have J:pq d∈l.map pq:=ab7 E;rw[hm]at J;obtain⟨k,I,he⟩:=ab4.1 J;exact⟨k,he.symm,λh=>A (h▸I)⟩
 have O:=B0 b l [] Z (by simp;omega);have q:ah ctx 138 [.d (.list l),.fn 139 [.ptr 0 0 0]] [.box [.d (.int .i64 b)]]=some (.ret (.d (.int .i64 (-1))),[(0,.box [.d (.int .i64 b)])]):=by
  rw[Vu (by simp)];simp[f138]at O⊢;simp[O]
 have y:ah ctx 89 [.d (.int .i64 b)] []=some (.ret (.bY [.d (.agg [.int .i64 0,.str [],.str [],.str [],.int .i64 0]),.d (.bool false)]),[]):=by
  rw[abK (by simp)];simp[f89,H,q]
 rw[abI (by simp)];simp[f54,y]
theorem FK(b:Int):ah ctx 54 [.d (.int .i64 b)] []=some (.ret (.d (.list ((bC b).map de))),[]):=by
 by_cases A:b∈kU
 ·simp only[kU,abV,aed,amt]at A;rcases A with rfl|rfl|rfl|rfl|rfl|rfl|rfl|rfl|rfl|rfl|rfl|rfl|rfl|rfl|rfl|rfl|rfl|rfl|rfl|rfl|rfl
  ·exact arx
  ·exact ary
  ·exact arz
  ·exact arA
  ·exact arB
  ·exact arC
  ·exact arD
  ·exact arE
  ·exact arF
  ·exact arG
  ·exact arH
  ·exact arI
  ·exact arJ
  ·exact arK
  ·exact arL
  ·exact arM
  ·exact arN
  ·exact arO
  ·exact arP
  ·exact arQ
  ·exact arR
 ·rw[yg A];exact Sg b A
end Go.Am
end
section
namespace Go.Am
open Go Go.Proofs
variable [Inhabited bI]
set_option maxRecDepth 20000
def sk:Vr:=⟨[],0,0,false,0,0,0,0⟩
def fV(vs:List Vr)(s:Tx):Vr:=(bz vs s).getD sk
def uV:Pn:=⟨[],0,false⟩
def fP(k:Int)(s:Tx):Pn:=(l7 k s).getD uV
end Go.Am
end
section
namespace Go.Am
open Go Go.Proofs Go.Proofs.Tryz
variable [Inhabited bI]
set_option maxRecDepth 20000
@[simp] def Si(t:Tx):D:=.str t
theorem Ez(s:Tx)(l:List Tx)(Z:l.length<=1000)(k:Kt)(R1 R2:cd)
 (E:k .ret ⟨15,aC,[(2,true,.d (.bool true))],[]⟩=R1)
 (A:∀Y:Env,k (.exit 0) ⟨15,aC,Y,[]⟩=R2):∀(rest:List Tx)(j:Nat),l.drop j=rest->j+rest.length=l.length->
 aN ctx 66 (.loop (Code.at (bq f66) [1,0,1,0,0])) ⟨15,aC,[(0,true,.d (.str s)),(5,true,.d (.list (l.map Si))),(6,true,.d (.int .i64 l.length)),(7,true,.d (.int .i64 j))],[]⟩ k=if s∈rest then R1 else R2
 |[],j,I,H=>by
  have H:j=l.length:=by simpa using H
  subst H;rw[ag];simp[f66,A]
 |x::rest,j,I,H=>by
  have M:j<l.length:=by simp at H;omega
  have U:l[j]=x:=by
   have:=aeK (·[0]?) I;simp at this;simpa [M]using this
  have ih:=Ez s l Z k R1 R2 E A rest (j+1) (by rw[<-amu,I];rfl) (by simp at H;omega);have N:IntKind.i64.wrap ((j:Int)+1)=(j:Int)+1:=aH (by unfold aI;omega);rw[ag];by_cases q:x=s
  ·simp[f66];simp[M,U,q,E]
  ·have A2:¬s=x:=λh=>q h.symm;simp[f66]at ih⊢;simp[M,U,q,A2,N,ih]
theorem Vz(s:Tx):ah ctx 66 [.d (.str s)] []=some (.ret (.d (.bool (uS s))),[]):=by
 have O:=λk R1 R2 E A=>Ez s jW (by decide) k R1 R2 E A jW 0 rfl (by decide);have e:List.map Si jW=jW.map Si:=rfl;have A6:jW.length=36:=rfl;have A3:List.range' 0 36=[0,1,2,3,4,5,6,7,8,9,10,11,12,13,14,15,16,17,18,19,20,21,22,23,24,25,26,27,28,29,30,31,32,33,34,35]:=rfl;rw[ald (by simp)];unfold uS;generalize y:decide (s∈jW)=B;simp[f66,jW]at O;simp[f66,A3];rw[O _ (some (.ret (.d (.bool true)),[])) (some (.ret (.d (.bool false)),[])) (by simp) (by simp)];subst y;by_cases hm:s∈jW
 ·rw[amk hm];simp only[jW,abV,aed,amt]at hm;rw[abT hm]
 ·rw[decide_eq_false hm];simp only[jW,abV,aed,amt]at hm;rw[abN hm]
theorem EA(s:Tx)(Z:s.length<=16)(k:Kt)(R1 R2:cd)
 (E:k .ret ⟨59,aC,[(2,true,.d (.bool false))],[]⟩=R1)
 (A:∀Y:Env,k (.exit 0) ⟨59,aC,Y,[]⟩=R2):∀(rest:Tx)(j:Nat),s.drop j=rest->j+rest.length=s.length->
 aN ctx 35 (.loop (Code.at (bq f35) [1,1,0,1,0,0])) ⟨59,aC,[(0,true,.d (.str s)),(3,true,.d (.int .i64 j))],[]⟩ k=if uT rest j=true then R2 else R1
 |[],j,I,H=>by
  have H:j=s.length:=by simpa using H
  subst H;rw[ag];simp[f35,A,uT]
 |c::rest,j,I,H=>by
  have M:j<s.length:=by simp at H;omega
  have U:iR s j=c:=by
   have:=aeK (·[0]?) I;simp at this;simp[iR,this]
  have ih:=EA s Z k R1 R2 E A rest (j+1) (by rw[<-amu,I];rfl) (by simp at H;omega);have N:IntKind.i64.wrap ((j:Int)+1)=(j:Int)+1:=aH (by unfold aI;omega);have key:uT (c::rest) j=((Xz c||(!decide (j=0)&&(decide (c=95)||XA c)))&&uT rest (j+1)):=rfl;have A4:decide (c=95)=decide (c.toNat=95):=by
   rw[decide_eq_decide];exact⟨λh=>by rw[h];rfl,λh=>UInt8.toNat_inj.1 (by rw[h];rfl)⟩
  rw[key,A4];generalize uT rest (j+1)=B at*;rw[ag];simp[f35]at ih⊢;simp[M,U,N,E,ih];unfold Xz XA;grind
theorem eH(s:Tx):ah ctx 35 [.d (.str s)] []=some (.ret (.d (.bool (dn s))),[]):=by
 have hw:=Vz s;unfold dn;rw[akZ (by simp)];by_cases E:s.length<1
 ·have A:¬1<=s.length:=by omega
  have J:(s.length:Int)<1:=by omega
  simp[f35,A,J]
 ·by_cases A':16<s.length
  ·have A:1<=s.length:=by omega
   have J:¬(s.length:Int)<1:=by omega
   have T:¬s.length<=16:=by omega
   have V:(16:Int)<s.length:=by omega
   simp[f35,A,J,T,A',V]
  ·have A:1<=s.length:=by omega
   have J:¬(s.length:Int)<1:=by omega
   have T:s.length<=16:=by omega
   have V:¬(16:Int)<s.length:=by omega
   cases A1:uS s with
   |true=>
    rw[A1]at hw;simp[f35,A,J,T,A',V,hw]
   |false=>
    rw[A1]at hw;have O:=λk R1 R2 E A=>EA s T k R1 R2 E A s 0 rfl (by simp);simp[f35]at O;simp[f35,A,J,T,A',V,hw];rw[O _ (some (.ret (.d (.bool false)),[])) (some (.ret (.d (.bool true)),[])) (by simp) (by simp)];cases uT s 0<;>simp
theorem Oy{x:Ex}(h:(dS x).length<100000000/\(eS x).length<100000000/\(cV x).length<100000000):ah ctx 70 [.d (.agg [.int .i64 (bO x),.int .i64 (fW x),.str (dS x),.str (eS x),.list ((cV x).map bL),.int .i64 (jq x)])] []=some (.ret (.d (.bool (dL x))),[]):=by
 have N:IntKind.i64.wrap ((dS x).length+(eS x).length:Int)=(dS x).length+(eS x).length:=aH (by unfold aI;omega);have A5:IntKind.i64.wrap ((dS x).length+(eS x).length+(cV x).length:Int)=(dS x).length+(eS x).length+(cV x).length:=aH (by unfold aI;omega);unfold dL;generalize y:decide ((dS x).length+(eS x).length+(cV x).length=0)=B;rw[alg (by simp)];by_cases A0:bO x=0
 ·by_cases E:fW x=0
  ·simp[f70,A0,E];rw[N,A5,<-y,decide_eq_decide];omega
  ·simp[f70,A0,E]
 ·simp[f70,A0]
theorem Yl(op:Int):ah ctx 68 [.d (.int .i64 op)] []=some (.ret (.bY [.d (.bool (decide (op=4\/op=9))),.d (.bool (decide (op=1))),.d (.bool (decide (op=1\/op=3\/op=5\/op=6)))]),[]):=by
 rw[ale (by simp)];simp[f68];grind
theorem pt(x:Ex):bH x=(!decide ((bO x=1/\fW x<0)\/(bO x=2/\(fW x<0\/1<fW x))\/(2<bO x/\fW x≠0)\/bO x<1\/21<bO x)&&
 (decide ((cV x).length=eT (bO x))&&((if bO x=3\/bO x=4\/bO x=5 then dn (dS x)else decide (dS x=[]))&&((if bO x=5 then dn (eS x)else decide (eS x=[]))&&bG (cV x))))):=by
 cases x;rw[bH];rfl
def KF(l:List Ex):Prop:=ah ctx 69 [.d (.list (l.map bL))] []=some (.ret (.d (.bool (bG l))),[])
theorem agH{l:List Ex}(U:l.length<100000000){i:Nat}{x:Ex}(D:i<l.length)(E:l[i]=x)(A:KF (cV x))(V:(cV x).length<100000000)(k:Kt)(R1 R2:cd)(B:Bool)
 (H:∀v X,k .ret ⟨126,aC,[(2,true,.d (.bool false))],[⟨300,v,X⟩]⟩=R1)
 (ih:∀v X,aN ctx 69 (.loop (Code.at (bq f69) [1,0,1,0,0])) ⟨126,aC,[(0,true,.d (.list (l.map bL))),(3,true,.d (.int .i64 (i+1)))],[⟨300,v,X⟩]⟩ k=if B=true then R2 else R1) (h:bO x<1) (v:Nat) (X:ay):
 aN ctx 69 (.loop (Code.at (bq f69) [1,0,1,0,0])) ⟨126,aC,[(0,true,.d (.list (l.map bL))),(3,true,.d (.int .i64 i))],[⟨300,v,X⟩]⟩ k=if (bH x&&B)=true then R2 else R1:=by
 have I:IntKind.i64.wrap ((i:Int)+1)=i+1:=aH (by unfold aI;omega);have J:=eH (dS x);have M:=eH (eS x);unfold KF at A;rw[pt];generalize bG (cV x)=S at*;generalize dn (dS x)=N at*;generalize dn (eS x)=F at*;have Y:¬bO x=1:=by omega
 have Z:¬bO x=2:=by omega
 have y:¬bO x=3:=by omega
 have A':¬bO x=4:=by omega
 have A0:¬bO x=5:=by omega
 have A1:¬bO x=6:=by omega
 have A2:¬bO x=7:=by omega
 have d1:¬2<bO x:=by omega
 rw[ag];simp[f69]at ih⊢;simp[D,E,I,au,h,A,J,M,ih,H,Y,Z,d1];intros;omega
theorem agI{l:List Ex}(U:l.length<100000000){i:Nat}{x:Ex}(D:i<l.length)(E:l[i]=x)(A:KF (cV x))(V:(cV x).length<100000000)(k:Kt)(R1 R2:cd)(B:Bool)
 (H:∀v X,k .ret ⟨126,aC,[(2,true,.d (.bool false))],[⟨300,v,X⟩]⟩=R1)
 (ih:∀v X,aN ctx 69 (.loop (Code.at (bq f69) [1,0,1,0,0])) ⟨126,aC,[(0,true,.d (.list (l.map bL))),(3,true,.d (.int .i64 (i+1)))],[⟨300,v,X⟩]⟩ k=if B=true then R2 else R1) (h:bO x=1) (v:Nat) (X:ay):
 aN ctx 69 (.loop (Code.at (bq f69) [1,0,1,0,0])) ⟨126,aC,[(0,true,.d (.list (l.map bL))),(3,true,.d (.int .i64 i))],[⟨300,v,X⟩]⟩ k=if (bH x&&B)=true then R2 else R1:=by
 have I:IntKind.i64.wrap ((i:Int)+1)=i+1:=aH (by unfold aI;omega);have J:=eH (dS x);have M:=eH (eS x);unfold KF at A;rw[pt];generalize bG (cV x)=S at*;generalize dn (dS x)=N at*;generalize dn (eS x)=F at*;rw[ag];simp[f69]at ih⊢;have T:eT 1=0:=rfl;by_cases O:fW x<0
 ·simp[D,E,I,au,h,A,J,M,ih,H,O];intros;omega
 ·by_cases q:1<fW x
  ·simp[D,E,I,au,h,A,J,M,ih,H,O,q,T];grind
  ·simp[D,E,I,au,h,A,J,M,ih,H,O,q,T];grind
theorem agJ{l:List Ex}(U:l.length<100000000){i:Nat}{x:Ex}(D:i<l.length)(E:l[i]=x)(A:KF (cV x))(V:(cV x).length<100000000)(k:Kt)(R1 R2:cd)(B:Bool)
 (H:∀v X,k .ret ⟨126,aC,[(2,true,.d (.bool false))],[⟨300,v,X⟩]⟩=R1)
 (ih:∀v X,aN ctx 69 (.loop (Code.at (bq f69) [1,0,1,0,0])) ⟨126,aC,[(0,true,.d (.list (l.map bL))),(3,true,.d (.int .i64 (i+1)))],[⟨300,v,X⟩]⟩ k=if B=true then R2 else R1) (h:bO x=2) (v:Nat) (X:ay):
 aN ctx 69 (.loop (Code.at (bq f69) [1,0,1,0,0])) ⟨126,aC,[(0,true,.d (.list (l.map bL))),(3,true,.d (.int .i64 i))],[⟨300,v,X⟩]⟩ k=if (bH x&&B)=true then R2 else R1:=by
 have I:IntKind.i64.wrap ((i:Int)+1)=i+1:=aH (by unfold aI;omega);have J:=eH (dS x);have M:=eH (eS x);unfold KF at A;rw[pt];generalize bG (cV x)=S at*;generalize dn (dS x)=N at*;generalize dn (eS x)=F at*;rw[ag];simp[f69]at ih⊢;have T:eT 2=0:=rfl;by_cases O:fW x<0
 ·simp[D,E,I,au,h,A,J,M,ih,H,O];intros;omega
 ·by_cases q:1<fW x
  ·simp[D,E,I,au,h,A,J,M,ih,H,O,q,T];intros;omega
  ·simp[D,E,I,au,h,A,J,M,ih,H,O,q,T];grind
theorem agK{l:List Ex}(U:l.length<100000000){i:Nat}{x:Ex}(D:i<l.length)(E:l[i]=x)(A:KF (cV x))(V:(cV x).length<100000000)(k:Kt)(R1 R2:cd)(B:Bool)
 (H:∀v X,k .ret ⟨126,aC,[(2,true,.d (.bool false))],[⟨300,v,X⟩]⟩=R1)
 (ih:∀v X,aN ctx 69 (.loop (Code.at (bq f69) [1,0,1,0,0])) ⟨126,aC,[(0,true,.d (.list (l.map bL))),(3,true,.d (.int .i64 (i+1)))],[⟨300,v,X⟩]⟩ k=if B=true then R2 else R1) (h:bO x=3) (v:Nat) (X:ay):
 aN ctx 69 (.loop (Code.at (bq f69) [1,0,1,0,0])) ⟨126,aC,[(0,true,.d (.list (l.map bL))),(3,true,.d (.int .i64 i))],[⟨300,v,X⟩]⟩ k=if (bH x&&B)=true then R2 else R1:=by
 have I:IntKind.i64.wrap ((i:Int)+1)=i+1:=aH (by unfold aI;omega);have J:=eH (dS x);have M:=eH (eS x);unfold KF at A;rw[pt];generalize bG (cV x)=S at*;generalize dn (dS x)=N at*;generalize dn (eS x)=F at*;rw[ag];simp[f69]at ih⊢;have T:eT 3=0:=rfl;by_cases O:fW x=0
 ·simp[D,E,I,au,h,A,J,M,ih,H,O,T];grind
 ·simp[D,E,I,au,h,A,J,M,ih,H,O]
theorem agL{l:List Ex}(U:l.length<100000000){i:Nat}{x:Ex}(D:i<l.length)(E:l[i]=x)(A:KF (cV x))(V:(cV x).length<100000000)(k:Kt)(R1 R2:cd)(B:Bool)
 (H:∀v X,k .ret ⟨126,aC,[(2,true,.d (.bool false))],[⟨300,v,X⟩]⟩=R1)
 (ih:∀v X,aN ctx 69 (.loop (Code.at (bq f69) [1,0,1,0,0])) ⟨126,aC,[(0,true,.d (.list (l.map bL))),(3,true,.d (.int .i64 (i+1)))],[⟨300,v,X⟩]⟩ k=if B=true then R2 else R1) (h:bO x=4) (v:Nat) (X:ay):
 aN ctx 69 (.loop (Code.at (bq f69) [1,0,1,0,0])) ⟨126,aC,[(0,true,.d (.list (l.map bL))),(3,true,.d (.int .i64 i))],[⟨300,v,X⟩]⟩ k=if (bH x&&B)=true then R2 else R1:=by
 have I:IntKind.i64.wrap ((i:Int)+1)=i+1:=aH (by unfold aI;omega);have J:=eH (dS x);have M:=eH (eS x);unfold KF at A;rw[pt];generalize bG (cV x)=S at*;generalize dn (dS x)=N at*;generalize dn (eS x)=F at*;rw[ag];simp[f69]at ih⊢;have T:eT 4=1:=rfl;by_cases O:fW x=0
 ·simp[D,E,I,au,h,A,J,M,ih,H,O,T];grind
 ·simp[D,E,I,au,h,A,J,M,ih,H,O]
theorem agM{l:List Ex}(U:l.length<100000000){i:Nat}{x:Ex}(D:i<l.length)(E:l[i]=x)(A:KF (cV x))(V:(cV x).length<100000000)(k:Kt)(R1 R2:cd)(B:Bool)
 (H:∀v X,k .ret ⟨126,aC,[(2,true,.d (.bool false))],[⟨300,v,X⟩]⟩=R1)
 (ih:∀v X,aN ctx 69 (.loop (Code.at (bq f69) [1,0,1,0,0])) ⟨126,aC,[(0,true,.d (.list (l.map bL))),(3,true,.d (.int .i64 (i+1)))],[⟨300,v,X⟩]⟩ k=if B=true then R2 else R1) (h:bO x=5) (v:Nat) (X:ay):
 aN ctx 69 (.loop (Code.at (bq f69) [1,0,1,0,0])) ⟨126,aC,[(0,true,.d (.list (l.map bL))),(3,true,.d (.int .i64 i))],[⟨300,v,X⟩]⟩ k=if (bH x&&B)=true then R2 else R1:=by
 have I:IntKind.i64.wrap ((i:Int)+1)=i+1:=aH (by unfold aI;omega);have J:=eH (dS x);have M:=eH (eS x);unfold KF at A;rw[pt];generalize bG (cV x)=S at*;generalize dn (dS x)=N at*;generalize dn (eS x)=F at*;rw[ag];simp[f69]at ih⊢;have T:eT 5=0:=rfl;by_cases O:fW x=0
 ·simp[D,E,I,au,h,A,J,M,ih,H,O,T];grind
 ·simp[D,E,I,au,h,A,J,M,ih,H,O]
theorem agN{l:List Ex}(U:l.length<100000000){i:Nat}{x:Ex}(D:i<l.length)(E:l[i]=x)(A:KF (cV x))(V:(cV x).length<100000000)(k:Kt)(R1 R2:cd)(B:Bool)
 (H:∀v X,k .ret ⟨126,aC,[(2,true,.d (.bool false))],[⟨300,v,X⟩]⟩=R1)
 (ih:∀v X,aN ctx 69 (.loop (Code.at (bq f69) [1,0,1,0,0])) ⟨126,aC,[(0,true,.d (.list (l.map bL))),(3,true,.d (.int .i64 (i+1)))],[⟨300,v,X⟩]⟩ k=if B=true then R2 else R1) (h:bO x=6) (v:Nat) (X:ay):
 aN ctx 69 (.loop (Code.at (bq f69) [1,0,1,0,0])) ⟨126,aC,[(0,true,.d (.list (l.map bL))),(3,true,.d (.int .i64 i))],[⟨300,v,X⟩]⟩ k=if (bH x&&B)=true then R2 else R1:=by
 have I:IntKind.i64.wrap ((i:Int)+1)=i+1:=aH (by unfold aI;omega);have J:=eH (dS x);have M:=eH (eS x);unfold KF at A;rw[pt];generalize bG (cV x)=S at*;generalize dn (dS x)=N at*;generalize dn (eS x)=F at*;rw[ag];simp[f69]at ih⊢;have T:eT 6=1:=rfl;by_cases O:fW x=0
 ·simp[D,E,I,au,h,A,J,M,ih,H,O,T];grind
 ·simp[D,E,I,au,h,A,J,M,ih,H,O]
theorem agO{l:List Ex}(U:l.length<100000000){i:Nat}{x:Ex}(D:i<l.length)(E:l[i]=x)(A:KF (cV x))(V:(cV x).length<100000000)(k:Kt)(R1 R2:cd)(B:Bool)
 (H:∀v X,k .ret ⟨126,aC,[(2,true,.d (.bool false))],[⟨300,v,X⟩]⟩=R1)
 (ih:∀v X,aN ctx 69 (.loop (Code.at (bq f69) [1,0,1,0,0])) ⟨126,aC,[(0,true,.d (.list (l.map bL))),(3,true,.d (.int .i64 (i+1)))],[⟨300,v,X⟩]⟩ k=if B=true then R2 else R1) (h:bO x=7) (v:Nat) (X:ay):
 aN ctx 69 (.loop (Code.at (bq f69) [1,0,1,0,0])) ⟨126,aC,[(0,true,.d (.list (l.map bL))),(3,true,.d (.int .i64 i))],[⟨300,v,X⟩]⟩ k=if (bH x&&B)=true then R2 else R1:=by
 have I:IntKind.i64.wrap ((i:Int)+1)=i+1:=aH (by unfold aI;omega);have J:=eH (dS x);have M:=eH (eS x);unfold KF at A;rw[pt];generalize bG (cV x)=S at*;generalize dn (dS x)=N at*;generalize dn (eS x)=F at*;rw[ag];simp[f69]at ih⊢;have T:eT 7=1:=rfl;by_cases O:fW x=0
 ·simp[D,E,I,au,h,A,J,M,ih,H,O,T];grind
 ·simp[D,E,I,au,h,A,J,M,ih,H,O]
theorem agP{l:List Ex}(U:l.length<100000000){i:Nat}{x:Ex}(D:i<l.length)(E:l[i]=x)(A:KF (cV x))(V:(cV x).length<100000000)(k:Kt)(R1 R2:cd)(B:Bool)
 (H:∀v X,k .ret ⟨126,aC,[(2,true,.d (.bool false))],[⟨300,v,X⟩]⟩=R1)
 (ih:∀v X,aN ctx 69 (.loop (Code.at (bq f69) [1,0,1,0,0])) ⟨126,aC,[(0,true,.d (.list (l.map bL))),(3,true,.d (.int .i64 (i+1)))],[⟨300,v,X⟩]⟩ k=if B=true then R2 else R1) (h:7<bO x) (v:Nat) (X:ay):
 aN ctx 69 (.loop (Code.at (bq f69) [1,0,1,0,0])) ⟨126,aC,[(0,true,.d (.list (l.map bL))),(3,true,.d (.int .i64 i))],[⟨300,v,X⟩]⟩ k=if (bH x&&B)=true then R2 else R1:=by
 have I:IntKind.i64.wrap ((i:Int)+1)=i+1:=aH (by unfold aI;omega);have J:=eH (dS x);have M:=eH (eS x);unfold KF at A;rw[pt];generalize bG (cV x)=S at*;generalize dn (dS x)=N at*;generalize dn (eS x)=F at*;have Y:¬bO x=1:=by omega
 have Z:¬bO x=2:=by omega
 have y:¬bO x=3:=by omega
 have A':¬bO x=4:=by omega
 have A0:¬bO x=5:=by omega
 have A1:¬bO x=6:=by omega
 have A2:¬bO x=7:=by omega
 have d1:2<bO x:=by omega
 have d2:¬bO x<1:=by omega
 have T:eT (bO x)=2:=by unfold eT;rw[abN (by omega),abT h]
 rw[ag];simp[f69]at ih⊢;by_cases O:fW x=0
 ·by_cases A3:21<bO x
  ·simp[D,E,I,au,h,A,J,M,ih,H,O,A3,Y,Z,y,A',A0,A1,A2,d1,d2];intros;omega
  ·simp[D,E,I,au,h,A,J,M,ih,H,O,A3,T,Y,Z,y,A',A0,A1,A2,d1,d2];grind
 ·simp[D,E,I,au,h,A,J,M,ih,H,O,Y,Z,d1];intros;omega
theorem GY(l:List Ex)(A:l.length<100000000)(U:∀x∈l,KF (cV x))(N:∀x∈l,(cV x).length<100000000)(k:Kt)(R1 R2:cd)
 (D:∀v X,k .ret ⟨126,aC,[(2,true,.d (.bool false))],[⟨300,v,X⟩]⟩=R1)
 (T:∀(Y:Env) v X,k (.exit 0) ⟨126,aC,Y,[⟨300,v,X⟩]⟩=R2):∀(rest pre:List Ex)(v:Nat)(X:ay),l=pre++rest->
 aN ctx 69 (.loop (Code.at (bq f69) [1,0,1,0,0])) ⟨126,aC,[(0,true,.d (.list (l.map bL))),(3,true,.d (.int .i64 pre.length))],[⟨300,v,X⟩]⟩ k=if bG rest=true then R2 else R1
 |[],pre,v,X,O=>by
  have V:pre.length=l.length:=by rw[O];simp
  rw[V,ag];simp[f69,T,bG]
 |x::rest,pre,v,X,O=>by
  have H:pre.length<l.length:=by rw[O];simp
  have I:l[pre.length]=x:=by simp[O]
  have J:=U x (by rw[O];simp);have M:=N x (by rw[O];simp);have ih:∀v X,aN ctx 69 (.loop (Code.at (bq f69) [1,0,1,0,0])) ⟨126,aC,[(0,true,.d (.list (l.map bL))),(3,true,.d (.int .i64 (pre.length+1)))],[⟨300,v,X⟩]⟩ k=if bG rest=true then R2 else R1:=λv X=>by
   have:=GY l A U N k R1 R2 D T rest (pre++[x]) v X (by simp[O]);simpa using this
  have key:bG (x::rest)=(bH x&&bG rest):=by rw[bG]
  rw[key];have Z:bO x<1\/bO x=1\/bO x=2\/bO x=3\/bO x=4\/bO x=5\/bO x=6\/bO x=7\/7<bO x:=by omega
  rcases Z with h|h|h|h|h|h|h|h|h
  ·exact agH A H I J M k R1 R2 _ D ih h v X
  ·exact agI A H I J M k R1 R2 _ D ih h v X
  ·exact agJ A H I J M k R1 R2 _ D ih h v X
  ·exact agK A H I J M k R1 R2 _ D ih h v X
  ·exact agL A H I J M k R1 R2 _ D ih h v X
  ·exact agM A H I J M k R1 R2 _ D ih h v X
  ·exact agN A H I J M k R1 R2 _ D ih h v X
  ·exact agO A H I J M k R1 R2 _ D ih h v X
  ·exact agP A H I J M k R1 R2 _ D ih h v X
theorem VA{l:List Ex}(A:l.length<100000000)(U:∀x∈l,KF (cV x))(N:∀x∈l,(cV x).length<100000000):KF l:=by
 have h:=λk R1 R2 D T v X=>GY l A U N k R1 R2 D T l [] v X rfl;unfold KF;rw[alf (by simp)];simp[f69]at h⊢;rw[h _ (some (.ret (.d (.bool false)),[])) (some (.ret (.d (.bool true)),[]))]
 ·cases bG l<;>simp
 ·intro v X;simp
 ·intro Y v X;simp
mutual
def wQ:Ex->Prop
 | .mk _ _ name field sub _=>(name.length<100000000/\field.length<100000000/\sub.length<100000000)/\pv sub
def pv:List Ex->Prop
 |[]=>True
 |x::r=>wQ x/\pv r
end
mutual
theorem agQ:∀x:Ex,wQ x->KF (cV x)/\(cV x).length<100000000
 | .mk op nn name field sub line,h=>by
  simp only[wQ]at h;have N:=Bj sub h.2;exact⟨VA h.1.2.2 (λx E=>(N x E).1) (λx E=>(N x E).2),h.1.2.2⟩
theorem Bj:∀l:List Ex,pv l->∀x∈l,KF (cV x)/\(cV x).length<100000000
 |[],_,x,E=>by simp at E
 |y::r,h,x,E=>by
  simp only[pv]at h;have D:=agQ y h.1;have T:=Bj r h.2;rcases abV.1 E with e|E
  ·rw[e];exact D
  ·exact T x E
end
theorem CQ{l:List Ex}(A:l.length<100000000)(h:pv l):KF l:=
 VA A (λx E=>(Bj l h x E).1) (λx E=>(Bj l h x E).2)
end Go.Am
end
section
namespace Go.Am
open Go
theorem Oz{k:Int}(h:qL k=true):10<=k/\k<=31:=by
 unfold qL bC at h;by_cases A:10<=k/\k<=31
 ·exact A
 ·exfalso;have:ye Mq k=[]:=by
   unfold Mq;simp only[ye];repeat rw[abN (by omega)]
  rw[this]at h;simp at h
theorem acK{v:Vr}(h:dQ v=true):(v.ty=1\/v.ty=2)\/(10<=v.ty/\v.ty<=31/\qL v.ty=true):=by
 simp only[dQ,Ds,ahz,abQ]at h;rcases h.2.1.2 with h|h
 ·exact .inl h
 ·exact .inr ⟨(Oz h).1,(Oz h).2,h⟩
theorem rK{s:Tx}{v:Vr}:∀{l:List Vr},bz l s=some v->v∈l/\v.name=s
 |x::r,h=>by
  unfold bz at h;split at h
  ·rename_i e;cases h;exact⟨by simp,e⟩
  ·have:=rK h;exact⟨by simp[this.1],this.2⟩
end Go.Am
end
section
namespace Go.Am
open Go Go.Proofs
variable [Inhabited bI]
set_option maxRecDepth 20000
@[simp] def smL(x:Sm):List D:=[.int .i64 (bj x),.str (gM x),
 .int .i64 (bO (eB x)),.int .i64 (fW (eB x)),.str (dS (eB x)),.str (eS (eB x)),.list ((cV (eB x)).map bL),.int .i64 (jq (eB x)),
 .int .i64 (bO (dc x)),.int .i64 (fW (dc x)),.str (dS (dc x)),.str (eS (dc x)),.list ((cV (dc x)).map bL),.int .i64 (jq (dc x)),
 .list ((bJ x).map bL),.list ((cM x).map il),.list ((dE x).map .str),.list ((aQ x).map lS),.int .i64 (kS x)]
section
variable {vs:List Vr} {n:Int} (A:vs.length<1000000) (E:∀v∈vs,dQ v=true)
include A E
end
end Go.Am
end
