/-
  Texts of one proof, one behind the other.
-/
import Derived.Test.YtccmboenpbjhnaaGreatDoorA3
import Derived.Test.YtccmboenpbjhnaaGreatDoorProg
import Derived.KernelRfl
import Derived.Lib.Bytealg
import Derived.Lib.Index
import Derived.Lib.Strings
set_option linter.all false
section
namespace Go.Am
open Go
inductive Ex where
 |mk (op n:Int) (name field:Tx) (sub:List Ex) (line:Int)
inductive Sm where
 |mk (op:Int) (name:Tx) (to val:Ex) (E:List Ex) (H:List (List Int)) (fields:List Tx) (I:List (List Sm)) (line:Int)
instance:Inhabited Ex:=⟨.mk 0 0 [] [] [] 0⟩
instance:Inhabited Sm:=⟨.mk 0 [] default default [] [] [] [] 0⟩
structure Vr where
 name:Tx
 ty:Int
 sec:Int
 arr:Bool
 lo:Int
 hi:Int
 init:Int
 line:Int
 deriving DecidableEq
structure Pg where
 name:Tx
 vars:List Vr
 body:List Sm
mutual
def du:Ex->D
 | .mk op n name field sub line=>.agg [.int .i64 op,.int .i64 n,.str name,.str field,.list (sP sub),.int .i64 line]
def sP:List Ex->List D
 |[]=>[]
 |x::r=>du x::sP r
end
theorem rS:∀l:List Ex,sP l=l.map du
 |[]=>rfl
 |x::r=>by simp[sP,rS r]
def Ig:Ex->List D
 | .mk op n name field sub line=>[.int .i64 op,.int .i64 n,.str name,.str field,.list (sP sub),.int .i64 line]
theorem Gp(x:Ex):du x=.agg (Ig x):=by cases x;rfl
def gX(l:List Int):D:=.list (l.map λn=>.int .i64 n)
mutual
def cG:Sm->D
 | .mk op name to val E H fields I line=>.agg (.int .i64 op::.str name::(Ig to++(Ig val++[.list (sP E),.list (H.map gX),.list (fields.map .str),.list (wY I),.int .i64 line])))
def uO:List Sm->List D
 |[]=>[]
 |x::r=>cG x::uO r
def wY:List (List Sm)->List D
 |[]=>[]
 |b::r=>.list (uO b)::wY r
end
theorem Ah:∀l:List Sm,uO l=l.map cG
 |[]=>rfl
 |x::r=>by simp[uO,Ah r]
theorem Ai:∀l:List (List Sm),wY l=l.map λb=>.list (b.map cG)
 |[]=>rfl
 |x::r=>by simp[wY,Ai r,Ah]
def dj(v:Vr):List D:=[.str v.name,.int .i64 v.ty,.int .i64 v.sec,.bool v.arr,.int .i64 v.lo,.int .i64 v.hi,.int .i64 v.init,.int .i64 v.line]
def bm(v:Vr):D:=.agg (dj v)
structure PS where
 at_:Nat
 deep:Int
 vars:List Vr
structure Er where
 e:Int
 line:Int
 Da:Int
 deriving DecidableEq
abbrev PM(α:Type):=PR Er PS α
abbrev wr(n:Int):Int:=IntKind.i64.wrap n
section
variable (L:List eE)
def sQ(s:PS):PM eE:=match L[s.at_]? with
 |some t=>.ok t s
 |none=>.out
def Pm{α:Type}(e:Int)(t:eE)(s:PS):PM α:=.bad ⟨e,t.line,t.Da⟩ s
def isW(t:eE)(w:Tx):Bool:=(decide (t.kind=2)||decide (t.kind=4))&&decide (t.text=w)
def isS(w:Tx)(s:PS):PM Bool:=(sQ L s).bind λt s=>.ok (isW t w) s
def anyS:List Tx->PS->PM Bool
 |[],s=>.ok false s
 |w::r,s=>(isS L w s).bind λb s=>if b=true then .ok true s else anyS r s
def Aj(s:PS):PM eE:=(sQ L s).bind λt s=>.ok t (if t.kind=0 then s else {s with at_:=s.at_+1})
def jG(w:Tx)(s:PS):PM Bool:=(isS L w s).bind λb s=>if b=true then (Aj L s).bind λ_ s=>.ok true s else .ok false s
def gY(w:Tx)(s:PS):PM Unit:=(jG L w s).bind λb s=>if b=true then .ok () s else (sQ L s).bind λt s=>Pm 5 t s
def wZ(k:Int)(s:PS):PM eE:=(sQ L s).bind λt s=>if t.kind=k then Aj L s else (sQ L s).bind λt s=>Pm 5 t s
def Yf(s:PS):PM Unit:=if 32<wr (s.deep+1)then (sQ L {s with deep:=wr (s.deep+1)}).bind λt s=>Pm 13 t s else .ok () {s with deep:=wr (s.deep+1)}
def Po(s:PS):PM Unit:=.ok () {s with deep:=wr (s.deep-1)}
structure Kd where
 at_:eE
 kind:Int
 arr:Bool
 lo:Int
 hi:Int
def KJ(s:PS):PM Int:=(jG L [45] s).bind λb s=>if b=true then (wZ L 3 s).bind λt s=>.ok (wr (-t.n)) s else (wZ L 3 s).bind λt s=>.ok t.n s
def lvT:List (List Tx):=[[[79,82]],[[88,79,82]],[[65,78,68]],[[61],[60,62],[60],[62],[60,61],[62,61]],[[43],[45]],[[42],[47],[77,79,68]]]
def opT:List Tx:=[[43],[45],[42],[47],[77,79,68],[61],[60,62],[60],[62],[60,61],[62,61],[65,78,68],[88,79,82],[79,82]]
def ac9(w:Tx):List Tx->Nat->Int
 |[],_=> -1
 |x::r,i=>if w=x then i else ac9 w r (i+1)
def opI(w:Tx):Int:=8+ac9 w opT 0
def vz:Ex:=.mk 0 0 [] [] [] 0
def Yg(t:eE):Ex:=.mk 3 0 t.text [] [] t.line
def Db(op:Int)(A:Tx)(l:List Ex)(line:Int):Ex:=.mk op 0 A [] l line
def FB(s:PS):PM Bool:=(sQ L s).bind λt s=>if t.kind=3 then .ok true s else isS L [45] s
def KK:Nat->List Int->PS->PM (List Int)
 |0,_,_=>.out
 |f+1,l,s=>(KJ L s).bind λlo s=>(jG L [46,46] s).bind λb s=>(if b=true then KJ L s else .ok lo s).bind λhi s=>
  if l.length<100000 then (jG L [44] s).bind λb s=>if b=true then KK f (l++[lo,hi]) s else (gY L [58] s).bind λ_ s=>.ok (l++[lo,hi]) s else .out
def V0(s:PS):PM Bool:=(FB L s).bind λb s=>if b=true then .ok true s else (isS L [69,76,83,69] s).bind λb s=>if b=true then .ok true s else isS L [69,78,68,95,67,65,83,69] s
mutual
def sR:Nat->Nat->PS->PM Ex
 |0,_,_=>.out
 |f+1,n,s=>if n=6 then vA f s else if n<6 then (sR f (n+1) s).bind λx s=>zv f n x s else .out
def zv:Nat->Nat->Ex->PS->PM Ex
 |0,_,_,_=>.out
 |f+1,n,x,s=>(anyS L (lvT.getD n []) s).bind λb s=>if b=true then (Aj L s).bind λt s=>(sR f (n+1) s).bind λy s=>
  if n=3 then .ok (Db (opI t.text) [] [x,y] t.line) s else zv f n (Db (opI t.text) [] [x,y] t.line) s
  else .ok x s
def vA:Nat->PS->PM Ex
 |0,_=>.out
 |f+1,s=>(sQ L s).bind λt s=>(isS L [45] s).bind λb s=>
  if b=true then Dc f 6 t s else (isS L [78,79,84] s).bind λb s=>if b=true then Dc f 7 t s else vB f s
def Dc:Nat->Int->eE->PS->PM Ex
 |0,_,_,_=>.out
 |f+1,op,t,s=>(Yf L s).bind λ_ s=>(Aj L s).bind λ_ s=>(vA f s).bind λx s=>(Po s).bind λ_ s=>.ok (Db op [] [x] t.line) s
def kF:Nat->PS->PM Ex
 |0,_=>.out
 |f+1,s=>sR f 0 s
def vC:Nat->PS->PM Ex
 |0,_=>.out
 |f+1,s=>(Yf L s).bind λ_ s=>(gY L [91] s).bind λ_ s=>(kF f s).bind λx s=>(gY L [93] s).bind λ_ s=>(Po s).bind λ_ s=>.ok x s
def vB:Nat->PS->PM Ex
 |0,_=>.out
 |f+1,s=>(sQ L s).bind λt s=>
  if t.kind=3 then (Aj L s).bind λu s=>.ok (.mk 1 u.n [] [] [] t.line) s else
  (jG L [84,82,85,69] s).bind λb s=>if b=true then .ok (.mk 2 1 [] [] [] t.line) s else
  (jG L [70,65,76,83,69] s).bind λb s=>if b=true then .ok (.mk 2 0 [] [] [] t.line) s else
  (isS L [40] s).bind λb s=>if b=true then (Yf L s).bind λ_ s=>(Aj L s).bind λ_ s=>(kF f s).bind λx s=>(gY L [41] s).bind λ_ s=>(Po s).bind λ_ s=>.ok x s else
  (wZ L 1 s).bind λ_ s=>
  (isS L [91] s).bind λb s=>if b=true then (vC f s).bind λx s=>.ok (Db 4 t.text [x] t.line) s else
  (jG L [46] s).bind λb s=>if b=true then (wZ L 1 s).bind λu s=>.ok (.mk 5 0 t.text u.text [] t.line) s else .ok (Yg t) s
end
def ada(op:Int):Sm:=.mk op [] vz vz [] [] [] [] 0
def al7(line:Int):Sm->Sm
 | .mk op name to val E H fields I _=>.mk op name to val E H fields I line
mutual
def mX:Nat->List Tx->PS->PM (List Sm)
 |0,_,_=>.out
 |f+1,ends,s=>vD f ends [] s
def vD:Nat->List Tx->List Sm->PS->PM (List Sm)
 |0,_,_,_=>.out
 |f+1,ends,l,s=>(anyS L ends s).bind λb s=>if b=true then .ok l s else (Ak f s).bind λx s=>if l.length<100000 then vD f ends (l++[x]) s else .out
def Ak:Nat->PS->PM Sm
 |0,_=>.out
 |f+1,s=>(sQ L s).bind λt s=>(Yf L s).bind λ_ s=>(Dd f s).bind λx s=>(gY L [59] s).bind λ_ s=>(Po s).bind λ_ s=>.ok (al7 t.line x) s
def Dd:Nat->PS->PM Sm
 |0,_=>.out
 |f+1,s=>
  (jG L [73,70] s).bind λb s=>if b=true then qu f s else
  (jG L [67,65,83,69] s).bind λb s=>if b=true then zw f s else
  (jG L [70,79,82] s).bind λb s=>if b=true then sS f s else
  (jG L [87,72,73,76,69] s).bind λb s=>if b=true then (kF L f s).bind λv s=>(gY L [68,79] s).bind λ_ s=>(mX f [[69,78,68,95,87,72,73,76,69]] s).bind λl s=>(gY L [69,78,68,95,87,72,73,76,69] s).bind λ_ s=>.ok (.mk 5 [] vz v [] [] [] [l] 0) s else
  (jG L [82,69,80,69,65,84] s).bind λb s=>if b=true then (mX f [[85,78,84,73,76]] s).bind λl s=>(gY L [85,78,84,73,76] s).bind λ_ s=>(kF L f s).bind λv s=>(gY L [69,78,68,95,82,69,80,69,65,84] s).bind λ_ s=>.ok (.mk 6 [] vz v [] [] [] [l] 0) s else
  (jG L [69,88,73,84] s).bind λb s=>if b=true then .ok (ada 7) s else
  (jG L [82,69,84,85,82,78] s).bind λb s=>if b=true then .ok (ada 8) s else
  (wZ L 1 s).bind λA s=>(jG L [40] s).bind λb s=>if b=true then De f A.text s else
  (isS L [91] s).bind λb s=>(if b=true then (vC L f s).bind λx s=>.ok (Db 4 A.text [x] A.line) s else .ok (Yg A) s).bind λto s=>
  (gY L [58,61] s).bind λ_ s=>(kF L f s).bind λv s=>.ok (.mk 1 [] to v [] [] [] [] 0) s
def qu:Nat->PS->PM Sm
 |0,_=>.out
 |f+1,s=>lR f [] [] s
def lR:Nat->List Ex->List (List Sm)->PS->PM Sm
 |0,_,_,_=>.out
 |f+1,c,l,s=>(kF L f s).bind λx s=>(gY L [84,72,69,78] s).bind λ_ s=>(mX f [[69,76,83,73,70],[69,76,83,69],[69,78,68,95,73,70]] s).bind λb s=>
  if c.length<100000/\l.length<100000 then (jG L [69,76,83,73,70] s).bind λm s=>if m=true then lR f (c++[x]) (l++[b]) s else
   (jG L [69,76,83,69] s).bind λm s=>(if m=true then (mX f [[69,78,68,95,73,70]] s).bind λz s=>.ok (l++[b]++[z]) s else .ok (l++[b]) s).bind λl s=>(gY L [69,78,68,95,73,70] s).bind λ_ s=>.ok (.mk 2 [] vz vz (c++[x]) [] [] l 0) s
  else .out
def zw:Nat->PS->PM Sm
 |0,_=>.out
 |f+1,s=>(kF L f s).bind λv s=>(gY L [79,70] s).bind λ_ s=>sU f v [] [] s
def sU:Nat->Ex->List (List Int)->List (List Sm)->PS->PM Sm
 |0,_,_,_,_=>.out
 |f+1,v,c,l,s=>(FB L s).bind λb s=>
  if b=true then (KK L f [] s).bind λx s=>(xc f [] s).bind λb s=>if c.length<100000/\l.length<100000 then sU f v (c++[x]) (l++[b]) s else .out
  else (jG L [69,76,83,69] s).bind λm s=>(if m=true then (mX f [[69,78,68,95,67,65,83,69]] s).bind λz s=>if l.length<100000 then .ok (l++[z]) s else .out else .ok l s).bind λl s=>(gY L [69,78,68,95,67,65,83,69] s).bind λ_ s=>.ok (.mk 3 [] vz v [] c [] l 0) s
def xc:Nat->List Sm->PS->PM (List Sm)
 |0,_,_=>.out
 |f+1,l,s=>(V0 L s).bind λb s=>if b=true then .ok l s else (Ak f s).bind λx s=>if l.length<100000 then xc f (l++[x]) s else .out
def sS:Nat->PS->PM Sm
 |0,_=>.out
 |f+1,s=>(wZ L 1 s).bind λA s=>(gY L [58,61] s).bind λ_ s=>(kF L f s).bind λa s=>(gY L [84,79] s).bind λ_ s=>(kF L f s).bind λb s=>
  (sQ L s).bind λt s=>(jG L [66,89] s).bind λm s=>(if m=true then kF L f s else .ok (.mk 1 1 [] [] [] t.line) s).bind λc s=>
  (gY L [68,79] s).bind λ_ s=>(mX f [[69,78,68,95,70,79,82]] s).bind λl s=>(gY L [69,78,68,95,70,79,82] s).bind λ_ s=>.ok (.mk 4 A.text vz vz [a,b,c] [] [] [l] 0) s
def De:Nat->Tx->PS->PM Sm
 |0,_,_=>.out
 |f+1,A,s=>(jG L [41] s).bind λb s=>if b=true then .ok (.mk 9 A vz vz [] [] [] [] 0) s else xd f A [] [] s
def xd:Nat->Tx->List Tx->List Ex->PS->PM Sm
 |0,_,_,_,_=>.out
 |f+1,A,c,l,s=>(wZ L 1 s).bind λt s=>(gY L [58,61] s).bind λ_ s=>(kF L f s).bind λx s=>
  if c.length<100000/\l.length<100000 then (jG L [44] s).bind λb s=>if b=true then xd f A (c++[t.text]) (l++[x]) s else (gY L [41] s).bind λ_ s=>.ok (.mk 9 A vz vz (l++[x]) [] (c++[t.text]) [] 0) s
  else .out
end
end
def cA:Ex->Int| .mk a _ _ _ _ _=>a
def iK:Ex->Int| .mk _ a _ _ _ _=>a
def dY:Ex->Tx| .mk _ _ a _ _ _=>a
def eW:Ex->Tx| .mk _ _ _ a _ _=>a
def cQ:Ex->List Ex| .mk _ _ _ _ a _=>a
def mY:Ex->Int| .mk _ _ _ _ _ a=>a
@[simp] theorem adb{a b c d e f}:cA (.mk a b c d e f)=a:=rfl
@[simp] theorem ade{a b c d e f}:iK (.mk a b c d e f)=b:=rfl
@[simp] theorem SX{a b c d e f}:dY (.mk a b c d e f)=c:=rfl
@[simp] theorem SY{a b c d e f}:eW (.mk a b c d e f)=d:=rfl
@[simp] theorem SZ{a b c d e f}:cQ (.mk a b c d e f)=e:=rfl
@[simp] theorem adf{a b c d e f}:mY (.mk a b c d e f)=f:=rfl
theorem Yh(x:Ex):Ig x=[.int .i64 (cA x),.int .i64 (iK x),.str (dY x),.str (eW x),.list ((cQ x).map du),.int .i64 (mY x)]:=by cases x;simp[Ig,rS]
theorem aZ(x:Ex):du x=.agg [.int .i64 (cA x),.int .i64 (iK x),.str (dY x),.str (eW x),.list ((cQ x).map du),.int .i64 (mY x)]:=by rw[Gp,Yh]
def bf:Sm->Int| .mk a _ _ _ _ _ _ _ _=>a
def gC:Sm->Tx| .mk _ a _ _ _ _ _ _ _=>a
def fq:Sm->Ex| .mk _ _ a _ _ _ _ _ _=>a
def dk:Sm->Ex| .mk _ _ _ a _ _ _ _ _=>a
def bV:Sm->List Ex| .mk _ _ _ _ a _ _ _ _=>a
def cq:Sm->List (List Int)| .mk _ _ _ _ _ a _ _ _=>a
def dn:Sm->List Tx| .mk _ _ _ _ _ _ a _ _=>a
def aV:Sm->List (List Sm)| .mk _ _ _ _ _ _ _ a _=>a
def kO:Sm->Int| .mk _ _ _ _ _ _ _ _ a=>a
@[simp] theorem S5{a b c d e f g h i}:bf (.mk a b c d e f g h i)=a:=rfl
@[simp] theorem atn{a b c d e f g h i}:gC (.mk a b c d e f g h i)=b:=rfl
@[simp] theorem ato{a b c d e f g h i}:fq (.mk a b c d e f g h i)=c:=rfl
@[simp] theorem atp{a b c d e f g h i}:dk (.mk a b c d e f g h i)=d:=rfl
@[simp] theorem adg{a b c d e f g h i}:bV (.mk a b c d e f g h i)=e:=rfl
@[simp] theorem aqO{a b c d e f g h i}:cq (.mk a b c d e f g h i)=f:=rfl
@[simp] theorem adh{a b c d e f g h i}:dn (.mk a b c d e f g h i)=g:=rfl
@[simp] theorem adi{a b c d e f g h i}:aV (.mk a b c d e f g h i)=h:=rfl
@[simp] theorem atq{a b c d e f g h i}:kO (.mk a b c d e f g h i)=i:=rfl
def oK(l:List Sm):D:=.list (l.map cG)
theorem cu(x:Sm):cG x=.agg [.int .i64 (bf x),.str (gC x),
 .int .i64 (cA (fq x)),.int .i64 (iK (fq x)),.str (dY (fq x)),.str (eW (fq x)),.list ((cQ (fq x)).map du),.int .i64 (mY (fq x)),
 .int .i64 (cA (dk x)),.int .i64 (iK (dk x)),.str (dY (dk x)),.str (eW (dk x)),.list ((cQ (dk x)).map du),.int .i64 (mY (dk x)),
 .list ((bV x).map du),.list ((cq x).map gX),.list ((dn x).map .str),.list ((aV x).map oK),.int .i64 (kO x)]:=by
 cases x;simp[cG,Yh,rS,Ai,oK]
def V1(c:UInt8):Bool:=(decide (65<=c.toNat)&&decide (c.toNat<=90))||(decide (97<=c.toNat)&&decide (c.toNat<=122))
def V2(c:UInt8):Bool:=decide (48<=c.toNat)&&decide (c.toNat<=57)
def tR:List UInt8->Nat->Bool
 |[],_=>true
 |c::r,i=>(V1 c||(!decide (i=0)&&(decide (c=95)||V2 c)))&&tR r (i+1)
def cL(s:Tx):Bool:=decide (1<=s.length)&&(decide (s.length<=16)&&(!tQ s&&tR s 0))
structure Pn where
 name:Tx
 ty:Int
 Ih:Bool
 deriving DecidableEq
def cD(p:Pn):D:=.agg [.str p.name,.int .i64 p.ty,.bool p.Ih]
def jH(ins outs:List (Tx×Bool))(n:Nat):List Pn:=ins.map (λx=>⟨x.1,if x.2 then 1 else 2,true⟩)++outs.map (λx=>⟨x.1,if x.2 then 1 else 2,false⟩)++List.replicate n ⟨[],1,false⟩
def Al:List (Tx×Bool):=[([68,111,110,101],false),([66,117,115,121],false),([65,99,116,105,118,101],false),([67,111,109,109,97,110,100,65,98,111,114,116,101,100],false),([69,114,114,111,114],false)]
def KL:List (Int×List Pn):=[
 (10,jH [([73,78],false),([80,84],true)] [([81],false),([69,84],true)] 0),
 (11,jH [([73,78],false),([80,84],true)] [([81],false),([69,84],true)] 0),
 (12,jH [([73,78],false),([80,84],true)] [([81],false),([69,84],true)] 2),
 (13,jH [([67,85],false),([82],false),([80,86],true)] [([81],false),([67,86],true)] 1),
 (14,jH [([67,68],false),([76,68],false),([80,86],true)] [([81],false),([67,86],true)] 1),
 (15,jH [([67,76,75],false)] [([81],false)] 1),
 (16,jH [([67,76,75],false)] [([81],false)] 1),
 (17,jH [([83,49],false),([82],false)] [([81,49],false)] 0),
 (18,jH [([83],false),([82,49],false)] [([81,49],false)] 0),
 (20,jH [([65,120,105,115],true),([69,110,97,98,108,101],false)] [([83,116,97,116,117,115],false),([69,114,114,111,114],false)] 0),
 (21,jH [([65,120,105,115],true),([69,120,101,99,117,116,101],false)] Al 2),
 (22,jH [([65,120,105,115],true),([69,120,101,99,117,116,101],false)] Al 2),
 (23,jH [([65,120,105,115],true),([69,120,101,99,117,116,101],false)] Al 2),
 (24,jH [([65,120,105,115],true),([69,120,101,99,117,116,101],false),([80,111,115,105,116,105,111,110],true),([86,101,108,111,99,105,116,121],true),([66,117,102,102,101,114,77,111,100,101],true)] Al 2),
 (25,jH [([65,120,105,115],true),([69,120,101,99,117,116,101],false),([68,105,115,116,97,110,99,101],true),([86,101,108,111,99,105,116,121],true),([66,117,102,102,101,114,77,111,100,101],true)] Al 2),
 (26,jH [([65,120,105,115],true),([69,120,101,99,117,116,101],false),([68,105,115,116,97,110,99,101],true),([86,101,108,111,99,105,116,121],true),([66,117,102,102,101,114,77,111,100,101],true)] Al 2),
 (27,jH [([65,120,105,115],true),([69,120,101,99,117,116,101],false),([86,101,108,111,99,105,116,121],true)] [([73,110,86,101,108,111,99,105,116,121],false),([66,117,115,121],false),([65,99,116,105,118,101],false),([67,111,109,109,97,110,100,65,98,111,114,116,101,100],false),([69,114,114,111,114],false)] 2),
 (28,jH [([65,120,105,115],true),([69,120,101,99,117,116,101],false),([77,97,115,116,101,114],true),([78,117,109,101,114,97,116,111,114],true),([68,101,110,111,109,105,110,97,116,111,114],true)] [([73,110,71,101,97,114],false),([66,117,115,121],false),([65,99,116,105,118,101],false),([67,111,109,109,97,110,100,65,98,111,114,116,101,100],false),([69,114,114,111,114],false)] 2),
 (29,jH [([65,120,105,115],true),([69,120,101,99,117,116,101],false)] [([68,111,110,101],false),([69,114,114,111,114],false)] 1),
 (30,jH [([65,120,105,115],true),([69,120,101,99,117,116,101],false),([80,111,115,105,116,105,111,110],true)] [([68,111,110,101],false),([69,114,114,111,114],false)] 1),
 (31,jH [([65,120,105,115],true),([69,110,97,98,108,101],false),([80,101,114,99,101,110,116],true)] [([69,110,97,98,108,101,100],false)] 0)]
def xe:List (Int×List Pn)->Int->List Pn
 |[],_=>[]
 |(a,l)::r,k=>if a=k then l else xe r k
def br(k:Int):List Pn:=xe KL k
def xf:List Pn->Tx->Option Pn
 |[],_=>none
 |p::r,s=>if p.name=s/\s≠[]then some p else xf r s
def lS(k:Int)(s:Tx):Option Pn:=xf (br k) s
def bu:List Vr->Tx->Option Vr
 |[],_=>none
 |v::r,s=>if v.name=s then some v else bu r s
def b5(v:Vr):Int:=if v.arr=true then v.hi-v.lo+1 else if 2<v.ty then (br v.ty).length else 1
structure Te where
 t:Int
 e:Int
 line:Int
 deriving DecidableEq
def gL(t:Int):Te:=⟨t,0,0⟩
def cE(e line:Int):Te:=⟨0,e,line⟩
def hZ(op t:Int):Int:=if op=6\/(8<=op/\op<=12)\/(15<=op/\op<=18)then 1 else if op=13\/op=14 then t else 2
def kX(op:Int):Int:=if op=6\/(8<=op/\op<=12)then 1 else 2
def b6(op line:Int)(a b:Te):Te:=
 if a.e≠0 then ⟨0,a.e,a.line⟩else if b.e≠0 then ⟨0,b.e,b.line⟩else
 if a.t≠hZ op a.t\/b.t≠hZ op a.t then cE 10 line else gL (kX op)
theorem rT{op line:Int}{a b:Te}(h:(b6 op line a b).e=0):a.e=0/\b.e=0/\a.t=hZ op a.t/\b.t=hZ op a.t/\b6 op line a b=gL (kX op):=by
 unfold b6 at h⊢;by_cases A:a.e≠0
 ·rw[aal A]at h;exact absurd h A
 ·rw[aac A]at h⊢;by_cases E:b.e≠0
  ·rw[aal E]at h;exact absurd h E
  ·rw[aac E]at h⊢;by_cases H:a.t≠hZ op a.t\/b.t≠hZ op a.t
   ·rw[aal H]at h;simp[cE]at h
   ·rw[aac H];simp only[ne_eq,ak0,Decidable.not_not]at A E H;exact⟨A,E,H.1,H.2,rfl⟩
mutual
def aQ(vs:List Vr):Ex->Te
 | .mk op _ name field sub line=>
  if op=1\/op=2 then gL op
  else if op=3\/op=4\/op=5 then
   match bu vs name with
   |none=>cE 9 line
   |some v=>
    if op=5 then (if v.ty<=2 then cE 10 line else match lS v.ty field with
     |none=>cE 9 line
     |some p=>gL p.ty)
    else if v.arr≠decide (op=4)\/2<v.ty then cE 10 line
    else if op=4 then KM vs v.ty sub
    else gL v.ty
  else tyO vs op line sub
def KM(vs:List Vr)(t:Int):List Ex->Te
 |[]=>gL t
 |x::_=>if (aQ vs x).e≠0 then cE (aQ vs x).e (aQ vs x).line else if (aQ vs x).t≠1 then cE 10 (mY x)else gL t
def tyO(vs:List Vr)(op line:Int):List Ex->Te
 |[]=>gL 0
 |[x]=>b6 op line (aQ vs x) (aQ vs x)
 |x::y::_=>b6 op line (aQ vs x) (aQ vs y)
end
def dx(vs:List Vr)(x:Ex)(t:Int):Int×Int:=if (aQ vs x).e≠0 then ((aQ vs x).e,(aQ vs x).line)else if (aQ vs x).t≠t then (10,mY x)else (0,0)
def nh(b:Int):Nat:=
 if b=10 then 4 else if b=11 then 4 else if b=12 then 6 else if b=13 then 6 else if b=14 then 6 else if b=15 then 3 else if b=16 then 3 else if b=17 then 3 else if b=18 then 3 else if b=20 then 4 else if b=21 then 9 else if b=22 then 9 else if b=23 then 9 else if b=24 then 12 else if b=25 then 12 else if b=26 then 12 else if b=27 then 10 else if b=28 then 12 else if b=29 then 5 else if b=30 then 6 else if b=31 then 4 else 0
def ka:List Int:=[10,11,12,13,14,15,16,17,18,20,21,22,23,24,25,26,27,28,29,30,31]
theorem xg{b:Int}(A:b∉ka):br b=[]:=by
 simp only[ka,aak,ae6,ak5,ak0]at A;obtain⟨D,E,H,I,J,M,N,O,T,U,V,Y,Z,y,A',A0,A1,A2,A3,A4,A5⟩:=A;unfold br KL;simp only[xe,aac (agh D),aac (agh E),aac (agh H),aac (agh I),aac (agh J),aac (agh M),aac (agh N),aac (agh O),aac (agh T),aac (agh U),aac (agh V),aac (agh Y),aac (agh Z),aac (agh y),aac (agh A'),aac (agh A0),aac (agh A1),aac (agh A2),aac (agh A3),aac (agh A4),aac (agh A5)]
theorem zx(b:Int):(br b).length<=20:=by
 by_cases A:b∈ka
 ·simp only[ka,aak,ae6,ak5]at A;rcases A with rfl|rfl|rfl|rfl|rfl|rfl|rfl|rfl|rfl|rfl|rfl|rfl|rfl|rfl|rfl|rfl|rfl|rfl|rfl|rfl|rfl<;>decide
 ·rw[xg A];decide
def Yi(x:aS)(n:Int):Bool:=decide (x.n<=n)&&decide (n<=x.m)
def xM(C:List Int)(k:Int):Int:=C[k.toNat]?.getD 0
def aho(C:List Int)(x:aS):Bool:=decide (0<=xM C (x.b+1)/\xM C x.a<=xM C x.b)||decide (xM C (x.b+1)<0/\xM C x.b<=xM C x.a)
theorem zy(k a b q e:Int):(rF k a b q e).length=4:=by unfold rF;(repeat' split)<;>rfl
theorem tS(k a b q e p r:Int):(nb k a b q e p r).length=6:=by unfold nb Ya Yb Yc;dsimp only;(repeat' split)<;>rfl
theorem S7(k a b q:Int):(rG k a b q).length=3:=by unfold rG;(repeat' split)<;>rfl
theorem FD(k:Int)(c:List Int):(fZ k c).length=c.length:=by
 unfold fZ;split
 ·exact S7 ..
 ·exact zy ..
 ·exact tS ..
 ·rfl
structure Ms where
 cells:List Int
 sW:List Int
 at_:Int
 fuel:Int
 fault:Int
def Ms.pop(s:Ms):Ms:={s with sW:=s.sW.dropLast}
def Ms.push(s:Ms)(n:Int):Ms:={s with sW:=s.sW++[n]}
def Ms.top(s:Ms):Int:=s.sW.getLast?.getD 0
def adk(C:List Int)(k n:Int):List Int:=C.set k.toNat n
def ahp(x:aS)(s:Ms):Option Ms:=
 if x.op=1 then some (s.push x.n)
 else if x.op=2 then some (s.push (xM s.cells x.a))
 else if x.op=3 then some (s.push (dG (decide (xM s.cells x.a≠0))))
 else if x.op=4\/x.op=5 then
  (if Yi x s.top=true then some (s.pop.push (if x.op=4 then xM s.cells (x.a+(s.top-x.n))else dG (decide (xM s.cells (x.a+(s.top-x.n))≠0))))else some {s.pop with fault:=3})
 else if x.op=6 then some {s.pop with cells:=adk s.cells x.a s.top}
 else if x.op=7 then
  (if Yi x s.pop.top=true then some {s.pop.pop with cells:=adk s.cells (x.a+(s.pop.top-x.n)) s.top} else some {s.pop.pop with fault:=3})
 else none
def doF(x:aS)(s:Ms):Ms:=
 if x.b=6\/x.b=7 then
  (if (mW x.b s.top (decide (x.a=1))).2.2=0 then s.pop.push (mW x.b s.top (decide (x.a=1))).1 else {s.pop with fault:=(mW x.b s.top (decide (x.a=1))).2.2})
 else
  (if (jJ x.b s.pop.top s.top (decide (x.a=1))).2.2=0 then s.pop.pop.push (jJ x.b s.pop.top s.top (decide (x.a=1))).1 else {s.pop.pop with fault:=(jJ x.b s.pop.top s.top (decide (x.a=1))).2.2})
def adl(x:aS)(C:List Int):List Int:=C.take x.a.toNat++fZ x.b ((C.drop x.a.toNat).take (nh x.b))++C.drop (x.a.toNat+nh x.b)
def al8(x:aS)(s:Ms):Ms:=
 if x.op=8 then doF x s
 else if x.op=9 then {s with at_:=x.a}
 else if x.op=10 then (if s.top=0 then {s.pop with at_:=x.a} else s.pop)
 else if x.op=11 then (if s.fuel=0 then {s with fault:=4} else {s with fuel:=s.fuel-1})
 else if x.op=12 then {s with cells:=adl x s.cells}
 else if x.op=13 then s.push (dG (aho s.cells x))
 else if x.op=14 then s.push (dG (decide (x.n<=xM s.cells x.a/\xM s.cells x.a<=x.m)))
 else s
def Pp(x:aS)(s:Ms):Ms:=
 match ahp x {s with at_:=s.at_+1} with
 |some t=>t
 |none=>al8 x {s with at_:=s.at_+1}
inductive Gq(l:List aS):Ms->Ms->Prop
 |fault (s:Ms) (h:s.fault≠0):Gq l s s
 |fin (s:Ms) (x:aS) (A6:s.fault=0) (A7:l[s.at_.toNat]?=some x) (h:x.op=15):Gq l s s
 |step (s:Ms) (x:aS) (t:Ms) (A6:s.fault=0) (A7:l[s.at_.toNat]?=some x) (h:x.op≠15) (A8:Gq l (Pp x s) t):Gq l s t
end Go.Am
end
section
namespace Go.Am
open Go
open Go.Proofs
abbrev T2(t:Nat)(k:TK)(s:Nat):Prop:=tk Tryz.prog t=k/\eH Tryz.prog t=some s
abbrev T3(t:Nat)(k:TK)(s:Nat)(z:List AV):Prop:=T2 t k s/\rk Tryz.prog t=some z
abbrev T5(t:Nat)(k:TK)(s:Nat)(z:List AV)(b:Nat)(d:D):Prop:=T3 t k s z/\xY Tryz.prog t=some b/\lA Tryz.prog t=some d
abbrev FF(t i o y:Nat):Prop:=vM Tryz.prog t i=some o/\G8 Tryz.prog t i=some y
@[simp] theorem axj:T2 1 (.func) 1:=by and_intros<;>kernel_rfl
@[simp] theorem axk:T5 2 (.int .i64) 1 ([.d (.int .i64 0)]) 8 (.int .i64 0):=by and_intros<;>kernel_rfl
@[simp] theorem axl:T5 3 (.int .i64) 1 ([.d (.int .i64 0)]) 8 (.int .i64 0):=by and_intros<;>kernel_rfl
@[simp] theorem axm:T5 4 (.bool) 1 ([.d (.bool false)]) 1 (.bool false):=by and_intros<;>kernel_rfl
@[simp] theorem axn:T5 5 (.int .u8) 1 ([.d (.int .u8 0)]) 1 (.int .u8 0):=by and_intros<;>kernel_rfl
@[simp] theorem axo:T5 6 (.int .u8) 1 ([.d (.int .u8 0)]) 1 (.int .u8 0):=by and_intros<;>kernel_rfl
@[simp] theorem axp:T5 7 (.struct) 4 ([.d (.int .i64 0),.d (.int .i64 0),.d (.bool false),.d (.int .u8 0)]) 24 (.agg ([.int .i64 0,.int .i64 0,.bool false,.int .u8 0])):=by and_intros<;>kernel_rfl
@[simp] theorem atz:FF 7 0 0 2:=by and_intros<;>kernel_rfl
@[simp] theorem atA:FF 7 1 1 3:=by and_intros<;>kernel_rfl
@[simp] theorem atB:FF 7 2 2 4:=by and_intros<;>kernel_rfl
@[simp] theorem atC:FF 7 3 3 6:=by and_intros<;>kernel_rfl
@[simp] theorem al9:bh Tryz.prog 7=some [(0,1),(1,1),(2,1),(3,1)]:=by kernel_rfl
@[simp] theorem axq:T5 8 (.struct) 4 ([.d (.int .i64 0),.d (.int .i64 0),.d (.bool false),.d (.int .u8 0)]) 24 (.agg ([.int .i64 0,.int .i64 0,.bool false,.int .u8 0])):=by and_intros<;>kernel_rfl
@[simp] theorem atD:FF 8 0 0 2:=by and_intros<;>kernel_rfl
@[simp] theorem atE:FF 8 1 1 3:=by and_intros<;>kernel_rfl
@[simp] theorem atG:FF 8 2 2 4:=by and_intros<;>kernel_rfl
@[simp] theorem atH:FF 8 3 3 6:=by and_intros<;>kernel_rfl
@[simp] theorem ama:bh Tryz.prog 8=some [(0,1),(1,1),(2,1),(3,1)]:=by kernel_rfl
@[simp] theorem axr:T5 9 (.str) 1 ([.d (.str [])]) 16 (.str []):=by and_intros<;>kernel_rfl
@[simp] theorem aqP:ei Tryz.prog 9=true:=by kernel_rfl
@[simp] theorem awa:T5 10 (.str) 1 ([.d (.str [])]) 16 (.str []):=by and_intros<;>kernel_rfl
@[simp] theorem amb:ei Tryz.prog 10=true:=by kernel_rfl
@[simp] theorem awb:T5 11 (.str) 1 ([.d (.str [])]) 16 (.str []):=by and_intros<;>kernel_rfl
@[simp] theorem amc:ei Tryz.prog 11=true:=by kernel_rfl
@[simp] theorem awc:T5 12 (.int .u64) 1 ([.d (.int .u64 0)]) 8 (.int .u64 0):=by and_intros<;>kernel_rfl
@[simp] theorem awd:T5 13 (.struct) 2 ([.d (.str []),.d (.int .u64 0)]) 24 (.agg ([.str [],.int .u64 0])):=by and_intros<;>kernel_rfl
@[simp] theorem aqQ:FF 13 0 0 9:=by and_intros<;>kernel_rfl
@[simp] theorem aqR:FF 13 1 1 12:=by and_intros<;>kernel_rfl
@[simp] theorem aki:bh Tryz.prog 13=some [(0,1),(1,1)]:=by kernel_rfl
@[simp] theorem awe:T5 14 (.struct) 2 ([.d (.str []),.d (.int .u64 0)]) 24 (.agg ([.str [],.int .u64 0])):=by and_intros<;>kernel_rfl
@[simp] theorem aqS:FF 14 0 0 9:=by and_intros<;>kernel_rfl
@[simp] theorem aqT:FF 14 1 1 12:=by and_intros<;>kernel_rfl
@[simp] theorem akj:bh Tryz.prog 14=some [(0,1),(1,1)]:=by kernel_rfl
@[simp] theorem awf:T2 15 (.ptr 348) 1:=by and_intros<;>kernel_rfl
@[simp] theorem awg:T2 16 (.ptr 351) 1:=by and_intros<;>kernel_rfl
@[simp] theorem awh:T2 17 (.ptr 359) 1:=by and_intros<;>kernel_rfl
@[simp] theorem awi:T3 18 (.struct) 1 ([.lit (.pointer none)]):=by and_intros<;>kernel_rfl
@[simp] theorem aqU:FF 18 0 0 17:=by and_intros<;>kernel_rfl
@[simp] theorem akk:bh Tryz.prog 18=some [(0,1)]:=by kernel_rfl
@[simp] theorem awj:T3 19 (.struct) 1 ([.lit (.pointer none)]):=by and_intros<;>kernel_rfl
@[simp] theorem aqV:FF 19 0 0 17:=by and_intros<;>kernel_rfl
@[simp] theorem akl:bh Tryz.prog 19=some [(0,1)]:=by kernel_rfl
@[simp] theorem awk:T2 20 (.iface) 1:=by and_intros<;>kernel_rfl
@[simp] theorem awl:T5 21 (.int .i32) 1 ([.d (.int .i32 0)]) 4 (.int .i32 0):=by and_intros<;>kernel_rfl
@[simp] theorem awm:T5 22 (.slice 64) 1 ([.lit (.slice none 0 0)]) 24 (.list []):=by and_intros<;>kernel_rfl
@[simp] theorem amd:ei Tryz.prog 22=true:=by kernel_rfl
@[simp] theorem awn:T5 23 (.slice 119) 1 ([.lit (.slice none 0 0)]) 24 (.list []):=by and_intros<;>kernel_rfl
@[simp] theorem ame:ei Tryz.prog 23=true:=by kernel_rfl
@[simp] theorem awo:T5 24 (.struct) 3 ([.d (.str []),.lit (.slice none 0 0),.lit (.slice none 0 0)]) 64 (.agg ([.str [],.list [],.list []])):=by and_intros<;>kernel_rfl
@[simp] theorem aqW:FF 24 0 0 9:=by and_intros<;>kernel_rfl
@[simp] theorem aqX:FF 24 1 1 22:=by and_intros<;>kernel_rfl
@[simp] theorem aqY:FF 24 2 2 23:=by and_intros<;>kernel_rfl
@[simp] theorem akm:bh Tryz.prog 24=some [(0,1),(1,1),(2,1)]:=by kernel_rfl
@[simp] theorem awp:T5 25 (.struct) 3 ([.d (.str []),.lit (.slice none 0 0),.lit (.slice none 0 0)]) 64 (.agg ([.str [],.list [],.list []])):=by and_intros<;>kernel_rfl
@[simp] theorem aqZ:FF 25 0 0 9:=by and_intros<;>kernel_rfl
@[simp] theorem aq0:FF 25 1 1 22:=by and_intros<;>kernel_rfl
@[simp] theorem aq1:FF 25 2 2 23:=by and_intros<;>kernel_rfl
@[simp] theorem akn:bh Tryz.prog 25=some [(0,1),(1,1),(2,1)]:=by kernel_rfl
@[simp] theorem awq:T5 26 (.slice 2) 1 ([.lit (.slice none 0 0)]) 24 (.list []):=by and_intros<;>kernel_rfl
@[simp] theorem amf:ei Tryz.prog 26=true:=by kernel_rfl
@[simp] theorem awr:T2 27 (.func) 1:=by and_intros<;>kernel_rfl
@[simp] theorem aws:T2 28 (.func) 1:=by and_intros<;>kernel_rfl
@[simp] theorem awt:T5 29 (.struct) 2 ([.d (.int .i64 0),.d (.int .i64 0)]) 16 (.agg ([.int .i64 0,.int .i64 0])):=by and_intros<;>kernel_rfl
@[simp] theorem aq2:FF 29 0 0 3:=by and_intros<;>kernel_rfl
@[simp] theorem aq3:FF 29 1 1 3:=by and_intros<;>kernel_rfl
@[simp] theorem ako:bh Tryz.prog 29=some [(0,1),(1,1)]/\bU Tryz.prog 29=some [.int .i64,.int .i64]:=by and_intros<;>kernel_rfl
@[simp] theorem awu:T5 30 (.struct) 2 ([.d (.int .i64 0),.d (.int .i64 0)]) 16 (.agg ([.int .i64 0,.int .i64 0])):=by and_intros<;>kernel_rfl
@[simp] theorem aq4:FF 30 0 0 3:=by and_intros<;>kernel_rfl
@[simp] theorem aq5:FF 30 1 1 3:=by and_intros<;>kernel_rfl
@[simp] theorem akp:bh Tryz.prog 30=some [(0,1),(1,1)]/\bU Tryz.prog 30=some [.int .i64,.int .i64]:=by and_intros<;>kernel_rfl
@[simp] theorem awv:T2 31 (.func) 1:=by and_intros<;>kernel_rfl
@[simp] theorem aww:T5 32 (.slice 49) 1 ([.lit (.slice none 0 0)]) 24 (.list []):=by and_intros<;>kernel_rfl
@[simp] theorem amg:ei Tryz.prog 32=true:=by kernel_rfl
@[simp] theorem awx:T5 33 (.struct) 3 ([.lit (.slice none 0 0),.d (.int .i64 0),.d (.int .i64 0)]) 40 (.agg ([.list [],.int .i64 0,.int .i64 0])):=by and_intros<;>kernel_rfl
@[simp] theorem aq6:FF 33 0 0 32:=by and_intros<;>kernel_rfl
@[simp] theorem aq7:FF 33 1 1 3:=by and_intros<;>kernel_rfl
@[simp] theorem aq8:FF 33 2 2 3:=by and_intros<;>kernel_rfl
@[simp] theorem akq:bh Tryz.prog 33=some [(0,1),(1,1),(2,1)]:=by kernel_rfl
@[simp] theorem awy:T5 34 (.struct) 3 ([.lit (.slice none 0 0),.d (.int .i64 0),.d (.int .i64 0)]) 40 (.agg ([.list [],.int .i64 0,.int .i64 0])):=by and_intros<;>kernel_rfl
@[simp] theorem aq9:FF 34 0 0 32:=by and_intros<;>kernel_rfl
@[simp] theorem ara:FF 34 1 1 3:=by and_intros<;>kernel_rfl
@[simp] theorem arb:FF 34 2 2 3:=by and_intros<;>kernel_rfl
@[simp] theorem akr:bh Tryz.prog 34=some [(0,1),(1,1),(2,1)]:=by kernel_rfl
@[simp] theorem awz:T5 35 (.int .i64) 1 ([.d (.int .i64 0)]) 8 (.int .i64 0):=by and_intros<;>kernel_rfl
@[simp] theorem awA:T5 40 (.struct) 3 ([.lit (.slice none 0 0),.d (.int .i64 0),.d (.int .i64 0)]) 40 (.agg ([.list [],.int .i64 0,.int .i64 0])):=by and_intros<;>kernel_rfl
@[simp] theorem arc:FF 40 0 0 26:=by and_intros<;>kernel_rfl
@[simp] theorem ard:FF 40 1 1 3:=by and_intros<;>kernel_rfl
@[simp] theorem are:FF 40 2 2 3:=by and_intros<;>kernel_rfl
@[simp] theorem aks:bh Tryz.prog 40=some [(0,1),(1,1),(2,1)]:=by kernel_rfl
@[simp] theorem awB:T5 41 (.struct) 3 ([.lit (.slice none 0 0),.d (.int .i64 0),.d (.int .i64 0)]) 40 (.agg ([.list [],.int .i64 0,.int .i64 0])):=by and_intros<;>kernel_rfl
@[simp] theorem arf:FF 41 0 0 26:=by and_intros<;>kernel_rfl
@[simp] theorem arh:FF 41 1 1 3:=by and_intros<;>kernel_rfl
@[simp] theorem ari:FF 41 2 2 3:=by and_intros<;>kernel_rfl
@[simp] theorem akt:bh Tryz.prog 41=some [(0,1),(1,1),(2,1)]:=by kernel_rfl
@[simp] theorem awC:T2 46 (.func) 1:=by and_intros<;>kernel_rfl
@[simp] theorem awD:T5 48 (.struct) 5 ([.d (.int .i64 0),.d (.int .i64 0),.d (.int .i64 0),.d (.int .i64 0),.d (.int .i64 0)]) 40 (.agg ([.int .i64 0,.int .i64 0,.int .i64 0,.int .i64 0,.int .i64 0])):=by and_intros<;>kernel_rfl
@[simp] theorem arj:FF 48 0 0 3:=by and_intros<;>kernel_rfl
@[simp] theorem ark:FF 48 1 1 3:=by and_intros<;>kernel_rfl
@[simp] theorem arl:FF 48 2 2 3:=by and_intros<;>kernel_rfl
@[simp] theorem arn:FF 48 3 3 2:=by and_intros<;>kernel_rfl
@[simp] theorem aro:FF 48 4 4 2:=by and_intros<;>kernel_rfl
@[simp] theorem aku:bh Tryz.prog 48=some [(0,1),(1,1),(2,1),(3,1),(4,1)]/\bU Tryz.prog 48=some [.int .i64,.int .i64,.int .i64,.int .i64,.int .i64]:=by and_intros<;>kernel_rfl
@[simp] theorem awE:T5 49 (.struct) 5 ([.d (.int .i64 0),.d (.int .i64 0),.d (.int .i64 0),.d (.int .i64 0),.d (.int .i64 0)]) 40 (.agg ([.int .i64 0,.int .i64 0,.int .i64 0,.int .i64 0,.int .i64 0])):=by and_intros<;>kernel_rfl
@[simp] theorem arp:FF 49 0 0 3:=by and_intros<;>kernel_rfl
@[simp] theorem arq:FF 49 1 1 3:=by and_intros<;>kernel_rfl
@[simp] theorem ars:FF 49 2 2 3:=by and_intros<;>kernel_rfl
@[simp] theorem art:FF 49 3 3 2:=by and_intros<;>kernel_rfl
@[simp] theorem aru:FF 49 4 4 2:=by and_intros<;>kernel_rfl
@[simp] theorem akv:bh Tryz.prog 49=some [(0,1),(1,1),(2,1),(3,1),(4,1)]/\bU Tryz.prog 49=some [.int .i64,.int .i64,.int .i64,.int .i64,.int .i64]:=by and_intros<;>kernel_rfl
@[simp] theorem awF:T5 54 (.struct) 5 ([.d (.int .i64 0),.d (.str []),.d (.int .i64 0),.d (.int .i64 0),.d (.int .i64 0)]) 48 (.agg ([.int .i64 0,.str [],.int .i64 0,.int .i64 0,.int .i64 0])):=by and_intros<;>kernel_rfl
@[simp] theorem arv:FF 54 0 0 3:=by and_intros<;>kernel_rfl
@[simp] theorem arw:FF 54 1 1 9:=by and_intros<;>kernel_rfl
@[simp] theorem arx:FF 54 2 2 2:=by and_intros<;>kernel_rfl
@[simp] theorem ary:FF 54 3 3 3:=by and_intros<;>kernel_rfl
@[simp] theorem arz:FF 54 4 4 3:=by and_intros<;>kernel_rfl
@[simp] theorem akw:bh Tryz.prog 54=some [(0,1),(1,1),(2,1),(3,1),(4,1)]/\bU Tryz.prog 54=some [.int .i64,.str,.int .i64,.int .i64,.int .i64]:=by and_intros<;>kernel_rfl
@[simp] theorem awG:T5 55 (.struct) 5 ([.d (.int .i64 0),.d (.str []),.d (.int .i64 0),.d (.int .i64 0),.d (.int .i64 0)]) 48 (.agg ([.int .i64 0,.str [],.int .i64 0,.int .i64 0,.int .i64 0])):=by and_intros<;>kernel_rfl
@[simp] theorem arA:FF 55 0 0 3:=by and_intros<;>kernel_rfl
@[simp] theorem arB:FF 55 1 1 9:=by and_intros<;>kernel_rfl
@[simp] theorem arC:FF 55 2 2 2:=by and_intros<;>kernel_rfl
@[simp] theorem arD:FF 55 3 3 3:=by and_intros<;>kernel_rfl
@[simp] theorem arE:FF 55 4 4 3:=by and_intros<;>kernel_rfl
@[simp] theorem akx:bh Tryz.prog 55=some [(0,1),(1,1),(2,1),(3,1),(4,1)]/\bU Tryz.prog 55=some [.int .i64,.str,.int .i64,.int .i64,.int .i64]:=by and_intros<;>kernel_rfl
@[simp] theorem awH:T2 57 (.func) 1:=by and_intros<;>kernel_rfl
@[simp] theorem awI:T2 59 (.func) 1:=by and_intros<;>kernel_rfl
@[simp] theorem awJ:T5 63 (.struct) 8 ([.d (.str []),.d (.int .i64 0),.d (.int .i64 0),.d (.bool false),.d (.int .i64 0),.d (.int .i64 0),.d (.int .i64 0),.d (.int .i64 0)]) 72 (.agg ([.str [],.int .i64 0,.int .i64 0,.bool false,.int .i64 0,.int .i64 0,.int .i64 0,.int .i64 0])):=by and_intros<;>kernel_rfl
@[simp] theorem arF:FF 63 0 0 9:=by and_intros<;>kernel_rfl
@[simp] theorem arG:FF 63 1 1 3:=by and_intros<;>kernel_rfl
@[simp] theorem arH:FF 63 2 2 3:=by and_intros<;>kernel_rfl
@[simp] theorem arI:FF 63 3 3 4:=by and_intros<;>kernel_rfl
@[simp] theorem arJ:FF 63 4 4 2:=by and_intros<;>kernel_rfl
@[simp] theorem arK:FF 63 5 5 2:=by and_intros<;>kernel_rfl
@[simp] theorem arL:FF 63 6 6 2:=by and_intros<;>kernel_rfl
@[simp] theorem arM:FF 63 7 7 3:=by and_intros<;>kernel_rfl
@[simp] theorem aky:bh Tryz.prog 63=some [(0,1),(1,1),(2,1),(3,1),(4,1),(5,1),(6,1),(7,1)]/\bU Tryz.prog 63=some [.str,.int .i64,.int .i64,.bool,.int .i64,.int .i64,.int .i64,.int .i64]:=by and_intros<;>kernel_rfl
@[simp] theorem awK:T5 64 (.struct) 8 ([.d (.str []),.d (.int .i64 0),.d (.int .i64 0),.d (.bool false),.d (.int .i64 0),.d (.int .i64 0),.d (.int .i64 0),.d (.int .i64 0)]) 72 (.agg ([.str [],.int .i64 0,.int .i64 0,.bool false,.int .i64 0,.int .i64 0,.int .i64 0,.int .i64 0])):=by and_intros<;>kernel_rfl
@[simp] theorem arN:FF 64 0 0 9:=by and_intros<;>kernel_rfl
@[simp] theorem arO:FF 64 1 1 3:=by and_intros<;>kernel_rfl
@[simp] theorem arP:FF 64 2 2 3:=by and_intros<;>kernel_rfl
@[simp] theorem arQ:FF 64 3 3 4:=by and_intros<;>kernel_rfl
@[simp] theorem arR:FF 64 4 4 2:=by and_intros<;>kernel_rfl
@[simp] theorem arS:FF 64 5 5 2:=by and_intros<;>kernel_rfl
@[simp] theorem arT:FF 64 6 6 2:=by and_intros<;>kernel_rfl
@[simp] theorem arU:FF 64 7 7 3:=by and_intros<;>kernel_rfl
@[simp] theorem akz:bh Tryz.prog 64=some [(0,1),(1,1),(2,1),(3,1),(4,1),(5,1),(6,1),(7,1)]/\bU Tryz.prog 64=some [.str,.int .i64,.int .i64,.bool,.int .i64,.int .i64,.int .i64,.int .i64]:=by and_intros<;>kernel_rfl
@[simp] theorem awL:T2 65 (.func) 1:=by and_intros<;>kernel_rfl
@[simp] theorem awM:T5 70 (.slice 3) 1 ([.lit (.slice none 0 0)]) 24 (.list []):=by and_intros<;>kernel_rfl
@[simp] theorem amh:ei Tryz.prog 70=true:=by kernel_rfl
@[simp] theorem awN:T5 71 (.struct) 3 ([.lit (.slice none 0 0),.d (.int .i64 0),.lit (.slice none 0 0)]) 56 (.agg ([.list [],.int .i64 0,.list []])):=by and_intros<;>kernel_rfl
@[simp] theorem arV:FF 71 0 0 70:=by and_intros<;>kernel_rfl
@[simp] theorem arW:FF 71 1 1 3:=by and_intros<;>kernel_rfl
@[simp] theorem arX:FF 71 2 2 26:=by and_intros<;>kernel_rfl
@[simp] theorem akA:bh Tryz.prog 71=some [(0,1),(1,1),(2,1)]:=by kernel_rfl
@[simp] theorem awO:T5 72 (.struct) 3 ([.lit (.slice none 0 0),.d (.int .i64 0),.lit (.slice none 0 0)]) 56 (.agg ([.list [],.int .i64 0,.list []])):=by and_intros<;>kernel_rfl
@[simp] theorem arY:FF 72 0 0 70:=by and_intros<;>kernel_rfl
@[simp] theorem arZ:FF 72 1 1 3:=by and_intros<;>kernel_rfl
@[simp] theorem ar0:FF 72 2 2 26:=by and_intros<;>kernel_rfl
@[simp] theorem akB:bh Tryz.prog 72=some [(0,1),(1,1),(2,1)]:=by kernel_rfl
@[simp] theorem awP:T2 73 (.func) 1:=by and_intros<;>kernel_rfl
@[simp] theorem awQ:T2 90 (.func) 1:=by and_intros<;>kernel_rfl
@[simp] theorem awR:T5 93 (.slice 96) 1 ([.lit (.slice none 0 0)]) 24 (.list []):=by and_intros<;>kernel_rfl
@[simp] theorem ami:ei Tryz.prog 93=true:=by kernel_rfl
@[simp] theorem awS:T5 94 (.struct) 10 ([.d (.str []),.lit (.slice none 0 0),.lit (.slice none 0 0),.lit (.slice none 0 0),.d (.int .i64 0),.lit (.slice none 0 0),.lit (.slice none 0 0),.lit (.slice none 0 0),.d (.int .i64 0),.d (.int .i64 0)]) 184 (.agg ([.str [],.list [],.list [],.list [],.int .i64 0,.list [],.list [],.list [],.int .i64 0,.int .i64 0])):=by and_intros<;>kernel_rfl
@[simp] theorem ar1:FF 94 0 0 25:=by and_intros<;>kernel_rfl
@[simp] theorem ar2:FF 94 1 3 72:=by and_intros<;>kernel_rfl
@[simp] theorem ar3:FF 94 2 6 93:=by and_intros<;>kernel_rfl
@[simp] theorem ar4:FF 94 3 7 26:=by and_intros<;>kernel_rfl
@[simp] theorem ar5:FF 94 4 8 3:=by and_intros<;>kernel_rfl
@[simp] theorem ar6:FF 94 5 9 3:=by and_intros<;>kernel_rfl
@[simp] theorem akC:bh Tryz.prog 94=some [(0,3),(3,3),(6,1),(7,1),(8,1),(9,1)]:=by kernel_rfl
@[simp] theorem awT:T5 95 (.struct) 10 ([.d (.str []),.lit (.slice none 0 0),.lit (.slice none 0 0),.lit (.slice none 0 0),.d (.int .i64 0),.lit (.slice none 0 0),.lit (.slice none 0 0),.lit (.slice none 0 0),.d (.int .i64 0),.d (.int .i64 0)]) 184 (.agg ([.str [],.list [],.list [],.list [],.int .i64 0,.list [],.list [],.list [],.int .i64 0,.int .i64 0])):=by and_intros<;>kernel_rfl
@[simp] theorem ar7:FF 95 0 0 25:=by and_intros<;>kernel_rfl
@[simp] theorem ar8:FF 95 1 3 72:=by and_intros<;>kernel_rfl
@[simp] theorem ar9:FF 95 2 6 93:=by and_intros<;>kernel_rfl
@[simp] theorem asa:FF 95 3 7 26:=by and_intros<;>kernel_rfl
@[simp] theorem asb:FF 95 4 8 3:=by and_intros<;>kernel_rfl
@[simp] theorem asc:FF 95 5 9 3:=by and_intros<;>kernel_rfl
@[simp] theorem akD:bh Tryz.prog 95=some [(0,3),(3,3),(6,1),(7,1),(8,1),(9,1)]:=by kernel_rfl
@[simp] theorem awU:T5 96 (.slice 150) 1 ([.lit (.slice none 0 0)]) 24 (.list []):=by and_intros<;>kernel_rfl
@[simp] theorem amj:ei Tryz.prog 96=true:=by kernel_rfl
@[simp] theorem awV:T2 97 (.func) 1:=by and_intros<;>kernel_rfl
@[simp] theorem awW:T2 99 (.ptr 101) 1:=by and_intros<;>kernel_rfl
@[simp] theorem atJ:T5 100 (.struct) 7 ([.d (.str []),.lit (.slice none 0 0),.lit (.slice none 0 0),.lit (.slice none 0 0),.lit (.slice none 0 0),.lit (.slice none 0 0),.d (.int .i64 0)]) 144 (.agg ([.str [],.list [],.list [],.list [],.list [],.list [],.int .i64 0])):=by and_intros<;>kernel_rfl
@[simp] theorem amk:FF 100 0 0 25:=by and_intros<;>kernel_rfl
@[simp] theorem aml:FF 100 1 3 70:=by and_intros<;>kernel_rfl
@[simp] theorem amm:FF 100 2 4 93:=by and_intros<;>kernel_rfl
@[simp] theorem amn:FF 100 3 5 26:=by and_intros<;>kernel_rfl
@[simp] theorem amo:FF 100 4 6 3:=by and_intros<;>kernel_rfl
@[simp] theorem ahq:bh Tryz.prog 100=some [(0,3),(3,1),(4,1),(5,1),(6,1)]:=by kernel_rfl
@[simp] theorem atK:T5 101 (.struct) 7 ([.d (.str []),.lit (.slice none 0 0),.lit (.slice none 0 0),.lit (.slice none 0 0),.lit (.slice none 0 0),.lit (.slice none 0 0),.d (.int .i64 0)]) 144 (.agg ([.str [],.list [],.list [],.list [],.list [],.list [],.int .i64 0])):=by and_intros<;>kernel_rfl
@[simp] theorem amp:FF 101 0 0 25:=by and_intros<;>kernel_rfl
@[simp] theorem amq:FF 101 1 3 70:=by and_intros<;>kernel_rfl
@[simp] theorem amr:FF 101 2 4 93:=by and_intros<;>kernel_rfl
@[simp] theorem ams:FF 101 3 5 26:=by and_intros<;>kernel_rfl
@[simp] theorem amt:FF 101 4 6 3:=by and_intros<;>kernel_rfl
@[simp] theorem ahr:bh Tryz.prog 101=some [(0,3),(3,1),(4,1),(5,1),(6,1)]:=by kernel_rfl
@[simp] theorem atM:T5 102 (.struct) 1 ([.d (.int .i64 0)]) 8 (.agg ([.int .i64 0])):=by and_intros<;>kernel_rfl
@[simp] theorem amu:FF 102 0 0 3:=by and_intros<;>kernel_rfl
@[simp] theorem ahs:bh Tryz.prog 102=some [(0,1)]/\bU Tryz.prog 102=some [.int .i64]:=by and_intros<;>kernel_rfl
@[simp] theorem atN:T5 103 (.struct) 1 ([.d (.int .i64 0)]) 8 (.agg ([.int .i64 0])):=by and_intros<;>kernel_rfl
@[simp] theorem amv:FF 103 0 0 3:=by and_intros<;>kernel_rfl
@[simp] theorem aht:bh Tryz.prog 103=some [(0,1)]/\bU Tryz.prog 103=some [.int .i64]:=by and_intros<;>kernel_rfl
@[simp] theorem atO:T2 111 (.func) 1:=by and_intros<;>kernel_rfl
@[simp] theorem atP:T5 112 (.slice 114) 1 ([.lit (.slice none 0 0)]) 24 (.list []):=by and_intros<;>kernel_rfl
@[simp] theorem akE:ei Tryz.prog 112=true:=by kernel_rfl
@[simp] theorem atQ:T5 113 (.struct) 6 ([.d (.int .i64 0),.d (.int .i64 0),.d (.str []),.d (.str []),.lit (.slice none 0 0),.d (.int .i64 0)]) 80 (.agg ([.int .i64 0,.int .i64 0,.str [],.str [],.list [],.int .i64 0])):=by and_intros<;>kernel_rfl
@[simp] theorem amw:FF 113 0 0 3:=by and_intros<;>kernel_rfl
@[simp] theorem amx:FF 113 1 1 2:=by and_intros<;>kernel_rfl
@[simp] theorem amy:FF 113 2 2 9:=by and_intros<;>kernel_rfl
@[simp] theorem amz:FF 113 3 3 9:=by and_intros<;>kernel_rfl
@[simp] theorem amA:FF 113 4 4 112:=by and_intros<;>kernel_rfl
@[simp] theorem amB:FF 113 5 5 3:=by and_intros<;>kernel_rfl
@[simp] theorem ahu:bh Tryz.prog 113=some [(0,1),(1,1),(2,1),(3,1),(4,1),(5,1)]:=by kernel_rfl
@[simp] theorem atS:T5 114 (.struct) 6 ([.d (.int .i64 0),.d (.int .i64 0),.d (.str []),.d (.str []),.lit (.slice none 0 0),.d (.int .i64 0)]) 80 (.agg ([.int .i64 0,.int .i64 0,.str [],.str [],.list [],.int .i64 0])):=by and_intros<;>kernel_rfl
@[simp] theorem amC:FF 114 0 0 3:=by and_intros<;>kernel_rfl
@[simp] theorem amD:FF 114 1 1 2:=by and_intros<;>kernel_rfl
@[simp] theorem amE:FF 114 2 2 9:=by and_intros<;>kernel_rfl
@[simp] theorem amF:FF 114 3 3 9:=by and_intros<;>kernel_rfl
@[simp] theorem amG:FF 114 4 4 112:=by and_intros<;>kernel_rfl
@[simp] theorem amH:FF 114 5 5 3:=by and_intros<;>kernel_rfl
@[simp] theorem ahv:bh Tryz.prog 114=some [(0,1),(1,1),(2,1),(3,1),(4,1),(5,1)]:=by kernel_rfl
@[simp] theorem atT:T5 115 (.slice 26) 1 ([.lit (.slice none 0 0)]) 24 (.list []):=by and_intros<;>kernel_rfl
@[simp] theorem akF:ei Tryz.prog 115=true:=by kernel_rfl
@[simp] theorem atU:T5 116 (.slice 9) 1 ([.lit (.slice none 0 0)]) 24 (.list []):=by and_intros<;>kernel_rfl
@[simp] theorem akG:ei Tryz.prog 116=true:=by kernel_rfl
@[simp] theorem atV:T5 117 (.slice 23) 1 ([.lit (.slice none 0 0)]) 24 (.list []):=by and_intros<;>kernel_rfl
@[simp] theorem akH:ei Tryz.prog 117=true:=by kernel_rfl
@[simp] theorem atW:T5 118 (.struct) 19 ([.d (.int .i64 0),.d (.str []),.d (.int .i64 0),.d (.int .i64 0),.d (.str []),.d (.str []),.lit (.slice none 0 0),.d (.int .i64 0),.d (.int .i64 0),.d (.int .i64 0),.d (.str []),.d (.str []),.lit (.slice none 0 0),.d (.int .i64 0),.lit (.slice none 0 0),.lit (.slice none 0 0),.lit (.slice none 0 0),.lit (.slice none 0 0),.d (.int .i64 0)]) 288 (.agg ([.int .i64 0,.str [],.int .i64 0,.int .i64 0,.str [],.str [],.list [],.int .i64 0,.int .i64 0,.int .i64 0,.str [],.str [],.list [],.int .i64 0,.list [],.list [],.list [],.list [],.int .i64 0])):=by and_intros<;>kernel_rfl
@[simp] theorem amI:FF 118 0 0 3:=by and_intros<;>kernel_rfl
@[simp] theorem amJ:FF 118 1 1 9:=by and_intros<;>kernel_rfl
@[simp] theorem amK:FF 118 2 2 114:=by and_intros<;>kernel_rfl
@[simp] theorem amL:FF 118 3 8 114:=by and_intros<;>kernel_rfl
@[simp] theorem amM:FF 118 4 14 112:=by and_intros<;>kernel_rfl
@[simp] theorem amN:FF 118 5 15 115:=by and_intros<;>kernel_rfl
@[simp] theorem amO:FF 118 6 16 116:=by and_intros<;>kernel_rfl
@[simp] theorem amP:FF 118 7 17 117:=by and_intros<;>kernel_rfl
@[simp] theorem amQ:FF 118 8 18 3:=by and_intros<;>kernel_rfl
@[simp] theorem ahw:bh Tryz.prog 118=some [(0,1),(1,1),(2,6),(8,6),(14,1),(15,1),(16,1),(17,1),(18,1)]:=by kernel_rfl
@[simp] theorem atX:T5 119 (.struct) 19 ([.d (.int .i64 0),.d (.str []),.d (.int .i64 0),.d (.int .i64 0),.d (.str []),.d (.str []),.lit (.slice none 0 0),.d (.int .i64 0),.d (.int .i64 0),.d (.int .i64 0),.d (.str []),.d (.str []),.lit (.slice none 0 0),.d (.int .i64 0),.lit (.slice none 0 0),.lit (.slice none 0 0),.lit (.slice none 0 0),.lit (.slice none 0 0),.d (.int .i64 0)]) 288 (.agg ([.int .i64 0,.str [],.int .i64 0,.int .i64 0,.str [],.str [],.list [],.int .i64 0,.int .i64 0,.int .i64 0,.str [],.str [],.list [],.int .i64 0,.list [],.list [],.list [],.list [],.int .i64 0])):=by and_intros<;>kernel_rfl
@[simp] theorem amR:FF 119 0 0 3:=by and_intros<;>kernel_rfl
@[simp] theorem amS:FF 119 1 1 9:=by and_intros<;>kernel_rfl
@[simp] theorem amT:FF 119 2 2 114:=by and_intros<;>kernel_rfl
@[simp] theorem amU:FF 119 3 8 114:=by and_intros<;>kernel_rfl
@[simp] theorem amV:FF 119 4 14 112:=by and_intros<;>kernel_rfl
@[simp] theorem amW:FF 119 5 15 115:=by and_intros<;>kernel_rfl
@[simp] theorem amX:FF 119 6 16 116:=by and_intros<;>kernel_rfl
@[simp] theorem amY:FF 119 7 17 117:=by and_intros<;>kernel_rfl
@[simp] theorem amZ:FF 119 8 18 3:=by and_intros<;>kernel_rfl
@[simp] theorem ahx:bh Tryz.prog 119=some [(0,1),(1,1),(2,6),(8,6),(14,1),(15,1),(16,1),(17,1),(18,1)]:=by kernel_rfl
@[simp] theorem atY:T2 122 (.ptr 125) 1:=by and_intros<;>kernel_rfl
@[simp] theorem atZ:T5 123 (.slice 4) 1 ([.lit (.slice none 0 0)]) 24 (.list []):=by and_intros<;>kernel_rfl
@[simp] theorem akI:ei Tryz.prog 123=true:=by kernel_rfl
@[simp] theorem at0:T5 124 (.struct) 5 ([.lit (.slice none 0 0),.d (.int .i64 0),.d (.int .i64 0),.lit (.slice none 0 0),.lit (.slice none 0 0)]) 88 (.agg ([.list [],.int .i64 0,.int .i64 0,.list [],.list []])):=by and_intros<;>kernel_rfl
@[simp] theorem am0:FF 124 0 0 34:=by and_intros<;>kernel_rfl
@[simp] theorem am1:FF 124 1 3 123:=by and_intros<;>kernel_rfl
@[simp] theorem am2:FF 124 2 4 123:=by and_intros<;>kernel_rfl
@[simp] theorem ahy:bh Tryz.prog 124=some [(0,3),(3,1),(4,1)]:=by kernel_rfl
@[simp] theorem at1:T5 125 (.struct) 5 ([.lit (.slice none 0 0),.d (.int .i64 0),.d (.int .i64 0),.lit (.slice none 0 0),.lit (.slice none 0 0)]) 88 (.agg ([.list [],.int .i64 0,.int .i64 0,.list [],.list []])):=by and_intros<;>kernel_rfl
@[simp] theorem am3:FF 125 0 0 34:=by and_intros<;>kernel_rfl
@[simp] theorem am4:FF 125 1 3 123:=by and_intros<;>kernel_rfl
@[simp] theorem am5:FF 125 2 4 123:=by and_intros<;>kernel_rfl
@[simp] theorem ahz:bh Tryz.prog 125=some [(0,3),(3,1),(4,1)]:=by kernel_rfl
@[simp] theorem at3:T5 127 (.slice 130) 1 ([.lit (.slice none 0 0)]) 24 (.list []):=by and_intros<;>kernel_rfl
@[simp] theorem akJ:ei Tryz.prog 127=true:=by kernel_rfl
@[simp] theorem at4:T2 128 (.func) 1:=by and_intros<;>kernel_rfl
@[simp] theorem at5:T5 129 (.struct) 4 ([.d (.int .i64 0),.d (.str []),.d (.str []),.lit (.slice none 0 0)]) 64 (.agg ([.int .i64 0,.str [],.str [],.list []])):=by and_intros<;>kernel_rfl
@[simp] theorem am6:FF 129 0 0 3:=by and_intros<;>kernel_rfl
@[simp] theorem am7:FF 129 1 1 9:=by and_intros<;>kernel_rfl
@[simp] theorem am8:FF 129 2 2 9:=by and_intros<;>kernel_rfl
@[simp] theorem am9:FF 129 3 3 116:=by and_intros<;>kernel_rfl
@[simp] theorem ahA:bh Tryz.prog 129=some [(0,1),(1,1),(2,1),(3,1)]:=by kernel_rfl
@[simp] theorem at6:T5 130 (.struct) 4 ([.d (.int .i64 0),.d (.str []),.d (.str []),.lit (.slice none 0 0)]) 64 (.agg ([.int .i64 0,.str [],.str [],.list []])):=by and_intros<;>kernel_rfl
@[simp] theorem ana:FF 130 0 0 3:=by and_intros<;>kernel_rfl
@[simp] theorem anb:FF 130 1 1 9:=by and_intros<;>kernel_rfl
@[simp] theorem anc:FF 130 2 2 9:=by and_intros<;>kernel_rfl
@[simp] theorem ane:FF 130 3 3 116:=by and_intros<;>kernel_rfl
@[simp] theorem ahB:bh Tryz.prog 130=some [(0,1),(1,1),(2,1),(3,1)]:=by kernel_rfl
@[simp] theorem at7:T2 133 (.func) 1:=by and_intros<;>kernel_rfl
@[simp] theorem aua:T5 149 (.struct) 3 ([.d (.str []),.d (.int .i64 0),.d (.bool false)]) 32 (.agg ([.str [],.int .i64 0,.bool false])):=by and_intros<;>kernel_rfl
@[simp] theorem anf:FF 149 0 0 9:=by and_intros<;>kernel_rfl
@[simp] theorem ang:FF 149 1 1 3:=by and_intros<;>kernel_rfl
@[simp] theorem anh:FF 149 2 2 4:=by and_intros<;>kernel_rfl
@[simp] theorem ahC:bh Tryz.prog 149=some [(0,1),(1,1),(2,1)]/\bU Tryz.prog 149=some [.str,.int .i64,.bool]:=by and_intros<;>kernel_rfl
@[simp] theorem aub:T5 150 (.struct) 3 ([.d (.str []),.d (.int .i64 0),.d (.bool false)]) 32 (.agg ([.str [],.int .i64 0,.bool false])):=by and_intros<;>kernel_rfl
@[simp] theorem ani:FF 150 0 0 9:=by and_intros<;>kernel_rfl
@[simp] theorem anj:FF 150 1 1 3:=by and_intros<;>kernel_rfl
@[simp] theorem ank:FF 150 2 2 4:=by and_intros<;>kernel_rfl
@[simp] theorem ahD:bh Tryz.prog 150=some [(0,1),(1,1),(2,1)]/\bU Tryz.prog 150=some [.str,.int .i64,.bool]:=by and_intros<;>kernel_rfl
@[simp] theorem auc:T5 152 (.struct) 5 ([.d (.int .i64 0),.d (.str []),.d (.str []),.d (.str []),.d (.int .i64 0)]) 64 (.agg ([.int .i64 0,.str [],.str [],.str [],.int .i64 0])):=by and_intros<;>kernel_rfl
@[simp] theorem anl:FF 152 0 0 3:=by and_intros<;>kernel_rfl
@[simp] theorem anm:FF 152 1 1 9:=by and_intros<;>kernel_rfl
@[simp] theorem ann:FF 152 2 2 9:=by and_intros<;>kernel_rfl
@[simp] theorem ano:FF 152 3 3 9:=by and_intros<;>kernel_rfl
@[simp] theorem anp:FF 152 4 4 3:=by and_intros<;>kernel_rfl
@[simp] theorem ahE:bh Tryz.prog 152=some [(0,1),(1,1),(2,1),(3,1),(4,1)]/\bU Tryz.prog 152=some [.int .i64,.str,.str,.str,.int .i64]:=by and_intros<;>kernel_rfl
@[simp] theorem aud:T5 153 (.struct) 5 ([.d (.int .i64 0),.d (.str []),.d (.str []),.d (.str []),.d (.int .i64 0)]) 64 (.agg ([.int .i64 0,.str [],.str [],.str [],.int .i64 0])):=by and_intros<;>kernel_rfl
@[simp] theorem anq:FF 153 0 0 3:=by and_intros<;>kernel_rfl
@[simp] theorem anr:FF 153 1 1 9:=by and_intros<;>kernel_rfl
@[simp] theorem ans:FF 153 2 2 9:=by and_intros<;>kernel_rfl
@[simp] theorem ant:FF 153 3 3 9:=by and_intros<;>kernel_rfl
@[simp] theorem anu:FF 153 4 4 3:=by and_intros<;>kernel_rfl
@[simp] theorem ahF:bh Tryz.prog 153=some [(0,1),(1,1),(2,1),(3,1),(4,1)]/\bU Tryz.prog 153=some [.int .i64,.str,.str,.str,.int .i64]:=by and_intros<;>kernel_rfl
@[simp] theorem aue:T5 157 (.slice 55) 1 ([.lit (.slice none 0 0)]) 24 (.list []):=by and_intros<;>kernel_rfl
@[simp] theorem akK:ei Tryz.prog 157=true:=by kernel_rfl
@[simp] theorem auf:T5 160 (.struct) 6 ([.d (.int .i64 0),.d (.int .i64 0),.d (.str []),.d (.int .i64 0),.d (.int .i64 0),.d (.int .i64 0)]) 56 (.agg ([.int .i64 0,.int .i64 0,.str [],.int .i64 0,.int .i64 0,.int .i64 0])):=by and_intros<;>kernel_rfl
@[simp] theorem anv:FF 160 0 0 35:=by and_intros<;>kernel_rfl
@[simp] theorem anw:FF 160 1 1 55:=by and_intros<;>kernel_rfl
@[simp] theorem ahG:bh Tryz.prog 160=some [(0,1),(1,5)]/\bU Tryz.prog 160=some [.int .i64,.int .i64,.str,.int .i64,.int .i64,.int .i64]:=by and_intros<;>kernel_rfl
@[simp] theorem aug:T5 161 (.struct) 6 ([.d (.int .i64 0),.d (.int .i64 0),.d (.str []),.d (.int .i64 0),.d (.int .i64 0),.d (.int .i64 0)]) 56 (.agg ([.int .i64 0,.int .i64 0,.str [],.int .i64 0,.int .i64 0,.int .i64 0])):=by and_intros<;>kernel_rfl
@[simp] theorem anx:FF 161 0 0 35:=by and_intros<;>kernel_rfl
@[simp] theorem anz:FF 161 1 1 55:=by and_intros<;>kernel_rfl
@[simp] theorem ahH:bh Tryz.prog 161=some [(0,1),(1,5)]/\bU Tryz.prog 161=some [.int .i64,.int .i64,.str,.int .i64,.int .i64,.int .i64]:=by and_intros<;>kernel_rfl
@[simp] theorem auh:T2 163 (.ptr 165) 1:=by and_intros<;>kernel_rfl
@[simp] theorem aui:T5 164 (.struct) 4 ([.lit (.slice none 0 0),.d (.int .i64 0),.d (.int .i64 0),.lit (.slice none 0 0)]) 64 (.agg ([.list [],.int .i64 0,.int .i64 0,.list []])):=by and_intros<;>kernel_rfl
@[simp] theorem anA:FF 164 0 0 157:=by and_intros<;>kernel_rfl
@[simp] theorem anB:FF 164 1 1 3:=by and_intros<;>kernel_rfl
@[simp] theorem anC:FF 164 2 2 3:=by and_intros<;>kernel_rfl
@[simp] theorem anD:FF 164 3 3 22:=by and_intros<;>kernel_rfl
@[simp] theorem ahI:bh Tryz.prog 164=some [(0,1),(1,1),(2,1),(3,1)]:=by kernel_rfl
@[simp] theorem auj:T5 165 (.struct) 4 ([.lit (.slice none 0 0),.d (.int .i64 0),.d (.int .i64 0),.lit (.slice none 0 0)]) 64 (.agg ([.list [],.int .i64 0,.int .i64 0,.list []])):=by and_intros<;>kernel_rfl
@[simp] theorem anE:FF 165 0 0 157:=by and_intros<;>kernel_rfl
@[simp] theorem anF:FF 165 1 1 3:=by and_intros<;>kernel_rfl
@[simp] theorem anG:FF 165 2 2 3:=by and_intros<;>kernel_rfl
@[simp] theorem anH:FF 165 3 3 22:=by and_intros<;>kernel_rfl
@[simp] theorem ahJ:bh Tryz.prog 165=some [(0,1),(1,1),(2,1),(3,1)]:=by kernel_rfl
@[simp] theorem auk:T5 181 (.slice 112) 1 ([.lit (.slice none 0 0)]) 24 (.list []):=by and_intros<;>kernel_rfl
@[simp] theorem akL:ei Tryz.prog 181=true:=by kernel_rfl
@[simp] theorem aul:T5 202 (.slice 153) 1 ([.lit (.slice none 0 0)]) 24 (.list []):=by and_intros<;>kernel_rfl
@[simp] theorem akM:ei Tryz.prog 202=true:=by kernel_rfl
@[simp] theorem aum:T2 205 (.func) 1:=by and_intros<;>kernel_rfl
@[simp] theorem aun:T2 209 (.ptr 211) 1:=by and_intros<;>kernel_rfl
@[simp] theorem auo:T5 210 (.struct) 4 ([.d (.str []),.d (.int .i64 0),.d (.int .i64 0),.d (.int .i64 0)]) 40 (.agg ([.str [],.int .i64 0,.int .i64 0,.int .i64 0])):=by and_intros<;>kernel_rfl
@[simp] theorem anI:FF 210 0 0 9:=by and_intros<;>kernel_rfl
@[simp] theorem anJ:FF 210 1 1 3:=by and_intros<;>kernel_rfl
@[simp] theorem anK:FF 210 2 2 3:=by and_intros<;>kernel_rfl
@[simp] theorem anL:FF 210 3 3 3:=by and_intros<;>kernel_rfl
@[simp] theorem ahK:bh Tryz.prog 210=some [(0,1),(1,1),(2,1),(3,1)]/\bU Tryz.prog 210=some [.str,.int .i64,.int .i64,.int .i64]:=by and_intros<;>kernel_rfl
@[simp] theorem aup:T5 211 (.struct) 4 ([.d (.str []),.d (.int .i64 0),.d (.int .i64 0),.d (.int .i64 0)]) 40 (.agg ([.str [],.int .i64 0,.int .i64 0,.int .i64 0])):=by and_intros<;>kernel_rfl
@[simp] theorem anM:FF 211 0 0 9:=by and_intros<;>kernel_rfl
@[simp] theorem anN:FF 211 1 1 3:=by and_intros<;>kernel_rfl
@[simp] theorem anO:FF 211 2 2 3:=by and_intros<;>kernel_rfl
@[simp] theorem anP:FF 211 3 3 3:=by and_intros<;>kernel_rfl
@[simp] theorem ahL:bh Tryz.prog 211=some [(0,1),(1,1),(2,1),(3,1)]/\bU Tryz.prog 211=some [.str,.int .i64,.int .i64,.int .i64]:=by and_intros<;>kernel_rfl
@[simp] theorem auq:T2 237 (.func) 1:=by and_intros<;>kernel_rfl
@[simp] theorem aur:T5 251 (.arr 256 5) 256 (List.replicate 256 (.d (.int .u8 0))) 256 (.agg (List.replicate 256 (.int .u8 0))):=by and_intros<;>kernel_rfl
@[simp] theorem ahM:bh Tryz.prog 251=none:=by kernel_rfl
@[simp] theorem aus:T2 253 (.func) 1:=by and_intros<;>kernel_rfl
@[simp] theorem aut:T2 255 (.func) 1:=by and_intros<;>kernel_rfl
@[simp] theorem auu:T2 256 (.func) 1:=by and_intros<;>kernel_rfl
@[simp] theorem auv:T2 262 (.func) 1:=by and_intros<;>kernel_rfl
@[simp] theorem auw:T2 279 (.func) 1:=by and_intros<;>kernel_rfl
@[simp] theorem auy:T5 282 (.slice 284) 1 ([.lit (.slice none 0 0)]) 24 (.list []):=by and_intros<;>kernel_rfl
@[simp] theorem akN:ei Tryz.prog 282=true:=by kernel_rfl
@[simp] theorem auz:T5 283 (.struct) 2 ([.d (.int .i64 0),.d (.int .i64 0)]) 16 (.agg ([.int .i64 0,.int .i64 0])):=by and_intros<;>kernel_rfl
@[simp] theorem anQ:FF 283 0 0 3:=by and_intros<;>kernel_rfl
@[simp] theorem anR:FF 283 1 1 3:=by and_intros<;>kernel_rfl
@[simp] theorem ahN:bh Tryz.prog 283=some [(0,1),(1,1)]/\bU Tryz.prog 283=some [.int .i64,.int .i64]:=by and_intros<;>kernel_rfl
@[simp] theorem auA:T5 284 (.struct) 2 ([.d (.int .i64 0),.d (.int .i64 0)]) 16 (.agg ([.int .i64 0,.int .i64 0])):=by and_intros<;>kernel_rfl
@[simp] theorem anS:FF 284 0 0 3:=by and_intros<;>kernel_rfl
@[simp] theorem anT:FF 284 1 1 3:=by and_intros<;>kernel_rfl
@[simp] theorem ahO:bh Tryz.prog 284=some [(0,1),(1,1)]/\bU Tryz.prog 284=some [.int .i64,.int .i64]:=by and_intros<;>kernel_rfl
@[simp] theorem auB:T5 285 (.int .u32) 1 ([.d (.int .u32 0)]) 4 (.int .u32 0):=by and_intros<;>kernel_rfl
@[simp] theorem auC:T2 287 (.ptr 318) 1:=by and_intros<;>kernel_rfl
@[simp] theorem auD:T5 289 (.struct) 2 ([.d (.str []),.d (.int .i64 0)]) 24 (.agg ([.str [],.int .i64 0])):=by and_intros<;>kernel_rfl
@[simp] theorem anU:FF 289 0 0 9:=by and_intros<;>kernel_rfl
@[simp] theorem anV:FF 289 1 1 2:=by and_intros<;>kernel_rfl
@[simp] theorem ahP:bh Tryz.prog 289=some [(0,1),(1,1)]/\bU Tryz.prog 289=some [.str,.int .i64]:=by and_intros<;>kernel_rfl
@[simp] theorem auE:T5 290 (.slice 289) 1 ([.lit (.slice none 0 0)]) 24 (.list []):=by and_intros<;>kernel_rfl
@[simp] theorem akO:ei Tryz.prog 290=true:=by kernel_rfl
@[simp] theorem auF:T5 292 (.struct) 9 ([.d (.int .i64 0),.d (.str []),.d (.int .i64 0),.d (.int .i64 0),.d (.int .i64 0),.d (.int .i64 0),.d (.bool false),.d (.int .i64 0),.d (.int .i64 0)]) 80 (.agg ([.int .i64 0,.str [],.int .i64 0,.int .i64 0,.int .i64 0,.int .i64 0,.bool false,.int .i64 0,.int .i64 0])):=by and_intros<;>kernel_rfl
@[simp] theorem anW:FF 292 0 0 55:=by and_intros<;>kernel_rfl
@[simp] theorem anX:FF 292 1 5 3:=by and_intros<;>kernel_rfl
@[simp] theorem anY:FF 292 2 6 4:=by and_intros<;>kernel_rfl
@[simp] theorem anZ:FF 292 3 7 2:=by and_intros<;>kernel_rfl
@[simp] theorem an0:FF 292 4 8 2:=by and_intros<;>kernel_rfl
@[simp] theorem ahQ:bh Tryz.prog 292=some [(0,5),(5,1),(6,1),(7,1),(8,1)]/\bU Tryz.prog 292=some [.int .i64,.str,.int .i64,.int .i64,.int .i64,.int .i64,.bool,.int .i64,.int .i64]:=by and_intros<;>kernel_rfl
@[simp] theorem auG:T5 293 (.struct) 9 ([.d (.int .i64 0),.d (.str []),.d (.int .i64 0),.d (.int .i64 0),.d (.int .i64 0),.d (.int .i64 0),.d (.bool false),.d (.int .i64 0),.d (.int .i64 0)]) 80 (.agg ([.int .i64 0,.str [],.int .i64 0,.int .i64 0,.int .i64 0,.int .i64 0,.bool false,.int .i64 0,.int .i64 0])):=by and_intros<;>kernel_rfl
@[simp] theorem an1:FF 293 0 0 55:=by and_intros<;>kernel_rfl
@[simp] theorem an2:FF 293 1 5 3:=by and_intros<;>kernel_rfl
@[simp] theorem an3:FF 293 2 6 4:=by and_intros<;>kernel_rfl
@[simp] theorem an4:FF 293 3 7 2:=by and_intros<;>kernel_rfl
@[simp] theorem an5:FF 293 4 8 2:=by and_intros<;>kernel_rfl
@[simp] theorem ahR:bh Tryz.prog 293=some [(0,5),(5,1),(6,1),(7,1),(8,1)]/\bU Tryz.prog 293=some [.int .i64,.str,.int .i64,.int .i64,.int .i64,.int .i64,.bool,.int .i64,.int .i64]:=by and_intros<;>kernel_rfl
@[simp] theorem auH:T5 298 (.int .u64) 1 ([.d (.int .u64 0)]) 8 (.int .u64 0):=by and_intros<;>kernel_rfl
@[simp] theorem auI:T5 315 (.slice 321) 1 ([.lit (.slice none 0 0)]) 24 (.list []):=by and_intros<;>kernel_rfl
@[simp] theorem akP:ei Tryz.prog 315=true:=by kernel_rfl
@[simp] theorem auJ:T5 316 (.slice 324) 1 ([.lit (.slice none 0 0)]) 24 (.list []):=by and_intros<;>kernel_rfl
@[simp] theorem akQ:ei Tryz.prog 316=true:=by kernel_rfl
@[simp] theorem auK:T5 317 (.struct) 3 ([.lit (.slice none 0 0),.lit (.slice none 0 0),.d (.int .i64 0)]) 56 (.agg ([.list [],.list [],.int .i64 0])):=by and_intros<;>kernel_rfl
@[simp] theorem an6:FF 317 0 0 315:=by and_intros<;>kernel_rfl
@[simp] theorem an7:FF 317 1 1 316:=by and_intros<;>kernel_rfl
@[simp] theorem an8:FF 317 2 2 3:=by and_intros<;>kernel_rfl
@[simp] theorem ahS:bh Tryz.prog 317=some [(0,1),(1,1),(2,1)]:=by kernel_rfl
@[simp] theorem auL:T5 318 (.struct) 3 ([.lit (.slice none 0 0),.lit (.slice none 0 0),.d (.int .i64 0)]) 56 (.agg ([.list [],.list [],.int .i64 0])):=by and_intros<;>kernel_rfl
@[simp] theorem an9:FF 318 0 0 315:=by and_intros<;>kernel_rfl
@[simp] theorem aoa:FF 318 1 1 316:=by and_intros<;>kernel_rfl
@[simp] theorem aob:FF 318 2 2 3:=by and_intros<;>kernel_rfl
@[simp] theorem ahT:bh Tryz.prog 318=some [(0,1),(1,1),(2,1)]:=by kernel_rfl
@[simp] theorem auM:T5 319 (.int .u16) 1 ([.d (.int .u16 0)]) 2 (.int .u16 0):=by and_intros<;>kernel_rfl
@[simp] theorem auN:T5 320 (.struct) 3 ([.d (.int .u16 0),.d (.int .u16 0),.d (.int .u16 0)]) 6 (.agg ([.int .u16 0,.int .u16 0,.int .u16 0])):=by and_intros<;>kernel_rfl
@[simp] theorem aoc:FF 320 0 0 319:=by and_intros<;>kernel_rfl
@[simp] theorem aod:FF 320 1 1 319:=by and_intros<;>kernel_rfl
@[simp] theorem aoe:FF 320 2 2 319:=by and_intros<;>kernel_rfl
@[simp] theorem ahU:bh Tryz.prog 320=some [(0,1),(1,1),(2,1)]/\bU Tryz.prog 320=some [.int .u16,.int .u16,.int .u16]:=by and_intros<;>kernel_rfl
@[simp] theorem auO:T5 321 (.struct) 3 ([.d (.int .u16 0),.d (.int .u16 0),.d (.int .u16 0)]) 6 (.agg ([.int .u16 0,.int .u16 0,.int .u16 0])):=by and_intros<;>kernel_rfl
@[simp] theorem aof:FF 321 0 0 319:=by and_intros<;>kernel_rfl
@[simp] theorem aog:FF 321 1 1 319:=by and_intros<;>kernel_rfl
@[simp] theorem aoh:FF 321 2 2 319:=by and_intros<;>kernel_rfl
@[simp] theorem ahV:bh Tryz.prog 321=some [(0,1),(1,1),(2,1)]/\bU Tryz.prog 321=some [.int .u16,.int .u16,.int .u16]:=by and_intros<;>kernel_rfl
@[simp] theorem auP:T5 323 (.struct) 3 ([.d (.int .u32 0),.d (.int .u32 0),.d (.int .u32 0)]) 12 (.agg ([.int .u32 0,.int .u32 0,.int .u32 0])):=by and_intros<;>kernel_rfl
@[simp] theorem aoi:FF 323 0 0 285:=by and_intros<;>kernel_rfl
@[simp] theorem aoj:FF 323 1 1 285:=by and_intros<;>kernel_rfl
@[simp] theorem aok:FF 323 2 2 285:=by and_intros<;>kernel_rfl
@[simp] theorem ahW:bh Tryz.prog 323=some [(0,1),(1,1),(2,1)]/\bU Tryz.prog 323=some [.int .u32,.int .u32,.int .u32]:=by and_intros<;>kernel_rfl
@[simp] theorem auQ:T5 324 (.struct) 3 ([.d (.int .u32 0),.d (.int .u32 0),.d (.int .u32 0)]) 12 (.agg ([.int .u32 0,.int .u32 0,.int .u32 0])):=by and_intros<;>kernel_rfl
@[simp] theorem aol:FF 324 0 0 285:=by and_intros<;>kernel_rfl
@[simp] theorem aom:FF 324 1 1 285:=by and_intros<;>kernel_rfl
@[simp] theorem aon:FF 324 2 2 285:=by and_intros<;>kernel_rfl
@[simp] theorem ahX:bh Tryz.prog 324=some [(0,1),(1,1),(2,1)]/\bU Tryz.prog 324=some [.int .u32,.int .u32,.int .u32]:=by and_intros<;>kernel_rfl
@[simp] theorem auR:T5 327 (.int .u64) 1 ([.d (.int .u64 0)]) 8 (.int .u64 0):=by and_intros<;>kernel_rfl
@[simp] theorem auS:T2 336 (.ptr 321) 1:=by and_intros<;>kernel_rfl
@[simp] theorem auT:T2 337 (.ptr 324) 1:=by and_intros<;>kernel_rfl
@[simp] theorem auU:T5 344 (.slice 116) 1 ([.lit (.slice none 0 0)]) 24 (.list []):=by and_intros<;>kernel_rfl
@[simp] theorem akR:ei Tryz.prog 344=true:=by kernel_rfl
@[simp] theorem auV:T3 347 (.struct) 4 ([.lit (.pointer none),.lit (.pointer none),.lit (.pointer none),.d (.str [])]):=by and_intros<;>kernel_rfl
@[simp] theorem aoo:FF 347 0 0 17:=by and_intros<;>kernel_rfl
@[simp] theorem aop:FF 347 1 1 17:=by and_intros<;>kernel_rfl
@[simp] theorem aoq:FF 347 2 2 17:=by and_intros<;>kernel_rfl
@[simp] theorem aor:FF 347 3 3 9:=by and_intros<;>kernel_rfl
@[simp] theorem ahY:bh Tryz.prog 347=some [(0,1),(1,1),(2,1),(3,1)]:=by kernel_rfl
@[simp] theorem auW:T3 348 (.struct) 4 ([.lit (.pointer none),.lit (.pointer none),.lit (.pointer none),.d (.str [])]):=by and_intros<;>kernel_rfl
@[simp] theorem aos:FF 348 0 0 17:=by and_intros<;>kernel_rfl
@[simp] theorem aot:FF 348 1 1 17:=by and_intros<;>kernel_rfl
@[simp] theorem aou:FF 348 2 2 17:=by and_intros<;>kernel_rfl
@[simp] theorem aov:FF 348 3 3 9:=by and_intros<;>kernel_rfl
@[simp] theorem ahZ:bh Tryz.prog 348=some [(0,1),(1,1),(2,1),(3,1)]:=by kernel_rfl
@[simp] theorem auX:T5 349 (.arr 0 16) 0 ([]) 0 (.agg ([])):=by and_intros<;>kernel_rfl
@[simp] theorem ah0:bh Tryz.prog 349=none:=by kernel_rfl
@[simp] theorem auY:T5 350 (.struct) 0 ([]) 0 (.agg ([])):=by and_intros<;>kernel_rfl
@[simp] theorem ah1:bh Tryz.prog 350=some [(0,0)]:=by kernel_rfl
@[simp] theorem auZ:T5 351 (.struct) 0 ([]) 0 (.agg ([])):=by and_intros<;>kernel_rfl
@[simp] theorem ah2:bh Tryz.prog 351=some [(0,0)]:=by kernel_rfl
@[simp] theorem au0:T5 352 (.int .u8) 1 ([.d (.int .u8 0)]) 1 (.int .u8 0):=by and_intros<;>kernel_rfl
@[simp] theorem au1:T5 353 (.int .u8) 1 ([.d (.int .u8 0)]) 1 (.int .u8 0):=by and_intros<;>kernel_rfl
@[simp] theorem au2:T2 354 (.func) 1:=by and_intros<;>kernel_rfl
@[simp] theorem au3:T2 355 (.ptr 5) 1:=by and_intros<;>kernel_rfl
@[simp] theorem au4:T5 356 (.int .i32) 1 ([.d (.int .i32 0)]) 4 (.int .i32 0):=by and_intros<;>kernel_rfl
@[simp] theorem au5:T5 357 (.int .i32) 1 ([.d (.int .i32 0)]) 4 (.int .i32 0):=by and_intros<;>kernel_rfl
@[simp] theorem au6:T3 358 (.struct) 11 ([.d (.int .u64 0),.d (.int .u64 0),.d (.int .u32 0),.d (.int .u8 0),.d (.int .u8 0),.d (.int .u8 0),.d (.int .u8 0),.lit .nilFunc,.lit (.pointer none),.d (.int .i32 0),.d (.int .i32 0)]):=by and_intros<;>kernel_rfl
@[simp] theorem aow:FF 358 0 0 12:=by and_intros<;>kernel_rfl
@[simp] theorem aoy:FF 358 1 1 12:=by and_intros<;>kernel_rfl
@[simp] theorem aoz:FF 358 2 2 285:=by and_intros<;>kernel_rfl
@[simp] theorem aoA:FF 358 3 3 352:=by and_intros<;>kernel_rfl
@[simp] theorem aoB:FF 358 4 4 5:=by and_intros<;>kernel_rfl
@[simp] theorem aoC:FF 358 5 5 5:=by and_intros<;>kernel_rfl
@[simp] theorem aoD:FF 358 6 6 353:=by and_intros<;>kernel_rfl
@[simp] theorem aoE:FF 358 7 7 354:=by and_intros<;>kernel_rfl
@[simp] theorem aoF:FF 358 8 8 355:=by and_intros<;>kernel_rfl
@[simp] theorem aoG:FF 358 9 9 356:=by and_intros<;>kernel_rfl
@[simp] theorem akS:FF 358 10 10 357:=by and_intros<;>kernel_rfl
@[simp] theorem ah3:bh Tryz.prog 358=some [(0,1),(1,1),(2,1),(3,1),(4,1),(5,1),(6,1),(7,1),(8,1),(9,1),(10,1)]:=by kernel_rfl
@[simp] theorem au7:T3 359 (.struct) 11 ([.d (.int .u64 0),.d (.int .u64 0),.d (.int .u32 0),.d (.int .u8 0),.d (.int .u8 0),.d (.int .u8 0),.d (.int .u8 0),.lit .nilFunc,.lit (.pointer none),.d (.int .i32 0),.d (.int .i32 0)]):=by and_intros<;>kernel_rfl
@[simp] theorem aoH:FF 359 0 0 12:=by and_intros<;>kernel_rfl
@[simp] theorem aoI:FF 359 1 1 12:=by and_intros<;>kernel_rfl
@[simp] theorem aoJ:FF 359 2 2 285:=by and_intros<;>kernel_rfl
@[simp] theorem aoK:FF 359 3 3 352:=by and_intros<;>kernel_rfl
@[simp] theorem aoL:FF 359 4 4 5:=by and_intros<;>kernel_rfl
@[simp] theorem aoM:FF 359 5 5 5:=by and_intros<;>kernel_rfl
@[simp] theorem aoN:FF 359 6 6 353:=by and_intros<;>kernel_rfl
@[simp] theorem aoO:FF 359 7 7 354:=by and_intros<;>kernel_rfl
@[simp] theorem aoP:FF 359 8 8 355:=by and_intros<;>kernel_rfl
@[simp] theorem aoQ:FF 359 9 9 356:=by and_intros<;>kernel_rfl
@[simp] theorem akT:FF 359 10 10 357:=by and_intros<;>kernel_rfl
@[simp] theorem ah4:bh Tryz.prog 359=some [(0,1),(1,1),(2,1),(3,1),(4,1),(5,1),(6,1),(7,1),(8,1),(9,1),(10,1)]:=by kernel_rfl
end Go.Am
end
section
namespace Go.Am
open Go
def Ii:List D->Option D
 |[.str s,.str t]=>if s.length<4294967281 then some (.int .i64 (Go.Lib.index s t))else none
 |_=>none
def S8:List D->Option D
 |[.str s,.int .u8 c]=>some (.int .i64 (Go.Lib.indexByte s c.toNat.toUInt8))
 |_=>none
def S9:List D->Option D
 |[.str s,.str p]=>some (.bool (Go.Lib.hasPrefix s p))
 |_=>none
attribute [simp] Ii.eq_1 S8.eq_1 S9.eq_1
section
variable {X:Ctx} {U:bj} {md:Bool} {all:List Oper} {S:St}
@[simp] theorem agS{d:Option Tmp}{op:Op}{ty:TypeId}{pos:String}{M:Array Edge}:ea X U md all S ⟨d,op,ty,pos,M,none⟩=eF X U S ⟨d,op,ty,pos,M,none⟩ (cJ X.P S ⟨d,op,ty,pos,M,none⟩):=rfl
@[simp] theorem aoR{I:List Nat}{i:Nat}{A:List aU}:qG X md all I i [] S A=some (BE A []):=by rw[Eb,afn];rfl
theorem Ta{I:List Nat}{i:Nat}{o:Oper}{r:List Oper}{A:List aU}:qG X md all I i (o::r) S A=if I.contains i=true then (match ea X (λ_ _ _=>none) md all S o with
 |some (S1,p)=>qG X md all I (i+1) r S1 (p::A)
 |none=>none)else qG X md all I (i+1) r (S.put o.dst false .aX) (⟨[],[],false,.aX⟩::A):=by
 simp only[qG];cases I.contains i<;>rfl
end
attribute [simp] Ta eF.eq_1 eF.eq_2 eF.eq_3 OJ.eq_1 OI.eq_1 OI.eq_2 fg.eq_1 fg.eq_2 fe.eq_1 fe.eq_2 ji.eq_1 ji.eq_2 St.kill.eq_1 DY.eq_1 DY.eq_2 yD.eq_1 yD.eq_2
attribute [simp] ac8 aaS VZ SU
section
variable {N J α:Type} {X:Ctx} {md:Bool} {O:Nat×List (List Nat)} {S:St} {d:Option Nat} {all q:List Oper} {A:List aU} {k:Kt} {r:PR N J α} {f:α->J->Option eA} {g:N->J->Option eA}
@[simp] theorem akU:oa X md O S d all q A k (r.el f g)=r.el (λa s=>oa X md O S d all q A k (f a s)) (λe s=>oa X md O S d all q A k (g e s)):=by cases r<;>rfl
@[simp] theorem asd:sD S (r.el f g)=r.el (λa s=>sD S (f a s)) (λe s=>sD S (g e s)):=by cases r<;>rfl
@[simp] theorem ase{p:aw}{T:Nat}{rs:List ResultVar}{f:α->J->Option St}{g:N->J->Option St}:Br X p T rs (r.el f g)=r.el (λa s=>Br X p T rs (f a s)) (λe s=>Br X p T rs (g e s)):=by cases r<;>rfl
end
attribute [simp] SM Pf SN Ph Pj J1 Pk SO SP Pl
attribute [simp] C6.eq_1 Eg.eq_1 Ib.eq_1 Gn.eq_1 Gn.eq_2 Af.eq_1 Af.eq_2 Br.eq_1 Br.eq_2 sD.eq_1 Bq.eq_1 Bq.eq_2 Bq.eq_3 ru.eq_1 SR C7.eq_1 C7.eq_2
section
variable {X:Ctx} {f:FuncId} {S:St} {E:List DF} {H:zq} {b:Code}
@[simp] theorem asf:C6 X f b H .ret S E=H .ret S E:=rfl
@[simp] theorem ash{t:TypeId}{x:D}:C6 X f b H (.panic t x) S E=H (.panic t x) S E:=rfl
@[simp] theorem asi{i:Nat}:C6 X f b H (.exit i) S E=H (.exit i) S E:=rfl
@[simp] theorem akV{id:Nat}{t:TypeId}{x:D}:Eg X f id H (.panic t x) S E=H (.panic t x) S E:=rfl
@[simp] theorem aoS{md:Bool}{all r:List Oper}{t:TypeId}{x:D}:Ib X md all r E H (.panic t x) S=H (.panic t x) S E:=rfl
end
@[simp] theorem abz:kC none=[]:=rfl
@[simp] theorem abA(k v:Nat):kC (some ⟨k,v,.dead⟩)=[]:=rfl
@[simp] theorem adm(k v:Nat)(cs:List AV):kC (some ⟨k,v,.box cs⟩)=j3 cs:=rfl
@[simp] theorem adn(k v sz:Nat)(ag:List D):kC (some ⟨k,v,.vec sz ag⟩)=[]:=rfl
@[simp] theorem ado(k v:Nat)(ag:List (List D)):kC (some ⟨k,v,.vv ag none⟩)=[]:=rfl
@[simp] theorem agT(k v:Nat)(ag:List (List D))(x:AV):kC (some ⟨k,v,.vv ag (some x)⟩)=ib x:=rfl
@[simp] theorem asj(m ρ bor nv ag y):ur m ρ bor nv (.vv ag y)=.vv ag (y.map (vw m ρ bor nv)):=rfl
@[simp] theorem akW(ag y):kL (.vv ag y)=(ag.all iX&&(match y with|none=>true|some x=>di x)):=rfl
@[simp] theorem au8(ρ H ag y):Cq ρ H (.vv ag y)=.vv ag (y.map (up ρ H)):=rfl
@[simp] theorem asl(I ag y):oZ I (.vv ag y)=.vv ag (y.map I):=rfl
@[simp] theorem aoT{E:Nat}{b:Bool}{c:Prop}[Decidable c]{x y:Option (Out×List (Nat×ax))}:pe E b (if c then x else y)=if c then pe E b x else pe E b y:=by split<;>rfl
@[simp] theorem abB(P t A len ps):fR P t A len ps none=none:=by
 unfold fR;split<;>simp_all
@[simp] theorem ah5(P t A len n x o):fR P t A len [(n,.d x)] o=none:=by
 unfold fR;split<;>simp_all
@[simp] theorem adp(P t A len n x o):fR P t A len [(n,.agg x)] o=none:=by
 unfold fR;split<;>simp_all
@[simp] theorem adq(P t A len o):fR P t A len [] o=none:=by
 unfold fR;split<;>simp_all
@[simp] theorem adr(P t A len p q r o):fR P t A len (p::q::r) o=none:=by
 unfold fR;split<;>simp_all
@[simp] theorem ads(P t A len k v c):fR P t A len [(0,.lit (.slice none 0 0))] (some ⟨k,v,c⟩)=(match tk P t with
 | .slice e=>match eH P e,lA P e with
  |some sz,some _=>some (.cF (sz=1/\len=1) (.vec A (v+1) 0 1) ⟨A,v+1,.box [.lit (.slice none 0 0)]⟩)
  |_,_=>none
 |_=>none):=rfl
attribute [simp] pE.eq_1
attribute [simp] B9.eq_1 vP.eq_1
attribute [simp] Gh.go St.ss.eq_1 St.cls.eq_1 St.shut.eq_1 St.su.eq_1
end Go.Am
end
section
namespace Go.Am
open Go
open Go.Proofs
set_option maxRecDepth 10000
@[simp] def Yj:Nat->List Nat
 |0=>[1,2,3,4]
 |1=>[1,2,3,4,12]
 |2=>[8]
 |3=>[1,2,3,4,36]
 |4=>[8]
 |5=>[3,9,10]
 |6=>[3,9,10,49]
 |7=>[8]
 |8=>[3,9,10,55]
 |9=>[9,10]
 |10=>[8]
 |_=>[]
@[simp] def od7:Nat->List (List Nat)
 |5=>[[1,2,4,5,6,7,8,10,11],[0,2,4,5,6,7,8,10,11],[0,1,4,5,6,7,8,10,11],[4,5,6,7,8,10,11],[0,1,2,3,5,6,7,8,10,11],[0,1,2,3,4,6,7,8,10,11],[0,1,2,3,4,5,7,10,11],[0,1,2,3,4,5,6,10,11],[0,1,2,3,4,5,10,11],[10,11],[0,1,2,3,4,5,6,7,8,9,11],[0,1,2,3,4,5,6,7,8,9,10],[],[]]
 |_=>[]
@[simp] def fp7:aw:=⟨[],false,[300,550,600],[],false⟩
@[simp] def Tb:Nat->List Nat
 |0=>[1]
 |1=>[1,3]
 |2=>[2]
 |_=>[]
@[simp] def V3:aw:=⟨[],false,[150],[],false⟩
@[simp] def Tc:Nat->List Nat
 |0=>[1]
 |1=>[1,14]
 |2=>[2]
 |3=>[1,3]
 |4=>[1,3,19]
 |5=>[1,3]
 |6=>[1,3,4]
 |7=>[1,3,4,40]
 |8=>[2]
 |9=>[1,3,4,54]
 |10=>[2]
 |11=>[1,3,4,93]
 |12=>[2]
 |13=>[1,3,125]
 |14=>[2]
 |15=>[2]
 |_=>[]
@[simp] def adu:Nat->Bool
 |9=>true
 |11=>true
 |13=>true
 |_=>false
@[simp] def V4:aw:=⟨[],false,[150,300],[],false⟩
@[simp] def Td:Nat->List Nat
 |0=>[1,2]
 |1=>[1,2,3]
 |2=>[1,2,3,4]
 |3=>[1,2,3,4,11]
 |4=>[1,2,3,4]
 |5=>[1,2,3,4,6]
 |6=>[1,2,3,4,28]
 |7=>[2]
 |8=>[1,2,3,4]
 |9=>[1,2,3,4,45]
 |10=>[2]
 |11=>[2]
 |_=>[]
@[simp] def adv:Nat->List (List Nat)
 |5=>[[2,4,5,6,7,8,9,14],[2,4,5,6,7,8,9,14],[0,1,4,5,6,7,8,9,14],[4,5,6,7,8,9,14],[0,1,2,3,6,14],[0,1,2,3,6,14],[0,1,2,3,4,5,14],[0,1,2,3,14],[0,1,2,3,14],[0,1,2,3,14],[14],[14],[13,14],[12,14,15],[0,1,2,3,4,5,6,7,8,9,10,11,12,13],[13],[]]
 |_=>[]
@[simp] def V5:aw:=⟨[],false,[150,200,350],[],false⟩
@[simp] def Tf:Nat->List Nat
 |0=>[2,3]
 |1=>[4]
 |_=>[]
@[simp] def V6:aw:=⟨[],false,[200,250],[],false⟩
@[simp] def Tg:Nat->List Nat
 |0=>[1,2,3,6]
 |1=>[1,2,3,6,7]
 |2=>[1,2,3,6,7,8]
 |3=>[3,6,8,33]
 |4=>[6]
 |5=>[3,6,8,40,41,42]
 |6=>[3,6,8,40,41,42,43]
 |7=>[3,6,8,10,40,41,42]
 |8=>[3,6,8,40,41,42]
 |9=>[3,6,8,40,41,42]
 |10=>[3,6,8]
 |11=>[6,8]
 |12=>[6]
 |_=>[]
@[simp] def adw:Nat->List (List Nat)
 |2=>[[1,2,3,4,5,8],[0,3,4,5,8],[0,3,4,5,8],[0,1,2,5,8],[0,1,2,5,8],[0,1,2,3,4,8],[8],[8],[0,1,2,3,4,5,6,7],[]]
 |8=>[[1,2,3,4,5,6,7,8,9],[0,5,6,7,8],[0,5,6,7,8],[0,5,6,7,8],[0,5,6,7,8],[0,1,2,3,4],[0,1,2,3,4],[0,1,2,3,4],[0,1,2,3,4],[0],[],[],[]]
 |12=>[[4,5,6,7],[4,5,6,7],[4,5,6,7],[4,5,6,7],[0,1,2,3],[0,1,2,3],[0,1,2,3],[0,1,2,3],[],[]]
 |_=>[]
@[simp] def adx:Nat->List Gh
 |2=>[.jj 1100 4 1101 1]
 |_=>[]
@[simp] def Ij:aw:=⟨[],false,[250,400,450,500,600,951,1100,1101],[],false⟩
@[simp] def Th:Nat->List Nat
 |0=>[]
 |1=>[1]
 |2=>[4]
 |3=>[0]
 |_=>[]
@[simp] def ady:Nat->Bool
 |3=>true
 |_=>false
@[simp] def V7:aw:=⟨[],false,[150,250,300],[],false⟩
@[simp] def Ti:Nat->List Nat
 |0=>[1]
 |1=>[2]
 |_=>[]
@[simp] def adz:Nat->Bool
 |1=>true
 |_=>false
@[simp] def V8:aw:=⟨[],false,[150],[],false⟩
@[simp] def Tj:Nat->List Nat
 |0=>[1,2]
 |1=>[2,6,7]
 |2=>[4,5]
 |_=>[]
@[simp] def V9:aw:=⟨[],false,[200],[],false⟩
@[simp] def Tk:Nat->List Nat
 |0=>[0]
 |1=>[0,17]
 |2=>[2]
 |3=>[0,3]
 |4=>[0,3,21]
 |5=>[0,3]
 |6=>[0,3,4]
 |7=>[0,3,4,5]
 |8=>[0,3,58]
 |9=>[2]
 |10=>[2]
 |_=>[]
@[simp] def adA:Nat->Bool
 |1=>true
 |7=>true
 |8=>true
 |_=>false
@[simp] def Wa:aw:=⟨[],false,[],[],false⟩
@[simp] def Tl:Nat->List Nat
 |0=>[0]
 |1=>[0,3]
 |2=>[0,3,4]
 |3=>[0,3,4,9]
 |4=>[0,3,4]
 |5=>[0,3,4,18]
 |6=>[2]
 |7=>[2]
 |_=>[]
@[simp] def Wb:aw:=⟨[],false,[],[],false⟩
@[simp] def Tm:Nat->List Nat
 |0=>[0]
 |1=>[0,3]
 |2=>[0,3,20]
 |3=>[0,3]
 |4=>[0,3,4]
 |5=>[0,3,4,5,6,7]
 |6=>[0,3,4,6,7,59]
 |7=>[2]
 |8=>[0,3,4,7,89]
 |9=>[2]
 |10=>[0,3,4,118]
 |11=>[2]
 |12=>[0,3,4,8,9,10,11,12]
 |13=>[0,3,4,8,9,10,11,12,120]
 |14=>[0,3,4,8,9,10,11,12,120,121]
 |15=>[0,3,4,8,9,10,11,12]
 |16=>[0,3,4,8,9,10,11,12,120,131]
 |17=>[0,3,4,8,9,10,11,12]
 |18=>[0,3,4,8,9,10,11,12,120,139]
 |19=>[0,3,4,8,9,10,11,12]
 |20=>[0,3,4,8,9,10,11,12,120,141]
 |21=>[0,3,4,8,9,10,11,12,120,141]
 |22=>[0,3,4,8,9,10,11,12]
 |23=>[0,3,4,8,9,10,11,12,144]
 |24=>[0,3,4,8,9,10,11,12]
 |25=>[0,3,4,186]
 |26=>[2]
 |27=>[0,3,4,13]
 |28=>[0,3,4,13,191]
 |29=>[0,3,4,13]
 |30=>[0,3,4,13,200]
 |31=>[2]
 |32=>[0,3,4,14]
 |33=>[0,3,4,14,205]
 |34=>[0,3,4,14]
 |35=>[0,3,4,14,224]
 |36=>[2]
 |37=>[0,3,4,14,15]
 |38=>[0,3,4,14,15,232]
 |39=>[0,3,4,14,15]
 |40=>[0,3,4,14,15,243]
 |41=>[2]
 |42=>[0,3,4,16]
 |43=>[0,3,4,16,248]
 |44=>[0,3,4,16]
 |45=>[0,3,4,16,257]
 |46=>[2]
 |47=>[2]
 |_=>[]
@[simp] def adB:Nat->Bool
 |6=>true
 |8=>true
 |10=>true
 |35=>true
 |_=>false
@[simp] def adC:Nat->List (List Nat)
 |15=>[[4,5,6,7],[4,5,6,7],[4,5,6,7],[4,5,6,7],[0,1,2,3,8],[0,1,2,3,8],[0,1,2,3,8],[0,1,2,3,8],[4,5,6,7],[],[]]
 |17=>[[3,4,5],[3,4,5],[3,4,5],[0,1,2,6],[0,1,2,6],[0,1,2,6],[3,4,5],[],[]]
 |24=>[[3,4,5],[3,4,5],[3,4,5],[0,1,2,6],[0,1,2,6],[0,1,2,6],[3,4,5],[]]
 |_=>[]
@[simp] def Wc:aw:=⟨[],false,[300],[],false⟩
@[simp] def Tn:Nat->List Nat
 |0=>[0,1,4]
 |1=>[0,1,4,6]
 |2=>[0,1,4,6,10]
 |3=>[0,1,4,6]
 |4=>[0,1,4,6,19]
 |5=>[4,5]
 |6=>[4,5]
 |_=>[]
@[simp] def Wd:aw:=⟨[],false,[300],[],false⟩
@[simp] def To:Nat->List Nat
 |0=>[1]
 |1=>[1,4]
 |2=>[2]
 |3=>[1,13]
 |4=>[2]
 |5=>[2]
 |_=>[]
@[simp] def We:aw:=⟨[],false,[150],[],false⟩
@[simp] def Tp:Nat->List Nat
 |0=>[0,1,2,6]
 |1=>[0,1,2,6,7]
 |2=>[0,1,2,6,7,12]
 |3=>[0,1,2,6,7]
 |4=>[0,1,2,6,7,8]
 |5=>[0,1,2,6,7,8,24]
 |6=>[6]
 |7=>[6]
 |_=>[]
@[simp] def Wf:aw:=⟨[],false,[400,500],[],false⟩
@[simp] def Tq:Nat->List Nat
 |0=>[1,2]
 |1=>[1,2,3]
 |2=>[2,3,8,9,10]
 |3=>[2,3,8,9,10,11]
 |4=>[2,3,5,8,9,10]
 |5=>[2,3,5,8,9,10]
 |6=>[2,3,5,6,8,9,10]
 |7=>[2,3,5,6,8,9,10]
 |8=>[2,3,5,8,9,10]
 |9=>[2,3,5,8,9,10,40]
 |10=>[2,3,8,9,10]
 |11=>[2,3,8,9,10]
 |12=>[2]
 |_=>[]
@[simp] def adD:Nat->List Gh
 |1=>[.jj 250 0 251 1,.jj 250 2 252 1]
 |_=>[]
@[simp] def Wg:aw:=⟨[],false,[150,200,250,251,252,350],[],false⟩
@[simp] def Ts:Nat->List Nat
 |0=>[0,1]
 |1=>[0,1,10]
 |2=>[4]
 |3=>[0,1,5]
 |4=>[0,1,5,14]
 |5=>[0,1,5]
 |6=>[0,1,5,25]
 |7=>[4]
 |8=>[4]
 |_=>[]
@[simp] def adE:Nat->List (List Nat)
 |6=>[[1,4,5,6,7],[0,4,5,6,7],[4,5,6,7],[4,5,6,7],[0,1,2,3,5],[0,1,2,3,4],[0,1,2,3],[0,1,2,3],[]]
 |_=>[]
@[simp] def Wh:aw:=⟨[],false,[],[],false⟩
@[simp] def Tt:Nat->List Nat
 |0=>[0]
 |1=>[0,4]
 |2=>[2]
 |3=>[2]
 |_=>[]
@[simp] def Ik:aw:=⟨[],true,[200,350],[],true⟩
@[simp] def Tu:Nat->List Nat
 |0=>[0]
 |1=>[0,14]
 |2=>[2]
 |3=>[0,3]
 |4=>[0,3,4]
 |5=>[0,3,4,19]
 |6=>[0,3,4]
 |7=>[0,3,4,28]
 |8=>[3,4,5]
 |9=>[3,4,5,6]
 |10=>[3,4,5,6,36]
 |11=>[3,4,5,6]
 |12=>[3,4,5,6,7]
 |13=>[3,4,5,6,7,8]
 |14=>[3,4,5,6,7,8,52]
 |15=>[3,4,5,6,7,8]
 |16=>[3,4,5,6,7,8,55]
 |17=>[3,4,5,6,7,8]
 |18=>[3,4,5,6,8]
 |19=>[3,4,5,6]
 |20=>[2]
 |21=>[2]
 |_=>[]
@[simp] def Wi:aw:=⟨[],false,[350,500],[],false⟩
@[simp] def Tv:Nat->List Nat
 |0=>[0]
 |1=>[3,4]
 |2=>[3,12]
 |3=>[2]
 |4=>[3,5]
 |5=>[5,21,22]
 |6=>[5,21,22,23]
 |7=>[5,21,22]
 |8=>[5,21,22]
 |9=>[2]
 |_=>[]
@[simp] def adF:Nat->List (List Nat)
 |4=>[[3,4],[3,4],[3,4],[0,1,2],[0,1,2],[],[],[]]
 |_=>[]
@[simp] def Wj:aw:=⟨[],false,[250,851],[],false⟩
@[simp] def Tw:Nat->List Nat
 |0=>[0,1,2]
 |1=>[0,1,2,7]
 |2=>[0,1,2,3,4]
 |3=>[0,1,2,3,14]
 |4=>[0,1,3]
 |5=>[]
 |_=>[]
@[simp] def adG:Nat->List (List Nat)
 |5=>[[4,5,6,7,8,9],[4,5,6,7,8,9],[4,5,6,7,8,9],[4,5,6,7,8,9],[0,1,2,3,6,7,8,9],[0,1,2,3,6,7,8,9],[0,1,2,3,4,5],[0,1,2,3,4,5],[0,1,2,3,4,5],[0,1,2,3,4,5],[],[]]
 |_=>[]
@[simp] def Il:aw:=⟨[1,2,3,4,5,6],false,[250],[],false⟩
@[simp] def Ty:Nat->List Nat
 |0=>[0,1]
 |1=>[0,8,9,10]
 |2=>[0,8,9,10,11]
 |3=>[0,6,8,9,10]
 |4=>[0,7,8,9,10]
 |5=>[0,7,8,9,10,18]
 |6=>[4]
 |7=>[0,8,9,10]
 |8=>[4]
 |_=>[]
@[simp] def Wk:aw:=⟨[1,2],false,[400],[],false⟩
@[simp] def Tz:Nat->List Nat
 |0=>[0,2,3,4]
 |1=>[2,3,4,5]
 |2=>[2,3,4,5,14]
 |3=>[2,3,4]
 |4=>[2,3,4,5]
 |5=>[2,3,4,6]
 |6=>[2,3,4]
 |_=>[]
@[simp] def adH:Nat->List (List Nat)
 |3=>[[1,2],[0,2,3],[0,1,3,4],[1,2],[2],[]]
 |_=>[]
@[simp] def adI:Nat->List Gh
 |5=>[.jj 1150 3 1151 8]
 |_=>[]
@[simp] def Im:aw:=⟨[],false,[200,250,300,1150,1151],[],false⟩
@[simp] def TB:Nat->List Nat
 |0=>[0,1]
 |1=>[0,1,6,7]
 |2=>[0,1,6,7,8]
 |3=>[0,1,6,7,8,26]
 |4=>[0,1,6,7,8]
 |5=>[0,1,6,7,8]
 |6=>[0,1,6,7,8,9]
 |7=>[0,1,6,7,8,9,42,43,44]
 |8=>[0,1,6,7,8,9,42,43,44,45]
 |9=>[0,1,6,7,8,9,11,42,43,44]
 |10=>[0,1,6,7,8,9,12,13,42,43,44]
 |11=>[0,1,6,7,8,9,13,42,43,44]
 |12=>[0,1,6,7,8,9,42,43,44]
 |13=>[0,1,6,7,8,9,42,43,44]
 |14=>[0,1,6,7,8,9]
 |15=>[0,1,6,7,8,9,14]
 |16=>[0,1,6,7,8,9,14,88]
 |17=>[0,1,6,7,8,9,14]
 |18=>[0,1,6,7,8,9,14]
 |19=>[0,1,6,7,8,9,15]
 |20=>[0,1,6,7,8,9,15,111]
 |21=>[0,1,6,7,8,9,15]
 |22=>[0,1,6,7,8,9,15,16,17]
 |23=>[0,1,6,7,8,9,15,17]
 |24=>[0,1,6,7,8,9,15]
 |25=>[4,5]
 |_=>[]
@[simp] def Wl:aw:=⟨[],false,[550],[],false⟩
@[simp] def TC:Nat->List Nat
 |0=>[0]
 |1=>[0,5,6,7]
 |2=>[0,5,6,7,8]
 |3=>[0,4,5,6,7]
 |4=>[0,5,6,7,13]
 |5=>[2]
 |6=>[0,5,6,7]
 |7=>[2]
 |_=>[]
@[simp] def Wm:aw:=⟨[],false,[],[],false⟩
@[simp] def TD:Nat->List Nat
 |0=>[]
 |1=>[0]
 |_=>[]
@[simp] def adJ:aw:=⟨[],false,[],[],false⟩
@[simp] def TE:Nat->List Nat
 |0=>[0]
 |1=>[2,3,4]
 |_=>[]
@[simp] def Wn:aw:=⟨[],false,[],[],false⟩
@[simp] def TF:Nat->List Nat
 |0=>[0]
 |1=>[0,3]
 |2=>[0,3,11]
 |3=>[0,3]
 |4=>[0,3,4]
 |5=>[0,3,4,5,6,7]
 |6=>[0,3,4,5,6,7,18]
 |7=>[0,3,4,5,6,7,18]
 |8=>[0,3,4,5,6,7,18]
 |9=>[0,3,4,5,6,7,18]
 |10=>[0,3,4,5,6,7,18]
 |11=>[2]
 |12=>[0,3,4,5,6,7,54]
 |13=>[0,3,4,5,6,7]
 |14=>[0,3,4,5,6,7,58]
 |15=>[0,3,4,5,6,7]
 |16=>[0,3,4,5,6,7,62]
 |17=>[0,3,4,5,6,7]
 |18=>[0,3,4,5,6,7,66]
 |19=>[0,3,4,5,6,7]
 |20=>[0,3,4,5,6,7,75]
 |21=>[0,3,4,5,6,7]
 |22=>[0,3,125]
 |23=>[2]
 |24=>[2]
 |_=>[]
@[simp] def adK:Nat->Bool
 |7=>true
 |22=>true
 |_=>false
@[simp] def Wo:aw:=⟨[],false,[300],[],false⟩
@[simp] def TG:Nat->List Nat
 |0=>[1]
 |1=>[2]
 |_=>[]
@[simp] def Wp:aw:=⟨[],false,[150],[],false⟩
@[simp] def TH:Nat->List Nat
 |0=>[0,2,4,6]
 |1=>[0,2,4,6,25]
 |2=>[0,2,4,6,25,26]
 |3=>[0,4,6,7,8]
 |4=>[0,4,6,7,37]
 |5=>[6]
 |6=>[0,4,6,44]
 |7=>[6]
 |8=>[0,4,6,9,10]
 |9=>[0,4,6,9,10,58]
 |10=>[6]
 |11=>[4,6,9,10,11]
 |12=>[4,6,9,10,11,69]
 |13=>[6]
 |14=>[4,6,73]
 |15=>[6]
 |16=>[0,2,4,6,25,77]
 |17=>[0,2,4,6,12]
 |18=>[0,2,4,6,12,83]
 |19=>[0,2,4,6,12]
 |20=>[0,2,4,6,12,90]
 |21=>[0,2,4,6,12,13]
 |22=>[0,2,4,6,12,13,100]
 |23=>[6]
 |24=>[0,2,4,6,12,14]
 |25=>[0,2,4,6,12,14,112]
 |26=>[6]
 |27=>[0,2,4,6,25,114]
 |28=>[0,2,4,6,15]
 |29=>[0,2,4,6,15,122]
 |30=>[6]
 |31=>[0,2,4,6,16]
 |32=>[0,2,4,6,16,128]
 |33=>[0,2,4,6,16]
 |34=>[0,2,4,6,16,17]
 |35=>[0,2,4,6,16,17,141]
 |36=>[6]
 |37=>[0,2,4,6,25,143]
 |38=>[0,4,6,18,19]
 |39=>[0,4,6,18,153]
 |40=>[6]
 |41=>[0,4,6,18,159]
 |42=>[6]
 |43=>[0,4,6,169]
 |44=>[6]
 |45=>[0,4,6,20]
 |46=>[0,4,6,20,177]
 |47=>[0,4,6,20]
 |48=>[0,4,6,20,21]
 |49=>[0,4,6,20,21,189]
 |50=>[6]
 |51=>[6]
 |52=>[0,2,4,6,25,197]
 |53=>[0,4,6,22]
 |54=>[0,4,6,22,205]
 |55=>[6]
 |56=>[6]
 |57=>[0,2,4,6,25,213]
 |58=>[0,4,6,23]
 |59=>[0,4,6,23,223]
 |60=>[6]
 |61=>[6]
 |62=>[0,2,4,6,25,229]
 |63=>[4,6,232]
 |64=>[6]
 |65=>[0,4,6,236]
 |66=>[6]
 |67=>[6]
 |_=>[]
@[simp] def Wq:aw:=⟨[],false,[300,400,450,600,750,800,850,950,1000,1150,1200,1250],[],false⟩
@[simp] def TI:Nat->List Nat
 |0=>[1]
 |1=>[1,3]
 |2=>[2]
 |3=>[1,12]
 |4=>[2]
 |5=>[2]
 |_=>[]
@[simp] def Wr:aw:=⟨[],false,[150],[],false⟩
@[simp] def TJ:Nat->List Nat
 |0=>[0,1]
 |1=>[0,5]
 |2=>[0,5,13]
 |3=>[4]
 |4=>[0,5,15]
 |5=>[0,5,15,16]
 |6=>[0,5,15,16]
 |7=>[0,5,15,16]
 |8=>[5]
 |9=>[0,5,15,23]
 |10=>[0,5,15,23]
 |11=>[5]
 |12=>[5,15,29]
 |13=>[5]
 |14=>[5]
 |15=>[5,15,51]
 |16=>[5]
 |17=>[5]
 |18=>[5,15,73]
 |19=>[5]
 |20=>[5,94]
 |21=>[5]
 |22=>[4]
 |_=>[]
@[simp] def adL:Nat->Bool
 |13=>true
 |16=>true
 |19=>true
 |21=>true
 |_=>false
@[simp] def Ws:aw:=⟨[],true,[300,451],[],false⟩
@[simp] def TL:Nat->List Nat
 |0=>[1,2]
 |1=>[1,2,4]
 |2=>[2,4,5]
 |3=>[2,4,5,11]
 |4=>[2,3]
 |5=>[2,3]
 |_=>[]
@[simp] def Wt:aw:=⟨[],false,[150,200],[],false⟩
@[simp] def TM:Nat->List Nat
 |0=>[0,1]
 |1=>[0,1,5]
 |2=>[1,5,12,13,14]
 |3=>[1,5,12,13,14,15]
 |4=>[1,5,7,12,13,14]
 |5=>[1,5,7,8,12,13,14]
 |6=>[1,5,8,9,10,12,13,14]
 |7=>[1,5,8,9,12,13,14,26]
 |8=>[1,5,8,12,13,14]
 |9=>[1,5,12,13,14]
 |10=>[1,5,12,13,14]
 |11=>[4]
 |_=>[]
@[simp] def adM:aw:=⟨[],true,[300,350,500],[],false⟩
@[simp] def TN:Nat->List Nat
 |0=>[0,3]
 |1=>[0,3]
 |2=>[0,3,8]
 |3=>[0,3,8,9]
 |4=>[]
 |5=>[0,3,8,14]
 |6=>[4]
 |7=>[0,3,8,19]
 |8=>[4]
 |9=>[0,3,8,24]
 |10=>[4]
 |11=>[0,3,8,30]
 |12=>[0,3,8,30]
 |13=>[4]
 |14=>[0,3,8,37]
 |15=>[4]
 |16=>[0,3,8,39]
 |17=>[4]
 |18=>[0,3,41]
 |19=>[]
 |20=>[4]
 |_=>[]
@[simp] def Wu:aw:=⟨[1,2],false,[250],[],false⟩
@[simp] def TO:Nat->List Nat
 |0=>[0,4]
 |1=>[0,4,13]
 |2=>[2,3,4]
 |3=>[4,5]
 |4=>[4,5,6]
 |5=>[4,5,6,7]
 |6=>[4,5,6,7,8]
 |7=>[4,5,6,8,29]
 |8=>[2,3,4]
 |9=>[4,5,6,8,33]
 |10=>[2,3,4]
 |11=>[4,5,6,8,9,10]
 |12=>[4,5,6,8,9,10,50]
 |13=>[2,3,4]
 |14=>[4,5,6,9]
 |15=>[4,5,6]
 |_=>[]
@[simp] def adN:Nat->List (List Nat)
 |6=>[[4,5,6,7,9],[4,5,6,7,9],[4,5,6,7,9],[4,5,6,7,9],[0,1,2,3,9],[0,1,2,3,9],[0,1,2,3,9],[0,1,2,3,9],[9],[0,1,2,3,4,5,6,7,8],[]]
 |8=>[[1,2],[0],[0],[]]
 |11=>[[2,7],[2,7],[0,1,7],[7],[7],[6,7],[5,7,8],[0,1,2,3,4,5,6],[6],[]]
 |13=>[[1,2],[0,2,3],[0,1],[1],[]]
 |_=>[]
@[simp] def Pq:aw:=⟨[],false,[200,300,400,500,550,950],[],false⟩
@[simp] def TP:Nat->List Nat
 |0=>[0,1,2,3]
 |1=>[0,1,2,3,8]
 |2=>[0,1,2,3,4,5]
 |3=>[0,1,2,3,4,15]
 |4=>[0,1,2,4]
 |5=>[]
 |_=>[]
@[simp] def adO:Nat->List (List Nat)
 |5=>[[1,2,3,4],[0,3,4,5],[0,3,4,5],[0,1,2,5,6],[0,1,2,5,6],[1,2,3,4],[3,4],[]]
 |_=>[]
@[simp] def Io:aw:=⟨[],false,[300],[],false⟩
@[simp] def TQ:Nat->List Nat
 |0=>[0,2]
 |1=>[0,2]
 |2=>[0,2,3]
 |3=>[0,2,3]
 |4=>[0,2,3]
 |5=>[0,2,3]
 |6=>[0,2,3]
 |7=>[2,3]
 |8=>[2]
 |_=>[]
@[simp] def adP:aw:=⟨[],false,[200,250],[],false⟩
@[simp] def KN:Nat->List Nat
 |0=>[0,1]
 |1=>[0,1,6,7]
 |2=>[0,1,6,7,8]
 |3=>[0,1,6,7,8,19]
 |4=>[0,1,6,7,8]
 |5=>[0,1,6,7,8,9,10]
 |6=>[0,1,6,7,8,10]
 |7=>[0,1,6,7,8]
 |8=>[4,5]
 |_=>[]
@[simp] def Pr:aw:=⟨[],false,[],[],false⟩
@[simp] def KO:Nat->List Nat
 |0=>[0,3,5]
 |1=>[0,3,5,6]
 |2=>[0,3,5,6,21]
 |3=>[0,3,5,6,21,22]
 |4=>[0,3,5,6,21,22]
 |5=>[4,5]
 |6=>[0,3,5,6,21,28]
 |7=>[0,3,5,6,21,28]
 |8=>[0,3,5,6,28]
 |9=>[0,3,5,6,7,8]
 |10=>[0,3,5,6,7,40]
 |11=>[4,5]
 |12=>[0,3,5,6,7,46]
 |13=>[3,5,6,7,49]
 |14=>[4,5]
 |15=>[3,5,9,10]
 |16=>[3,5,9,60]
 |17=>[4,5]
 |18=>[4,5]
 |19=>[0,3,5,6,7,77]
 |20=>[4,5]
 |21=>[0,3,5,7,81]
 |22=>[5,7,11]
 |23=>[5,7,11,90]
 |24=>[4,5]
 |25=>[4,5]
 |26=>[0,3,5,6,12,13]
 |27=>[0,3,5,6,12,13,106]
 |28=>[4,5]
 |29=>[0,3,5,6,12,13,14]
 |30=>[0,3,5,6,12,13,14,112]
 |31=>[3,5,6,12,13,14]
 |32=>[3,5,6,12,13,14,124]
 |33=>[4,5]
 |34=>[3,5,6,12,14,15]
 |35=>[3,5,6,12,14,15,16]
 |36=>[5,6,12,14,15,16,127]
 |37=>[5,6,12,14,15,16,127,128]
 |38=>[5,6,12,14,15,16,127,128]
 |39=>[5,6,12,14,15,16,127,128]
 |40=>[5,6,12,14,15,16,127,128]
 |41=>[5,6,12,14,15,16,127,128]
 |42=>[5,6,12,14,15,16,127,128]
 |43=>[5,6,12,14,15,16]
 |44=>[5,6,12,14,15,16,127,135]
 |45=>[5,6,12,14,15,16,127,135]
 |46=>[5,6,12,14,15,16]
 |47=>[5,6,12,14,15,16,127,139]
 |48=>[5,6,12,14,15,16,127,139]
 |49=>[5,6,12,14,15,16,127,139]
 |50=>[5,6,12,14,15,16,139]
 |51=>[5,6,12,14,15,16]
 |52=>[5,6,16,151]
 |53=>[4,5]
 |54=>[4,5]
 |_=>[]
@[simp] def Yk:Nat->List (List Nat)
 |11=>[[3],[3],[3],[0,1,2],[]]
 |14=>[[1],[0],[]]
 |17=>[[3],[3],[3],[0,1,2],[]]
 |20=>[[1],[0],[]]
 |24=>[[1],[0],[]]
 |28=>[[1],[0],[]]
 |33=>[[1],[0],[]]
 |53=>[[1],[0],[]]
 |_=>[]
@[simp] def Ps:aw:=⟨[],false,[250,350,400,450,550,650,750],[],false⟩
@[simp] def KP:Nat->List Nat
 |0=>[0,2,4,6]
 |1=>[2,4,6,7,8]
 |2=>[4,6,8,22]
 |3=>[6]
 |4=>[6]
 |_=>[]
@[simp] def Pt:aw:=⟨[],false,[300,400,500],[],false⟩
@[simp] def KQ:Nat->List Nat
 |0=>[0,3,4]
 |1=>[0,3,4,5,6]
 |2=>[0,3,4,5,20]
 |3=>[4]
 |4=>[0,3,4,5,26]
 |5=>[4]
 |6=>[0,3,4,5,7]
 |7=>[0,3,4,5,7,34]
 |8=>[0,3,4,5,7]
 |9=>[0,3,4,5,7,8,9]
 |10=>[0,3,4,5,7,8,54]
 |11=>[4]
 |12=>[0,3,4,5,7,8,10]
 |13=>[0,3,4,5,7,8,10,60]
 |14=>[0,3,4,5,7,8,10]
 |15=>[0,3,4,5,7,8,10,73]
 |16=>[4]
 |17=>[0,3,4,5,7,11]
 |18=>[0,3,4,5,7,11,88]
 |19=>[4]
 |20=>[4]
 |_=>[]
@[simp] def Yl:Nat->List (List Nat)
 |9=>[[2,3,4,5,6,11],[2,3,4,5,6,11],[0,1,4,11],[0,1,4,11],[0,1,2,3,11],[0,1,11],[0,1,11],[11],[11],[10,11],[9,11,12],[0,1,2,3,4,5,6,7,8,9,10],[10],[]]
 |15=>[[2,5,6,7,8,9],[2,5,6,7,8,9],[0,1,5,6,7,8,9],[5,6,7,8,9],[5,6,7,8,9],[0,1,2,3,4,7],[0,1,2,3,4,7],[0,1,2,3,4,5,6],[0,1,2,3,4],[0,1,2,3,4],[]]
 |17=>[[1,2,3,4,5,6,7,9],[0,3,6,7,9],[0,3,6,7,9],[0,1,2,6,7,9],[0,6,7,9],[0,6,7,9],[0,1,2,3,4,5,9],[0,1,2,3,4,5,9],[9],[0,1,2,3,4,5,6,7,8],[]]
 |_=>[]
@[simp] def Pu:aw:=⟨[],false,[250,300,350,500,650],[],false⟩
@[simp] def KR:Nat->List Nat
 |0=>[0,1,2]
 |1=>[0,1,2,11,12,13]
 |2=>[0,1,2,11,12,13,14]
 |3=>[0,1,2,10,11,12,13]
 |4=>[0,1,2,11,12,13,25]
 |5=>[6,7,8]
 |6=>[0,1,2,11,12,13]
 |7=>[0,1,2,27]
 |8=>[6,7,8]
 |9=>[0,1,2,40]
 |10=>[6,7,8]
 |11=>[0,1,44]
 |12=>[6,7,8]
 |13=>[0,1,57]
 |14=>[6,7,8]
 |15=>[0,1,75]
 |16=>[6,7,8]
 |17=>[6,7,8]
 |_=>[]
@[simp] def Ym:Nat->List (List Nat)
 |12=>[[1,2,3,4,5,6],[0,4,5,6],[0,4,5,6],[0,4,5,6],[0,1,2,3],[0,1,2,3],[0,1,2,3],[],[9,10],[8,10],[8,9],[],[],[]]
 |14=>[[1,2,3,4,5,6],[0,4,5,6],[0,4,5,6],[0,4,5,6],[0,1,2,3],[0,1,2,3],[0,1,2,3],[],[9,10],[8,10],[8,9],[],[],[]]
 |16=>[[1,2,3,4,5,6],[0,4,5,6],[0,4,5,6],[0,4,5,6],[0,1,2,3],[0,1,2,3],[0,1,2,3],[],[9,10],[8,10],[8,9],[],[],[]]
 |_=>[]
@[simp] def Pv:aw:=⟨[],false,[],[],false⟩
@[simp] def KT:Nat->List Nat
 |0=>[0,3]
 |1=>[0,3,4]
 |2=>[3,4,6]
 |3=>[3,4,6,7]
 |4=>[3,4,12]
 |5=>[]
 |6=>[3]
 |7=>[]
 |8=>[3,4,6,29]
 |9=>[3,4,34]
 |10=>[]
 |11=>[3,4,42]
 |12=>[3]
 |13=>[]
 |14=>[3,4,55]
 |15=>[3,4,72]
 |16=>[3,4]
 |17=>[3,4,80]
 |18=>[3,4]
 |19=>[3,4]
 |20=>[3]
 |21=>[]
 |_=>[]
@[simp] def Yn:Nat->Bool
 |15=>true
 |_=>false
@[simp] def Yo:Nat->List (List Nat)
 |5=>[[1],[0,2,3],[1],[1],[],[]]
 |7=>[[1,2,3,4,5,6,7,8],[0,4,5,6],[0,4,5,6],[0,4,5,6],[0,1,2,3],[0,1,2,3],[0,1,2,3],[0],[0],[],[]]
 |10=>[[1],[0,2,3],[1],[1],[],[]]
 |13=>[[1,2,3,4,5,6,7,8],[0,4,5,6],[0,4,5,6],[0,4,5,6],[0,1,2,3],[0,1,2,3],[0,1,2,3],[0],[0],[],[]]
 |16=>[[1],[0,2,3],[1],[1],[],[]]
 |18=>[[1,2,3,4,5,6,7,8],[0,4,5,6],[0,4,5,6],[0,4,5,6],[0,1,2,3],[0,1,2,3],[0,1,2,3],[0],[0],[],[]]
 |19=>[[1,2,3],[0],[0],[0],[],[]]
 |21=>[[1,2,3,4,5],[0],[0],[0],[0],[0],[],[]]
 |_=>[]
@[simp] def Pw:aw:=⟨[0],false,[250],[1],false⟩
@[simp] def KU:Nat->List Nat
 |0=>[0,1,4]
 |1=>[1,4,16]
 |2=>[1,4,20]
 |3=>[1]
 |4=>[1,29]
 |5=>[1]
 |6=>[1]
 |7=>[1,4,48]
 |8=>[1]
 |9=>[1,60]
 |10=>[1]
 |11=>[1]
 |12=>[]
 |_=>[]
@[simp] def Yp:Nat->Bool
 |0=>true
 |4=>true
 |9=>true
 |_=>false
@[simp] def Yq:Nat->List (List Nat)
 |6=>[[1,2,3,4,5,6,7,8],[0,4,5,6],[0,4,5,6],[0,4,5,6],[0,1,2,3],[0,1,2,3],[0,1,2,3],[0],[0],[],[]]
 |_=>[]
@[simp] def Px:aw:=⟨[0],false,[],[1],false⟩
@[simp] def KW:Nat->List Nat
 |0=>[0]
 |1=>[3]
 |2=>[2]
 |3=>[2]
 |_=>[]
@[simp] def Py:aw:=⟨[],false,[],[],false⟩
@[simp] def KX:Nat->List Nat
 |0=>[]
 |1=>[0]
 |_=>[]
@[simp] def Yr:aw:=⟨[],false,[],[],false⟩
@[simp] def KY:Nat->List Nat
 |0=>[0,1]
 |1=>[0,1,7,8]
 |2=>[0,1,7,8,9]
 |3=>[0,1,5,7,8]
 |4=>[0,1,5,7,8,16]
 |5=>[4]
 |6=>[0,1,7,8]
 |7=>[4]
 |_=>[]
@[simp] def Pz:aw:=⟨[],false,[],[],false⟩
@[simp] def KZ:Nat->List Nat
 |0=>[1,2]
 |1=>[3]
 |_=>[]
@[simp] def PA:aw:=⟨[],false,[200],[],false⟩
@[simp] def K0:Nat->List Nat
 |0=>[0]
 |1=>[0,3]
 |2=>[0,3,4]
 |3=>[0,3,4,5]
 |4=>[0,3,4,5,6]
 |5=>[0,3,4,5,6,16]
 |6=>[0,3,4,5,6]
 |7=>[0,3,4,5,6,7]
 |8=>[0,3,4,5,6,7]
 |9=>[0,3,4,5,6,8]
 |10=>[0,3,5,6,8]
 |11=>[0,3,4,5,6]
 |12=>[0,3,37]
 |13=>[2]
 |14=>[0,9]
 |15=>[0,9,10]
 |16=>[0,9,10]
 |17=>[0,9,10,12]
 |18=>[0,9,10,12,53]
 |19=>[0,9,10,12]
 |20=>[0,9,10,11,12]
 |21=>[0,9,10,11,12,60]
 |22=>[0,9,10,11,12,66]
 |23=>[0,9,10,11,12]
 |24=>[0,9,10,12]
 |25=>[0,9,10,12]
 |26=>[0,9,10,12]
 |27=>[0,9,10,12,91]
 |28=>[0,9,10,12]
 |29=>[0,9,10,11,12]
 |30=>[0,9,10,11,98]
 |31=>[9]
 |32=>[2]
 |_=>[]
@[simp] def Ys:Nat->Bool
 |18=>true
 |27=>true
 |_=>false
@[simp] def Yt:aw:=⟨[],false,[2150],[],false⟩
@[simp] def K1:Nat->List Nat
 |0=>[0,1]
 |1=>[4,5]
 |_=>[]
@[simp] def Yu:aw:=⟨[],false,[],[],false⟩
@[simp] def K2:Nat->List Nat
 |0=>[0,6]
 |1=>[0]
 |2=>[]
 |_=>[]
@[simp] def PB:aw:=⟨[1,2],false,[],[],false⟩
@[simp] def K3:Nat->List Nat
 |0=>[0,3]
 |1=>[0,3,4,5]
 |2=>[0,3,4,5,19]
 |3=>[]
 |4=>[0,3,4,5,6]
 |5=>[0,4,5,6,7]
 |6=>[]
 |_=>[]
@[simp] def Yv:Nat->List (List Nat)
 |3=>[[4,5,6,7,8],[4,5,6,7,8],[4,5,6,7,8],[4,5,6,7,8],[0,1,2,3,5,6,7,8],[0,1,2,3,4,6,7],[0,1,2,3,4,5],[0,1,2,3,4,5],[0,1,2,3,4],[],[]]
 |6=>[[4,5,6,7,8],[4,5,6,7,8],[4,5,6,7,8],[4,5,6,7,8],[0,1,2,3,5,6,8],[0,1,2,3,4,6,8],[0,1,2,3,4,5,8],[0,1,2,3,8],[0,1,2,3,4,5,6,7],[],[]]
 |_=>[]
@[simp] def PC:aw:=⟨[1,2],false,[250,350],[],false⟩
@[simp] def K4:Nat->List Nat
 |0=>[0,3]
 |1=>[0,3,8,9,10]
 |2=>[0,3,8,9,10,11]
 |3=>[0,3,5,6,8,9,10]
 |4=>[0,3,5,8,9,10,18]
 |5=>[4]
 |6=>[0,3,8,9,10]
 |7=>[4]
 |_=>[]
@[simp] def PD:aw:=⟨[1,2],false,[250,400],[],false⟩
@[simp] def K5:Nat->List Nat
 |0=>[0,3]
 |1=>[0,3,5]
 |2=>[0,3,5,14,15,16]
 |3=>[0,3,5,14,15,16,17]
 |4=>[0,3,5,6,7,14,15,16]
 |5=>[0,3,5,6,7,8,14,15,16]
 |6=>[0,3,5,6,7,8,14,15,16,25]
 |7=>[0,3,5,6,7,8,14,15,16]
 |8=>[0,3,5,6,7,8,14,15,16,42]
 |9=>[4]
 |10=>[0,3,5,14,15,16]
 |11=>[4]
 |_=>[]
@[simp] def Yw:Nat->Bool
 |8=>true
 |_=>false
@[simp] def PE:aw:=⟨[1,2],false,[250],[],false⟩
@[simp] def K6:Nat->List Nat
 |0=>[0]
 |1=>[0,4]
 |2=>[2]
 |3=>[2]
 |_=>[]
@[simp] def PF:aw:=⟨[],false,[],[],false⟩
@[simp] def K7:Nat->List Nat
 |0=>[0,3]
 |1=>[0,3,5]
 |2=>[0,3,5,7]
 |3=>[0,3,5,7,8]
 |4=>[0,3,5,7,8,9]
 |5=>[0,3,5,8,9]
 |6=>[0,3,5,8,9]
 |7=>[0,3,5,8,9,75]
 |8=>[4]
 |9=>[0,3,5,8,9,10]
 |10=>[0,3,5,8,9,10,83]
 |11=>[4]
 |12=>[0,3,5,8,9,11,13]
 |13=>[0,3,5,8,9,11,13,100]
 |14=>[0,3,5,8,9,11]
 |15=>[0,3,5,8,9]
 |_=>[]
@[simp] def Yx:Nat->Bool
 |7=>true
 |_=>false
@[simp] def PG:aw:=⟨[1,2],false,[250,400],[],false⟩
@[simp] def K8:Nat->List Nat
 |0=>[0,3]
 |1=>[0,3,8]
 |2=>[0,3]
 |3=>[0,3,15]
 |4=>[4]
 |5=>[0,3,5]
 |6=>[0,3,5,23]
 |7=>[4]
 |8=>[0,3,27]
 |9=>[0,3]
 |10=>[0,3,34]
 |11=>[4]
 |_=>[]
@[simp] def PH:aw:=⟨[1,2],false,[250],[],false⟩
@[simp] def K9:Nat->List Nat
 |0=>[0,3]
 |1=>[0,3,4,5]
 |2=>[0,3,4,5,19,20,21]
 |3=>[0,3,4,5,19,20,21,22]
 |4=>[0,3,4,5,6,7,19,20,21]
 |5=>[0,3,4,5,6,8,19,20,21]
 |6=>[0,3,4,5,19,20,21]
 |7=>[0,3,4,5,19,20,21]
 |8=>[0,4,5,10]
 |9=>[]
 |_=>[]
@[simp] def Yy:Nat->List (List Nat)
 |6=>[[4,5,6,7,8,9,10,11],[4,5,6,7,8,9,10,11],[4,5,6,7,8,9,10,11],[4,5,6,7,8,9,10,11],[0,1,2,3,5,6,7,8,9,10,11],[0,1,2,3,4,6,7,8,9,10],[0,1,2,3,4,5,8],[0,1,2,3,4,5,8],[0,1,2,3,4,5,6,7],[0,1,2,3,4,5],[0,1,2,3,4,5],[0,1,2,3,4],[],[]]
 |9=>[[4,6,7,8,9,10,11,12,13,14,15,16,17],[4,6,7,8,9,10,11,12,13,14,15,16,17],[4,6,7,8,9,10,11,12,13,14,15,16,17],[4,6,7,8,9,10,11,12,13,14,15,16,17],[0,1,2,3,6,7,8,9,10,11,12,13,14,15,16,17],[6,7,8,9,10,11,12,13,14,15,16,17],[0,1,2,3,4,5,8,9,10,11,12,13,14,15,16],[0,1,2,3,4,5,8,9,10,11,12,13,14,15,16],[0,1,2,3,4,5,6,7,12,13,14,15],[0,1,2,3,4,5,6,7,12,13,14,15],[0,1,2,3,4,5,6,7,12,13,14,15],[0,1,2,3,4,5,6,7,12,13,14,15],[0,1,2,3,4,5,6,7,8,9,10,11,13,14,15],[0,1,2,3,4,5,6,7,8,9,10,11,12,14],[0,1,2,3,4,5,6,7,8,9,10,11,12,13],[0,1,2,3,4,5,6,7,8,9,10,11,12],[0,1,2,3,4,5,6,7],[0,1,2,3,4,5],[]]
 |_=>[]
@[simp] def PI:aw:=⟨[1,2],false,[250,350,550,3551],[],false⟩
@[simp] def La:Nat->List Nat
 |0=>[0]
 |1=>[0,3]
 |2=>[2]
 |3=>[0,3,8]
 |4=>[2]
 |5=>[0,3,11]
 |6=>[0]
 |7=>[0,3,27]
 |8=>[0,3,4]
 |9=>[0,3,4,33]
 |10=>[0,4]
 |11=>[0]
 |12=>[0,3,39]
 |13=>[0,5]
 |14=>[0,5,46]
 |15=>[2]
 |16=>[0]
 |_=>[]
@[simp] def Yz:Nat->Bool
 |5=>true
 |_=>false
@[simp] def PJ:aw:=⟨[],false,[],[],false⟩
@[simp] def Lc:Nat->List Nat
 |0=>[0]
 |1=>[2]
 |_=>[]
@[simp] def YA:Nat->List (List Nat)
 |1=>[[4,5,6,7],[4,5,6,7],[4,5,6,7],[4,5,6,7],[0,1,2,3],[0,1,2,3],[0,1,2,3],[0,1,2,3],[],[]]
 |_=>[]
@[simp] def PK:aw:=⟨[],false,[],[],false⟩
@[simp] def Ld:Nat->List Nat
 |0=>[0,3,4]
 |1=>[0,3,4]
 |2=>[0,3,4,6]
 |3=>[0,3,4,6,13]
 |4=>[4,5]
 |5=>[0,3,4,6]
 |6=>[0,3,4,16]
 |7=>[0,3,4,6]
 |8=>[0,3,4,6]
 |9=>[0,3,4,6,26]
 |10=>[0,3,4,6]
 |11=>[0,3,4,6,29]
 |12=>[4,5]
 |13=>[0,3,4,31]
 |14=>[0,3,4,7,8,9]
 |15=>[0,3,4,7,8,9,42]
 |16=>[4,5]
 |17=>[0,3,4,6,8]
 |18=>[0,3,4,6]
 |19=>[3,4]
 |20=>[4,5]
 |_=>[]
@[simp] def PN:aw:=⟨[],false,[250,300],[],false⟩
@[simp] def Lf:Nat->List Nat
 |0=>[0,4,5]
 |1=>[0,4,5,6]
 |2=>[0,4,5]
 |3=>[0,4,5,23]
 |4=>[0,4,5]
 |5=>[0,4,5]
 |6=>[0,4,5]
 |7=>[0,4,5]
 |_=>[]
@[simp] def YB:Nat->List (List Nat)
 |3=>[[4,5,6,7],[4,5,6,7],[4,5,6,7],[4,5,6,7],[0,1,2,3],[0,1,2,3],[0,1,2,3],[0,1,2,3],[],[]]
 |_=>[]
@[simp] def PO:aw:=⟨[],false,[],[],false⟩
@[simp] def Lg:Nat->List Nat
 |0=>[0,7]
 |1=>[]
 |_=>[]
@[simp] def YC:aw:=⟨[1],false,[],[],false⟩
@[simp] def Lh:Nat->List Nat
 |0=>[0,1,4]
 |1=>[0,4,9]
 |2=>[0,4]
 |3=>[4]
 |_=>[]
@[simp] def YD:aw:=⟨[1],false,[300],[],false⟩
@[simp] def Li:Nat->List Nat
 |0=>[0,2]
 |1=>[0,2,3]
 |2=>[0,6]
 |3=>[0,2]
 |4=>[0,9]
 |5=>[0,2]
 |6=>[0,2,14]
 |7=>[0,2]
 |_=>[]
@[simp] def YE:aw:=⟨[],false,[],[],false⟩
@[simp] def Lj:Nat->List Nat
 |0=>[0,1]
 |1=>[0,1,5]
 |2=>[0,1,5,10]
 |3=>[0,1,5]
 |4=>[4]
 |_=>[]
@[simp] def YF:aw:=⟨[1],false,[350],[],false⟩
@[simp] def Lk:Nat->List Nat
 |0=>[0]
 |1=>[3]
 |2=>[2]
 |3=>[2]
 |_=>[]
@[simp] def PQ:aw:=⟨[],false,[],[],false⟩
@[simp] def Ll:Nat->List Nat
 |0=>[0,1,4]
 |1=>[1,4,6]
 |2=>[1,4,6,7]
 |3=>[1,4,6,7,13]
 |4=>[1,4,6,7]
 |5=>[1,4,6,7,26]
 |6=>[4,5]
 |7=>[4,5]
 |_=>[]
@[simp] def YG:Nat->Bool
 |5=>true
 |_=>false
@[simp] def PT:aw:=⟨[],false,[300],[],false⟩
@[simp] def Lm:Nat->List Nat
 |0=>[0,3,4]
 |1=>[3,4,5,6]
 |2=>[3,4,6,19]
 |3=>[4]
 |4=>[4]
 |_=>[]
@[simp] def PU:aw:=⟨[],false,[250,300,400],[],false⟩
@[simp] def Ln:Nat->List Nat
 |0=>[0,1,2]
 |1=>[0,1,2,11]
 |2=>[9,10]
 |3=>[9,24]
 |4=>[6,7,8]
 |5=>[6,7,8]
 |6=>[1,26]
 |7=>[6,7,8]
 |8=>[6,7,8]
 |_=>[]
@[simp] def PV:aw:=⟨[],false,[],[],false⟩
@[simp] def Lo:Nat->List Nat
 |0=>[0,1,2]
 |1=>[1,2,9]
 |2=>[1,2,9,10]
 |3=>[6,7,8]
 |4=>[1,2,9,16]
 |5=>[1,2,9,16]
 |6=>[6,7,8]
 |7=>[1,2,9,23]
 |8=>[6,7,8]
 |9=>[1,2,28]
 |10=>[6,7,8]
 |11=>[6,7,8]
 |_=>[]
@[simp] def PW:aw:=⟨[],false,[],[],false⟩
@[simp] def Lp:Nat->List Nat
 |0=>[0,1,2]
 |1=>[0,1,2,9]
 |2=>[0,1,2,9,10]
 |3=>[0,1,2,9,10,11]
 |4=>[1,2,9,10,11,12]
 |5=>[1,2,9,10,11,12,13]
 |6=>[9,10,11]
 |7=>[1,2,9,10,11,12,21]
 |8=>[9,10,11]
 |9=>[1,2,9,10,11,12,29]
 |10=>[9,10,11]
 |11=>[1,2,9,10,11,12,37]
 |12=>[9,10,11]
 |13=>[1,2,9,10,11,45]
 |14=>[9,10,11]
 |15=>[9,10,11,53]
 |16=>[6,7,8]
 |17=>[9,56]
 |18=>[6,7,8]
 |19=>[6,7,8]
 |_=>[]
@[simp] def PX:aw:=⟨[],false,[],[],false⟩
@[simp] def Lq:Nat->List Nat
 |0=>[0,1,2]
 |1=>[0,1,2,9]
 |2=>[1,2,9,10]
 |3=>[1,2,9,10,11]
 |4=>[9]
 |5=>[1,2,9,10,16]
 |6=>[9]
 |7=>[1,2,9,10,21]
 |8=>[9]
 |9=>[1,2,9,10,26]
 |10=>[9]
 |11=>[1,2,9,10,31]
 |12=>[9]
 |13=>[1,2,9,36]
 |14=>[9]
 |15=>[6,7,8]
 |_=>[]
@[simp] def PY:aw:=⟨[],false,[],[],false⟩
@[simp] def Lr:Nat->List Nat
 |0=>[0,7]
 |1=>[]
 |_=>[]
@[simp] def YH:Nat->List (List Nat)
 |0=>[[3,4,5],[3,4,5],[3,4,5],[0,1,2],[0,1,2],[0,1,2],[]]
 |_=>[]
@[simp] def PZ:aw:=⟨[1],false,[],[],false⟩
@[simp] def Ls:Nat->List Nat
 |0=>[0,1]
 |1=>[0,1,5]
 |2=>[0,1,5,6]
 |3=>[0,1,5,6,14]
 |4=>[0,1,5,6,14,15,16]
 |5=>[0,1,5,6,7,8,14]
 |6=>[0,1,5,6,7,14,21]
 |7=>[0,1,5,6,7,14,23]
 |8=>[0,1,5,6,14]
 |9=>[0,1,5,6,14]
 |10=>[0,1,5,6,7,14,33]
 |11=>[0,1,5,6,14]
 |12=>[0,5,6,36]
 |13=>[0,5]
 |14=>[0,5,9]
 |15=>[0,9,47,48,49]
 |16=>[0,9,47,48,49,50]
 |17=>[0,9,10,11,47,48,49]
 |18=>[0,9,47,48,49]
 |19=>[0,9,47,48,49]
 |20=>[4]
 |_=>[]
@[simp] def YI:aw:=⟨[],false,[650,700,2400],[],false⟩
@[simp] def Lt:Nat->List Nat
 |0=>[0]
 |1=>[0,5]
 |2=>[6]
 |3=>[6,7]
 |4=>[6,7]
 |5=>[6,7]
 |6=>[6,7]
 |7=>[6,7]
 |8=>[6,7]
 |9=>[6,7]
 |10=>[7]
 |11=>[2]
 |12=>[2]
 |13=>[2]
 |_=>[]
@[simp] def YJ:aw:=⟨[],false,[],[],false⟩
@[simp] def Lu:Nat->List Nat
 |0=>[0,1]
 |1=>[0,1,9]
 |2=>[4,5]
 |3=>[4,5]
 |_=>[]
@[simp] def YK:aw:=⟨[],false,[],[],false⟩
@[simp] def Lv:Nat->List Nat
 |0=>[0,1,5]
 |1=>[0,5,6]
 |2=>[4,5]
 |_=>[]
@[simp] def YL:Nat->List (List Nat)
 |2=>[[4,7,8,9,10,11,12,13,14],[4,7,8,9,10,11,12,13,14],[4,7,8,9,10,11,12,13,14],[4,7,8,9,10,11,12,13,14],[0,1,2,3,7,8,9,10,11,12,13,14],[7,8,9,10,11,12,13,14],[7,8,9,10,11,12,13,14],[0,1,2,3,4,5,6,12,15],[0,1,2,3,4,5,6,12,15],[0,1,2,3,4,5,6,12,15],[0,1,2,3,4,5,6,12,15],[0,1,2,3,4,5,6,12,15],[0,1,2,3,4,5,6,7,8,9,10,11,15],[0,1,2,3,4,5,6,15],[0,1,2,3,4,5,6,15],[7,8,9,10,11,12,13,14],[]]
 |_=>[]
@[simp] def P0:aw:=⟨[1,2],false,[350],[],false⟩
@[simp] def Lw:Nat->List Nat
 |0=>[0,3]
 |1=>[5]
 |2=>[4]
 |_=>[]
@[simp] def P1:aw:=⟨[1,2],false,[250],[2000],false⟩
@[simp] def LA:Nat->List Nat
 |0=>[0,2,4]
 |1=>[0,2,4,16]
 |2=>[0,2,4]
 |3=>[6]
 |_=>[]
@[simp] def P2:aw:=⟨[],false,[300],[],false⟩
@[simp] def LC:Nat->List Nat
 |0=>[0,2,4]
 |1=>[0,2,4,11]
 |2=>[6]
 |3=>[6]
 |_=>[]
@[simp] def P3:aw:=⟨[1,2],false,[300],[],false⟩
@[simp] def LD:Nat->List Nat
 |0=>[0,1,5,7]
 |1=>[0,5,7,8]
 |2=>[0,7,8,9]
 |3=>[6,7]
 |_=>[]
@[simp] def YM:Nat->List (List Nat)
 |3=>[[4,7,9,10,11,12,13,14,15,16,17,18],[4,7,9,10,11,12,13,14,15,16,17,18],[4,7,9,10,11,12,13,14,15,16,17,18],[4,7,9,10,11,12,13,14,15,16,17,18],[0,1,2,3,7,9,10,11,12,13,14,15,16,17,18],[7,9,10,11,12,13,14,15,16,17,18],[7,9,10,11,12,13,14,15,16,17,18],[0,1,2,3,4,5,6,9,10,11,12,13,14,15,16,17,18],[9,10,11,12,13,14,15,16,17,18],[0,1,2,3,4,5,6,7,8,13,16,19],[0,1,2,3,4,5,6,7,8,13,16,19],[0,1,2,3,4,5,6,7,8,13,16,19],[0,1,2,3,4,5,6,7,8,13,16,19],[0,1,2,3,4,5,6,7,8,9,10,11,12,16,19],[0,1,2,3,4,5,6,7,8,16,19],[0,1,2,3,4,5,6,7,8,16,19],[0,1,2,3,4,5,6,7,8,9,10,11,12,13,14,15,19],[0,1,2,3,4,5,6,7,8,19],[0,1,2,3,4,5,6,7,8,19],[9,10,11,12,13,14,15,16,17,18],[]]
 |_=>[]
@[simp] def P4:aw:=⟨[1,2],false,[350,450],[],false⟩
@[simp] def LF:Nat->List Nat
 |0=>[0,1]
 |1=>[4]
 |_=>[]
@[simp] def YN:aw:=⟨[],false,[],[],false⟩
@[simp] def LG:Nat->List Nat
 |0=>[0,1]
 |1=>[4]
 |_=>[]
@[simp] def P5:aw:=⟨[],false,[],[],false⟩
@[simp] def LH:Nat->List Nat
 |0=>[0,1]
 |1=>[4]
 |_=>[]
@[simp] def YO:aw:=⟨[],false,[],[],false⟩
@[simp] def LJ:Nat->List Nat
 |0=>[0]
 |1=>[2]
 |_=>[]
@[simp] def YP:Nat->Bool
 |1=>true
 |_=>false
@[simp] def P6:aw:=⟨[],false,[],[],false⟩
@[simp] def LL:Nat->List Nat
 |0=>[0,1]
 |1=>[0,1,5]
 |2=>[0,1,5,16]
 |3=>[0,1,5]
 |4=>[4]
 |_=>[]
@[simp] def YQ:Nat->Bool
 |2=>true
 |_=>false
@[simp] def P7:aw:=⟨[],false,[],[],false⟩
@[simp] def LM:Nat->List Nat
 |0=>[0]
 |1=>[2]
 |_=>[]
@[simp] def YR:Nat->Bool
 |1=>true
 |_=>false
@[simp] def P8:aw:=⟨[],false,[],[],false⟩
@[simp] def LO:Nat->List Nat
 |0=>[0]
 |1=>[2]
 |_=>[]
@[simp] def P9:aw:=⟨[],false,[],[],false⟩
@[simp] def LP:Nat->List Nat
 |0=>[0]
 |1=>[2]
 |_=>[]
@[simp] def Qa:aw:=⟨[],false,[],[],false⟩
@[simp] def LQ:Nat->List Nat
 |0=>[0]
 |1=>[0,5,6]
 |2=>[0,5,6,16,17,18]
 |3=>[0,5,6,16,17,18,19]
 |4=>[0,5,6,8,16,17,18]
 |5=>[0,5,6,8,16,17,18,25]
 |6=>[0,5,6,16,17,18]
 |7=>[0,5,6,16,17,18]
 |8=>[0,5,6,9]
 |9=>[0,5,6,9,59]
 |10=>[2,3,4]
 |11=>[0,5,6,9,10]
 |12=>[0,5,9,10,11]
 |13=>[0,5,9,10,11,63]
 |14=>[0,5,9,10,11]
 |15=>[0,5,9,10,11,12]
 |16=>[0,5,9,10,11,12,75]
 |17=>[2,3,4]
 |18=>[0,5,9,10,11]
 |19=>[2,3,4]
 |_=>[]
@[simp] def YS:Nat->Bool
 |9=>true
 |_=>false
@[simp] def YT:Nat->List (List Nat)
 |6=>[[2,3,4],[2,3,4],[0,1,5],[0,1,5],[0,1,5],[2,3,4],[]]
 |_=>[]
@[simp] def Qb:aw:=⟨[],false,[350,500],[],false⟩
@[simp] def LR:Nat->List Nat
 |0=>[0]
 |1=>[0,5,6,7]
 |2=>[0,5,6,7,8]
 |3=>[0,4,5,6,7]
 |4=>[0,5,6,7,13]
 |5=>[2]
 |6=>[0,5,6,7]
 |7=>[18]
 |8=>[2]
 |9=>[2]
 |_=>[]
@[simp] def Qc:aw:=⟨[],false,[],[],false⟩
@[simp] def LS:Nat->List Nat
 |0=>[0,1]
 |1=>[0,8]
 |2=>[4]
 |3=>[]
 |4=>[4]
 |_=>[]
@[simp] def YU:aw:=⟨[1],false,[],[],false⟩
@[simp] def LU:Nat->List Nat
 |0=>[0,3]
 |1=>[]
 |_=>[]
@[simp] def YV:aw:=⟨[],false,[250],[],false⟩
@[simp] def LV:Nat->List Nat
 |0=>[0,2]
 |1=>[2]
 |_=>[]
@[simp] def YW:Nat->List (List Nat)
 |1=>[[4,5,6,7],[4,5,6,7],[4,5,6,7],[4,5,6,7],[0,1,2,3],[0,1,2,3],[0,1,2,3],[0,1,2,3],[],[],[]]
 |_=>[]
@[simp] def YX:aw:=⟨[1],false,[200],[],false⟩
@[simp] def LW:Nat->List Nat
 |0=>[0,2]
 |1=>[0,2,3]
 |2=>[0,2,3,8]
 |3=>[2,3]
 |4=>[2]
 |_=>[]
@[simp] def YY:aw:=⟨[1],false,[200,250],[],false⟩
@[simp] def LX:Nat->List Nat
 |0=>[0,1,4]
 |1=>[0,1,4,5]
 |2=>[0,1,4,5]
 |3=>[0,1,4,5,26]
 |4=>[0,1,4]
 |5=>[0,1,4,31]
 |6=>[0,1,4]
 |7=>[0,1,4,6]
 |8=>[0,1,4,6,7]
 |9=>[0,1,4,6,7,37]
 |10=>[0,1,4,6,8,9]
 |11=>[0,1,4,6,8,56]
 |12=>[0,1,4,6,8]
 |13=>[0,1,4,6,7]
 |14=>[0,1,4,6,7]
 |15=>[0,1,6,7,63,64,65]
 |16=>[0,1,6,7,63,64,65,66]
 |17=>[0,1,6,7,11,63,64,65]
 |18=>[0,1,6,7,63,64,65]
 |19=>[0,1,6,7,63,64,65]
 |_=>[]
@[simp] def YZ:Nat->List (List Nat)
 |18=>[[1,2,3,4,5,6,7,8,9,10,11,12,13,14,15,16,17,18,19,20,21],[0,5,6,7,8,9,10,11,12,13,14,15,16,17,18,19,20],[0,5,6,7,8,9,10,11,12,13,14,15,16,17,18,19,20],[0,5,6,7,8,9,10,11,12,13,14,15,16,17,18,19,20],[0,5,6,7,8,9,10,11,12,13,14,15,16,17,18,19,20],[0,1,2,3,4,7,8,9,10,11,12,13,14,15,16,17,18],[0,1,2,3,4,7,8,9,10,11,12,13,14,15,16,17,18],[0,1,2,3,4,5,6,9,10,11,12,13,14,15,16,17,18],[0,1,2,3,4,5,6,9,10,11,12,13,14,15,16,17,18],[0,1,2,3,4,5,6,7,8,10,11,12,13,14,15,16,17,18],[0,1,2,3,4,5,6,7,8,9,12,13,14,15,16,17,18],[0,1,2,3,4,5,6,7,8,9,12,13,14,15,16,17,18],[0,1,2,3,4,5,6,7,8,9,10,11,14,15,16,17,18],[0,1,2,3,4,5,6,7,8,9,10,11,14,15,16,17,18],[0,1,2,3,4,5,6,7,8,9,10,11,12,13,16,17,18],[0,1,2,3,4,5,6,7,8,9,10,11,12,13,16,17,18],[0,1,2,3,4,5,6,7,8,9,10,11,12,13,14,15,17,18],[0,1,2,3,4,5,6,7,8,9,10,11,12,13,14,15,16],[0,1,2,3,4,5,6,7,8,9,10,11,12,13,14,15,16],[0,1,2,3,4],[0,1,2,3,4],[0],[],[],[]]
 |_=>[]
@[simp] def Y0:aw:=⟨[],false,[300,350,400,650],[],false⟩
@[simp] def LY:Nat->List Nat
 |0=>[0,1]
 |1=>[4]
 |_=>[]
@[simp] def Y1:aw:=⟨[1],false,[],[],false⟩
@[simp] def LZ:Nat->List Nat
 |0=>[0,1]
 |1=>[1,5]
 |2=>[4]
 |_=>[]
@[simp] def Y2:aw:=⟨[1],false,[350],[],false⟩
@[simp] def L3:Nat->List Nat
 |0=>[0,2]
 |1=>[0,2,3]
 |2=>[0,2,3]
 |3=>[0,2,3,4]
 |4=>[0,2,3,4]
 |5=>[2,3,4]
 |6=>[2,4]
 |7=>[2]
 |_=>[]
@[simp] def Y3:aw:=⟨[1],false,[200,250,300],[],false⟩
@[simp] def L4:Nat->List Nat
 |0=>[0,1]
 |1=>[0,1,7,8]
 |2=>[0,1,7,8,9]
 |3=>[0,1,5,7,8]
 |4=>[0,1,5,7,8,16]
 |5=>[4]
 |6=>[0,1,7,8]
 |7=>[4]
 |_=>[]
@[simp] def Qd:aw:=⟨[],false,[],[],false⟩
@[simp] def L5:Nat->List Nat
 |0=>[0,1]
 |1=>[0,1,7,8]
 |2=>[0,1,7,8,9]
 |3=>[0,1,5,7,8]
 |4=>[0,1,5,7,8,16]
 |5=>[4]
 |6=>[0,1,7,8]
 |7=>[4]
 |_=>[]
@[simp] def Qe:aw:=⟨[],false,[],[],false⟩
@[simp] def L6:Nat->List Nat
 |0=>[0,1]
 |1=>[0,1,6]
 |2=>[6,21]
 |3=>[4,5]
 |4=>[4,5]
 |_=>[]
@[simp] def Qf:aw:=⟨[],false,[],[],false⟩
@[simp] def L7:Nat->List Nat
 |0=>[0,1]
 |1=>[0,1,6]
 |2=>[6,21]
 |3=>[4,5]
 |4=>[4,5]
 |_=>[]
@[simp] def Qg:aw:=⟨[],false,[],[],false⟩
@[simp] def L8:Nat->List Nat
 |0=>[0,1]
 |1=>[0,1,6,7]
 |2=>[0,1,7,17]
 |3=>[4,5]
 |4=>[4,5]
 |_=>[]
@[simp] def Qi:aw:=⟨[],false,[],[],false⟩
@[simp] def L9:Nat->List Nat
 |0=>[0,1]
 |1=>[0,1,6]
 |2=>[4,5]
 |3=>[0,1,9]
 |4=>[4,5]
 |5=>[4,5]
 |_=>[]
@[simp] def Qj:aw:=⟨[],false,[],[],false⟩
@[simp] def Ma:Nat->List Nat
 |0=>[0,1]
 |1=>[0,1,6]
 |2=>[0,1,6,7]
 |3=>[4,5]
 |4=>[0,1,9]
 |5=>[4,5]
 |6=>[4,5]
 |_=>[]
@[simp] def Qk:aw:=⟨[],false,[],[],false⟩
@[simp] def Mb:Nat->List Nat
 |0=>[0,1]
 |1=>[0,1,5]
 |2=>[0,1,5,6]
 |3=>[0,1,5,6,32]
 |4=>[4]
 |5=>[1,7]
 |6=>[1,7,54]
 |7=>[4]
 |8=>[4]
 |_=>[]
@[simp] def Y4:Nat->Bool
 |3=>true
 |6=>true
 |_=>false
@[simp] def Y5:aw:=⟨[],false,[],[],false⟩
@[simp] def Md:Nat->List Nat
 |0=>[0,1]
 |1=>[4]
 |_=>[]
@[simp] def Y6:Nat->Bool
 |1=>true
 |_=>false
@[simp] def Za:aw:=⟨[],false,[],[],false⟩
@[simp] def Me:Nat->List Nat
 |0=>[0,3]
 |1=>[4]
 |_=>[]
@[simp] def Ql:aw:=⟨[1,2],false,[250],[],false⟩
@[simp] def Mf:Nat->List Nat
 |0=>[0,3]
 |1=>[0,3,24]
 |2=>[0,3,24,25]
 |3=>[4,5]
 |4=>[0,3,24,29]
 |5=>[4,5]
 |6=>[0,3,24,33]
 |7=>[0,6,7]
 |8=>[4,5]
 |9=>[0,3,24,50]
 |10=>[0,3,8,9]
 |11=>[0,8,9,10]
 |12=>[4,5]
 |13=>[0,3,79]
 |14=>[0,12,13]
 |15=>[4,5]
 |16=>[0,3,14]
 |17=>[0,3,14,15]
 |18=>[0,3,14,15,99,100,101]
 |19=>[0,3,14,15,99,100,101,102]
 |20=>[0,3,14,17,99,100,101]
 |21=>[0,3,14,18,19,99,100,101]
 |22=>[0,3,14,19,99,100,101]
 |23=>[0,3,14,15,99,100,101]
 |24=>[0,3,14,15,99,100,101]
 |25=>[20,21,22]
 |26=>[20,21,22,127]
 |27=>[20,21]
 |28=>[4,5]
 |_=>[]
@[simp] def Zb:Nat->List (List Nat)
 |8=>[[1,2,3,5,6,7],[0,2,3,5,6,7],[0,1,5,6,7],[0,1,5,6,7],[5,6,7],[0,1,2,3,4,8],[0,1,2,3,4,8],[0,1,2,3,4,8],[5,6,7],[]]
 |12=>[[1,2,3,4,5,6,8,9,10],[0,2,3,5,6,8,9,10],[0,1,3,5,6,8,9,10],[0,1,2,5,6,8,9,10],[0,5,6,8,9,10],[0,1,2,3,4,8,9,10],[0,1,2,3,4,8,9,10],[8,9,10],[0,1,2,3,4,5,6,7,11],[0,1,2,3,4,5,6,7,11],[0,1,2,3,4,5,6,7,11],[8,9,10],[]]
 |15=>[[1,2,3,5,6,7],[0,2,3,5,6,7],[0,1,5,6,7],[0,1,5,6,7],[5,6,7],[0,1,2,3,4,8],[0,1,2,3,4,8],[0,1,2,3,4,8],[5,6,7],[]]
 |_=>[]
@[simp] def Qm:aw:=⟨[1,2],false,[250,450,550,750,800,950],[],false⟩
@[simp] def Mg:Nat->List Nat
 |0=>[1,2]
 |1=>[3]
 |_=>[]
@[simp] def Qn:aw:=⟨[],false,[200],[],false⟩
@[simp] def Mh:Nat->List Nat
 |0=>[0,1]
 |1=>[4]
 |_=>[]
@[simp] def Zc:Nat->Bool
 |1=>true
 |_=>false
@[simp] def Zd:aw:=⟨[],false,[],[],false⟩
@[simp] def Mi:Nat->List Nat
 |0=>[0,1]
 |1=>[4]
 |_=>[]
@[simp] def Ze:aw:=⟨[],false,[],[],false⟩
@[simp] def Mj:Nat->List Nat
 |0=>[0,1]
 |1=>[0,1,5]
 |2=>[0,1,5,16]
 |3=>[4]
 |4=>[0,1,5,24]
 |5=>[4]
 |6=>[0,1,5,31]
 |7=>[4]
 |8=>[0,1,5,36]
 |9=>[4]
 |10=>[0,1,5,6]
 |11=>[0,1,5,6,7]
 |12=>[0,1,5,6,7,8]
 |13=>[0,1,5,6,7,8,9]
 |14=>[0,1,5,6,7,8,9,10]
 |15=>[0,1,5,6,7,8,9,10,59]
 |16=>[0,1,5,6,7,8,9,10,64]
 |17=>[0,1,5,6,7,8,9,10,11]
 |18=>[0,1,5,6,7,8,9,10,11,73]
 |19=>[4]
 |20=>[0,1,5,6,7,8,9,10]
 |21=>[0,1,5,6,7,8,9,10,93]
 |22=>[4]
 |23=>[0,1,5,6,7,8,9,10]
 |24=>[0,1,5,6,7,8,9,10]
 |25=>[0,1,5,6,7,8,9,10,107]
 |26=>[8,12]
 |27=>[8,12,114]
 |28=>[4]
 |29=>[4]
 |30=>[0,1,5,6,7,8,9,10,132]
 |31=>[8,13]
 |32=>[8,13,139]
 |33=>[4]
 |34=>[4]
 |35=>[4]
 |_=>[]
@[simp] def Zf:Nat->Bool
 |21=>true
 |25=>true
 |_=>false
@[simp] def Zg:aw:=⟨[],false,[],[],false⟩
@[simp] def Ml:Nat->List Nat
 |0=>[0,1]
 |1=>[4]
 |_=>[]
@[simp] def Qo:aw:=⟨[],false,[],[],false⟩
@[simp] def Mm:Nat->List Nat
 |0=>[0,1]
 |1=>[3]
 |_=>[]
@[simp] def Zh:Nat->List (List Nat)
 |1=>[[2],[2],[0,1],[],[]]
 |_=>[]
@[simp] def Qp:aw:=⟨[],false,[],[],false⟩
@[simp] def Mn:Nat->List Nat
 |0=>[0]
 |1=>[0,3]
 |2=>[2]
 |3=>[0,9]
 |4=>[2]
 |5=>[2]
 |_=>[]
@[simp] def Qq:aw:=⟨[],false,[],[],false⟩
@[simp] def Mp:Nat->List Nat
 |0=>[0,2]
 |1=>[0,2,3]
 |2=>[0,2,3,4,5]
 |3=>[0,2,3,4,15]
 |4=>[2,3]
 |5=>[2]
 |6=>[0,2,3,20]
 |7=>[2]
 |8=>[2,3,6]
 |9=>[2,3,6]
 |10=>[2,3,6,32]
 |11=>[2,3]
 |12=>[2]
 |_=>[]
@[simp] def Zi:aw:=⟨[1],false,[200,250,400],[],false⟩
@[simp] def Mq:Nat->List Nat
 |0=>[0]
 |1=>[0,4]
 |2=>[2,3]
 |3=>[0,7]
 |4=>[2,3]
 |5=>[2,3]
 |_=>[]
@[simp] def Zj:aw:=⟨[1],false,[],[],false⟩
@[simp] def Mr:Nat->List Nat
 |0=>[0,1]
 |1=>[0,1,7,8]
 |2=>[0,1,7,8,9]
 |3=>[0,1,5,7,8]
 |4=>[0,1,5,7,8,16]
 |5=>[4]
 |6=>[0,1,7,8]
 |7=>[4]
 |_=>[]
@[simp] def Zk:aw:=⟨[1],false,[],[],false⟩
@[simp] def Mt:Nat->List Nat
 |0=>[0]
 |1=>[0,13]
 |2=>[]
 |_=>[]
@[simp] def Zl:aw:=⟨[1],false,[],[],false⟩
@[simp] def Mu:Nat->List Nat
 |0=>[0,2]
 |1=>[0,2,7]
 |2=>[2]
 |3=>[0,2,12]
 |4=>[2]
 |5=>[0,2,17]
 |6=>[2]
 |7=>[0,2,22]
 |8=>[0,2,3]
 |9=>[0,2,3]
 |10=>[0,2,3]
 |11=>[2,3]
 |12=>[2]
 |13=>[0,2,38]
 |14=>[0,2,4]
 |15=>[0,2,4]
 |16=>[0,2,4]
 |17=>[2,4]
 |18=>[2]
 |19=>[0,2,54]
 |20=>[2]
 |21=>[0,2,58]
 |22=>[2]
 |23=>[0,2,5]
 |24=>[0,2,5,65]
 |25=>[2]
 |26=>[0,2,5,6]
 |27=>[0,2,5,6,76]
 |28=>[0,2,6]
 |29=>[0,2,6]
 |30=>[2]
 |_=>[]
@[simp] def Zm:Nat->List (List Nat)
 |28=>[[2,3,4,5,6],[2,3,4,5,6],[0,1,5,6],[0,1,5,6],[0,1,5,6],[0,1,2,3,4],[0,1,2,3,4],[],[]]
 |30=>[[1,2],[0],[0],[],[]]
 |_=>[]
@[simp] def Zn:aw:=⟨[1],false,[200,250,300,350,400],[],false⟩
@[simp] def Mv:Nat->List Nat
 |0=>[]
 |_=>[]
@[simp] def Zo:aw:=⟨[1],false,[],[],false⟩
@[simp] def Mw:Nat->List Nat
 |0=>[0,1]
 |1=>[0,1,6]
 |2=>[0,1,6,7]
 |3=>[0,1,6,7,8]
 |4=>[0,1,6,7,8,9]
 |5=>[0,1,6,7,8,9,10]
 |6=>[0,1,6,7,9,11]
 |7=>[0,1,6,7,9,11,12]
 |8=>[0,1,6,7,9,12,13]
 |9=>[0,1,7,9,12,13]
 |10=>[0,1,4]
 |11=>[4,5]
 |_=>[]
@[simp] def Qr:aw:=⟨[],false,[],[],false⟩
@[simp] def Mx:Nat->List Nat
 |0=>[0]
 |1=>[0,4]
 |2=>[2]
 |3=>[2]
 |_=>[]
@[simp] def Qs:aw:=⟨[],false,[],[],false⟩
@[simp] def My:Nat->List Nat
 |0=>[0,1]
 |1=>[0,1,6]
 |2=>[4,5]
 |3=>[0,15]
 |4=>[4,5]
 |5=>[4,5]
 |_=>[]
@[simp] def Qt:aw:=⟨[],false,[],[],false⟩
@[simp] def Mz:Nat->List Nat
 |0=>[0,1]
 |1=>[0,1,17]
 |2=>[0,1,19,20]
 |3=>[0,1,19,20,21]
 |4=>[0,1,5,19,20]
 |5=>[0,1,6,19,20]
 |6=>[0,1,6,19,20,31]
 |7=>[4]
 |8=>[0,1,6,19,20,37]
 |9=>[4]
 |10=>[0,1,19,20]
 |11=>[4]
 |12=>[0,1,7]
 |13=>[0,1,7,8]
 |14=>[0,1,7,8,62]
 |15=>[0,1,7,8,9]
 |16=>[0,1,7,8,9,10]
 |17=>[0,1,7,8,9,10,85]
 |18=>[4]
 |19=>[0,1,7,8,9,110]
 |20=>[0,1,7,8]
 |21=>[0,1,7,8]
 |22=>[4]
 |_=>[]
@[simp] def Zp:Nat->List (List Nat)
 |9=>[[],[],[],[],[],[],[7,8,9,10,12,13,14,15],[6,12,13,14,15],[6,12,13,14,15],[6,12,13,14,15],[6,12,13,14,15],[12,13,14,15],[6,7,8,9,10,11],[6,7,8,9,10,11],[6,7,8,9,10,11],[6,7,8,9,10,11],[],[],[],[]]
 |18=>[[],[],[],[],[],[],[7,8,9,10,12,13,14,15],[6,12,13,14,15],[6,12,13,14,15],[6,12,13,14,15],[6,12,13,14,15],[12,13,14,15],[6,7,8,9,10,11],[6,7,8,9,10,11],[6,7,8,9,10,11],[6,7,8,9,10,11],[],[],[],[]]
 |_=>[]
@[simp] def Zq:aw:=⟨[],false,[],[],false⟩
@[simp] def MA:Nat->List Nat
 |0=>[0,1]
 |1=>[0,1,13]
 |2=>[0,1,15,16]
 |3=>[0,1,15,16,17]
 |4=>[0,1,5,15,16]
 |5=>[0,1,6,15,16]
 |6=>[0,1,6,15,16,27]
 |7=>[4]
 |8=>[0,1,6,15,16,33]
 |9=>[4]
 |10=>[0,1,15,16]
 |11=>[4]
 |12=>[0,1,7]
 |13=>[0,1,7,8]
 |14=>[0,1,7,8,58]
 |15=>[0,1,7,8,9]
 |16=>[0,1,7,8,9,10]
 |17=>[0,1,7,8,9,10,78]
 |18=>[4]
 |19=>[0,1,7,8,9,95]
 |20=>[0,1,7,8]
 |21=>[0,1,7,8]
 |22=>[4]
 |_=>[]
@[simp] def Zr:Nat->List (List Nat)
 |9=>[[],[],[],[],[],[],[7,8,9,10,12,13,14,15],[6,12,13,14,15],[6,12,13,14,15],[6,12,13,14,15],[6,12,13,14,15],[12,13,14,15],[6,7,8,9,10,11],[6,7,8,9,10,11],[6,7,8,9,10,11],[6,7,8,9,10,11],[],[],[],[]]
 |_=>[]
@[simp] def Zs:aw:=⟨[],false,[600],[],false⟩
@[simp] def MB:Nat->List Nat
 |0=>[1,2]
 |1=>[3]
 |_=>[]
@[simp] def Qu:aw:=⟨[],false,[200],[],false⟩
@[simp] def MD:Nat->List Nat
 |0=>[0,1,2]
 |1=>[0,1,8]
 |2=>[6]
 |3=>[6]
 |_=>[]
@[simp] def Qv:aw:=⟨[1,2],false,[],[],false⟩
@[simp] def ME:Nat->List Nat
 |0=>[0]
 |1=>[2]
 |_=>[]
@[simp] def Zt:aw:=⟨[],false,[],[],false⟩
@[simp] def MF:Nat->List Nat
 |0=>[0,1]
 |1=>[0,1,5,6]
 |2=>[0,1,5,6,7]
 |3=>[0,1,5,6,7,8]
 |4=>[0,1,5,6,7,8,9]
 |5=>[0,1,5,6,7,8,9,20]
 |6=>[0,1,5,6,7,8,9]
 |7=>[0,1,5,6,7,8,9]
 |8=>[0,1,5,6,7,8,39]
 |9=>[4]
 |10=>[0,1,5,6,7,8,10]
 |11=>[0,1,5,6,7,8,10,44]
 |12=>[0,1,5,6,7,8,10]
 |13=>[0,1,5,6,7,8,10]
 |14=>[0,1,5,6,7,8,10]
 |15=>[0,1,5,6,7,8,10]
 |16=>[0,1,5,6,7,8,10,77]
 |17=>[4]
 |18=>[4]
 |_=>[]
@[simp] def Zu:Nat->Bool
 |8=>true
 |16=>true
 |_=>false
@[simp] def Zv:aw:=⟨[],false,[],[],false⟩
@[simp] def MG:Nat->List Nat
 |0=>[0,1]
 |1=>[0,1,7,8]
 |2=>[0,1,7,8,9]
 |3=>[0,1,5,7,8]
 |4=>[0,1,5,7,8,16]
 |5=>[4]
 |6=>[0,1,7,8]
 |7=>[4]
 |_=>[]
@[simp] def Qw:aw:=⟨[],false,[],[],false⟩
@[simp] def MH:Nat->List Nat
 |0=>[0]
 |1=>[0,4]
 |2=>[2,3]
 |3=>[7]
 |4=>[2,3]
 |5=>[2,3]
 |_=>[]
@[simp] def Zw:aw:=⟨[1],false,[],[],false⟩
@[simp] def MI:Nat->List Nat
 |0=>[0,3,4]
 |1=>[0,3,4]
 |2=>[0,3,4]
 |3=>[0,3,4]
 |4=>[0,3,4,5]
 |5=>[0,3,4,5,27]
 |6=>[0,3,4,5]
 |7=>[0,3,4]
 |8=>[0,3,4]
 |9=>[0,3,4]
 |10=>[0,3,4,6,7]
 |11=>[0,3,4,6,44]
 |12=>[3,4,6]
 |13=>[3,4]
 |14=>[4]
 |_=>[]
@[simp] def Zx:Nat->List (List Nat)
 |7=>[[2,3],[2,3],[0,1],[0,1],[],[]]
 |_=>[]
@[simp] def Zy:aw:=⟨[1],false,[250,300,350],[],false⟩
@[simp] def MJ:Nat->List Nat
 |0=>[1]
 |1=>[1,3]
 |2=>[3,4]
 |3=>[3,4,10]
 |4=>[2]
 |5=>[2]
 |_=>[]
@[simp] def Zz:aw:=⟨[],false,[150],[],false⟩
@[simp] def ML:Nat->List Nat
 |0=>[0]
 |1=>[0,4]
 |2=>[2]
 |3=>[2]
 |_=>[]
@[simp] def ZA:aw:=⟨[1],false,[],[],false⟩
@[simp] def MM:Nat->List Nat
 |0=>[0,2]
 |1=>[0,2,3]
 |2=>[0,2,3]
 |3=>[0,2,3]
 |4=>[0,2,3]
 |5=>[0,2,3,24]
 |6=>[0,2,3,26]
 |7=>[0,2,3]
 |8=>[2,3]
 |9=>[2]
 |_=>[]
@[simp] def ZB:Nat->List (List Nat)
 |2=>[[2,3,4],[2,3,4],[0,1],[0,1],[0,1],[],[],[]]
 |4=>[[2,3,4,5],[2,3,4,5],[0,1,3],[0,1,2],[0,1],[0,1],[],[],[]]
 |7=>[[2,3,4,5],[2,3,4,5],[0,1,3],[0,1,2],[0,1],[0,1],[],[],[]]
 |_=>[]
@[simp] def ZC:Nat->List Gh
 |1=>[.jj 250 14 251 6,.jj 250 17 252 1]
 |_=>[]
@[simp] def ZD:aw:=⟨[1],false,[200,250,251,252],[],false⟩
@[simp] def MN:Nat->List Nat
 |0=>[0,2]
 |1=>[0,2,3]
 |2=>[0,2,3]
 |3=>[0,2,3,11]
 |4=>[0,2,3]
 |5=>[0,2,3,4]
 |6=>[0,2,3,4,31]
 |7=>[0,2,3,4]
 |8=>[0,2,3]
 |9=>[0,2,3,44]
 |10=>[0,2,3]
 |11=>[2,3]
 |12=>[2]
 |_=>[]
@[simp] def ZE:Nat->Bool
 |6=>true
 |_=>false
@[simp] def ZF:Nat->List (List Nat)
 |4=>[[2,3,4],[2,3,4],[0,1],[0,1],[0,1],[],[],[]]
 |10=>[[2,3,4,5],[2,3,4,5],[0,1,3],[0,1,2],[0,1],[0,1],[],[],[]]
 |_=>[]
@[simp] def ZG:Nat->List Gh
 |1=>[.jj 250 15 251 1,.jj 250 17 252 1]
 |1000002=>[.freeze 300]
 |_=>[]
@[simp] def ZH:aw:=⟨[1],false,[200,250,251,252,300],[],false⟩
@[simp] def MO:Nat->List Nat
 |0=>[0,2]
 |1=>[0,2,3]
 |2=>[0,2,3]
 |3=>[0,2,3,4]
 |4=>[0,2,3,4]
 |5=>[0,2,3]
 |6=>[0,2,3,5]
 |7=>[0,2,3,5,26]
 |8=>[0,2,3,5]
 |9=>[0,2,3]
 |10=>[0,2,3]
 |11=>[0,2,3]
 |12=>[2,3]
 |13=>[2]
 |_=>[]
@[simp] def ZI:Nat->List (List Nat)
 |5=>[[1,2],[0],[0],[],[],[]]
 |_=>[]
@[simp] def ZJ:aw:=⟨[1],false,[200,250,300,350,1050],[],false⟩
@[simp] def MP:Nat->List Nat
 |0=>[0,2]
 |1=>[2]
 |_=>[]
@[simp] def ZK:aw:=⟨[1],false,[200],[],false⟩
@[simp] def MQ:Nat->List Nat
 |0=>[0,1,4]
 |1=>[0,4,5]
 |2=>[0,4,5,9]
 |3=>[4]
 |4=>[0,4,5]
 |5=>[0,4,5]
 |6=>[0,4,5]
 |7=>[0,4,5,30]
 |8=>[4,5]
 |9=>[4]
 |_=>[]
@[simp] def ZL:Nat->List (List Nat)
 |4=>[[2,3,4,5],[2,3,4,5],[0,1],[0,1],[0,1],[0,1],[],[],[]]
 |6=>[[2,3,4],[2,3,4],[0,1],[0,1],[0,1],[],[],[]]
 |_=>[]
@[simp] def ZM:Nat->List Gh
 |1=>[.jj 350 14 351 6,.jj 350 16 352 1]
 |_=>[]
@[simp] def ZN:aw:=⟨[1],false,[300,350,351,352],[],false⟩
@[simp] def MR:Nat->List Nat
 |0=>[0,2]
 |1=>[0,2]
 |2=>[0,2]
 |3=>[0,2,3]
 |4=>[0,2,3]
 |5=>[2,3]
 |6=>[2]
 |_=>[]
@[simp] def ZO:aw:=⟨[1],false,[200,250],[],false⟩
@[simp] def MS:Nat->List Nat
 |0=>[0]
 |1=>[3]
 |2=>[2]
 |3=>[2]
 |_=>[]
@[simp] def Qx:aw:=⟨[],false,[],[],false⟩
@[simp] def MT:Nat->List Nat
 |0=>[0]
 |1=>[0,4]
 |2=>[0,4,5]
 |3=>[0,4,5,12]
 |4=>[0,4,5]
 |5=>[0,4,5]
 |6=>[0,4,6,7]
 |7=>[4,6,7,8]
 |8=>[4,6,7,8,25]
 |9=>[4,6,7,8]
 |10=>[4,6,7,8,30]
 |11=>[4,6,7,8]
 |12=>[4,6,7,8]
 |13=>[2,3]
 |_=>[]
@[simp] def ZP:aw:=⟨[],false,[],[],false⟩
@[simp] def MU:Nat->List Nat
 |0=>[1,2]
 |1=>[3]
 |_=>[]
@[simp] def ZQ:aw:=⟨[],false,[200],[],false⟩
@[simp] def MV:Nat->List Nat
 |0=>[0]
 |1=>[2]
 |_=>[]
@[simp] def ZR:Nat->Bool
 |1=>true
 |_=>false
@[simp] def ZS:aw:=⟨[1],false,[],[],false⟩
@[simp] def MW:Nat->List Nat
 |0=>[0]
 |1=>[0,3]
 |2=>[0,3,4]
 |3=>[0,3,4,5]
 |4=>[0,3,4,5,10]
 |5=>[0,3,4,5]
 |6=>[0,3]
 |7=>[0,3,20]
 |8=>[3]
 |9=>[2]
 |_=>[]
@[simp] def ZT:aw:=⟨[1],false,[250],[],false⟩
@[simp] def MX:Nat->List Nat
 |0=>[0,1,4]
 |1=>[0,1,4,5]
 |2=>[0,1,4,5,12]
 |3=>[4]
 |4=>[0,1,4,5,6]
 |5=>[0,1,4,5,6,25]
 |6=>[0,1,4,5,6,7]
 |7=>[0,1,4,5,6]
 |8=>[0,1,4,5,6,41]
 |9=>[4]
 |_=>[]
@[simp] def ZU:Nat->List (List Nat)
 |7=>[[3,4,5,6,9,10],[3,4,5,6,9,10],[3,4,5,6,9,10],[0,1,2,4,5,6,7,9,10],[0,1,2,3,5,6,9,10],[0,1,2,3,4,9,10],[0,1,2,3,4,9,10],[3,9,10],[9,10],[0,1,2,3,4,5,6,7,8],[0,1,2,3,4,5,6,7,8],[],[]]
 |_=>[]
@[simp] def ZV:aw:=⟨[1],false,[300,400,450],[],false⟩
@[simp] def MY:Nat->List Nat
 |0=>[]
 |1=>[0]
 |_=>[]
@[simp] def ZW:aw:=⟨[],false,[],[],false⟩
@[simp] def MZ:Nat->List Nat
 |0=>[0,2]
 |1=>[0,2,3]
 |2=>[0,2,3]
 |3=>[2]
 |4=>[0,2,3,10]
 |5=>[0,2,3,4]
 |6=>[0,2,3,13]
 |7=>[0,2,3,4]
 |8=>[0,2,3,4]
 |9=>[0,2,3,4]
 |10=>[0,2,5]
 |11=>[2,5]
 |12=>[2]
 |_=>[]
@[simp] def ZX:Nat->List (List Nat)
 |10=>[[1,2,3,4,5,7],[0,4,5,7],[0,4,5,7],[0,4,5,7],[0,1,2,3,7],[0,1,2,3,7],[7],[0,1,2,3,4,5,6],[]]
 |_=>[]
@[simp] def ZY:aw:=⟨[1],false,[200,250,350],[],false⟩
@[simp] def M0:Nat->List Nat
 |0=>[0]
 |1=>[0,3]
 |2=>[2]
 |_=>[]
@[simp] def ZZ:aw:=⟨[],false,[],[],false⟩
@[simp] def M1:Nat->List Nat
 |0=>[0,2]
 |1=>[0,2,3]
 |2=>[0,2,3,7]
 |3=>[2]
 |4=>[0,2,3,17]
 |5=>[2]
 |6=>[0,2,3,23]
 |7=>[2]
 |8=>[0,2,3,29]
 |9=>[0,2]
 |10=>[0,2]
 |11=>[0,2,4]
 |12=>[0,2,4]
 |13=>[2,4]
 |14=>[2]
 |15=>[0,2,3]
 |16=>[0,2,3,45]
 |17=>[2]
 |18=>[0,2,3,56]
 |19=>[2]
 |20=>[2]
 |_=>[]
@[simp] def Z0:Nat->List (List Nat)
 |3=>[[3,4],[3,4],[3,4],[0,1,2],[0,1,2],[],[]]
 |17=>[[2,3,4,5,6],[2,3,4,5,6],[0,1,5,6],[0,1,5,6],[0,1,5,6],[0,1,2,3,4],[0,1,2,3,4],[],[]]
 |19=>[[2,3,4,5,6],[2,3,4,5,6],[0,1,5,6],[0,1,5,6],[0,1,5,6],[0,1,2,3,4],[0,1,2,3,4],[],[]]
 |_=>[]
@[simp] def Z1:aw:=⟨[1],false,[200,250,300],[],false⟩
def od3:Nat->List (List Nat)
 |9=>[[],[],[],[4,5,7,8,9],[3,5,7,8,9],[3,4,7,8,9],[7,8,9],[3,4,5,6,8,9],[3,4,5,6,7,9],[3,4,5,6,7,8],[],[],[],[]]
 |_=>[]
def od4:Nat->List (List Nat)
 |6=>[[],[],[],[4,5,7,8,9],[3,5,7,8,9],[3,4,7,8,9],[7,8,9],[3,4,5,6,8,9],[3,4,5,6,7,9],[3,4,5,6,7,8],[],[],[],[]]
 |_=>[]
def od8:Nat->List (List Nat)
 |5=>[[1,2,3],[0,2,3,4],[0,1,3],[0,1,2],[1],[]]
 |6=>[[2,4,5,6,7],[2,4,5,6,7],[0,1,4,5,6,7],[4,5,6,7],[0,1,2,3,6,8,9],[0,1,2,3,6,8,9],[0,1,2,3,4,5,8,9],[0,1,2,3,8,9],[4,5,6,7],[4,5,6,7],[],[]]
 |7=>[[1,2,4,5,6,8,9],[0,2,4,5,6,8,9],[0,1,4,5,6,8,9],[4,5,6,8,9],[0,1,2,3,5,6,8,9],[0,1,2,3,4,6,8,9],[0,1,2,3,4,5,8,9],[8,9],[0,1,2,3,4,5,6,7,9],[0,1,2,3,4,5,6,7,8],[],[]]
 |10=>[[1,2,3,4,5,6],[0,2,3,4,5],[0,1,4,5],[0,1,4,5],[0,1,2,3],[0,1,2,3],[0],[],[]]
 |_=>[]
def od9:Nat->List (List Nat)
 |5=>[[1,2,4,6,7],[0,2,4,6,7],[0,1,4,6,7],[4,6,7],[0,1,2,3,6,7],[6,7],[0,1,2,3,4,5,7],[0,1,2,3,4,5,6],[],[],[]]
 |_=>[]
def aoU:Nat->List (List Nat)
 |9=>[[1,2,4,5,6],[0,2,4,5,6],[0,1,4,5,6],[4,5,6],[0,1,2,3,5,6],[0,1,2,3,4,6],[0,1,2,3,4,5],[],[],[]]
 |_=>[]
def aoV:Nat->List (List Nat)
 |8=>[[4,5,6,7,8],[4,5,6,7,8],[4,5,6,7,8],[4,5,6,7,8],[0,1,2,3,5,6,7,8],[0,1,2,3,4],[0,1,2,3,4],[0,1,2,3,4],[0,1,2,3,4],[],[],[]]
 |_=>[]
def aoW:Nat->List (List Nat)
 |3=>[[1,2,3,4,5,6,7,8,9],[0,3,4,5,6,7,9],[0,3,4,5,6,7,9],[0,1,2,5,6,9],[0,1,2,5,6,9],[0,1,2,3,4,9],[0,1,2,3,4,9],[0,1,2,9],[0,9],[0,1,2,3,4,5,6,7,8],[],[],[]]
 |5=>[[2,3,4,5,8],[2,3,4,5,8],[0,1,8],[0,1,8],[0,1,8],[0,1,8],[8],[8],[0,1,2,3,4,5,6,7],[]]
 |10=>[[4,5,8,9,10,11,12,13,14,15],[4,5,8,9,10,11,12,13,14,15],[4,5,8,9,10,11,12,13,14,15],[4,5,8,9,10,11,12,13,14,15],[0,1,2,3,8,9,10,11,12,13,14,15],[0,1,2,3,8,9,10,11,12,13,14,15],[8,9,10,11,12,13,14,15],[8,9,10,11,12,13,14,15],[0,1,2,3,4,5,6,7,12,13,14,15],[0,1,2,3,4,5,6,7,12,13,14,15],[0,1,2,3,4,5,6,7,12,13,14,15],[0,1,2,3,4,5,6,7,12,13,14,15],[0,1,2,3,4,5,6,7,8,9,10,11],[0,1,2,3,4,5,6,7,8,9,10,11],[0,1,2,3,4,5,6,7,8,9,10,11],[0,1,2,3,4,5,6,7,8,9,10,11],[],[]]
 |_=>[]
def aoX:Nat->List (List Nat)
 |1=>[[1,2,3,4,5,6],[0,3,4,6],[0,3,4,6],[0,1,2,4,6],[0,1,2,3,6],[0,6],[0,1,2,3,4,5],[],[],[]]
 |5=>[[1,2,3,4,5,6,7,8,9,10,11,12,13],[0,5,6,7,8,9,10,11,12],[0,5,6,7,8,9,10,11,12],[0,5,6,7,8,9,10,11,12],[0,5,6,7,8,9,10,11,12],[0,1,2,3,4,7],[0,1,2,3,4,7],[0,1,2,3,4,5,6],[0,1,2,3,4],[0,1,2,3,4],[0,1,2,3,4],[0,1,2,3,4],[0,1,2,3,4],[0],[],[],[]]
 |7=>[[4,5,6,7,8,9,10,11],[4,5,6,7,8,9,10,11],[4,5,6,7,8,9,10,11],[4,5,6,7,8,9,10,11],[0,1,2,3,8,9,10,11],[0,1,2,3,8,9,10,11],[0,1,2,3,8,9,10,11],[0,1,2,3,8,9,10,11],[0,1,2,3,4,5,6,7],[0,1,2,3,4,5,6,7],[0,1,2,3,4,5,6,7],[0,1,2,3,4,5,6,7],[],[]]
 |_=>[]
def aoY:Nat->List (List Nat)
 |6=>[[2,5,6,7,8,9],[2,5,6,7,8,9],[0,1,5,6,7,8,9],[5,6,7,8,9],[5,6,7,8,9],[0,1,2,3,4,7],[0,1,2,3,4,7],[0,1,2,3,4,5,6],[0,1,2,3,4],[0,1,2,3,4],[]]
 |_=>[]
def aoZ:Nat->List (List Nat)
 |3=>[[1,2,3],[0,2,3,4],[0,1,3,4,5],[0,1,2,4,5,6],[1,2,3],[2,3],[3],[]]
 |10=>[[1,2],[0,2,3],[0,1,3,4,5],[1,2],[2],[2],[]]
 |_=>[]
def ao0:Nat->List (List Nat)
 |1=>[[1,2,3,4],[0],[0],[0],[0],[],[],[]]
 |_=>[]
def ao1:Nat->List (List Nat)
 |1=>[[1,2,3,4,5,6,7],[0,5,6],[0,5,6],[0,5,6],[0,5,6],[0,1,2,3,4],[0,1,2,3,4],[0],[],[],[]]
 |3=>[[1,2,3,4,5,6,7,8,9],[0,5,6,7,8],[0,5,6,7,8],[0,5,6,7,8],[0,5,6,7,8],[0,1,2,3,4],[0,1,2,3,4],[0,1,2,3,4],[0,1,2,3,4],[0],[],[],[]]
 |_=>[]
def ao2:Nat->List (List Nat)
 |6=>[[1,2,3,4,5,6,7,8],[0,5,6],[0,5,6],[0,5,6],[0,5,6],[0,1,2,3,4],[0,1,2,3,4],[0],[0],[]]
 |8=>[[1,2,3,4,5,6,7,8,9,10],[0,5,6],[0,5,6],[0,5,6],[0,5,6],[0,1,2,3,4],[0,1,2,3,4],[0],[0],[0],[0],[]]
 |11=>[[1,2,3],[0,2,3],[0,1],[0,1],[],[],[7],[6,8],[7],[]]
 |18=>[[4,5,6],[4,5,6],[4,5,6],[4,5,6],[0,1,2,3,6],[0,1,2,3,6],[0,1,2,3,4,5],[],[]]
 |21=>[[1,2,3],[0,2,3],[0,1],[0,1],[],[],[7],[6,8],[7],[]]
 |_=>[]
def ao3:Nat->List (List Nat)
 |15=>[[4,5,7,8,9,10,11,12,13,14,15,16,17,18,19,20],[4,5,7,8,9,10,11,12,13,14,15,16,17,18,19,20],[4,5,7,8,9,10,11,12,13,14,15,16,17,18,19,20],[4,5,7,8,9,10,11,12,13,14,15,16,17,18,19,20],[0,1,2,3,7,8,9,10,11,12,13,14,15,16,17,18,19,20],[0,1,2,3,7,8,9,10,11,12,13,14,15,16,17,18,19,20],[7,8,9,10,11,12,13,14,15,16,17,18,19,20],[0,1,2,3,4,5,6,9,10,11,12,13,14,15,16,17,18,19],[0,1,2,3,4,5,6,9,10,11,12,13,14,15,16,17,18,19],[0,1,2,3,4,5,6,7,8,13,14,15,16,17,18],[0,1,2,3,4,5,6,7,8,13,14,15,16,17,18],[0,1,2,3,4,5,6,7,8,13,14,15,16,17,18],[0,1,2,3,4,5,6,7,8,13,14,15,16,17,18],[0,1,2,3,4,5,6,7,8,9,10,11,12,15,16,17,18],[0,1,2,3,4,5,6,7,8,9,10,11,12,15,16,17,18],[0,1,2,3,4,5,6,7,8,9,10,11,12,13,14,17],[0,1,2,3,4,5,6,7,8,9,10,11,12,13,14,17],[0,1,2,3,4,5,6,7,8,9,10,11,12,13,14,15,16],[0,1,2,3,4,5,6,7,8,9,10,11,12,13,14],[0,1,2,3,4,5,6,7,8],[0,1,2,3,4,5,6],[]]
 |19=>[[4,5],[4,5],[4,5],[4,5],[0,1,2,3],[0,1,2,3],[],[],[]]
 |_=>[]
def ao4:Nat->List (List Nat)
 |5=>[[1,2,3,4,5,6,7,8],[0,3,4,5,6,7],[0,3,4,5,6,7],[0,1,2,4,5,6,7],[0,1,2,3,5],[0,1,2,3,4],[0,1,2,3],[0,1,2,3],[0],[],[],[]]
 |_=>[]
def ao5:Nat->List (List Nat)
 |12=>[[2,3,4,5,6,7,8,9,10,11],[2,3,4,5,6,7,8,9,10,11],[0,1,3,7],[0,1,2,7],[0,1,7],[0,1,7],[0,1,7],[0,1,2,3,4,5,6],[0,1],[0,1],[0,1],[0,1],[],[],[]]
 |17=>[[2,3,4,5,6,7,8,9,10,11],[2,3,4,5,6,7,8,9,10,11],[0,1,3,7],[0,1,2,7],[0,1,7],[0,1,7],[0,1,7],[0,1,2,3,4,5,6],[0,1],[0,1],[0,1],[0,1],[],[],[]]
 |_=>[]
def ao6:Nat->List (List Nat)
 |5=>[[3,4,6,7],[3,4,6,7],[3,4,6,7],[0,1,2,6,7],[0,1,2,6,7],[6,7,9],[0,1,2,3,4,5],[0,1,2,3,4,5],[9],[5,8],[],[],[],[],[]]
 |_=>[]
def ao7:Nat->List (List Nat)
 |5=>[[4,5],[4,5],[4,5],[4,5],[0,1,2,3],[0,1,2,3],[],[]]
 |_=>[]
def ao8:Nat->List (List Nat)
 |16=>[[4,5,6,7,8,9,10,11,12,13,14,15],[4,5,6,7,8,9,10,11,12,13,14,15],[4,5,6,7,8,9,10,11,12,13,14,15],[4,5,6,7,8,9,10,11,12,13,14,15],[0,1,2,3,5,6,7,8,9,10,11,12,13,14,15],[0,1,2,3,4,9,12,13,14],[0,1,2,3,4,9,12,13,14],[0,1,2,3,4,9,12,13,14],[0,1,2,3,4,9,12,13,14],[0,1,2,3,4,5,6,7,8,12,13,14],[0,1,2,3,4,12,13,14],[0,1,2,3,4,12,13,14],[0,1,2,3,4,5,6,7,8,9,10,11],[0,1,2,3,4,5,6,7,8,9,10,11],[0,1,2,3,4,5,6,7,8,9,10,11],[0,1,2,3,4],[],[]]
 |18=>[[1,2,3,4,5,6,7,8],[0,5,6,7],[0,5,6,7],[0,5,6,7],[0,5,6,7],[0,1,2,3,4],[0,1,2,3,4],[0,1,2,3,4],[0],[],[],[]]
 |_=>[]
def ao9:Nat->List (List Nat)
 |0=>[[4,5,6],[4,5,6],[4,5,6],[4,5,6],[0,1,2,3,5,6],[0,1,2,3,4],[0,1,2,3,4],[],[],[]]
 |_=>[]
def apa:Nat->List (List Nat)
 |5=>[[1],[0],[],[],[],[],[7,8,9,10,11],[6,8],[6,7],[6],[6],[6],[],[],[],[],[],[],[19,23,24,25,26,27,28,29,30,31],[18,23,24,25,26,27,28,29,30,31],[23,24,25,26,27,28,29,30,31],[23,24,25,26,27,28,29,30,31],[23,24,25,26,27,28,29,30,31],[18,19,20,21,22,24,25,26,27,28],[18,19,20,21,22,23,25],[18,19,20,21,22,23,24],[18,19,20,21,22,23],[18,19,20,21,22,23],[18,19,20,21,22,23],[18,19,20,21,22],[18,19,20,21,22],[18,19,20,21,22],[],[]]
 |_=>[]
def apb:Nat->List (List Nat)
 |0=>[[1,2,3,4,5],[0,5,6,7],[0,5,6,7],[0,5,6,7],[0,5,6,7],[0,1,2,3,4,6,7],[1,2,3,4,5],[1,2,3,4,5],[],[]]
 |_=>[]
def apc:Nat->List (List Nat)
 |2=>[[1,2,3,4],[0,5,6],[0,5,6],[0,5,6],[0,5,6],[1,2,3,4],[1,2,3,4],[],[],[]]
 |_=>[]
def apd:Nat->List (List Nat)
 |4=>[[3,4,5,6,7,8,9,10,11,12],[3,4,5,6,7,8,9,10,11,12],[3,4,5,6,7,8,9,10,11,12],[0,1,2,7,9,10,11,12],[0,1,2,7,9,10,11,12],[0,1,2,7,9,10,11,12],[0,1,2,7,9,10,11,12],[0,1,2,3,4,5,6,9,10,11,12],[0,1,2,9,10,11,12],[0,1,2,3,4,5,6,7,8],[0,1,2,3,4,5,6,7,8],[0,1,2,3,4,5,6,7,8],[0,1,2,3,4,5,6,7,8],[],[],[]]
 |_=>[]
def ape:Nat->List (List Nat)
 |1=>[[4,5,8,9,10,11,12,13,14,15,16,17,18,19,20,21,22,23,24],[4,5,8,9,10,11,12,13,14,15,16,17,18,19,20,21,22,23,24],[4,5,8,9,10,11,12,13,14,15,16,17,18,19,20,21,22,23,24],[4,5,8,9,10,11,12,13,14,15,16,17,18,19,20,21,22,23,24],[0,1,2,3,8,9,10,11,12,13,14,15,16,17,18,19,20,21,22,23,24],[0,1,2,3,8,9,10,11,12,13,14,15,16,17,18,19,20,21,22,23,24],[8,9,10,11,12,13,14,15,16,17,18,19,20,21,22,23,24],[8,9,10,11,12,13,14,15,16,17,18,19,20,21,22,23,24],[0,1,2,3,4,5,6,7,12,13,16,17,18,19,20,21,22,23,24,25],[0,1,2,3,4,5,6,7,12,13,16,17,18,19,20,21,22,23,24,25],[0,1,2,3,4,5,6,7,12,13,16,17,18,19,20,21,22,23,24,25],[0,1,2,3,4,5,6,7,12,13,16,17,18,19,20,21,22,23,24,25],[0,1,2,3,4,5,6,7,8,9,10,11,16,17,18,19,20,21,22,23,24,25],[0,1,2,3,4,5,6,7,8,9,10,11,16,17,18,19,20,21,22,23,24,25],[0,1,2,3,4,5,6,7,16,17,18,19,20,21,22,23,24,25],[0,1,2,3,4,5,6,7,16,17,18,19,20,21,22,23,24,25],[0,1,2,3,4,5,6,7,8,9,10,11,12,13,14,15,20,21,22,25,26],[0,1,2,3,4,5,6,7,8,9,10,11,12,13,14,15,20,21,22,25,26],[0,1,2,3,4,5,6,7,8,9,10,11,12,13,14,15,20,21,22,25,26],[0,1,2,3,4,5,6,7,8,9,10,11,12,13,14,15,20,21,22,25,26],[0,1,2,3,4,5,6,7,8,9,10,11,12,13,14,15,16,17,18,19,25,26],[0,1,2,3,4,5,6,7,8,9,10,11,12,13,14,15,16,17,18,19,25,26],[0,1,2,3,4,5,6,7,8,9,10,11,12,13,14,15,16,17,18,19,25,26],[0,1,2,3,4,5,6,7,8,9,10,11,12,13,14,15,25,26],[0,1,2,3,4,5,6,7,8,9,10,11,12,13,14,15,25,26],[8,9,10,11,12,13,14,15,16,17,18,19,20,21,22,23,24],[16,17,18,19,20,21,22,23,24],[]]
 |_=>[]
def apf:Nat->List (List Nat)
 |64=>[[1,2,3,4,5,6,7],[0,3,4,5,6,7],[0,3,4,5,6,7],[0,1,2,5],[0,1,2,5],[0,1,2,3,4],[0,1,2],[0,1,2],[],[],[11],[10,12],[11],[]]
 |67=>[[2,3,4,5,6,7,8,9,10,11,12],[2,3,4,5,6,7,8,9,10,11,12],[0,1,3,4,5,6,7,8,9,10,11],[0,1,2,7,8,9,10],[0,1,2,7,8,9,10],[0,1,2,7,8,9,10],[0,1,2,7,8,9,10],[0,1,2,3,4,5,6,8,9,10],[0,1,2,3,4,5,6,7,9],[0,1,2,3,4,5,6,7,8],[0,1,2,3,4,5,6,7],[0,1,2],[0,1],[],[]]
 |71=>[[4,5,6,7,8,9,10],[4,5,6,7,8,9,10],[4,5,6,7,8,9,10],[4,5,6,7,8,9,10],[0,1,2,3,5,7,8,9,10],[0,1,2,3,4,7,8,9,10],[0,1,2,3,7,8,9,10],[0,1,2,3,4,5,6,8],[0,1,2,3,4,5,6,7],[0,1,2,3,4,5,6],[0,1,2,3,4,5,6],[],[]]
 |_=>[]
def apg:Nat->List (List Nat)
 |1=>[[4,5,11],[4,5,11],[4,5,11],[4,5,11],[0,1,2,3,11],[0,1,2,3,11],[11],[11],[9,10,11],[8,10,11,12],[8,9,11,12,13],[0,1,2,3,4,5,6,7,8,9,10],[9,10],[10],[]]
 |4=>[[4,5,6],[4,5,6],[4,5,6],[4,5,6],[0,1,2,3],[0,1,2,3],[0,1,2,3],[],[],[10,11],[9,11,12],[9,10,12,13],[10,11],[11]]
 |8=>[[1,2,3,4,5,6,7,8,9,10,11],[0,2,3,5,6,7,8,9,10],[0,1,5,6,7,8,9,10],[0,1,5,6,7,8,9,10],[0,5,6,7,8,9,10],[0,1,2,3,4,6,7,8,9],[0,1,2,3,4,5,8,9],[0,1,2,3,4,5,8,9],[0,1,2,3,4,5,6,7],[0,1,2,3,4,5,6,7],[0,1,2,3,4],[0],[],[],[]]
 |32=>[[1,2,3,4,5,6,7,8,9,10,11,12,13,14,15,16,17,18,19,20,21],[0,2,3,4,5,6,7,8,9,10,11,12,13,14,15,16,17,18,20],[0,1,4,7,10,11,12,13,14,15,16,17,18,20],[0,1,4,7,10,11,12,13,14,15,16,17,18,20],[0,1,2,3,7,10,11,12,13,14,15,16,17,18,20],[0,1,7,10,11,12,13,14,15,16,17,18,20],[0,1,7,10,11,12,13,14,15,16,17,18,20],[0,1,2,3,4,5,6,10,11,12,13,14,15,16,17,18,20],[0,1,10,11,12,13,14,15,16,17,18,20],[0,1,10,11,12,13,14,15,16,17,18,20],[0,1,2,3,4,5,6,7,8,9,12,15,16,20],[0,1,2,3,4,5,6,7,8,9,12,15,16,20],[0,1,2,3,4,5,6,7,8,9,10,11,15,16,20],[0,1,2,3,4,5,6,7,8,9,15,16,20],[0,1,2,3,4,5,6,7,8,9,15,16,20],[0,1,2,3,4,5,6,7,8,9,10,11,12,13,14,20],[0,1,2,3,4,5,6,7,8,9,10,11,12,13,14,20],[0,1,2,3,4,5,6,7,8,9,20],[0,1,2,3,4,5,6,7,8,9,20],[0,20],[0,1,2,3,4,5,6,7,8,9,10,11,12,13,14,15,16,17,18,19],[0],[],[]]
 |39=>[[1,2,3,4,6,7,8,9,10,12,13,14,15,16,18,19,20,21,22,23,24,25],[0,6,7,8,9,10,12,13,14,15,16,18,19,20,21,22,23,24,25],[0,6,7,8,9,10,12,13,14,15,16,18,19,20,21,22,23,24,25],[0,6,7,8,9,10,12,13,14,15,16,18,19,20,21,22,23,24,25],[0,6,7,8,9,10,12,13,14,15,16,18,19,20,21,22,23,24,25],[6,7,8,9,10,12,13,14,15,16,18,19,20,21,22,23,24,25],[0,1,2,3,4,5,7,8,9,10,12,13,14,15,16,18,19,20,21,22,23,24,25],[0,1,2,3,4,5,6,12,13,14,15,16,18,19,20,21,22,23,24,25],[0,1,2,3,4,5,6,12,13,14,15,16,18,19,20,21,22,23,24,25],[0,1,2,3,4,5,6,12,13,14,15,16,18,19,20,21,22,23,24,25],[0,1,2,3,4,5,6,12,13,14,15,16,18,19,20,21,22,23,24,25],[12,13,14,15,16,18,19,20,21,22,23,24,25],[0,1,2,3,4,5,6,7,8,9,10,11,13,14,15,16,18,19,20,21,22,23,24,25],[0,1,2,3,4,5,6,7,8,9,10,11,12,18,19,20,21,22,23,24,25],[0,1,2,3,4,5,6,7,8,9,10,11,12,18,19,20,21,22,23,24,25],[0,1,2,3,4,5,6,7,8,9,10,11,12,18,19,20,21,22,23,24,25],[0,1,2,3,4,5,6,7,8,9,10,11,12,18,19,20,21,22,23,24,25],[18,19,20,21,22,23,24,25],[0,1,2,3,4,5,6,7,8,9,10,11,12,13,14,15,16,17,21,22,23,24],[0,1,2,3,4,5,6,7,8,9,10,11,12,13,14,15,16,17,21,22,23,24],[0,1,2,3,4,5,6,7,8,9,10,11,12,13,14,15,16,17,21,22,23,24],[0,1,2,3,4,5,6,7,8,9,10,11,12,13,14,15,16,17,18,19,20,23,24],[0,1,2,3,4,5,6,7,8,9,10,11,12,13,14,15,16,17,18,19,20,23,24],[0,1,2,3,4,5,6,7,8,9,10,11,12,13,14,15,16,17,18,19,20,21,22],[0,1,2,3,4,5,6,7,8,9,10,11,12,13,14,15,16,17,18,19,20,21,22],[0,1,2,3,4,5,6,7,8,9,10,11,12,13,14,15,16,17],[],[],[]]
 |47=>[[2,3,4,6],[2,3,4,6],[0,1,3,4,6],[0,1,2,6],[0,1,2,6],[6],[0,1,2,3,4,5],[],[],[],[]]
 |53=>[[1,2,3,4,5,6,9,10],[0,3,4,5,9,10],[0,3,4,5,9,10],[0,1,2,4,5,9,10],[0,1,2,3,9,10],[0,1,2,3,9,10],[0,9,10],[9,10],[9,10],[0,1,2,3,4,5,6,7,8],[0,1,2,3,4,5,6,7,8],[],[]]
 |63=>[[4,5,6,7,8,9,10,16],[4,5,6,7,8,9,10,16],[4,5,6,7,8,9,10,16],[4,5,6,7,8,9,10,16],[0,1,2,3,6,7,8,9,10,16],[0,1,2,3,6,7,8,9,10,16],[0,1,2,3,4,5,8,16],[0,1,2,3,4,5,8,16],[0,1,2,3,4,5,6,7,16],[0,1,2,3,4,5,16],[0,1,2,3,4,5,16],[16],[16],[14,15,16],[13,15,16,17],[13,14,16,17,18],[0,1,2,3,4,5,6,7,8,9,10,11,12,13,14,15],[14,15],[15],[]]
 |_=>[]
def aph:Nat->List (List Nat)
 |6=>[[2,3,4,5,6,7,8],[2,3,4,5,6,7,8],[0,1,4],[0,1,4],[0,1,2,3],[0,1],[0,1],[0,1],[0,1],[],[],[]]
 |_=>[]
def ah6:Nat->List (List Nat)
 |5=>[[1,2,3,4,5],[0,2,3,4,5,6,7],[0,1,4,5],[0,1,4,5],[0,1,2,3,6,7],[0,1,2,3,6,7],[1,4,5],[1,4,5],[],[]]
 |_=>[]
def ah7:Nat->List (List Nat)
 |4=>[[4,7,8],[4,7,8],[4,7,8],[4,7,8],[0,1,2,3,7,8],[7,8],[7,8],[0,1,2,3,4,5,6],[0,1,2,3,4,5,6],[]]
 |7=>[[1,2,3,4,5,6,7],[0,5,6],[0,5,6],[0,5,6],[0,5,6],[0,1,2,3,4],[0,1,2,3,4],[0],[],[],[]]
 |_=>[]
def ah8:Nat->List (List Nat)
 |1=>[[4,5,6,12],[4,5,6,12],[4,5,6,12],[4,5,6,12],[0,1,2,3,12],[0,1,2,3,12],[0,1,2,3,12],[12],[12],[10,11,12],[9,11,12,13],[9,10,12,13,14],[0,1,2,3,4,5,6,7,8,9,10,11],[10,11],[11],[]]
 |_=>[]
def ah9:Nat->List (List Nat)
 |0=>[[1,2,3,4,5],[0,3],[0,3],[0,1,2],[0],[0],[]]
 |_=>[]
def aia:Nat->List (List Nat)
 |7=>[[4,5,11],[4,5,11],[4,5,11],[4,5,11],[0,1,2,3,11],[0,1,2,3,11],[11],[11],[9,10,11],[8,10,11,12],[8,9,11,12,13],[0,1,2,3,4,5,6,7,8,9,10],[9,10],[10],[]]
 |11=>[[4,5,11],[4,5,11],[4,5,11],[4,5,11],[0,1,2,3,11],[0,1,2,3,11],[11],[11],[9,10,11],[8,10,11,12],[8,9,11,12,13],[0,1,2,3,4,5,6,7,8,9,10],[9,10],[10],[]]
 |19=>[[4,5,6,7,13],[4,5,6,7,13],[4,5,6,7,13],[4,5,6,7,13],[0,1,2,3,6,7,13],[0,1,2,3,6,7,13],[0,1,2,3,4,5,13],[0,1,2,3,4,5,13],[13],[13],[11,12,13],[10,12,13,14],[10,11,13,14,15],[0,1,2,3,4,5,6,7,8,9,10,11,12],[11,12],[12],[]]
 |_=>[]
def aib:Nat->List (List Nat)
 |2=>[[4,5,11,12],[4,5,11,12],[4,5,11,12],[4,5,11,12],[0,1,2,3,11,12],[0,1,2,3,11,12],[11,12],[11,12],[9,10,11,12],[8,10,11,12,13],[8,9,11,12,13,14],[0,1,2,3,4,5,6,7,8,9,10,12],[0,1,2,3,4,5,6,7,8,9,10,11],[9,10],[10],[]]
 |_=>[]
def aic:Nat->List (List Nat)
 |1=>[[4,5,11],[4,5,11],[4,5,11],[4,5,11],[0,1,2,3,11],[0,1,2,3,11],[11],[11],[9,10,11],[8,10,11,12],[8,9,11,12,13],[0,1,2,3,4,5,6,7,8,9,10],[9,10],[10],[]]
 |5=>[[4,5,6,12],[4,5,6,12],[4,5,6,12],[4,5,6,12],[0,1,2,3,6,12],[0,1,2,3,6,12],[0,1,2,3,4,5,12],[12],[12],[10,11,12],[9,11,12,13],[9,10,12,13,14],[0,1,2,3,4,5,6,7,8,9,10,11],[10,11],[11],[]]
 |_=>[]
def aid:Nat->List (List Nat)
 |5=>[[5,8,9,10,11,12,13,14,15],[5,8,9,10,11,12,13,14,15],[5,8,9,10,11,12,13,14,15],[5,8,9,10,11,12,13,14,15],[5,8,9,10,11,12,13,14,15],[0,1,2,3,4,8,9,10,11,12,13,14,15],[8,9,10,11,12,13,14,15],[8,9,10,11,12,13,14,15],[0,1,2,3,4,5,6,7,13,16],[0,1,2,3,4,5,6,7,13,16],[0,1,2,3,4,5,6,7,13,16],[0,1,2,3,4,5,6,7,13,16],[0,1,2,3,4,5,6,7,13,16],[0,1,2,3,4,5,6,7,8,9,10,11,12,16],[0,1,2,3,4,5,6,7,16],[0,1,2,3,4,5,6,7,16],[8,9,10,11,12,13,14,15],[]]
 |_=>[]
def aie:Nat->List (List Nat)
 |4=>[[2,3,4],[2,3,4],[0,1,5],[0,1,5],[0,1,5],[2,3,4],[]]
 |_=>[]
def aif:Nat->List (List Nat)
 |10=>[[4,5,6,7],[4,5,6,7],[4,5,6,7],[4,5,6,7],[0,1,2,3,5,6,7],[0,1,2,3,4],[0,1,2,3,4],[0,1,2,3,4],[],[]]
 |18=>[[4,7,8,9],[4,7,8,9],[4,7,8,9],[4,7,8,9],[0,1,2,3,7,8,9],[7,8,9],[7,8,9],[0,1,2,3,4,5,6],[0,1,2,3,4,5,6],[0,1,2,3,4,5,6],[],[],[],[14,15],[13,15,16],[13,14,16,17],[14,15],[15],[]]
 |_=>[]
def aih:Nat->List (List Nat)
 |9=>[[5,8,10,11,12,13,14,15,16,17,18,19,20],[5,8,10,11,12,13,14,15,16,17,18,19,20],[5,8,10,11,12,13,14,15,16,17,18,19,20],[5,8,10,11,12,13,14,15,16,17,18,19,20],[5,8,10,11,12,13,14,15,16,17,18,19,20],[0,1,2,3,4,8,10,11,12,13,14,15,16,17,18,19,20],[8,10,11,12,13,14,15,16,17,18,19,20],[8,10,11,12,13,14,15,16,17,18,19,20],[0,1,2,3,4,5,6,7,10,11,12,13,14,15,16,17,18,19,20],[10,11,12,13,14,15,16,17,18,19,20],[0,1,2,3,4,5,6,7,8,9,14,17,21],[0,1,2,3,4,5,6,7,8,9,14,17,21],[0,1,2,3,4,5,6,7,8,9,14,17,21],[0,1,2,3,4,5,6,7,8,9,14,17,21],[0,1,2,3,4,5,6,7,8,9,10,11,12,13,17,21],[0,1,2,3,4,5,6,7,8,9,17,21],[0,1,2,3,4,5,6,7,8,9,17,21],[0,1,2,3,4,5,6,7,8,9,10,11,12,13,14,15,16,21],[0,1,2,3,4,5,6,7,8,9,21],[0,1,2,3,4,5,6,7,8,9,21],[0,1,2,3,4,5,6,7,8,9,21],[10,11,12,13,14,15,16,17,18,19,20],[]]
 |_=>[]
def aii:Nat->List (List Nat)
 |6=>[[3,4,5],[3,4,5],[3,4,5],[0,1,2],[0,1,2],[0,1,2],[],[]]
 |7=>[[3,4,5],[3,4,5],[3,4,5],[0,1,2],[0,1,2],[0,1,2],[],[]]
 |8=>[[3,4,5,6,7,8,9,10,11,12],[3,4,5,6,7,8,9,10,11,12],[3,4,5,6,7,8,9,10,11,12],[0,1,2,6,7,8,9,10,11,12],[0,1,2,6,7,8,9,10,11,12],[0,1,2,6,7,8,9,10,11,12],[0,1,2,3,4,5,7,8,9,12],[0,1,2,3,4,5,6,12],[0,1,2,3,4,5,6,12],[0,1,2,3,4,5,6,12],[0,1,2,3,4,5,12],[0,1,2,3,4,5,12],[0,1,2,3,4,5,6,7,8,9,10,11],[],[]]
 |11=>[[3,4,5],[3,4,5],[3,4,5],[0,1,2],[0,1,2],[0,1,2],[],[]]
 |14=>[[3,4,5],[3,4,5],[3,4,5],[0,1,2],[0,1,2],[0,1,2],[],[]]
 |15=>[[3,4,5,6,7,8,9,10,11,12],[3,4,5,6,7,8,9,10,11,12],[3,4,5,6,7,8,9,10,11,12],[0,1,2,6,7,8,9,10,11,12],[0,1,2,6,7,8,9,10,11,12],[0,1,2,6,7,8,9,10,11,12],[0,1,2,3,4,5,7,8,9,12],[0,1,2,3,4,5,6,12],[0,1,2,3,4,5,6,12],[0,1,2,3,4,5,6,12],[0,1,2,3,4,5,12],[0,1,2,3,4,5,12],[0,1,2,3,4,5,6,7,8,9,10,11],[],[]]
 |17=>[[3,4,5,6,7,8],[3,4,5,6,7,8],[3,4,5,6,7,8],[0,1,2,6,7,8,9],[0,1,2,6,7,8,9],[0,1,2,6,7,8,9],[0,1,2,3,4,5,9,10],[0,1,2,3,4,5,9,10],[0,1,2,3,4,5,9,10],[3,4,5,6,7,8],[6,7,8],[]]
 |24=>[[3,4,5,6,7,8,9,10,11,12,13],[3,4,5,6,7,8,9,10,11,12,13],[3,4,5,6,7,8,9,10,11,12,13],[0,1,2,6,7,8,9,10,11,12,13],[0,1,2,6,7,8,9,10,11,12,13],[0,1,2,6,7,8,9,10,11,12,13],[0,1,2,3,4,5,7,8,9,10,11,12,13],[0,1,2,3,4,5,6,8,9,10,11,12,13],[0,1,2,3,4,5,6,7,13],[0,1,2,3,4,5,6,7,13],[0,1,2,3,4,5,6,7,13],[0,1,2,3,4,5,6,7,13],[0,1,2,3,4,5,6,7,13],[0,1,2,3,4,5,6,7,8,9,10,11,12],[],[]]
 |31=>[[3,4,5,6,7,8,9,10,11,12,13,14,15,16,17,18,19,20],[3,4,5,6,7,8,9,10,11,12,13,14,15,16,17,18,19,20],[3,4,5,6,7,8,9,10,11,12,13,14,15,16,17,18,19,20],[0,1,2,6,7,8,9,10,11,12,13,14,15,16,17,18,19,20],[0,1,2,6,7,8,9,10,11,12,13,14,15,16,17,18,19,20],[0,1,2,6,7,8,9,10,11,12,13,14,15,16,17,18,19,20],[0,1,2,3,4,5,9,10,11,12,13,14,15,16,17,18,19,20],[0,1,2,3,4,5,9,10,11,12,13,14,15,16,17,18,19,20],[0,1,2,3,4,5,9,10,11,12,13,14,15,16,17,18,19,20],[0,1,2,3,4,5,6,7,8,10,11,12,15,16,17,18,19],[0,1,2,3,4,5,6,7,8,9,15,16,17,18,19],[0,1,2,3,4,5,6,7,8,9,15,16,17,18,19],[0,1,2,3,4,5,6,7,8,9,15,16,17,18,19],[0,1,2,3,4,5,6,7,8,15,16,17,18,19],[0,1,2,3,4,5,6,7,8,15,16,17,18,19],[0,1,2,3,4,5,6,7,8,9,10,11,12,13,14,16,17,18,19,20],[0,1,2,3,4,5,6,7,8,9,10,11,12,13,14,15],[0,1,2,3,4,5,6,7,8,9,10,11,12,13,14,15],[0,1,2,3,4,5,6,7,8,9,10,11,12,13,14,15],[0,1,2,3,4,5,6,7,8,9,10,11,12,13,14,15],[0,1,2,3,4,5,6,7,8,15],[],[]]
 |38=>[[3,4,5,6,7,8,9,10,11,12,13,14,15,16,17],[3,4,5,6,7,8,9,10,11,12,13,14,15,16,17],[3,4,5,6,7,8,9,10,11,12,13,14,15,16,17],[0,1,2,6,7,8,9,10,11,12,13,14,15,16,17],[0,1,2,6,7,8,9,10,11,12,13,14,15,16,17],[0,1,2,6,7,8,9,10,11,12,13,14,15,16,17],[0,1,2,3,4,5,9,10,11,12,13,14,15,16,17],[0,1,2,3,4,5,9,10,11,12,13,14,15,16,17],[0,1,2,3,4,5,9,10,11,12,13,14,15,16,17],[0,1,2,3,4,5,6,7,8,12,13,14,15,16],[0,1,2,3,4,5,6,7,8,12,13,14,15,16],[0,1,2,3,4,5,6,7,8,12,13,14,15,16],[0,1,2,3,4,5,6,7,8,9,10,11,13,14,15,16,17],[0,1,2,3,4,5,6,7,8,9,10,11,12],[0,1,2,3,4,5,6,7,8,9,10,11,12],[0,1,2,3,4,5,6,7,8,9,10,11,12],[0,1,2,3,4,5,6,7,8,9,10,11,12],[0,1,2,3,4,5,6,7,8,12],[],[]]
 |40=>[[3,4,5,6,7,8,9,10,11,12,13,14,15,16,17,18],[3,4,5,6,7,8,9,10,11,12,13,14,15,16,17,18],[3,4,5,6,7,8,9,10,11,12,13,14,15,16,17,18],[0,1,2,14,15,16,17],[0,1,2,14,15,16,17],[0,1,2,14,15,16,17],[0,1,2,14,15,16,17],[0,1,2,14,15,16,17],[0,1,2,14,15,16,17],[0,1,2,14,15,16,17],[0,1,2,14,15,16,17],[0,1,2,14,15,16,17],[0,1,2,14,15,16,17],[0,1,2,14,15,16,17],[0,1,2,3,4,5,6,7,8,9,10,11,12,13],[0,1,2,3,4,5,6,7,8,9,10,11,12,13],[0,1,2,3,4,5,6,7,8,9,10,11,12,13],[0,1,2,3,4,5,6,7,8,9,10,11,12,13],[0,1,2],[],[]]
 |42=>[[3,4,5,6,7,8,9,10,11,12,13,14,15,16,17,18],[3,4,5,6,7,8,9,10,11,12,13,14,15,16,17,18],[3,4,5,6,7,8,9,10,11,12,13,14,15,16,17,18],[0,1,2,14,15,16,17],[0,1,2,14,15,16,17],[0,1,2,14,15,16,17],[0,1,2,14,15,16,17],[0,1,2,14,15,16,17],[0,1,2,14,15,16,17],[0,1,2,14,15,16,17],[0,1,2,14,15,16,17],[0,1,2,14,15,16,17],[0,1,2,14,15,16,17],[0,1,2,14,15,16,17],[0,1,2,3,4,5,6,7,8,9,10,11,12,13],[0,1,2,3,4,5,6,7,8,9,10,11,12,13],[0,1,2,3,4,5,6,7,8,9,10,11,12,13],[0,1,2,3,4,5,6,7,8,9,10,11,12,13],[0,1,2],[],[]]
 |44=>[[3,4,5,6,7,8,9,10,11,12,13,14,15,16,17,18,19,20,21,22],[3,4,5,6,7,8,9,10,11,12,13,14,15,16,17,18,19,20,21,22],[3,4,5,6,7,8,9,10,11,12,13,14,15,16,17,18,19,20,21,22],[0,1,2,6,7,8,9,10,11,12,13,14,15,16,17,18,19,20,21,22],[0,1,2,6,7,8,9,10,11,12,13,14,15,16,17,18,19,20,21,22],[0,1,2,6,7,8,9,10,11,12,13,14,15,16,17,18,19,20,21,22],[0,1,2,3,4,5],[0,1,2,3,4,5],[0,1,2,3,4,5],[0,1,2,3,4,5],[0,1,2,3,4,5],[0,1,2,3,4,5],[0,1,2,3,4,5],[0,1,2,3,4,5],[0,1,2,3,4,5],[0,1,2,3,4,5],[0,1,2,3,4,5],[0,1,2,3,4,5],[0,1,2,3,4,5],[0,1,2,3,4,5],[0,1,2,3,4,5],[0,1,2,3,4,5],[0,1,2,3,4,5],[],[]]
 |46=>[[3,4,5,6,7,8,9,10,11,12,13,14,15,16,17,18,19,20,21,22],[3,4,5,6,7,8,9,10,11,12,13,14,15,16,17,18,19,20,21,22],[3,4,5,6,7,8,9,10,11,12,13,14,15,16,17,18,19,20,21,22],[0,1,2,6,7,8,9,10,11,12,13,14,15,16,17,18,19,20,21,22],[0,1,2,6,7,8,9,10,11,12,13,14,15,16,17,18,19,20,21,22],[0,1,2,6,7,8,9,10,11,12,13,14,15,16,17,18,19,20,21,22],[0,1,2,3,4,5],[0,1,2,3,4,5],[0,1,2,3,4,5],[0,1,2,3,4,5],[0,1,2,3,4,5],[0,1,2,3,4,5],[0,1,2,3,4,5],[0,1,2,3,4,5],[0,1,2,3,4,5],[0,1,2,3,4,5],[0,1,2,3,4,5],[0,1,2,3,4,5],[0,1,2,3,4,5],[0,1,2,3,4,5],[0,1,2,3,4,5],[0,1,2,3,4,5],[0,1,2,3,4,5],[],[]]
 |_=>[]
def aij:Nat->List (List Nat)
 |6=>[[2,5,6,7,8,9],[2,5,6,7,8,9],[0,1,5,6,7,8,9],[5,6,7,8,9],[5,6,7,8,9],[0,1,2,3,4,7,10],[0,1,2,3,4,7,10],[0,1,2,3,4,5,6,10],[0,1,2,3,4,10],[0,1,2,3,4,10],[5,6,7,8,9],[],[]]
 |_=>[]
def aik:Nat->List (List Nat)
 |10=>[[1,4,5,6],[0,4,5,6],[4,5,6],[4,5,6],[0,1,2,3,6],[0,1,2,3,6],[0,1,2,3,4,5],[],[],[]]
 |_=>[]
def ail:Nat->List (List Nat)
 |9=>[[1,3,4,5,6],[0,3,4,5,6],[3,4,5,6],[0,1,2,4,7],[0,1,2,3,7],[0,1,2,7],[0,1,2,7],[3,4,5,6],[],[]]
 |_=>[]
def aim:Nat->List (List Nat)
 |2=>[[2,3],[2,3],[0,1,4],[0,1,4],[2,3],[]]
 |_=>[]
def ain:Nat->List (List Nat)
 |17=>[[3,4,5],[3,4,5],[3,4,5],[0,1,2,6],[0,1,2,6],[0,1,2,6],[3,4,5],[]]
 |_=>[]
def aio:Nat->List (List Nat)
 |18=>[[5,6],[5,6],[5,6],[5,6],[5,6],[0,1,2,3,4],[0,1,2,3,4],[]]
 |_=>[]
def aip:Nat->List (List Nat)
 |3=>[[4,5,6,7,8,9,10,13],[4,5,6,7,8,9,10,13],[4,5,6,7,8,9,10,13],[4,5,6,7,8,9,10,13],[0,1,2,3,9,13],[0,1,2,3,9,13],[0,1,2,3,9,13],[0,1,2,3,9,13],[0,1,2,3,9,13],[0,1,2,3,4,5,6,7,8,13],[0,1,2,3,13],[13],[13],[0,1,2,3,4,5,6,7,8,9,10,11,12]]
 |9=>[[1,2,3,4,5,6,7,8,9,10,11,12],[0,5,6,7,8,9,10,11],[0,5,6,7,8,9,10,11],[0,5,6,7,8,9,10,11],[0,5,6,7,8,9,10,11],[0,1,2,3,4,10],[0,1,2,3,4,10],[0,1,2,3,4,10],[0,1,2,3,4,10],[0,1,2,3,4,10],[0,1,2,3,4,5,6,7,8,9],[0,1,2,3,4],[0],[],[],[]]
 |_=>[]
def aiq:Nat->List (List Nat)
 |6=>[[1],[0,2],[1],[],[]]
 |_=>[]
def air:Nat->List (List Nat)
 |8=>[[1,3,4,5,6],[0,3,4,5,6],[3,4,5,6],[0,1,2,4,7],[0,1,2,3,7],[0,1,2,7],[0,1,2,7],[3,4,5,6],[],[]]
 |_=>[]
def ais:Nat->List (List Nat)
 |5=>[[1,2,3,4,5,6,7,8,9,10,11],[0,2,3,4,5,6,7,8,9,10],[0,1,3,6,7,8,9,10],[0,1,2,6,7,8,9,10],[0,1,6,7,8,9,10],[0,1,6,7,8,9,10],[0,1,2,3,4,5,7,8],[0,1,2,3,4,5,6],[0,1,2,3,4,5,6],[0,1,2,3,4,5],[0,1,2,3,4,5],[0],[]]
 |_=>[]
def ait:Nat->List (List Nat)
 |4=>[[1,2,3,4],[0],[0],[0],[0],[]]
 |_=>[]
def aiu:Nat->List (List Nat)
 |2=>[[1,2,3,4],[0],[0],[0],[0],[]]
 |9=>[[1,2,3,4],[0],[0],[0],[0],[]]
 |_=>[]
def aiv:Nat->List (List Nat)
 |5=>[[4,5,6],[4,5,6],[4,5,6],[4,5,6],[0,1,2,3,7],[0,1,2,3,7],[0,1,2,3,7],[4,5,6],[]]
 |8=>[[4,5,11],[4,5,11],[4,5,11],[4,5,11],[0,1,2,3,11],[0,1,2,3,11],[11],[11],[9,10,11],[8,10,11,12],[8,9,11,12,13],[0,1,2,3,4,5,6,7,8,9,10],[9,10],[10],[]]
 |11=>[[4,5,6,7,13],[4,5,6,7,13],[4,5,6,7,13],[4,5,6,7,13],[0,1,2,3,6,7,13],[0,1,2,3,6,7,13],[0,1,2,3,4,5,13],[0,1,2,3,4,5,13],[13],[13],[11,12,13],[10,12,13,14],[10,11,13,14,15],[0,1,2,3,4,5,6,7,8,9,10,11,12],[11,12],[12],[]]
 |12=>[[1,2],[0,3],[0,3],[1,2],[]]
 |15=>[[4,5,11],[4,5,11],[4,5,11],[4,5,11],[0,1,2,3,11],[0,1,2,3,11],[11],[11],[9,10,11],[8,10,11,12],[8,9,11,12,13],[0,1,2,3,4,5,6,7,8,9,10],[9,10],[10],[]]
 |17=>[[1,2,3,4,5,6,7,8,9,10,13,14,15],[0,4,5,6,7,8,13,14,15],[0,4,5,6,7,8,13,14,15],[0,4,5,6,7,8,13,14,15],[0,1,2,3,5,6,7,8,13,14,15],[0,1,2,3,4,7,8,13,14,15],[0,1,2,3,4,7,8,13,14,15],[0,1,2,3,4,5,6,13,14,15],[0,1,2,3,4,5,6,13,14,15],[0,13,14,15],[0,13,14,15],[13,14,15],[13,14,15],[0,1,2,3,4,5,6,7,8,9,10,11,12,16],[0,1,2,3,4,5,6,7,8,9,10,11,12,16],[0,1,2,3,4,5,6,7,8,9,10,11,12,16],[13,14,15],[]]
 |29=>[[1,2,5,6,7],[0,5,6,7],[0,5,6,7],[5,6,7],[5,6,7],[0,1,2,3,4],[0,1,2,3,4],[0,1,2,3,4],[],[13],[13],[13],[13],[9,10,11,12],[]]
 |_=>[]
def aiw:Nat->List (List Nat)
 |4=>[[1,2,7,8],[0,7,8],[0,7,8],[7,8],[7,8],[6,7,8],[5,7,8,9],[0,1,2,3,4,5,6,8],[0,1,2,3,4,5,6,7],[6],[]]
 |_=>[]
def aix:Nat->List (List Nat)
 |4=>[[1,2,4,6,7],[0,4,6,7],[0,4,6,7],[4,6,7],[0,1,2,3,6,7],[6,7],[0,1,2,3,4,5],[0,1,2,3,4,5],[]]
 |_=>[]
def aiy:Nat->List (List Nat)
 |1=>[[1,4,5],[0,4,5],[4,5],[4,5],[0,1,2,3],[0,1,2,3],[]]
 |_=>[]
def aiz:Nat->List (List Nat)
 |1=>[[1,4,5],[0,4,5],[4,5],[4,5],[0,1,2,3],[0,1,2,3],[]]
 |_=>[]
def aiA:Nat->List (List Nat)
 |2=>[[2,3],[2,3],[0,1],[0,1],[]]
 |8=>[[2,4,7,8],[2,4,7,8],[0,1,4,7,8],[4,7,8],[0,1,2,3,7,8],[7,8],[7,8],[0,1,2,3,4,5,6],[0,1,2,3,4,5,6],[]]
 |9=>[[1,2,3,4,5,7,8,10,11,12,13,14,15],[0,3,7,8,10,11,12,13,14,15],[0,3,7,8,10,11,12,13,14,15],[0,1,2,7,8,10,11,12,13,14,15],[0,7,8,10,11,12,13,14,15],[0,7,8,10,11,12,13,14,15],[7,8,10,11,12,13,14,15],[0,1,2,3,4,5,6,10,11,12,13,14,15],[0,1,2,3,4,5,6,10,11,12,13,14,15],[10,11,12,13,14,15],[0,1,2,3,4,5,6,7,8,9,12],[0,1,2,3,4,5,6,7,8,9,12],[0,1,2,3,4,5,6,7,8,9,10,11],[0,1,2,3,4,5,6,7,8,9],[0,1,2,3,4,5,6,7,8,9],[0,1,2,3,4,5,6,7,8,9],[]]
 |_=>[]
def aiB:Nat->List (List Nat)
 |8=>[[1,4,5,6,7],[0,4,5,6,7],[4,5,6,7],[4,5,6,7],[0,1,2,3,5],[0,1,2,3,4],[0,1,2,3],[0,1,2,3],[],[]]
 |_=>[]
def aiC:Nat->List (List Nat)
 |13=>[[1],[0,2],[1],[]]
 |_=>[]
def aiD:Nat->List (List Nat)
 |5=>[[8,9],[8,9],[8,9],[8,9],[8,9],[8,9],[8,9],[8,9],[0,1,2,3,4,5,6,7],[0,1,2,3,4,5,6,7],[]]
 |_=>[]
def aiE:Nat->List (List Nat)
 |6=>[[1,2,3,4,5,6,7],[0,2,3,4,5,7],[0,1,4,5,7],[0,1,4,5,7],[0,1,2,3,7],[0,1,2,3,7],[0,7],[0,1,2,3,4,5,6],[],[]]
 |10=>[[2,3],[2,3],[0,1],[0,1],[]]
 |12=>[[2,3],[2,3],[0,1],[0,1],[]]
 |15=>[[1,2,3,5,6],[0,5,6],[0,5,6],[0,5,6],[5,6],[0,1,2,3,4],[0,1,2,3,4],[]]
 |17=>[[2,3],[2,3],[0,1],[0,1],[]]
 |_=>[]
def aiF:Nat->List (List Nat)
 |5=>[[1,4,5,6,7,9],[0,4,5,6,7,9],[4,5,6,7,9],[4,5,6,7,9],[0,1,2,3,5,9],[0,1,2,3,4,9],[0,1,2,3,9],[0,1,2,3,9],[9],[0,1,2,3,4,5,6,7,8],[],[]]
 |_=>[]
def aiG:Nat->List (List Nat)
 |4=>[[1,4,5,6,7],[0,4,5,6,7],[4,5,6,7],[4,5,6,7],[0,1,2,3,5],[0,1,2,3,4],[0,1,2,3],[0,1,2,3],[]]
 |6=>[[1,4,5,6,7],[0,4,5,6,7],[4,5,6,7],[4,5,6,7],[0,1,2,3,5],[0,1,2,3,4],[0,1,2,3],[0,1,2,3],[]]
 |_=>[]
def aiH:Nat->List (List Nat)
 |5=>[[1,5,6,7,8,10],[0,5,6,7,8,10],[5,6,7,8,10],[5,6,7,8,10],[5,6,7,8,10],[0,1,2,3,4,6,10],[0,1,2,3,4,5,10],[0,1,2,3,4,10],[0,1,2,3,4,10],[10],[0,1,2,3,4,5,6,7,8,9],[],[]]
 |_=>[]
def aiI:Nat->List (List Nat)
 |2=>[[2,3],[2,3],[0,1],[0,1],[]]
 |_=>[]
end Go.Am
end
section
namespace Go.Am
open Go Go.Proofs.Tryz
open Go.Proofs
set_option maxRecDepth 10000
abbrev zk:Nat->List Nat:=λ_=>[]
abbrev zg:Nat->List Gh:=λ_=>[]
abbrev zm:Nat->Bool:=λ_=>false
abbrev zf:aw:=⟨[],false,[],[],false⟩
abbrev zo:Nat->List (List Nat):=λ_=>[]
abbrev zl:Nat->List (Nat×Nat):=λ_=>[]
noncomputable def aiJ:List (Nat->List Nat):=[zk,zk,zk,zk,zk,zk,zk,Yj,zk,zk,zk,zk,zk,Tb,Tc,Td,zk,zk,Tf,zk,zk,zk,Tg,zk,zk,zk,zk,Th,Ti,zk,zk,zk,zk,zk,Tj,Tk,Tl,Tm,Tn,To,Tp,Tq,zk,zk,zk,zk,zk,Ts,Tt,zk,zk,zk,Tu,zk,Tv,Tw,Ty,Tz,zk,zk,zk,zk,zk,zk,zk,TB,TC,TD,TE,TF,TG,TH,TI,zk,zk,zk,zk,zk,zk,zk,zk,zk,zk,zk,zk,TJ,zk,zk,zk,TL,TM,TN,TO,TP,TQ,zk,zk,zk,zk,zk,zk,zk,zk,zk,zk,zk,zk,zk,KN,KO,KP,KQ,zk,zk,zk,zk,zk,zk,zk,zk,zk,zk,zk,zk,zk,KR,KT,KU,KW,zk,zk,zk,zk,zk,zk,zk,zk,KX,KY,KZ,K0,K1,K2,K3,K4,K5,K6,K7,K8,K9,La,Lc,Ld,Lf,Lg,Lh,Li,Lj,zk,zk,zk,zk,zk,zk,zk,zk,zk,Lk,zk,zk,zk,zk,zk,zk,zk,zk,zk,zk,zk,Ll,Lm,zk,zk,zk,zk,zk,zk,zk,zk,zk,zk,Ln,Lo,Lp,Lq,Lr,zk,zk,zk,Ls,Lt,Lu,Lv,Lw,LA,LC,LD,LF,LG,LH,LJ,LL,LM,LO,LP,LQ,LR,LS,LU,LV,LW,LX,LY,LZ,L3,zk,zk,zk,zk,zk,zk,zk,zk,L4,zk,zk,zk,zk,zk,zk,zk,L5,zk,L6,L7,L8,L9,Ma,Mb,Md,Me,Mf,Mg,Mh,Mi,Mj,Ml,Mm,Mn,Mp,Mq,Mr,Mt,Mu,Mv,zk,zk,zk,zk,zk,zk,zk,zk,zk,zk,zk,Mw,Mx,My,Mz,MA,MB,MD,zk,zk,ME,MF,MG,MH,MI,MJ,ML,MM,MN,MO,MP,MQ,MR,zk,zk,zk,zk,zk,zk,zk,zk,MS,MT,MU,MV,MW,MX,zk,zk,MY,MZ,M0,zk,M1,zk,zk,zk,zk,zk,zk,zk,zk,zk,zk,zk,zk,zk,zk,zk,zk,zk,zk,zk,zk,zk,zk,zk,zk]
noncomputable def ghL:List (Nat->List Gh):=[zg,zg,zg,zg,zg,zg,zg,zg,zg,zg,zg,zg,zg,zg,zg,zg,zg,zg,zg,zg,zg,zg,adx,zg,zg,zg,zg,zg,zg,zg,zg,zg,zg,zg,zg,zg,zg,zg,zg,zg,zg,adD,zg,zg,zg,zg,zg,zg,zg,zg,zg,zg,zg,zg,zg,zg,zg,adI,zg,zg,zg,zg,zg,zg,zg,zg,zg,zg,zg,zg,zg,zg,zg,zg,zg,zg,zg,zg,zg,zg,zg,zg,zg,zg,zg,zg,zg,zg,zg,zg,zg,zg,zg,zg,zg,zg,zg,zg,zg,zg,zg,zg,zg,zg,zg,zg,zg,zg,zg,zg,zg,zg,zg,zg,zg,zg,zg,zg,zg,zg,zg,zg,zg,zg,zg,zg,zg,zg,zg,zg,zg,zg,zg,zg,zg,zg,zg,zg,zg,zg,zg,zg,zg,zg,zg,zg,zg,zg,zg,zg,zg,zg,zg,zg,zg,zg,zg,zg,zg,zg,zg,zg,zg,zg,zg,zg,zg,zg,zg,zg,zg,zg,zg,zg,zg,zg,zg,zg,zg,zg,zg,zg,zg,zg,zg,zg,zg,zg,zg,zg,zg,zg,zg,zg,zg,zg,zg,zg,zg,zg,zg,zg,zg,zg,zg,zg,zg,zg,zg,zg,zg,zg,zg,zg,zg,zg,zg,zg,zg,zg,zg,zg,zg,zg,zg,zg,zg,zg,zg,zg,zg,zg,zg,zg,zg,zg,zg,zg,zg,zg,zg,zg,zg,zg,zg,zg,zg,zg,zg,zg,zg,zg,zg,zg,zg,zg,zg,zg,zg,zg,zg,zg,zg,zg,zg,zg,zg,zg,zg,zg,zg,zg,zg,zg,zg,zg,zg,zg,zg,zg,zg,zg,zg,zg,zg,zg,zg,zg,zg,zg,zg,zg,ZC,ZG,zg,zg,ZM,zg,zg,zg,zg,zg,zg,zg,zg,zg,zg,zg,zg,zg,zg,zg,zg,zg,zg,zg,zg,zg,zg,zg,zg,zg,zg,zg,zg,zg,zg,zg,zg,zg,zg,zg,zg,zg,zg,zg,zg,zg,zg,zg,zg,zg,zg]
noncomputable def mdL:List (Nat->Bool):=[zm,zm,zm,zm,zm,zm,zm,zm,zm,zm,zm,zm,zm,zm,adu,zm,zm,zm,zm,zm,zm,zm,zm,zm,zm,zm,zm,ady,adz,zm,zm,zm,zm,zm,zm,adA,zm,adB,zm,zm,zm,zm,zm,zm,zm,zm,zm,zm,zm,zm,zm,zm,zm,zm,zm,zm,zm,zm,zm,zm,zm,zm,zm,zm,zm,zm,zm,zm,zm,adK,zm,zm,zm,zm,zm,zm,zm,zm,zm,zm,zm,zm,zm,zm,zm,adL,zm,zm,zm,zm,zm,zm,zm,zm,zm,zm,zm,zm,zm,zm,zm,zm,zm,zm,zm,zm,zm,zm,zm,zm,zm,zm,zm,zm,zm,zm,zm,zm,zm,zm,zm,zm,zm,zm,zm,zm,Yn,Yp,zm,zm,zm,zm,zm,zm,zm,zm,zm,zm,zm,zm,Ys,zm,zm,zm,zm,Yw,zm,Yx,zm,zm,Yz,zm,zm,zm,zm,zm,zm,zm,zm,zm,zm,zm,zm,zm,zm,zm,zm,zm,zm,zm,zm,zm,zm,zm,zm,zm,zm,zm,zm,YG,zm,zm,zm,zm,zm,zm,zm,zm,zm,zm,zm,zm,zm,zm,zm,zm,zm,zm,zm,zm,zm,zm,zm,zm,zm,zm,zm,zm,zm,zm,YP,YQ,YR,zm,zm,YS,zm,zm,zm,zm,zm,zm,zm,zm,zm,zm,zm,zm,zm,zm,zm,zm,zm,zm,zm,zm,zm,zm,zm,zm,zm,zm,zm,zm,zm,zm,zm,zm,Y4,Y6,zm,zm,zm,Zc,zm,Zf,zm,zm,zm,zm,zm,zm,zm,zm,zm,zm,zm,zm,zm,zm,zm,zm,zm,zm,zm,zm,zm,zm,zm,zm,zm,zm,zm,zm,zm,zm,Zu,zm,zm,zm,zm,zm,zm,ZE,zm,zm,zm,zm,zm,zm,zm,zm,zm,zm,zm,zm,zm,zm,zm,ZR,zm,zm,zm,zm,zm,zm,zm,zm,zm,zm,zm,zm,zm,zm,zm,zm,zm,zm,zm,zm,zm,zm,zm,zm,zm,zm,zm,zm,zm,zm,zm,zm,zm]
noncomputable def fpL:List (aw):=[zf,zf,zf,zf,zf,zf,zf,fp7,zf,zf,zf,zf,zf,V3,V4,V5,zf,zf,V6,zf,zf,zf,Ij,zf,zf,zf,zf,V7,V8,zf,zf,zf,zf,zf,V9,Wa,Wb,Wc,Wd,We,Wf,Wg,zf,zf,zf,zf,zf,Wh,Ik,zf,zf,zf,Wi,zf,Wj,Il,Wk,Im,zf,zf,zf,zf,zf,zf,zf,Wl,Wm,adJ,Wn,Wo,Wp,Wq,Wr,zf,zf,zf,zf,zf,zf,zf,zf,zf,zf,zf,zf,Ws,zf,zf,zf,Wt,adM,Wu,Pq,Io,adP,zf,zf,zf,zf,zf,zf,zf,zf,zf,zf,zf,zf,zf,Pr,Ps,Pt,Pu,zf,zf,zf,zf,zf,zf,zf,zf,zf,zf,zf,zf,zf,Pv,Pw,Px,Py,zf,zf,zf,zf,zf,zf,zf,zf,Yr,Pz,PA,Yt,Yu,PB,PC,PD,PE,PF,PG,PH,PI,PJ,PK,PN,PO,YC,YD,YE,YF,zf,zf,zf,zf,zf,zf,zf,zf,zf,PQ,zf,zf,zf,zf,zf,zf,zf,zf,zf,zf,zf,PT,PU,zf,zf,zf,zf,zf,zf,zf,zf,zf,zf,PV,PW,PX,PY,PZ,zf,zf,zf,YI,YJ,YK,P0,P1,P2,P3,P4,YN,P5,YO,P6,P7,P8,P9,Qa,Qb,Qc,YU,YV,YX,YY,Y0,Y1,Y2,Y3,zf,zf,zf,zf,zf,zf,zf,zf,Qd,zf,zf,zf,zf,zf,zf,zf,Qe,zf,Qf,Qg,Qi,Qj,Qk,Y5,Za,Ql,Qm,Qn,Zd,Ze,Zg,Qo,Qp,Qq,Zi,Zj,Zk,Zl,Zn,Zo,zf,zf,zf,zf,zf,zf,zf,zf,zf,zf,zf,Qr,Qs,Qt,Zq,Zs,Qu,Qv,zf,zf,Zt,Zv,Qw,Zw,Zy,Zz,ZA,ZD,ZH,ZJ,ZK,ZN,ZO,zf,zf,zf,zf,zf,zf,zf,zf,Qx,ZP,ZQ,ZS,ZT,ZV,zf,zf,ZW,ZY,ZZ,zf,Z1,zf,zf,zf,zf,zf,zf,zf,zf,zf,zf,zf,zf,zf,zf,zf,zf,zf,zf,zf,zf,zf,zf,zf,zf]
noncomputable def odL:List (Nat->List (List Nat)):=[zo,zo,zo,od3,od4,zo,zo,od7,od8,od9,zo,aoU,zo,zo,zo,adv,aoV,zo,zo,aoW,aoX,zo,adw,zo,zo,zo,aoY,zo,zo,zo,zo,zo,aoZ,ao0,zo,zo,zo,adC,zo,zo,zo,zo,zo,zo,ao1,zo,zo,adE,zo,ao2,ao3,zo,zo,zo,adF,adG,zo,adH,ao4,ao5,ao6,zo,zo,ao7,zo,zo,zo,zo,zo,zo,zo,zo,zo,ao8,ao9,apa,zo,zo,zo,zo,apb,zo,zo,apc,apd,zo,ape,zo,apf,zo,zo,zo,adN,adO,zo,zo,zo,apg,aph,zo,zo,ah6,ah7,zo,zo,zo,zo,zo,zo,Yk,zo,Yl,zo,ah8,zo,ah9,aia,zo,aib,zo,zo,aic,zo,zo,zo,Ym,Yo,Yq,zo,aid,aie,zo,zo,aif,zo,aih,aii,zo,zo,zo,zo,zo,zo,Yv,zo,zo,zo,zo,zo,Yy,zo,YA,zo,YB,zo,zo,zo,zo,zo,aij,zo,aik,zo,ail,aim,ain,zo,zo,zo,zo,zo,zo,aio,zo,zo,zo,zo,aip,zo,zo,zo,aiq,zo,zo,zo,air,zo,ais,zo,ait,aiu,zo,zo,zo,zo,YH,zo,zo,zo,zo,zo,zo,YL,zo,zo,zo,YM,zo,zo,zo,zo,zo,zo,zo,zo,YT,zo,zo,zo,YW,zo,YZ,zo,zo,zo,aiv,zo,zo,zo,zo,zo,aiw,zo,zo,aix,zo,aiy,zo,aiz,zo,aiA,zo,zo,zo,zo,zo,zo,zo,zo,zo,zo,Zb,zo,zo,zo,zo,zo,Zh,zo,zo,zo,zo,zo,Zm,zo,zo,zo,zo,zo,aiB,aiC,zo,aiD,aiE,zo,zo,zo,zo,zo,Zp,Zr,zo,zo,zo,zo,zo,zo,zo,zo,Zx,zo,zo,ZB,ZF,ZI,zo,ZL,zo,aiF,aiG,aiH,zo,aiI,zo,zo,zo,zo,zo,zo,zo,zo,ZU,zo,zo,zo,ZX,zo,zo,Z0,zo,zo,zo,zo,zo,zo,zo,zo,zo,zo,zo,zo,zo,zo,zo,zo,zo,zo,zo,zo,zo,zo,zo,zo]
noncomputable def flL:List (Nat->List (Nat×Nat)):=[zl,zl,zl,zl,zl,zl,zl,zl,zl,zl,zl,zl,zl,zl,zl,zl,zl,zl,zl,zl,zl,zl,zl,zl,zl,zl,zl,zl,zl,zl,zl,zl,zl,zl,zl,zl,zl,zl,zl,zl,zl,zl,zl,zl,zl,zl,zl,zl,zl,zl,zl,zl,zl,zl,zl,zl,zl,zl,zl,zl,zl,zl,zl,zl,zl,zl,zl,zl,zl,zl,zl,zl,zl,zl,zl,zl,zl,zl,zl,zl,zl,zl,zl,zl,zl,zl,zl,zl,zl,zl,zl,zl,zl,zl,zl,zl,zl,zl,zl,zl,zl,zl,zl,zl,zl,zl,zl,zl,zl,zl,zl,zl,zl,zl,zl,zl,zl,zl,zl,zl,zl,zl,zl,zl,zl,zl,zl,zl,zl,zl,zl,zl,zl,zl,zl,zl,zl,zl,zl,zl,zl,zl,zl,zl,zl,zl,zl,zl,zl,zl,zl,zl,zl,zl,zl,zl,zl,zl,zl,zl,zl,zl,zl,zl,zl,zl,zl,zl,zl,zl,zl,zl,zl,zl,zl,zl,zl,zl,zl,zl,zl,zl,zl,zl,zl,zl,zl,zl,zl,zl,zl,zl,zl,zl,zl,zl,zl,zl,zl,zl,zl,zl,zl,zl,zl,zl,zl,zl,zl,zl,zl,zl,zl,zl,zl,zl,zl,zl,zl,zl,zl,zl,zl,zl,zl,zl,zl,zl,zl,zl,zl,zl,zl,zl,zl,zl,zl,zl,zl,zl,zl,zl,zl,zl,zl,zl,zl,zl,zl,zl,zl,zl,zl,zl,zl,zl,zl,zl,zl,zl,zl,zl,zl,zl,zl,zl,zl,zl,zl,zl,zl,zl,zl,zl,zl,zl,zl,zl,zl,zl,zl,zl,zl,zl,zl,zl,zl,zl,zl,zl,zl,zl,zl,zl,zl,zl,zl,zl,zl,zl,zl,zl,zl,zl,zl,zl,zl,zl,zl,zl,zl,zl,zl,zl,zl,zl,zl,zl,zl,zl,zl,zl,zl,zl,zl,zl,zl,zl,zl,zl,zl,zl,zl,zl,zl,zl,zl,zl,zl,zl,zl,zl,zl]
def bB:Type:=Int
variable [Inhabited bB]
def Ej:List Int:=[0,0,0,0,0,0,0,0,0,1,1,1,1,1,0,0,0,0,0,0,0,0,0,0,0,0,0,0,0,0,0,0,1,0,0,0,0,0,0,0,0,0,0,0,0,0,0,0,0,0,0,0,0,0,0,0,0,0,0,0,0,0,0,0,0,0,0,0,0,0,0,0,0,0,0,0,0,0,0,0,0,0,0,0,0,0,0,0,0,0,0,0,0,0,0,0,0,0,0,0,0,0,0,0,0,0,0,0,0,0,0,0,0,0,0,0,0,0,0,0,0,0,0,0,0,0,0,0,0,0,0,0,0,0,0,0,0,0,0,0,0,0,0,0,0,0,0,0,0,0,0,0,0,0,0,0,0,0,0,0,0,0,0,0,0,0,0,0,0,0,0,0,0,0,0,0,0,0,0,0,0,0,0,0,0,0,0,0,0,0,0,0,0,0,0,0,0,0,0,0,0,0,0,0,0,0,0,0,0,0,0,0,0,0,0,0,0,0,0,0,0,0,0,0,0,0,0,0,0,0,0,0,0,0,0,0,0,0,0,0,0,0,0,0,0,0,0,0,0,0,0,0,0,0,0,0]
def aA:List (Nat×D):=[(0,.agg (Ej.map λz=>.int .u8 z)),(2,.int .i64 (id (α:=Int) (default:bB)))]
@[simp] theorem awX:EE aA 0=some (.agg (Ej.map λz=>.int .u8 z)):=rfl
def Wv:FuncId->Option (List AV->Option AV)
 |207=>some (na S9)
 |209=>some (na Ii)
 |254=>some (na S8)
 |_=>none
noncomputable def ctx:Ctx:=⟨Tryz.prog,aA,λf=>aiJ.getD f (λ_=>[]),λf=>ghL.getD f (λ_=>[]),λf=>mdL.getD f (λ_=>false),λf=>fpL.getD f ⟨[],false,[],[],false⟩,λf=>odL.getD f (λ_=>[]),Wv,λf=>flL.getD f (λ_=>[]),none⟩
@[simp] theorem awY:ctx.P=Tryz.prog:=rfl
@[simp] theorem avi:ctx.gl=aA:=rfl
@[simp] def bq(fn:Func):Code:=fn.body.getD .skip
abbrev EF(n:Nat)(k:Nat->List Nat)(g:Nat->List Gh)(m:Nat->Bool)(p:aw)(l:Nat->List (Nat×Nat))(o:Nat->List (List Nat)):Prop:=ctx.oW n=k/\ctx.gh n=g/\ctx.md n=m/\ctx.fp n=p/\ctx.fl n=l/\ctx.od n=o
abbrev RF(n c:Nat)(p:aw)(fn:Func)(rs:List ResultVar):Prop:=∀{args:List AV}{cs:List ax},iJ c p args cs=true->ah ctx n args cs=aK ctx n (bq fn) (entry c aA args cs p.sites) (uL Tryz.prog p cs.length rs)
@[simp] theorem E7:EF 7 Yj zg zm fp7 zl od7:=⟨rfl,rfl,rfl,rfl,rfl,rfl⟩
theorem api:RF 7 64 fp7 f7 [.tmp 8]:=ay rfl rfl Tryz.func7 rfl (by kernel_rfl) Tryz.ntmps7 (by rw[Tryz.results7]) rfl rfl
@[simp] theorem E13:EF 13 Tb zg zm V3 zl zo:=⟨rfl,rfl,rfl,rfl,rfl,rfl⟩
theorem aiK:RF 13 18 V3 f13 [.tmp 2]:=ay rfl rfl Tryz.func13 rfl (by kernel_rfl) Tryz.ntmps13 (by rw[Tryz.results13]) rfl rfl
@[simp] theorem E14:EF 14 Tc zg adu V4 zl zo:=⟨rfl,rfl,rfl,rfl,rfl,rfl⟩
theorem aiL:RF 14 129 V4 f14 [.tmp 2]:=ay rfl rfl Tryz.func14 rfl (by kernel_rfl) Tryz.ntmps14 (by rw[Tryz.results14]) rfl rfl
@[simp] theorem E15:EF 15 Td zg zm V5 zl adv:=⟨rfl,rfl,rfl,rfl,rfl,rfl⟩
theorem aiM:RF 15 58 V5 f15 [.cell 2 30]:=ay rfl rfl Tryz.func15 rfl (by kernel_rfl) Tryz.ntmps15 (by rw[Tryz.results15]) rfl rfl
@[simp] theorem E18:EF 18 Tf zg zm V6 zl zo:=⟨rfl,rfl,rfl,rfl,rfl,rfl⟩
theorem aiN:RF 18 24 V6 f18 [.tmp 4]:=ay rfl rfl Tryz.func18 rfl (by kernel_rfl) Tryz.ntmps18 (by rw[Tryz.results18]) rfl rfl
@[simp] theorem E22:EF 22 Tg adx zm Ij zl adw:=⟨rfl,rfl,rfl,rfl,rfl,rfl⟩
theorem Z2{args:List AV}{cs:List ax}(h:iJ 73 Ij args cs=true):ah ctx 22 args cs=iQ ctx 22 (bq f22) (entry 73 aA args cs Ij.sites) [] (Af ctx Ij cs.length [.cell 6 41]):=
 Fz rfl rfl Tryz.func22 rfl (by kernel_rfl) Tryz.ntmps22 (by rw[Tryz.results22]) rfl h
@[simp] theorem E27:EF 27 Th zg ady V7 zl zo:=⟨rfl,rfl,rfl,rfl,rfl,rfl⟩
theorem aiO:RF 27 34 V7 f27 [.tmp 0]:=ay rfl rfl Tryz.func27 rfl (by kernel_rfl) Tryz.ntmps27 (by rw[Tryz.results27]) rfl rfl
@[simp] theorem E28:EF 28 Ti zg adz V8 zl zo:=⟨rfl,rfl,rfl,rfl,rfl,rfl⟩
theorem Qy:RF 28 15 V8 f28 [.tmp 2]:=ay rfl rfl Tryz.func28 rfl (by kernel_rfl) Tryz.ntmps28 (by rw[Tryz.results28]) rfl rfl
@[simp] theorem E34:EF 34 Tj zg zm V9 zl zo:=⟨rfl,rfl,rfl,rfl,rfl,rfl⟩
theorem aiP:RF 34 21 V9 f34 [.tmp 4,.tmp 5]:=ay rfl rfl Tryz.func34 rfl (by kernel_rfl) Tryz.ntmps34 (by rw[Tryz.results34]) rfl rfl
@[simp] theorem E35:EF 35 Tk zg adA Wa zl zo:=⟨rfl,rfl,rfl,rfl,rfl,rfl⟩
theorem aiQ:RF 35 59 Wa f35 [.tmp 2]:=ay rfl rfl Tryz.func35 rfl (by kernel_rfl) Tryz.ntmps35 (by rw[Tryz.results35]) rfl rfl
@[simp] theorem E36:EF 36 Tl zg zm Wb zl zo:=⟨rfl,rfl,rfl,rfl,rfl,rfl⟩
theorem aiR:RF 36 24 Wb f36 [.tmp 2]:=ay rfl rfl Tryz.func36 rfl (by kernel_rfl) Tryz.ntmps36 (by rw[Tryz.results36]) rfl rfl
@[simp] theorem E37:EF 37 Tm zg adB Wc zl adC:=⟨rfl,rfl,rfl,rfl,rfl,rfl⟩
theorem aiS:RF 37 258 Wc f37 [.tmp 2]:=ay rfl rfl Tryz.func37 rfl (by kernel_rfl) Tryz.ntmps37 (by rw[Tryz.results37]) rfl rfl
@[simp] theorem E38:EF 38 Tn zg zm Wd zl zo:=⟨rfl,rfl,rfl,rfl,rfl,rfl⟩
theorem aiT:RF 38 25 Wd f38 [.cell 4 64,.tmp 5]:=ay rfl rfl Tryz.func38 rfl (by kernel_rfl) Tryz.ntmps38 (by rw[Tryz.results38]) rfl rfl
@[simp] theorem E39:EF 39 To zg zm We zl zo:=⟨rfl,rfl,rfl,rfl,rfl,rfl⟩
theorem aiU:RF 39 18 We f39 [.tmp 2]:=ay rfl rfl Tryz.func39 rfl (by kernel_rfl) Tryz.ntmps39 (by rw[Tryz.results39]) rfl rfl
@[simp] theorem E40:EF 40 Tp zg zm Wf zl zo:=⟨rfl,rfl,rfl,rfl,rfl,rfl⟩
theorem aiV:RF 40 27 Wf f40 [.cell 6 30]:=ay rfl rfl Tryz.func40 rfl (by kernel_rfl) Tryz.ntmps40 (by rw[Tryz.results40]) rfl rfl
@[simp] theorem E41:EF 41 Tq adD zm Wg zl zo:=⟨rfl,rfl,rfl,rfl,rfl,rfl⟩
theorem aiW:RF 41 51 Wg f41 [.cell 2 72]:=ay rfl rfl Tryz.func41 rfl (by kernel_rfl) Tryz.ntmps41 (by rw[Tryz.results41]) rfl rfl
@[simp] theorem E47:EF 47 Ts zg zm Wh zl adE:=⟨rfl,rfl,rfl,rfl,rfl,rfl⟩
theorem aiX:RF 47 26 Wh f47 [.tmp 4]:=ay rfl rfl Tryz.func47 rfl (by kernel_rfl) Tryz.ntmps47 (by rw[Tryz.results47]) rfl rfl
@[simp] theorem E48:EF 48 Tt zg zm Ik zl zo:=⟨rfl,rfl,rfl,rfl,rfl,rfl⟩
theorem aiY{args:List AV}{cs:List ax}(h:iJ 8 Ik args cs=true):ah ctx 48 args cs=fX (λargs=>aK ctx 48 (bq f48) (entry 8 aA args cs Ik.sites) (uL Tryz.prog Ik cs.length [.tmp 2])) args true:=
 Ec rfl rfl Tryz.func48 rfl (by kernel_rfl) Tryz.ntmps48 (by rw[Tryz.results48]) rfl rfl h
@[simp] theorem E52:EF 52 Tu zg zm Wi zl zo:=⟨rfl,rfl,rfl,rfl,rfl,rfl⟩
theorem aiZ:RF 52 77 Wi f52 [.tmp 2]:=ay rfl rfl Tryz.func52 rfl (by kernel_rfl) Tryz.ntmps52 (by rw[Tryz.results52]) rfl rfl
@[simp] theorem E54:EF 54 Tv zg zm Wj zl adF:=⟨rfl,rfl,rfl,rfl,rfl,rfl⟩
theorem Z3:RF 54 30 Wj f54 [.tmp 2]:=ay rfl rfl Tryz.func54 rfl (by kernel_rfl) Tryz.ntmps54 (by rw[Tryz.results54]) rfl rfl
@[simp] theorem E55:EF 55 Tw zg zm Il zl adG:=⟨rfl,rfl,rfl,rfl,rfl,rfl⟩
theorem Z4{args A:List AV}{E:AV}{cs:List ax}(H:args.getLast?=some E)(I:args.dropLast=A)(h:iJ 27 Il A cs=true):wV ctx 55 args cs=rH ctx 55 E (bq f55) (entry 27 aA A cs Il.sites) (C7 Tryz.prog Il cs.length []):=
 KI Tryz.func55 rfl Tryz.ntmps55 (by rw[Tryz.results55]) rfl H I h
@[simp] theorem E56:EF 56 Ty zg zm Wk zl zo:=⟨rfl,rfl,rfl,rfl,rfl,rfl⟩
theorem ai0:RF 56 21 Wk f56 [.tmp 4]:=ay rfl rfl Tryz.func56 rfl (by kernel_rfl) Tryz.ntmps56 (by rw[Tryz.results56]) rfl rfl
@[simp] theorem E57:EF 57 Tz adI zm Im zl adH:=⟨rfl,rfl,rfl,rfl,rfl,rfl⟩
theorem ai1{args:List AV}{cs:List ax}(h:iJ 25 Im args cs=true):ah ctx 57 args cs=iQ ctx 57 (bq f57) (entry 25 aA args cs Im.sites) [] (Af ctx Im cs.length [.cell 2 25,.cell 3 35,.cell 4 55]):=
 Fz rfl rfl Tryz.func57 rfl (by kernel_rfl) Tryz.ntmps57 (by rw[Tryz.results57]) rfl h
@[simp] theorem E65:EF 65 TB zg zm Wl zl zo:=⟨rfl,rfl,rfl,rfl,rfl,rfl⟩
theorem ai2:RF 65 136 Wl f65 [.tmp 4,.tmp 5]:=ay rfl rfl Tryz.func65 rfl (by kernel_rfl) Tryz.ntmps65 (by rw[Tryz.results65]) rfl rfl
@[simp] theorem E66:EF 66 TC zg zm Wm zl zo:=⟨rfl,rfl,rfl,rfl,rfl,rfl⟩
theorem ai3:RF 66 15 Wm f66 [.tmp 2]:=ay rfl rfl Tryz.func66 rfl (by kernel_rfl) Tryz.ntmps66 (by rw[Tryz.results66]) rfl rfl
@[simp] theorem E67:EF 67 TD zg zm adJ zl zo:=⟨rfl,rfl,rfl,rfl,rfl,rfl⟩
@[simp] theorem E68:EF 68 TE zg zm Wn zl zo:=⟨rfl,rfl,rfl,rfl,rfl,rfl⟩
theorem ai4:RF 68 27 Wn f68 [.tmp 2,.tmp 3,.tmp 4]:=ay rfl rfl Tryz.func68 rfl (by kernel_rfl) Tryz.ntmps68 (by rw[Tryz.results68]) rfl rfl
@[simp] theorem E69:EF 69 TF zg adK Wo zl zo:=⟨rfl,rfl,rfl,rfl,rfl,rfl⟩
theorem ai5:RF 69 126 Wo f69 [.tmp 2]:=ay rfl rfl Tryz.func69 rfl (by kernel_rfl) Tryz.ntmps69 (by rw[Tryz.results69]) rfl rfl
@[simp] theorem E70:EF 70 TG zg zm Wp zl zo:=⟨rfl,rfl,rfl,rfl,rfl,rfl⟩
theorem ai6:RF 70 25 Wp f70 [.tmp 2]:=ay rfl rfl Tryz.func70 rfl (by kernel_rfl) Tryz.ntmps70 (by rw[Tryz.results70]) rfl rfl
@[simp] theorem E71:EF 71 TH zg zm Wq zl zo:=⟨rfl,rfl,rfl,rfl,rfl,rfl⟩
theorem ma:RF 71 242 Wq f71 [.cell 6 30]:=ay rfl rfl Tryz.func71 rfl (by kernel_rfl) Tryz.ntmps71 (by rw[Tryz.results71]) rfl rfl
@[simp] theorem E72:EF 72 TI zg zm Wr zl zo:=⟨rfl,rfl,rfl,rfl,rfl,rfl⟩
theorem ai7:RF 72 20 Wr f72 [.tmp 2]:=ay rfl rfl Tryz.func72 rfl (by kernel_rfl) Tryz.ntmps72 (by rw[Tryz.results72]) rfl rfl
@[simp] theorem E85:EF 85 TJ zg adL Ws zl zo:=⟨rfl,rfl,rfl,rfl,rfl,rfl⟩
theorem ai8:RF 85 116 Ws f85 [.tmp 4]:=ay rfl rfl Tryz.func85 rfl (by kernel_rfl) Tryz.ntmps85 (by rw[Tryz.results85]) rfl rfl
@[simp] theorem E89:EF 89 TL zg zm Wt zl zo:=⟨rfl,rfl,rfl,rfl,rfl,rfl⟩
theorem Z5:RF 89 17 Wt f89 [.cell 2 153,.tmp 3]:=ay rfl rfl Tryz.func89 rfl (by kernel_rfl) Tryz.ntmps89 (by rw[Tryz.results89]) rfl rfl
@[simp] theorem E90:EF 90 TM zg zm adM zl zo:=⟨rfl,rfl,rfl,rfl,rfl,rfl⟩
@[simp] theorem E91:EF 91 TN zg zm Wu zl zo:=⟨rfl,rfl,rfl,rfl,rfl,rfl⟩
theorem xh:RF 91 46 Wu f91 [.tmp 4]:=ay rfl rfl Tryz.func91 rfl (by kernel_rfl) Tryz.ntmps91 (by rw[Tryz.results91]) rfl rfl
@[simp] theorem E92:EF 92 TO zg zm Pq zl adN:=⟨rfl,rfl,rfl,rfl,rfl,rfl⟩
theorem ai9:RF 92 62 Pq f92 [.tmp 2,.tmp 3,.cell 4 55]:=ay rfl rfl Tryz.func92 rfl (by kernel_rfl) Tryz.ntmps92 (by rw[Tryz.results92]) rfl rfl
@[simp] theorem E93:EF 93 TP zg zm Io zl adO:=⟨rfl,rfl,rfl,rfl,rfl,rfl⟩
theorem aja{args A:List AV}{E:AV}{cs:List ax}(H:args.getLast?=some E)(I:args.dropLast=A)(h:iJ 22 Io A cs=true):wV ctx 93 args cs=rH ctx 93 E (bq f93) (entry 22 aA A cs Io.sites) (C7 Tryz.prog Io cs.length []):=
 KI Tryz.func93 rfl Tryz.ntmps93 (by rw[Tryz.results93]) rfl H I h
@[simp] theorem E94:EF 94 TQ zg zm adP zl zo:=⟨rfl,rfl,rfl,rfl,rfl,rfl⟩
@[simp] theorem axs:EF 108 KN zg zm Pr zl zo:=⟨rfl,rfl,rfl,rfl,rfl,rfl⟩
theorem adQ:RF 108 44 Pr f108 [.tmp 4,.tmp 5]:=ay rfl rfl Tryz.func108 rfl (by kernel_rfl) Tryz.ntmps108 (by rw[Tryz.results108]) rfl rfl
@[simp] theorem axt:EF 109 KO zg zm Ps zl Yk:=⟨rfl,rfl,rfl,rfl,rfl,rfl⟩
theorem dR:RF 109 155 Ps f109 [.tmp 4,.cell 5 30]:=ay rfl rfl Tryz.func109 rfl (by kernel_rfl) Tryz.ntmps109 (by rw[Tryz.results109]) rfl rfl
@[simp] theorem axu:EF 110 KP zg zm Pt zl zo:=⟨rfl,rfl,rfl,rfl,rfl,rfl⟩
theorem adR:RF 110 27 Pt f110 [.cell 6 30]:=ay rfl rfl Tryz.func110 rfl (by kernel_rfl) Tryz.ntmps110 (by rw[Tryz.results110]) rfl rfl
@[simp] theorem axv:EF 111 KQ zg zm Pu zl Yl:=⟨rfl,rfl,rfl,rfl,rfl,rfl⟩
theorem adS:RF 111 91 Pu f111 [.cell 4 30]:=ay rfl rfl Tryz.func111 rfl (by kernel_rfl) Tryz.ntmps111 (by rw[Tryz.results111]) rfl rfl
@[simp] theorem axw:EF 125 KR zg zm Pv zl Ym:=⟨rfl,rfl,rfl,rfl,rfl,rfl⟩
theorem TR:RF 125 93 Pv f125 [.tmp 6,.tmp 7,.tmp 8]:=ay rfl rfl Tryz.func125 rfl (by kernel_rfl) Tryz.ntmps125 (by rw[Tryz.results125]) rfl rfl
@[simp] theorem axx:EF 126 KT zg Yn Pw zl Yo:=⟨rfl,rfl,rfl,rfl,rfl,rfl⟩
theorem TS:RF 126 105 Pw f126 []:=ay rfl rfl Tryz.func126 rfl (by kernel_rfl) Tryz.ntmps126 (by rw[Tryz.results126]) rfl rfl
@[simp] theorem axy:EF 127 KU zg Yp Px zl Yq:=⟨rfl,rfl,rfl,rfl,rfl,rfl⟩
theorem adT:RF 127 80 Px f127 []:=ay rfl rfl Tryz.func127 rfl (by kernel_rfl) Tryz.ntmps127 (by rw[Tryz.results127]) rfl rfl
@[simp] theorem axz:EF 128 KW zg zm Py zl zo:=⟨rfl,rfl,rfl,rfl,rfl,rfl⟩
theorem adU:RF 128 4 Py f128 [.tmp 2]:=ay rfl rfl Tryz.func128 rfl (by kernel_rfl) Tryz.ntmps128 (by rw[Tryz.results128]) rfl rfl
@[simp] theorem axA:EF 137 KX zg zm Yr zl zo:=⟨rfl,rfl,rfl,rfl,rfl,rfl⟩
@[simp] theorem axB:EF 138 KY zg zm Pz zl zo:=⟨rfl,rfl,rfl,rfl,rfl,rfl⟩
theorem TU:RF 138 19 Pz f138 [.tmp 4]:=ay rfl rfl Tryz.func138 rfl (by kernel_rfl) Tryz.ntmps138 (by rw[Tryz.results138]) rfl rfl
@[simp] theorem axC:EF 139 KZ zg zm PA zl zo:=⟨rfl,rfl,rfl,rfl,rfl,rfl⟩
theorem TV:RF 139 8 PA f139 [.tmp 3]:=ay rfl rfl Tryz.func139 rfl (by kernel_rfl) Tryz.ntmps139 (by rw[Tryz.results139]) rfl rfl
@[simp] theorem axD:EF 140 K0 zg Ys Yt zl zo:=⟨rfl,rfl,rfl,rfl,rfl,rfl⟩
@[simp] theorem axE:EF 141 K1 zg zm Yu zl zo:=⟨rfl,rfl,rfl,rfl,rfl,rfl⟩
@[simp] theorem axF:EF 142 K2 zg zm PB zl zo:=⟨rfl,rfl,rfl,rfl,rfl,rfl⟩
theorem adV:RF 142 16 PB f142 []:=ay rfl rfl Tryz.func142 rfl (by kernel_rfl) Tryz.ntmps142 (by rw[Tryz.results142]) rfl rfl
@[simp] theorem axG:EF 143 K3 zg zm PC zl Yv:=⟨rfl,rfl,rfl,rfl,rfl,rfl⟩
theorem TW:RF 143 51 PC f143 []:=ay rfl rfl Tryz.func143 rfl (by kernel_rfl) Tryz.ntmps143 (by rw[Tryz.results143]) rfl rfl
@[simp] theorem axH:EF 144 K4 zg zm PD zl zo:=⟨rfl,rfl,rfl,rfl,rfl,rfl⟩
theorem adW:RF 144 33 PD f144 [.tmp 4]:=ay rfl rfl Tryz.func144 rfl (by kernel_rfl) Tryz.ntmps144 (by rw[Tryz.results144]) rfl rfl
@[simp] theorem axI:EF 145 K5 zg Yw PE zl zo:=⟨rfl,rfl,rfl,rfl,rfl,rfl⟩
theorem adX:RF 145 57 PE f145 [.tmp 4]:=ay rfl rfl Tryz.func145 rfl (by kernel_rfl) Tryz.ntmps145 (by rw[Tryz.results145]) rfl rfl
@[simp] theorem axJ:EF 146 K6 zg zm PF zl zo:=⟨rfl,rfl,rfl,rfl,rfl,rfl⟩
theorem adY:RF 146 6 PF f146 [.tmp 2]:=ay rfl rfl Tryz.func146 rfl (by kernel_rfl) Tryz.ntmps146 (by rw[Tryz.results146]) rfl rfl
@[simp] theorem axK:EF 147 K7 zg Yx PG zl zo:=⟨rfl,rfl,rfl,rfl,rfl,rfl⟩
theorem adZ:RF 147 111 PG f147 [.tmp 4]:=ay rfl rfl Tryz.func147 rfl (by kernel_rfl) Tryz.ntmps147 (by rw[Tryz.results147]) rfl rfl
@[simp] theorem axL:EF 148 K8 zg zm PH zl zo:=⟨rfl,rfl,rfl,rfl,rfl,rfl⟩
theorem ad0:RF 148 35 PH f148 [.tmp 4]:=ay rfl rfl Tryz.func148 rfl (by kernel_rfl) Tryz.ntmps148 (by rw[Tryz.results148]) rfl rfl
@[simp] theorem axM:EF 149 K9 zg zm PI zl Yy:=⟨rfl,rfl,rfl,rfl,rfl,rfl⟩
theorem ad1:RF 149 71 PI f149 []:=ay rfl rfl Tryz.func149 rfl (by kernel_rfl) Tryz.ntmps149 (by rw[Tryz.results149]) rfl rfl
@[simp] theorem axN:EF 150 La zg Yz PJ zl zo:=⟨rfl,rfl,rfl,rfl,rfl,rfl⟩
theorem ad2:RF 150 51 PJ f150 [.tmp 2]:=ay rfl rfl Tryz.func150 rfl (by kernel_rfl) Tryz.ntmps150 (by rw[Tryz.results150]) rfl rfl
@[simp] theorem axO:EF 151 Lc zg zm PK zl YA:=⟨rfl,rfl,rfl,rfl,rfl,rfl⟩
theorem ad3:RF 151 12 PK f151 [.tmp 2]:=ay rfl rfl Tryz.func151 rfl (by kernel_rfl) Tryz.ntmps151 (by rw[Tryz.results151]) rfl rfl
@[simp] theorem axP:EF 152 Ld zg zm PN zl zo:=⟨rfl,rfl,rfl,rfl,rfl,rfl⟩
theorem ad4:RF 152 54 PN f152 [.cell 4 55,.tmp 5]:=ay rfl rfl Tryz.func152 rfl (by kernel_rfl) Tryz.ntmps152 (by rw[Tryz.results152]) rfl rfl
@[simp] theorem axQ:EF 153 Lf zg zm PO zl YB:=⟨rfl,rfl,rfl,rfl,rfl,rfl⟩
theorem ad5:RF 153 42 PO f153 []:=ay rfl rfl Tryz.func153 rfl (by kernel_rfl) Tryz.ntmps153 (by rw[Tryz.results153]) rfl rfl
@[simp] theorem axR:EF 154 Lg zg zm YC zl zo:=⟨rfl,rfl,rfl,rfl,rfl,rfl⟩
@[simp] theorem axS:EF 155 Lh zg zm YD zl zo:=⟨rfl,rfl,rfl,rfl,rfl,rfl⟩
@[simp] theorem axT:EF 156 Li zg zm YE zl zo:=⟨rfl,rfl,rfl,rfl,rfl,rfl⟩
@[simp] theorem axU:EF 157 Lj zg zm YF zl zo:=⟨rfl,rfl,rfl,rfl,rfl,rfl⟩
@[simp] theorem axV:EF 167 Lk zg zm PQ zl zo:=⟨rfl,rfl,rfl,rfl,rfl,rfl⟩
theorem ad6:RF 167 4 PQ f167 [.tmp 2]:=ay rfl rfl Tryz.func167 rfl (by kernel_rfl) Tryz.ntmps167 (by rw[Tryz.results167]) rfl rfl
@[simp] theorem axW:EF 179 Ll zg YG PT zl zo:=⟨rfl,rfl,rfl,rfl,rfl,rfl⟩
theorem ad7:RF 179 32 PT f179 [.cell 4 150,.tmp 5]:=ay rfl rfl Tryz.func179 rfl (by kernel_rfl) Tryz.ntmps179 (by rw[Tryz.results179]) rfl rfl
@[simp] theorem axX:EF 180 Lm zg zm PU zl zo:=⟨rfl,rfl,rfl,rfl,rfl,rfl⟩
theorem ad8:RF 180 24 PU f180 [.cell 4 30]:=ay rfl rfl Tryz.func180 rfl (by kernel_rfl) Tryz.ntmps180 (by rw[Tryz.results180]) rfl rfl
@[simp] theorem axY:EF 191 Ln zg zm PV zl zo:=⟨rfl,rfl,rfl,rfl,rfl,rfl⟩
theorem ad9:RF 191 34 PV f191 [.tmp 6,.tmp 7,.tmp 8]:=ay rfl rfl Tryz.func191 rfl (by kernel_rfl) Tryz.ntmps191 (by rw[Tryz.results191]) rfl rfl
@[simp] theorem axZ:EF 192 Lo zg zm PW zl zo:=⟨rfl,rfl,rfl,rfl,rfl,rfl⟩
theorem aea:RF 192 33 PW f192 [.tmp 6,.tmp 7,.tmp 8]:=ay rfl rfl Tryz.func192 rfl (by kernel_rfl) Tryz.ntmps192 (by rw[Tryz.results192]) rfl rfl
@[simp] theorem ax0:EF 193 Lp zg zm PX zl zo:=⟨rfl,rfl,rfl,rfl,rfl,rfl⟩
theorem aeb:RF 193 64 PX f193 [.tmp 6,.tmp 7,.tmp 8]:=ay rfl rfl Tryz.func193 rfl (by kernel_rfl) Tryz.ntmps193 (by rw[Tryz.results193]) rfl rfl
@[simp] theorem ax1:EF 194 Lq zg zm PY zl zo:=⟨rfl,rfl,rfl,rfl,rfl,rfl⟩
theorem aec:RF 194 43 PY f194 [.tmp 6,.tmp 7,.tmp 8]:=ay rfl rfl Tryz.func194 rfl (by kernel_rfl) Tryz.ntmps194 (by rw[Tryz.results194]) rfl rfl
@[simp] theorem ax2:EF 195 Lr zg zm PZ zl YH:=⟨rfl,rfl,rfl,rfl,rfl,rfl⟩
theorem TX:RF 195 13 PZ f195 []:=ay rfl rfl Tryz.func195 rfl (by kernel_rfl) Tryz.ntmps195 (by rw[Tryz.results195]) rfl rfl
@[simp] theorem ax3:EF 199 Ls zg zm YI zl zo:=⟨rfl,rfl,rfl,rfl,rfl,rfl⟩
@[simp] theorem ax4:EF 200 Lt zg zm YJ zl zo:=⟨rfl,rfl,rfl,rfl,rfl,rfl⟩
@[simp] theorem ax5:EF 201 Lu zg zm YK zl zo:=⟨rfl,rfl,rfl,rfl,rfl,rfl⟩
@[simp] theorem ax6:EF 202 Lv zg zm P0 zl YL:=⟨rfl,rfl,rfl,rfl,rfl,rfl⟩
theorem aed:RF 202 25 P0 f202 [.tmp 4,.cell 5 64]:=ay rfl rfl Tryz.func202 rfl (by kernel_rfl) Tryz.ntmps202 (by rw[Tryz.results202]) rfl rfl
@[simp] theorem ax7:EF 203 Lw zg zm P1 zl zo:=⟨rfl,rfl,rfl,rfl,rfl,rfl⟩
theorem aee:RF 203 14 P1 f203 [.tmp 4]:=ay rfl rfl Tryz.func203 rfl (by kernel_rfl) Tryz.ntmps203 (by rw[Tryz.results203]) rfl rfl
@[simp] theorem ax8:EF 204 LA zg zm P2 zl zo:=⟨rfl,rfl,rfl,rfl,rfl,rfl⟩
theorem aef:RF 204 25 P2 f204 [.tmp 6]:=ay rfl rfl Tryz.func204 rfl (by kernel_rfl) Tryz.ntmps204 (by rw[Tryz.results204]) rfl rfl
@[simp] theorem ax9:EF 205 LC zg zm P3 zl zo:=⟨rfl,rfl,rfl,rfl,rfl,rfl⟩
theorem aeg:RF 205 19 P3 f205 [.tmp 6]:=ay rfl rfl Tryz.func205 rfl (by kernel_rfl) Tryz.ntmps205 (by rw[Tryz.results205]) rfl rfl
@[simp] theorem aya:EF 206 LD zg zm P4 zl YM:=⟨rfl,rfl,rfl,rfl,rfl,rfl⟩
theorem aeh:RF 206 41 P4 f206 [.tmp 6,.cell 7 150]:=ay rfl rfl Tryz.func206 rfl (by kernel_rfl) Tryz.ntmps206 (by rw[Tryz.results206]) rfl rfl
@[simp] theorem ayb:EF 207 LF zg zm YN zl zo:=⟨rfl,rfl,rfl,rfl,rfl,rfl⟩
@[simp] theorem ajb{args:List AV}{cs:List ax}:ah ctx 207 args cs=lK (na S9) args cs:=za rfl rfl
@[simp] theorem ayc:EF 208 LG zg zm P5 zl zo:=⟨rfl,rfl,rfl,rfl,rfl,rfl⟩
theorem aei:RF 208 8 P5 f208 [.tmp 4]:=ay rfl rfl Tryz.func208 rfl (by kernel_rfl) Tryz.ntmps208 (by rw[Tryz.results208]) rfl rfl
@[simp] theorem ayd:EF 209 LH zg zm YO zl zo:=⟨rfl,rfl,rfl,rfl,rfl,rfl⟩
@[simp] theorem ajc{args:List AV}{cs:List ax}:ah ctx 209 args cs=lK (na Ii) args cs:=za rfl rfl
@[simp] theorem aye:EF 210 LJ zg YP P6 zl zo:=⟨rfl,rfl,rfl,rfl,rfl,rfl⟩
theorem aej:RF 210 17 P6 f210 [.tmp 2]:=ay rfl rfl Tryz.func210 rfl (by kernel_rfl) Tryz.ntmps210 (by rw[Tryz.results210]) rfl rfl
@[simp] theorem ayf:EF 211 LL zg YQ P7 zl zo:=⟨rfl,rfl,rfl,rfl,rfl,rfl⟩
theorem TY:RF 211 20 P7 f211 [.tmp 4]:=ay rfl rfl Tryz.func211 rfl (by kernel_rfl) Tryz.ntmps211 (by rw[Tryz.results211]) rfl rfl
@[simp] theorem ayg:EF 212 LM zg YR P8 zl zo:=⟨rfl,rfl,rfl,rfl,rfl,rfl⟩
theorem aek:RF 212 13 P8 f212 [.tmp 2]:=ay rfl rfl Tryz.func212 rfl (by kernel_rfl) Tryz.ntmps212 (by rw[Tryz.results212]) rfl rfl
@[simp] theorem ayh:EF 213 LO zg zm P9 zl zo:=⟨rfl,rfl,rfl,rfl,rfl,rfl⟩
theorem ael:RF 213 6 P9 f213 [.tmp 2]:=ay rfl rfl Tryz.func213 rfl (by kernel_rfl) Tryz.ntmps213 (by rw[Tryz.results213]) rfl rfl
@[simp] theorem ayi:EF 214 LP zg zm Qa zl zo:=⟨rfl,rfl,rfl,rfl,rfl,rfl⟩
theorem aem:RF 214 9 Qa f214 [.tmp 2]:=ay rfl rfl Tryz.func214 rfl (by kernel_rfl) Tryz.ntmps214 (by rw[Tryz.results214]) rfl rfl
@[simp] theorem ayj:EF 215 LQ zg YS Qb zl YT:=⟨rfl,rfl,rfl,rfl,rfl,rfl⟩
theorem aen:RF 215 83 Qb f215 [.tmp 2,.tmp 3,.tmp 4]:=ay rfl rfl Tryz.func215 rfl (by kernel_rfl) Tryz.ntmps215 (by rw[Tryz.results215]) rfl rfl
@[simp] theorem ayk:EF 216 LR zg zm Qc zl zo:=⟨rfl,rfl,rfl,rfl,rfl,rfl⟩
theorem aeo:RF 216 19 Qc f216 [.tmp 2]:=ay rfl rfl Tryz.func216 rfl (by kernel_rfl) Tryz.ntmps216 (by rw[Tryz.results216]) rfl rfl
@[simp] theorem ayl:EF 217 LS zg zm YU zl zo:=⟨rfl,rfl,rfl,rfl,rfl,rfl⟩
@[simp] theorem aym:EF 218 LU zg zm YV zl zo:=⟨rfl,rfl,rfl,rfl,rfl,rfl⟩
@[simp] theorem ayn:EF 219 LV zg zm YX zl YW:=⟨rfl,rfl,rfl,rfl,rfl,rfl⟩
@[simp] theorem ayo:EF 220 LW zg zm YY zl zo:=⟨rfl,rfl,rfl,rfl,rfl,rfl⟩
@[simp] theorem ayp:EF 221 LX zg zm Y0 zl YZ:=⟨rfl,rfl,rfl,rfl,rfl,rfl⟩
@[simp] theorem ayq:EF 222 LY zg zm Y1 zl zo:=⟨rfl,rfl,rfl,rfl,rfl,rfl⟩
@[simp] theorem ayr:EF 223 LZ zg zm Y2 zl zo:=⟨rfl,rfl,rfl,rfl,rfl,rfl⟩
@[simp] theorem ays:EF 224 L3 zg zm Y3 zl zo:=⟨rfl,rfl,rfl,rfl,rfl,rfl⟩
@[simp] theorem ayt:EF 233 L4 zg zm Qd zl zo:=⟨rfl,rfl,rfl,rfl,rfl,rfl⟩
theorem aep:RF 233 19 Qd f233 [.tmp 4]:=ay rfl rfl Tryz.func233 rfl (by kernel_rfl) Tryz.ntmps233 (by rw[Tryz.results233]) rfl rfl
@[simp] theorem ayu:EF 241 L5 zg zm Qe zl zo:=⟨rfl,rfl,rfl,rfl,rfl,rfl⟩
theorem aeq:RF 241 19 Qe f241 [.tmp 4]:=ay rfl rfl Tryz.func241 rfl (by kernel_rfl) Tryz.ntmps241 (by rw[Tryz.results241]) rfl rfl
@[simp] theorem ayv:EF 243 L6 zg zm Qf zl zo:=⟨rfl,rfl,rfl,rfl,rfl,rfl⟩
theorem aer:RF 243 23 Qf f243 [.tmp 4,.tmp 5]:=ay rfl rfl Tryz.func243 rfl (by kernel_rfl) Tryz.ntmps243 (by rw[Tryz.results243]) rfl rfl
@[simp] theorem ayw:EF 244 L7 zg zm Qg zl zo:=⟨rfl,rfl,rfl,rfl,rfl,rfl⟩
theorem aes:RF 244 23 Qg f244 [.tmp 4,.tmp 5]:=ay rfl rfl Tryz.func244 rfl (by kernel_rfl) Tryz.ntmps244 (by rw[Tryz.results244]) rfl rfl
@[simp] theorem ayx:EF 245 L8 zg zm Qi zl zo:=⟨rfl,rfl,rfl,rfl,rfl,rfl⟩
theorem aet:RF 245 27 Qi f245 [.tmp 4,.tmp 5]:=ay rfl rfl Tryz.func245 rfl (by kernel_rfl) Tryz.ntmps245 (by rw[Tryz.results245]) rfl rfl
@[simp] theorem ayy:EF 246 L9 zg zm Qj zl zo:=⟨rfl,rfl,rfl,rfl,rfl,rfl⟩
theorem aeu:RF 246 19 Qj f246 [.tmp 4,.tmp 5]:=ay rfl rfl Tryz.func246 rfl (by kernel_rfl) Tryz.ntmps246 (by rw[Tryz.results246]) rfl rfl
@[simp] theorem ayz:EF 247 Ma zg zm Qk zl zo:=⟨rfl,rfl,rfl,rfl,rfl,rfl⟩
theorem aev:RF 247 14 Qk f247 [.tmp 4,.tmp 5]:=ay rfl rfl Tryz.func247 rfl (by kernel_rfl) Tryz.ntmps247 (by rw[Tryz.results247]) rfl rfl
@[simp] theorem ayA:EF 248 Mb zg Y4 Y5 zl zo:=⟨rfl,rfl,rfl,rfl,rfl,rfl⟩
@[simp] theorem ayB:EF 249 Md zg Y6 Za zl zo:=⟨rfl,rfl,rfl,rfl,rfl,rfl⟩
@[simp] theorem ayC:EF 250 Me zg zm Ql zl zo:=⟨rfl,rfl,rfl,rfl,rfl,rfl⟩
theorem aew:RF 250 12 Ql f250 [.tmp 4]:=ay rfl rfl Tryz.func250 rfl (by kernel_rfl) Tryz.ntmps250 (by rw[Tryz.results250]) rfl rfl
@[simp] theorem ayD:EF 251 Mf zg zm Qm zl Zb:=⟨rfl,rfl,rfl,rfl,rfl,rfl⟩
theorem sX:RF 251 133 Qm f251 [.tmp 4,.tmp 5]:=ay rfl rfl Tryz.func251 rfl (by kernel_rfl) Tryz.ntmps251 (by rw[Tryz.results251]) rfl rfl
@[simp] theorem ayE:EF 252 Mg zg zm Qn zl zo:=⟨rfl,rfl,rfl,rfl,rfl,rfl⟩
theorem aex:RF 252 8 Qn f252 [.tmp 3]:=ay rfl rfl Tryz.func252 rfl (by kernel_rfl) Tryz.ntmps252 (by rw[Tryz.results252]) rfl rfl
@[simp] theorem ayF:EF 253 Mh zg Zc Zd zl zo:=⟨rfl,rfl,rfl,rfl,rfl,rfl⟩
@[simp] theorem ayG:EF 254 Mi zg zm Ze zl zo:=⟨rfl,rfl,rfl,rfl,rfl,rfl⟩
@[simp] theorem ajd{args:List AV}{cs:List ax}:ah ctx 254 args cs=lK (na S8) args cs:=za rfl rfl
@[simp] theorem ayH:EF 255 Mj zg Zf Zg zl zo:=⟨rfl,rfl,rfl,rfl,rfl,rfl⟩
@[simp] theorem ayI:EF 256 Ml zg zm Qo zl zo:=⟨rfl,rfl,rfl,rfl,rfl,rfl⟩
theorem aey:RF 256 9 Qo f256 [.tmp 4]:=ay rfl rfl Tryz.func256 rfl (by kernel_rfl) Tryz.ntmps256 (by rw[Tryz.results256]) rfl rfl
@[simp] theorem ayJ:EF 257 Mm zg zm Qp zl Zh:=⟨rfl,rfl,rfl,rfl,rfl,rfl⟩
theorem aez:RF 257 8 Qp f257 [.tmp 3]:=ay rfl rfl Tryz.func257 rfl (by kernel_rfl) Tryz.ntmps257 (by rw[Tryz.results257]) rfl rfl
@[simp] theorem ayK:EF 258 Mn zg zm Qq zl zo:=⟨rfl,rfl,rfl,rfl,rfl,rfl⟩
theorem aeA:RF 258 20 Qq f258 [.tmp 2]:=ay rfl rfl Tryz.func258 rfl (by kernel_rfl) Tryz.ntmps258 (by rw[Tryz.results258]) rfl rfl
@[simp] theorem ayL:EF 259 Mp zg zm Zi zl zo:=⟨rfl,rfl,rfl,rfl,rfl,rfl⟩
@[simp] theorem ayM:EF 260 Mq zg zm Zj zl zo:=⟨rfl,rfl,rfl,rfl,rfl,rfl⟩
@[simp] theorem ayN:EF 261 Mr zg zm Zk zl zo:=⟨rfl,rfl,rfl,rfl,rfl,rfl⟩
@[simp] theorem ayO:EF 262 Mt zg zm Zl zl zo:=⟨rfl,rfl,rfl,rfl,rfl,rfl⟩
@[simp] theorem ayP:EF 263 Mu zg zm Zn zl Zm:=⟨rfl,rfl,rfl,rfl,rfl,rfl⟩
@[simp] theorem ayQ:EF 264 Mv zg zm Zo zl zo:=⟨rfl,rfl,rfl,rfl,rfl,rfl⟩
@[simp] theorem ayR:EF 276 Mw zg zm Qr zl zo:=⟨rfl,rfl,rfl,rfl,rfl,rfl⟩
theorem aeB:RF 276 51 Qr f276 [.tmp 4,.tmp 5]:=ay rfl rfl Tryz.func276 rfl (by kernel_rfl) Tryz.ntmps276 (by rw[Tryz.results276]) rfl rfl
@[simp] theorem ayS:EF 277 Mx zg zm Qs zl zo:=⟨rfl,rfl,rfl,rfl,rfl,rfl⟩
theorem aeC:RF 277 10 Qs f277 [.tmp 2]:=ay rfl rfl Tryz.func277 rfl (by kernel_rfl) Tryz.ntmps277 (by rw[Tryz.results277]) rfl rfl
@[simp] theorem ayT:EF 278 My zg zm Qt zl zo:=⟨rfl,rfl,rfl,rfl,rfl,rfl⟩
theorem aeD:RF 278 24 Qt f278 [.tmp 4,.tmp 5]:=ay rfl rfl Tryz.func278 rfl (by kernel_rfl) Tryz.ntmps278 (by rw[Tryz.results278]) rfl rfl
@[simp] theorem ayU:EF 279 Mz zg zm Zq zl Zp:=⟨rfl,rfl,rfl,rfl,rfl,rfl⟩
@[simp] theorem ayV:EF 280 MA zg zm Zs zl Zr:=⟨rfl,rfl,rfl,rfl,rfl,rfl⟩
@[simp] theorem ayW:EF 281 MB zg zm Qu zl zo:=⟨rfl,rfl,rfl,rfl,rfl,rfl⟩
theorem aeE:RF 281 8 Qu f281 [.tmp 3]:=ay rfl rfl Tryz.func281 rfl (by kernel_rfl) Tryz.ntmps281 (by rw[Tryz.results281]) rfl rfl
@[simp] theorem ayX:EF 282 MD zg zm Qv zl zo:=⟨rfl,rfl,rfl,rfl,rfl,rfl⟩
theorem aeF:RF 282 25 Qv f282 [.tmp 6]:=ay rfl rfl Tryz.func282 rfl (by kernel_rfl) Tryz.ntmps282 (by rw[Tryz.results282]) rfl rfl
@[simp] theorem ayY:EF 285 ME zg zm Zt zl zo:=⟨rfl,rfl,rfl,rfl,rfl,rfl⟩
@[simp] theorem ayZ:EF 286 MF zg Zu Zv zl zo:=⟨rfl,rfl,rfl,rfl,rfl,rfl⟩
@[simp] theorem ay0:EF 287 MG zg zm Qw zl zo:=⟨rfl,rfl,rfl,rfl,rfl,rfl⟩
theorem aeG:RF 287 19 Qw f287 [.tmp 4]:=ay rfl rfl Tryz.func287 rfl (by kernel_rfl) Tryz.ntmps287 (by rw[Tryz.results287]) rfl rfl
@[simp] theorem ay1:EF 288 MH zg zm Zw zl zo:=⟨rfl,rfl,rfl,rfl,rfl,rfl⟩
@[simp] theorem ay2:EF 289 MI zg zm Zy zl Zx:=⟨rfl,rfl,rfl,rfl,rfl,rfl⟩
@[simp] theorem ay3:EF 290 MJ zg zm Zz zl zo:=⟨rfl,rfl,rfl,rfl,rfl,rfl⟩
@[simp] theorem ay4:EF 291 ML zg zm ZA zl zo:=⟨rfl,rfl,rfl,rfl,rfl,rfl⟩
@[simp] theorem ay5:EF 292 MM ZC zm ZD zl ZB:=⟨rfl,rfl,rfl,rfl,rfl,rfl⟩
@[simp] theorem ay6:EF 293 MN ZG ZE ZH zl ZF:=⟨rfl,rfl,rfl,rfl,rfl,rfl⟩
@[simp] theorem ay7:EF 294 MO zg zm ZJ zl ZI:=⟨rfl,rfl,rfl,rfl,rfl,rfl⟩
@[simp] theorem ay8:EF 295 MP zg zm ZK zl zo:=⟨rfl,rfl,rfl,rfl,rfl,rfl⟩
@[simp] theorem ay9:EF 296 MQ ZM zm ZN zl ZL:=⟨rfl,rfl,rfl,rfl,rfl,rfl⟩
@[simp] theorem aza:EF 297 MR zg zm ZO zl zo:=⟨rfl,rfl,rfl,rfl,rfl,rfl⟩
@[simp] theorem azb:EF 306 MS zg zm Qx zl zo:=⟨rfl,rfl,rfl,rfl,rfl,rfl⟩
theorem aeH:RF 306 4 Qx f306 [.tmp 2]:=ay rfl rfl Tryz.func306 rfl (by kernel_rfl) Tryz.ntmps306 (by rw[Tryz.results306]) rfl rfl
@[simp] theorem azc:EF 307 MT zg zm ZP zl zo:=⟨rfl,rfl,rfl,rfl,rfl,rfl⟩
@[simp] theorem azd:EF 308 MU zg zm ZQ zl zo:=⟨rfl,rfl,rfl,rfl,rfl,rfl⟩
@[simp] theorem aze:EF 309 MV zg ZR ZS zl zo:=⟨rfl,rfl,rfl,rfl,rfl,rfl⟩
@[simp] theorem azf:EF 310 MW zg zm ZT zl zo:=⟨rfl,rfl,rfl,rfl,rfl,rfl⟩
@[simp] theorem azg:EF 311 MX zg zm ZV zl ZU:=⟨rfl,rfl,rfl,rfl,rfl,rfl⟩
@[simp] theorem azh:EF 314 MY zg zm ZW zl zo:=⟨rfl,rfl,rfl,rfl,rfl,rfl⟩
@[simp] theorem azi:EF 315 MZ zg zm ZY zl ZX:=⟨rfl,rfl,rfl,rfl,rfl,rfl⟩
@[simp] theorem azj:EF 316 M0 zg zm ZZ zl zo:=⟨rfl,rfl,rfl,rfl,rfl,rfl⟩
@[simp] theorem azk:EF 318 M1 zg zm Z1 zl Z0:=⟨rfl,rfl,rfl,rfl,rfl,rfl⟩
end Go.Am
end
section
namespace Go.Am
@[simp] def pq(t:eE):D:=.agg [.int .i64 t.kind,.str t.text,.int .i64 t.n,.int .i64 t.line,.int .i64 t.Da]
end Go.Am
end
section
namespace Go.Am
open Go
def gF(op:Int):Nat:=if op=4\/op=6\/op=7 then 1 else if 7<op then 2 else 0
mutual
def dI:Ex->Bool
 | .mk op n name field sub _=>
  !decide ((op=1/\n<0)\/(op=2/\(n<0\/1<n))\/(2<op/\n≠0)\/op<1\/21<op)&&
  (decide (sub.length=gF op)&&((if op=3\/op=4\/op=5 then cL name else decide (name=[]))&&((if op=5 then cL field else decide (field=[]))&&cR sub)))
def cR:List Ex->Bool
 |[]=>true
 |x::r=>dI x&&cR r
end
theorem zz:∀l:List Ex,cR l=true↔∀x∈l,dI x=true
 |[]=>by simp[cR]
 |x::r=>by simp[cR,zz r]
def fj(x:Ex):Bool:=decide (cA x=0)&&(decide (iK x=0)&&decide ((dY x).length+(eW x).length+(cQ x).length=0))
def zA(l:List Int):Bool:=!decide (l.length=0)&&(decide (l.length%2=0)&&l.all λn=>decide (n≠ -9223372036854775808))
def gM(op:Int)(D H fields A:Nat):Bool:=
 if op=2 then decide (D=max 1 D)&&(decide (H=0)&&(decide (fields=0)&&(decide (max 1 D<=A)&&decide (A<=max 1 D+1))))
 else if op=3 then decide (D=0)&&(decide (fields=0)&&(decide (H<=A)&&decide (A<=H+1)))
 else if op=4 then decide (D=3)&&(decide (H=0)&&(decide (fields=0)&&decide (A=1)))
 else if op=5\/op=6 then decide (D=0)&&(decide (H=0)&&(decide (fields=0)&&decide (A=1)))
 else if op=9 then decide (D=fields)&&(decide (H=0)&&decide (A=0))
 else decide (D=0)&&(decide (H=0)&&(decide (fields=0)&&decide (A=0)))
mutual
def og:Sm->Bool
 | .mk op name to val D H fields A _=>
  decide (1<=op/\op<=9)&&((if op=4\/op=9 then cL name else decide (name=[]))&&
  ((if op=1 then decide (cA to=3\/cA to=4)&&dI to else fj to)&&
  ((if op=1\/op=3\/op=5\/op=6 then !fj val&&dI val else fj val)&&
  (cR D&&(gM op D.length H.length fields.length A.length&&
  (fields.all cL&&(H.all zA&&fm A)))))))
def ga:List Sm->Bool
 |[]=>true
 |x::r=>og x&&ga r
def fm:List (List Sm)->Bool
 |[]=>true
 |b::r=>ga b&&fm r
end
def pN(k:Int):Bool:=(br k).length≠0
def dA(v:Vr):Bool:=
 cL v.name&&(decide (0<=v.sec/\v.sec<=2)&&(decide (v.ty=1\/v.ty=2)||pN v.ty)&&
 ((if v.arr=true then decide (v.ty<=2/\0<=v.lo/\v.lo<=v.hi/\v.hi<=255)else decide (v.lo=0/\v.hi=0))&&
 !decide (((v.arr=true\/2<v.ty)/\v.init≠0)\/(v.ty=2/\(v.init<0\/1<v.init))\/v.init= -9223372036854775808)))
def sY(p:Pg):Bool:=cL p.name&&(decide (p.vars.length<=64)&&(p.vars.all dA&&ga p.body))
abbrev EL:=Int×Int
def eN(a b:EL):EL:=if a.1≠0 then a else b
def FE(a:Te):EL:=(a.e,a.line)
def Z6(vs:List Vr)(to val:Ex)(line:Int):EL:=
 match bu vs (dY to)with
 |none=>(9,mY to)
 |some v=>if v.sec=1 then (1,mY to)else eN (FE (aQ vs to)) (eN (FE (aQ vs val)) (if (aQ vs val).t≠(aQ vs to).t then (10,line)else (0,0)))
def lU(vs:List Vr)(t:Int):List Ex->EL
 |[]=>(0,0)
 |x::r=>eN (dx vs x t) (lU vs t r)
def jq(vs:List Vr)(k line:Int):List Tx->List Ex->List Tx->EL
 |f::I,x::xs,p=>match lS k f with
  |none=>(9,line)
  |some q=>if q.Ih=false then (9,line)else if f∈p then (11,line)else eN (dx vs x q.ty) (jq vs k line I xs (p++[f]))
 |_,_,_=>(0,0)
mutual
def AW(vs:List Vr)(E:Bool):Sm->EL
 | .mk op name to val D _ fields A line=>
  if op=1 then Z6 vs to val line
  else if op=2 then gD vs E D A
  else if op=3 then eN (dx vs val 1) (gD vs E [] A)
  else if op=4 then (match bu vs name with
   |none=>(9,line)
   |some v=>if v.sec=1 then (1,line)else if v.arr=true\/v.ty≠1 then (10,line)else eN (lU vs 1 D) (zB vs A))
  else if op=5 then eN (dx vs val 2) (zB vs A)
  else if op=6 then eN (zB vs A) (dx vs val 2)
  else if op=7 then (if E=true then (0,0)else (14,line))
  else if op=9 then (match bu vs name with
   |none=>(9,line)
   |some v=>if v.ty<=2 then (10,line)else jq vs v.ty line fields D [])
  else (0,0)
def eU(vs:List Vr)(E:Bool):List Sm->EL
 |[]=>(0,0)
 |x::r=>eN (AW vs E x) (eU vs E r)
def gD(vs:List Vr)(E:Bool):List Ex->List (List Sm)->EL
 |_,[]=>(0,0)
 |[],b::r=>eN (eU vs E b) (gD vs E [] r)
 |c::cs,b::r=>eN (dx vs c 2) (eN (eU vs E b) (gD vs E cs r))
def zB(vs:List Vr):List (List Sm)->EL
 |[]=>(0,0)
 |b::_=>eU vs true b
end
def FG:List Vr->List Vr->Int->EL
 |[],_,_=>(0,0)
 |v::r,p,n=>if (bu p v.name).isSome then (11,v.line)else if 1024<n+b5 v then (13,v.line)else FG r (p++[v]) (n+b5 v)
def qw(p:Pg):EL:=eN (FG p.vars [] 0) (eU p.vars false p.body)
def iL{α:Type}(p:α->Bool):List α->Nat->Int
 |[],_=> -1
 |x::r,i=>if p x=true then i else iL p r (i+1)
theorem xj{α:Type}(p:α->Bool):∀(l:List α)(i:Nat),iL p l i= -1\/(i<=iL p l i/\iL p l i<i+l.length)
 |[],i=>.inl rfl
 |x::r,i=>by
  unfold iL;split
  ·right;simp;omega
  ·rcases xj p r (i+1)with h|h
   ·exact .inl h
   ·right;simp only[ab2];omega
end Go.Am
end
section
namespace Go.Am
open Go Go.Proofs
variable [Inhabited bB]
set_option maxRecDepth 20000
@[simp] theorem asm(a b:Tx):(a == b)=decide (a=b):=by by_cases h:a=b<;>simp[h]
end Go.Am
end
section
namespace Go.Am
open Go Go.Proofs Go.Proofs.Tryz
variable [Inhabited bB]
set_option maxRecDepth 20000
theorem apj:ah ctx 54 [.d (.int .i64 10)] []=some (.ret (.d (.list ((br 10).map cD))),[]):=bk 120 (by kernel_rfl)
theorem apk:ah ctx 54 [.d (.int .i64 11)] []=some (.ret (.d (.list ((br 11).map cD))),[]):=bk 120 (by kernel_rfl)
theorem apl:ah ctx 54 [.d (.int .i64 12)] []=some (.ret (.d (.list ((br 12).map cD))),[]):=bk 120 (by kernel_rfl)
theorem apm:ah ctx 54 [.d (.int .i64 13)] []=some (.ret (.d (.list ((br 13).map cD))),[]):=bk 120 (by kernel_rfl)
theorem apn:ah ctx 54 [.d (.int .i64 14)] []=some (.ret (.d (.list ((br 14).map cD))),[]):=bk 120 (by kernel_rfl)
theorem apo:ah ctx 54 [.d (.int .i64 15)] []=some (.ret (.d (.list ((br 15).map cD))),[]):=bk 120 (by kernel_rfl)
theorem apq:ah ctx 54 [.d (.int .i64 16)] []=some (.ret (.d (.list ((br 16).map cD))),[]):=bk 120 (by kernel_rfl)
theorem apr:ah ctx 54 [.d (.int .i64 17)] []=some (.ret (.d (.list ((br 17).map cD))),[]):=bk 120 (by kernel_rfl)
theorem aps:ah ctx 54 [.d (.int .i64 18)] []=some (.ret (.d (.list ((br 18).map cD))),[]):=bk 120 (by kernel_rfl)
theorem apt:ah ctx 54 [.d (.int .i64 20)] []=some (.ret (.d (.list ((br 20).map cD))),[]):=bk 120 (by kernel_rfl)
theorem apu:ah ctx 54 [.d (.int .i64 21)] []=some (.ret (.d (.list ((br 21).map cD))),[]):=bk 120 (by kernel_rfl)
theorem apv:ah ctx 54 [.d (.int .i64 22)] []=some (.ret (.d (.list ((br 22).map cD))),[]):=bk 120 (by kernel_rfl)
theorem apw:ah ctx 54 [.d (.int .i64 23)] []=some (.ret (.d (.list ((br 23).map cD))),[]):=bk 120 (by kernel_rfl)
theorem apx:ah ctx 54 [.d (.int .i64 24)] []=some (.ret (.d (.list ((br 24).map cD))),[]):=bk 120 (by kernel_rfl)
theorem apy:ah ctx 54 [.d (.int .i64 25)] []=some (.ret (.d (.list ((br 25).map cD))),[]):=bk 120 (by kernel_rfl)
theorem apz:ah ctx 54 [.d (.int .i64 26)] []=some (.ret (.d (.list ((br 26).map cD))),[]):=bk 120 (by kernel_rfl)
theorem apA:ah ctx 54 [.d (.int .i64 27)] []=some (.ret (.d (.list ((br 27).map cD))),[]):=bk 120 (by kernel_rfl)
theorem apB:ah ctx 54 [.d (.int .i64 28)] []=some (.ret (.d (.list ((br 28).map cD))),[]):=bk 120 (by kernel_rfl)
theorem apC:ah ctx 54 [.d (.int .i64 29)] []=some (.ret (.d (.list ((br 29).map cD))),[]):=bk 120 (by kernel_rfl)
theorem apD:ah ctx 54 [.d (.int .i64 30)] []=some (.ret (.d (.list ((br 30).map cD))),[]):=bk 120 (by kernel_rfl)
theorem apE:ah ctx 54 [.d (.int .i64 31)] []=some (.ret (.d (.list ((br 31).map cD))),[]):=bk 120 (by kernel_rfl)
def oh:D->Option Int
 | .agg [.int .i64 k,.str _,.str _,.str _,.int .i64 _]=>some k
 |_=>none
theorem AX{d:D}{k:Int}(h:oh d=some k):∃a b c n,d=.agg [.int .i64 k,.str a,.str b,.str c,.int .i64 n]:=by
 unfold oh at h;split at h
 ·rename_i A' a b c n;cases h;exact⟨a,b,c,n,rfl⟩
 ·cases h
def M3:Option (Out×List (Nat×ax))->Option (List (Option Int))
 |some (.ret (.d (.list l)),[])=>some (l.map oh)
 |_=>none
theorem aeI:M3 (aF ctx 120 137 [] [])=some (ka.map some):=by kernel_rfl
theorem Ww:∃l:List D,ah ctx 137 [] []=some (.ret (.d (.list l)),[])/\l.map oh=ka.map some:=by
 have h:=aeI;generalize T:aF ctx 120 137 [] []=r at h;unfold M3 at h;split at h
 ·rename_i l;exact⟨l,bk 120 T,by simpa using h⟩
 ·cases h
theorem Wx(d:D)(k b:Int)(E:oh d=some k):ah ctx 139 [.d d,.ptr 0 0 0] [.box [.d (.int .i64 b)]]=some (.ret (.d (.bool (decide (k=b)))),[(0,.box [.d (.int .i64 b)])]):=by
 obtain⟨a,e,c,n,rfl⟩:=AX E;rw[TV (by simp)];simp[f139]
theorem AY(b:Int):∀(rest pre:List D),(∀d∈rest,∃k,oh d=some k/\k≠b)->(pre++rest).length<1000->∀k:Kt,
 aK ctx 138 (.loop (Code.at (bq f138) [1,0,1,0,0])) ⟨19,aA,[(0,true,.d (.list (pre++rest))),(1,true,.fn 139 [.ptr 0 0 0]),(7,true,.d (.int .i64 (pre++rest).length)),(8,true,.d (.int .i64 pre.length))],[⟨0,0,.box [.d (.int .i64 b)]⟩]⟩ k=
  k (.exit 0) ⟨19,aA,[(0,true,.d (.list (pre++rest))),(1,true,.fn 139 [.ptr 0 0 0]),(7,true,.d (.int .i64 (pre++rest).length)),(8,true,.d (.int .i64 (pre++rest).length)),(9,true,.d (.bool false))],[⟨0,0,.box [.d (.int .i64 b)]⟩]⟩
 |[],pre,h,H,k=>by
  rw[ai];simp[f138]
 |d::rest,pre,h,H,k=>by
  obtain⟨M,I,U⟩:=h d (by simp);have N:=Wx d M b I;obtain⟨V,a2,a3,a4,rfl⟩:=AX I;have ih:=AY b rest (pre++[.agg [.int .i64 M,.str V,.str a2,.str a3,.int .i64 a4]]) (λd E=>h d (by simp[E])) (by simpa using H) k;have J:(pre.length:Int)<pre.length+(rest.length+1):=by omega
  have Y:IntKind.i64.wrap ((pre.length:Int)+1)=pre.length+1:=aE (by unfold aG;simp at H;omega);simp[U]at N;rw[ai];simp[f138]at ih⊢;simp[J,Y,N,ih]
theorem Qz(b:Int)(A:b∉ka):ah ctx 54 [.d (.int .i64 b)] []=some (.ret (.d (.list [])),[]):=by
 obtain⟨l,H,hm⟩:=Ww;have A0:l.length=21:=by have:=aeT List.length hm;simpa [ka]using this
 have Z:∀d∈l,∃k,oh d=some k/\k≠b:=by
  intro d E;have J:oh d∈l.map oh:=abW E;rw[hm]at J;obtain⟨k,I,he⟩:=ab9.1 J;exact⟨k,he.symm,λh=>A (h▸I)⟩
 have O:=AY b l [] Z (by simp;omega);have q:ah ctx 138 [.d (.list l),.fn 139 [.ptr 0 0 0]] [.box [.d (.int .i64 b)]]=some (.ret (.d (.int .i64 (-1))),[(0,.box [.d (.int .i64 b)])]):=by
  rw[TU (by simp)];simp[f138]at O⊢;simp[O]
 have y:ah ctx 89 [.d (.int .i64 b)] []=some (.ret (.bM [.d (.agg [.int .i64 0,.str [],.str [],.str [],.int .i64 0]),.d (.bool false)]),[]):=by
  rw[Z5 (by simp)];simp[f89,H,q]
 rw[Z3 (by simp)];simp[f54,y]
theorem Ek(b:Int):ah ctx 54 [.d (.int .i64 b)] []=some (.ret (.d (.list ((br b).map cD))),[]):=by
 by_cases A:b∈ka
 ·simp only[ka,aak,ae6,ak5]at A;rcases A with rfl|rfl|rfl|rfl|rfl|rfl|rfl|rfl|rfl|rfl|rfl|rfl|rfl|rfl|rfl|rfl|rfl|rfl|rfl|rfl|rfl
  ·exact apj
  ·exact apk
  ·exact apl
  ·exact apm
  ·exact apn
  ·exact apo
  ·exact apq
  ·exact apr
  ·exact aps
  ·exact apt
  ·exact apu
  ·exact apv
  ·exact apw
  ·exact apx
  ·exact apy
  ·exact apz
  ·exact apA
  ·exact apB
  ·exact apC
  ·exact apD
  ·exact apE
 ·rw[xg A];exact Qz b A
end Go.Am
end
section
namespace Go.Am
open Go Go.Proofs
variable [Inhabited bB]
set_option maxRecDepth 20000
def q8:Vr:=⟨[],0,0,false,0,0,0,0⟩
def fV(vs:List Vr)(s:Tx):Vr:=(bu vs s).getD q8
def tT:Pn:=⟨[],0,false⟩
def fP(k:Int)(s:Tx):Pn:=(lS k s).getD tT
end Go.Am
end
section
namespace Go.Am
open Go Go.Proofs Go.Proofs.Tryz
variable [Inhabited bB]
set_option maxRecDepth 20000
@[simp] def QA(t:Tx):D:=.str t
theorem Df(s:Tx)(l:List Tx)(Z:l.length<=1000)(k:Kt)(R1 R2:bW)
 (E:k .ret ⟨15,aA,[(2,true,.d (.bool true))],[]⟩=R1)
 (A:∀Y:Env,k (.exit 0) ⟨15,aA,Y,[]⟩=R2):∀(rest:List Tx)(j:Nat),l.drop j=rest->j+rest.length=l.length->
 aK ctx 66 (.loop (Code.at (bq f66) [1,0,1,0,0])) ⟨15,aA,[(0,true,.d (.str s)),(5,true,.d (.list (l.map QA))),(6,true,.d (.int .i64 l.length)),(7,true,.d (.int .i64 j))],[]⟩ k=if s∈rest then R1 else R2
 |[],j,I,H=>by
  have H:j=l.length:=by simpa using H
  subst H;rw[ai];simp[f66,A]
 |x::rest,j,I,H=>by
  have M:j<l.length:=by simp at H;omega
  have U:l[j]=x:=by
   have:=aeT (·[0]?) I;simp at this;simpa [M]using this
  have ih:=Df s l Z k R1 R2 E A rest (j+1) (by rw[<-ak1,I];rfl) (by simp at H;omega);have N:IntKind.i64.wrap ((j:Int)+1)=(j:Int)+1:=aE (by unfold aG;omega);rw[ai];by_cases q:x=s
  ·simp[f66];simp[M,U,q,E]
  ·have A2:¬s=x:=λh=>q h.symm;simp[f66]at ih⊢;simp[M,U,q,A2,N,ih]
theorem TZ(s:Tx):ah ctx 66 [.d (.str s)] []=some (.ret (.d (.bool (tQ s))),[]):=by
 have O:=λk R1 R2 E A=>Df s jo (by decide) k R1 R2 E A jo 0 rfl (by decide);have e:List.map QA jo=jo.map QA:=rfl;have A6:jo.length=36:=rfl;have A3:List.range' 0 36=[0,1,2,3,4,5,6,7,8,9,10,11,12,13,14,15,16,17,18,19,20,21,22,23,24,25,26,27,28,29,30,31,32,33,34,35]:=rfl;rw[ai3 (by simp)];unfold tQ;generalize y:decide (s∈jo)=B;simp[f66,jo]at O;simp[f66,A3];rw[O _ (some (.ret (.d (.bool true)),[])) (some (.ret (.d (.bool false)),[])) (by simp) (by simp)];subst y;by_cases hm:s∈jo
 ·rw[akb hm];simp only[jo,aak,ae6,ak5]at hm;rw[aal hm]
 ·rw[decide_eq_false hm];simp only[jo,aak,ae6,ak5]at hm;rw[aac hm]
theorem Dg(s:Tx)(Z:s.length<=16)(k:Kt)(R1 R2:bW)
 (E:k .ret ⟨59,aA,[(2,true,.d (.bool false))],[]⟩=R1)
 (A:∀Y:Env,k (.exit 0) ⟨59,aA,Y,[]⟩=R2):∀(rest:Tx)(j:Nat),s.drop j=rest->j+rest.length=s.length->
 aK ctx 35 (.loop (Code.at (bq f35) [1,1,0,1,0,0])) ⟨59,aA,[(0,true,.d (.str s)),(3,true,.d (.int .i64 j))],[]⟩ k=if tR rest j=true then R2 else R1
 |[],j,I,H=>by
  have H:j=s.length:=by simpa using H
  subst H;rw[ai];simp[f35,A,tR]
 |c::rest,j,I,H=>by
  have M:j<s.length:=by simp at H;omega
  have U:ij s j=c:=by
   have:=aeT (·[0]?) I;simp at this;simp[ij,this]
  have ih:=Dg s Z k R1 R2 E A rest (j+1) (by rw[<-ak1,I];rfl) (by simp at H;omega);have N:IntKind.i64.wrap ((j:Int)+1)=(j:Int)+1:=aE (by unfold aG;omega);have key:tR (c::rest) j=((V1 c||(!decide (j=0)&&(decide (c=95)||V2 c)))&&tR rest (j+1)):=rfl;have A4:decide (c=95)=decide (c.toNat=95):=by
   rw[decide_eq_decide];exact⟨λh=>by rw[h];rfl,λh=>UInt8.toNat_inj.1 (by rw[h];rfl)⟩
  rw[key,A4];generalize tR rest (j+1)=B at*;rw[ai];simp[f35]at ih⊢;simp[M,U,N,E,ih];unfold V1 V2;grind
theorem ed(s:Tx):ah ctx 35 [.d (.str s)] []=some (.ret (.d (.bool (cL s))),[]):=by
 have hw:=TZ s;unfold cL;rw[aiQ (by simp)];by_cases E:s.length<1
 ·have A:¬1<=s.length:=by omega
  have J:(s.length:Int)<1:=by omega
  simp[f35,A,J]
 ·by_cases A':16<s.length
  ·have A:1<=s.length:=by omega
   have J:¬(s.length:Int)<1:=by omega
   have T:¬s.length<=16:=by omega
   have V:(16:Int)<s.length:=by omega
   simp[f35,A,J,T,A',V]
  ·have A:1<=s.length:=by omega
   have J:¬(s.length:Int)<1:=by omega
   have T:s.length<=16:=by omega
   have V:¬(16:Int)<s.length:=by omega
   cases A1:tQ s with
   |true=>
    rw[A1]at hw;simp[f35,A,J,T,A',V,hw]
   |false=>
    rw[A1]at hw;have O:=λk R1 R2 E A=>Dg s T k R1 R2 E A s 0 rfl (by simp);simp[f35]at O;simp[f35,A,J,T,A',V,hw];rw[O _ (some (.ret (.d (.bool false)),[])) (some (.ret (.d (.bool true)),[])) (by simp) (by simp)];cases tR s 0<;>simp
theorem M4{x:Ex}(h:(dY x).length<100000000/\(eW x).length<100000000/\(cQ x).length<100000000):ah ctx 70 [.d (.agg [.int .i64 (cA x),.int .i64 (iK x),.str (dY x),.str (eW x),.list ((cQ x).map du),.int .i64 (mY x)])] []=some (.ret (.d (.bool (fj x))),[]):=by
 have N:IntKind.i64.wrap ((dY x).length+(eW x).length:Int)=(dY x).length+(eW x).length:=aE (by unfold aG;omega);have A5:IntKind.i64.wrap ((dY x).length+(eW x).length+(cQ x).length:Int)=(dY x).length+(eW x).length+(cQ x).length:=aE (by unfold aG;omega);unfold fj;generalize y:decide ((dY x).length+(eW x).length+(cQ x).length=0)=B;rw[ai6 (by simp)];by_cases A0:cA x=0
 ·by_cases E:iK x=0
  ·simp[f70,A0,E];rw[N,A5,<-y,decide_eq_decide];omega
  ·simp[f70,A0,E]
 ·simp[f70,A0]
theorem Wz(op:Int):ah ctx 68 [.d (.int .i64 op)] []=some (.ret (.bM [.d (.bool (decide (op=4\/op=9))),.d (.bool (decide (op=1))),.d (.bool (decide (op=1\/op=3\/op=5\/op=6)))]),[]):=by
 rw[ai4 (by simp)];simp[f68];grind
theorem oo(x:Ex):dI x=(!decide ((cA x=1/\iK x<0)\/(cA x=2/\(iK x<0\/1<iK x))\/(2<cA x/\iK x≠0)\/cA x<1\/21<cA x)&&
 (decide ((cQ x).length=gF (cA x))&&((if cA x=3\/cA x=4\/cA x=5 then cL (dY x)else decide (dY x=[]))&&((if cA x=5 then cL (eW x)else decide (eW x=[]))&&cR (cQ x))))):=by
 cases x;rw[dI];rfl
def KF(l:List Ex):Prop:=ah ctx 69 [.d (.list (l.map du))] []=some (.ret (.d (.bool (cR l))),[])
theorem aeJ{l:List Ex}(U:l.length<100000000){i:Nat}{x:Ex}(D:i<l.length)(E:l[i]=x)(A:KF (cQ x))(V:(cQ x).length<100000000)(k:Kt)(R1 R2:bW)(B:Bool)
 (H:∀v X,k .ret ⟨126,aA,[(2,true,.d (.bool false))],[⟨300,v,X⟩]⟩=R1)
 (ih:∀v X,aK ctx 69 (.loop (Code.at (bq f69) [1,0,1,0,0])) ⟨126,aA,[(0,true,.d (.list (l.map du))),(3,true,.d (.int .i64 (i+1)))],[⟨300,v,X⟩]⟩ k=if B=true then R2 else R1) (h:cA x<1) (v:Nat) (X:ax):
 aK ctx 69 (.loop (Code.at (bq f69) [1,0,1,0,0])) ⟨126,aA,[(0,true,.d (.list (l.map du))),(3,true,.d (.int .i64 i))],[⟨300,v,X⟩]⟩ k=if (dI x&&B)=true then R2 else R1:=by
 have I:IntKind.i64.wrap ((i:Int)+1)=i+1:=aE (by unfold aG;omega);have J:=ed (dY x);have M:=ed (eW x);unfold KF at A;rw[oo];generalize cR (cQ x)=S at*;generalize cL (dY x)=N at*;generalize cL (eW x)=F at*;have Y:¬cA x=1:=by omega
 have Z:¬cA x=2:=by omega
 have y:¬cA x=3:=by omega
 have A':¬cA x=4:=by omega
 have A0:¬cA x=5:=by omega
 have A1:¬cA x=6:=by omega
 have A2:¬cA x=7:=by omega
 have d1:¬2<cA x:=by omega
 rw[ai];simp[f69]at ih⊢;simp[D,E,I,aZ,h,A,J,M,ih,H,Y,Z,d1];intros;omega
theorem aeK{l:List Ex}(U:l.length<100000000){i:Nat}{x:Ex}(D:i<l.length)(E:l[i]=x)(A:KF (cQ x))(V:(cQ x).length<100000000)(k:Kt)(R1 R2:bW)(B:Bool)
 (H:∀v X,k .ret ⟨126,aA,[(2,true,.d (.bool false))],[⟨300,v,X⟩]⟩=R1)
 (ih:∀v X,aK ctx 69 (.loop (Code.at (bq f69) [1,0,1,0,0])) ⟨126,aA,[(0,true,.d (.list (l.map du))),(3,true,.d (.int .i64 (i+1)))],[⟨300,v,X⟩]⟩ k=if B=true then R2 else R1) (h:cA x=1) (v:Nat) (X:ax):
 aK ctx 69 (.loop (Code.at (bq f69) [1,0,1,0,0])) ⟨126,aA,[(0,true,.d (.list (l.map du))),(3,true,.d (.int .i64 i))],[⟨300,v,X⟩]⟩ k=if (dI x&&B)=true then R2 else R1:=by
 have I:IntKind.i64.wrap ((i:Int)+1)=i+1:=aE (by unfold aG;omega);have J:=ed (dY x);have M:=ed (eW x);unfold KF at A;rw[oo];generalize cR (cQ x)=S at*;generalize cL (dY x)=N at*;generalize cL (eW x)=F at*;rw[ai];simp[f69]at ih⊢;have T:gF 1=0:=rfl;by_cases O:iK x<0
 ·simp[D,E,I,aZ,h,A,J,M,ih,H,O];intros;omega
 ·by_cases q:1<iK x
  ·simp[D,E,I,aZ,h,A,J,M,ih,H,O,q,T];grind
  ·simp[D,E,I,aZ,h,A,J,M,ih,H,O,q,T];grind
theorem aeL{l:List Ex}(U:l.length<100000000){i:Nat}{x:Ex}(D:i<l.length)(E:l[i]=x)(A:KF (cQ x))(V:(cQ x).length<100000000)(k:Kt)(R1 R2:bW)(B:Bool)
 (H:∀v X,k .ret ⟨126,aA,[(2,true,.d (.bool false))],[⟨300,v,X⟩]⟩=R1)
 (ih:∀v X,aK ctx 69 (.loop (Code.at (bq f69) [1,0,1,0,0])) ⟨126,aA,[(0,true,.d (.list (l.map du))),(3,true,.d (.int .i64 (i+1)))],[⟨300,v,X⟩]⟩ k=if B=true then R2 else R1) (h:cA x=2) (v:Nat) (X:ax):
 aK ctx 69 (.loop (Code.at (bq f69) [1,0,1,0,0])) ⟨126,aA,[(0,true,.d (.list (l.map du))),(3,true,.d (.int .i64 i))],[⟨300,v,X⟩]⟩ k=if (dI x&&B)=true then R2 else R1:=by
 have I:IntKind.i64.wrap ((i:Int)+1)=i+1:=aE (by unfold aG;omega);have J:=ed (dY x);have M:=ed (eW x);unfold KF at A;rw[oo];generalize cR (cQ x)=S at*;generalize cL (dY x)=N at*;generalize cL (eW x)=F at*;rw[ai];simp[f69]at ih⊢;have T:gF 2=0:=rfl;by_cases O:iK x<0
 ·simp[D,E,I,aZ,h,A,J,M,ih,H,O];intros;omega
 ·by_cases q:1<iK x
  ·simp[D,E,I,aZ,h,A,J,M,ih,H,O,q,T];intros;omega
  ·simp[D,E,I,aZ,h,A,J,M,ih,H,O,q,T];grind
theorem aeM{l:List Ex}(U:l.length<100000000){i:Nat}{x:Ex}(D:i<l.length)(E:l[i]=x)(A:KF (cQ x))(V:(cQ x).length<100000000)(k:Kt)(R1 R2:bW)(B:Bool)
 (H:∀v X,k .ret ⟨126,aA,[(2,true,.d (.bool false))],[⟨300,v,X⟩]⟩=R1)
 (ih:∀v X,aK ctx 69 (.loop (Code.at (bq f69) [1,0,1,0,0])) ⟨126,aA,[(0,true,.d (.list (l.map du))),(3,true,.d (.int .i64 (i+1)))],[⟨300,v,X⟩]⟩ k=if B=true then R2 else R1) (h:cA x=3) (v:Nat) (X:ax):
 aK ctx 69 (.loop (Code.at (bq f69) [1,0,1,0,0])) ⟨126,aA,[(0,true,.d (.list (l.map du))),(3,true,.d (.int .i64 i))],[⟨300,v,X⟩]⟩ k=if (dI x&&B)=true then R2 else R1:=by
 have I:IntKind.i64.wrap ((i:Int)+1)=i+1:=aE (by unfold aG;omega);have J:=ed (dY x);have M:=ed (eW x);unfold KF at A;rw[oo];generalize cR (cQ x)=S at*;generalize cL (dY x)=N at*;generalize cL (eW x)=F at*;rw[ai];simp[f69]at ih⊢;have T:gF 3=0:=rfl;by_cases O:iK x=0
 ·simp[D,E,I,aZ,h,A,J,M,ih,H,O,T];grind
 ·simp[D,E,I,aZ,h,A,J,M,ih,H,O]
theorem aeN{l:List Ex}(U:l.length<100000000){i:Nat}{x:Ex}(D:i<l.length)(E:l[i]=x)(A:KF (cQ x))(V:(cQ x).length<100000000)(k:Kt)(R1 R2:bW)(B:Bool)
 (H:∀v X,k .ret ⟨126,aA,[(2,true,.d (.bool false))],[⟨300,v,X⟩]⟩=R1)
 (ih:∀v X,aK ctx 69 (.loop (Code.at (bq f69) [1,0,1,0,0])) ⟨126,aA,[(0,true,.d (.list (l.map du))),(3,true,.d (.int .i64 (i+1)))],[⟨300,v,X⟩]⟩ k=if B=true then R2 else R1) (h:cA x=4) (v:Nat) (X:ax):
 aK ctx 69 (.loop (Code.at (bq f69) [1,0,1,0,0])) ⟨126,aA,[(0,true,.d (.list (l.map du))),(3,true,.d (.int .i64 i))],[⟨300,v,X⟩]⟩ k=if (dI x&&B)=true then R2 else R1:=by
 have I:IntKind.i64.wrap ((i:Int)+1)=i+1:=aE (by unfold aG;omega);have J:=ed (dY x);have M:=ed (eW x);unfold KF at A;rw[oo];generalize cR (cQ x)=S at*;generalize cL (dY x)=N at*;generalize cL (eW x)=F at*;rw[ai];simp[f69]at ih⊢;have T:gF 4=1:=rfl;by_cases O:iK x=0
 ·simp[D,E,I,aZ,h,A,J,M,ih,H,O,T];grind
 ·simp[D,E,I,aZ,h,A,J,M,ih,H,O]
theorem aeO{l:List Ex}(U:l.length<100000000){i:Nat}{x:Ex}(D:i<l.length)(E:l[i]=x)(A:KF (cQ x))(V:(cQ x).length<100000000)(k:Kt)(R1 R2:bW)(B:Bool)
 (H:∀v X,k .ret ⟨126,aA,[(2,true,.d (.bool false))],[⟨300,v,X⟩]⟩=R1)
 (ih:∀v X,aK ctx 69 (.loop (Code.at (bq f69) [1,0,1,0,0])) ⟨126,aA,[(0,true,.d (.list (l.map du))),(3,true,.d (.int .i64 (i+1)))],[⟨300,v,X⟩]⟩ k=if B=true then R2 else R1) (h:cA x=5) (v:Nat) (X:ax):
 aK ctx 69 (.loop (Code.at (bq f69) [1,0,1,0,0])) ⟨126,aA,[(0,true,.d (.list (l.map du))),(3,true,.d (.int .i64 i))],[⟨300,v,X⟩]⟩ k=if (dI x&&B)=true then R2 else R1:=by
 have I:IntKind.i64.wrap ((i:Int)+1)=i+1:=aE (by unfold aG;omega);have J:=ed (dY x);have M:=ed (eW x);unfold KF at A;rw[oo];generalize cR (cQ x)=S at*;generalize cL (dY x)=N at*;generalize cL (eW x)=F at*;rw[ai];simp[f69]at ih⊢;have T:gF 5=0:=rfl;by_cases O:iK x=0
 ·simp[D,E,I,aZ,h,A,J,M,ih,H,O,T];grind
 ·simp[D,E,I,aZ,h,A,J,M,ih,H,O]
theorem aeP{l:List Ex}(U:l.length<100000000){i:Nat}{x:Ex}(D:i<l.length)(E:l[i]=x)(A:KF (cQ x))(V:(cQ x).length<100000000)(k:Kt)(R1 R2:bW)(B:Bool)
 (H:∀v X,k .ret ⟨126,aA,[(2,true,.d (.bool false))],[⟨300,v,X⟩]⟩=R1)
 (ih:∀v X,aK ctx 69 (.loop (Code.at (bq f69) [1,0,1,0,0])) ⟨126,aA,[(0,true,.d (.list (l.map du))),(3,true,.d (.int .i64 (i+1)))],[⟨300,v,X⟩]⟩ k=if B=true then R2 else R1) (h:cA x=6) (v:Nat) (X:ax):
 aK ctx 69 (.loop (Code.at (bq f69) [1,0,1,0,0])) ⟨126,aA,[(0,true,.d (.list (l.map du))),(3,true,.d (.int .i64 i))],[⟨300,v,X⟩]⟩ k=if (dI x&&B)=true then R2 else R1:=by
 have I:IntKind.i64.wrap ((i:Int)+1)=i+1:=aE (by unfold aG;omega);have J:=ed (dY x);have M:=ed (eW x);unfold KF at A;rw[oo];generalize cR (cQ x)=S at*;generalize cL (dY x)=N at*;generalize cL (eW x)=F at*;rw[ai];simp[f69]at ih⊢;have T:gF 6=1:=rfl;by_cases O:iK x=0
 ·simp[D,E,I,aZ,h,A,J,M,ih,H,O,T];grind
 ·simp[D,E,I,aZ,h,A,J,M,ih,H,O]
theorem aeQ{l:List Ex}(U:l.length<100000000){i:Nat}{x:Ex}(D:i<l.length)(E:l[i]=x)(A:KF (cQ x))(V:(cQ x).length<100000000)(k:Kt)(R1 R2:bW)(B:Bool)
 (H:∀v X,k .ret ⟨126,aA,[(2,true,.d (.bool false))],[⟨300,v,X⟩]⟩=R1)
 (ih:∀v X,aK ctx 69 (.loop (Code.at (bq f69) [1,0,1,0,0])) ⟨126,aA,[(0,true,.d (.list (l.map du))),(3,true,.d (.int .i64 (i+1)))],[⟨300,v,X⟩]⟩ k=if B=true then R2 else R1) (h:cA x=7) (v:Nat) (X:ax):
 aK ctx 69 (.loop (Code.at (bq f69) [1,0,1,0,0])) ⟨126,aA,[(0,true,.d (.list (l.map du))),(3,true,.d (.int .i64 i))],[⟨300,v,X⟩]⟩ k=if (dI x&&B)=true then R2 else R1:=by
 have I:IntKind.i64.wrap ((i:Int)+1)=i+1:=aE (by unfold aG;omega);have J:=ed (dY x);have M:=ed (eW x);unfold KF at A;rw[oo];generalize cR (cQ x)=S at*;generalize cL (dY x)=N at*;generalize cL (eW x)=F at*;rw[ai];simp[f69]at ih⊢;have T:gF 7=1:=rfl;by_cases O:iK x=0
 ·simp[D,E,I,aZ,h,A,J,M,ih,H,O,T];grind
 ·simp[D,E,I,aZ,h,A,J,M,ih,H,O]
theorem aeR{l:List Ex}(U:l.length<100000000){i:Nat}{x:Ex}(D:i<l.length)(E:l[i]=x)(A:KF (cQ x))(V:(cQ x).length<100000000)(k:Kt)(R1 R2:bW)(B:Bool)
 (H:∀v X,k .ret ⟨126,aA,[(2,true,.d (.bool false))],[⟨300,v,X⟩]⟩=R1)
 (ih:∀v X,aK ctx 69 (.loop (Code.at (bq f69) [1,0,1,0,0])) ⟨126,aA,[(0,true,.d (.list (l.map du))),(3,true,.d (.int .i64 (i+1)))],[⟨300,v,X⟩]⟩ k=if B=true then R2 else R1) (h:7<cA x) (v:Nat) (X:ax):
 aK ctx 69 (.loop (Code.at (bq f69) [1,0,1,0,0])) ⟨126,aA,[(0,true,.d (.list (l.map du))),(3,true,.d (.int .i64 i))],[⟨300,v,X⟩]⟩ k=if (dI x&&B)=true then R2 else R1:=by
 have I:IntKind.i64.wrap ((i:Int)+1)=i+1:=aE (by unfold aG;omega);have J:=ed (dY x);have M:=ed (eW x);unfold KF at A;rw[oo];generalize cR (cQ x)=S at*;generalize cL (dY x)=N at*;generalize cL (eW x)=F at*;have Y:¬cA x=1:=by omega
 have Z:¬cA x=2:=by omega
 have y:¬cA x=3:=by omega
 have A':¬cA x=4:=by omega
 have A0:¬cA x=5:=by omega
 have A1:¬cA x=6:=by omega
 have A2:¬cA x=7:=by omega
 have d1:2<cA x:=by omega
 have d2:¬cA x<1:=by omega
 have T:gF (cA x)=2:=by unfold gF;rw[aac (by omega),aal h]
 rw[ai];simp[f69]at ih⊢;by_cases O:iK x=0
 ·by_cases A3:21<cA x
  ·simp[D,E,I,aZ,h,A,J,M,ih,H,O,A3,Y,Z,y,A',A0,A1,A2,d1,d2];intros;omega
  ·simp[D,E,I,aZ,h,A,J,M,ih,H,O,A3,T,Y,Z,y,A',A0,A1,A2,d1,d2];grind
 ·simp[D,E,I,aZ,h,A,J,M,ih,H,O,Y,Z,d1];intros;omega
theorem FH(l:List Ex)(A:l.length<100000000)(U:∀x∈l,KF (cQ x))(N:∀x∈l,(cQ x).length<100000000)(k:Kt)(R1 R2:bW)
 (D:∀v X,k .ret ⟨126,aA,[(2,true,.d (.bool false))],[⟨300,v,X⟩]⟩=R1)
 (T:∀(Y:Env) v X,k (.exit 0) ⟨126,aA,Y,[⟨300,v,X⟩]⟩=R2):∀(rest pre:List Ex)(v:Nat)(X:ax),l=pre++rest->
 aK ctx 69 (.loop (Code.at (bq f69) [1,0,1,0,0])) ⟨126,aA,[(0,true,.d (.list (l.map du))),(3,true,.d (.int .i64 pre.length))],[⟨300,v,X⟩]⟩ k=if cR rest=true then R2 else R1
 |[],pre,v,X,O=>by
  have V:pre.length=l.length:=by rw[O];simp
  rw[V,ai];simp[f69,T,cR]
 |x::rest,pre,v,X,O=>by
  have H:pre.length<l.length:=by rw[O];simp
  have I:l[pre.length]=x:=by simp[O]
  have J:=U x (by rw[O];simp);have M:=N x (by rw[O];simp);have ih:∀v X,aK ctx 69 (.loop (Code.at (bq f69) [1,0,1,0,0])) ⟨126,aA,[(0,true,.d (.list (l.map du))),(3,true,.d (.int .i64 (pre.length+1)))],[⟨300,v,X⟩]⟩ k=if cR rest=true then R2 else R1:=λv X=>by
   have:=FH l A U N k R1 R2 D T rest (pre++[x]) v X (by simp[O]);simpa using this
  have key:cR (x::rest)=(dI x&&cR rest):=by rw[cR]
  rw[key];have Z:cA x<1\/cA x=1\/cA x=2\/cA x=3\/cA x=4\/cA x=5\/cA x=6\/cA x=7\/7<cA x:=by omega
  rcases Z with h|h|h|h|h|h|h|h|h
  ·exact aeJ A H I J M k R1 R2 _ D ih h v X
  ·exact aeK A H I J M k R1 R2 _ D ih h v X
  ·exact aeL A H I J M k R1 R2 _ D ih h v X
  ·exact aeM A H I J M k R1 R2 _ D ih h v X
  ·exact aeN A H I J M k R1 R2 _ D ih h v X
  ·exact aeO A H I J M k R1 R2 _ D ih h v X
  ·exact aeP A H I J M k R1 R2 _ D ih h v X
  ·exact aeQ A H I J M k R1 R2 _ D ih h v X
  ·exact aeR A H I J M k R1 R2 _ D ih h v X
theorem T0{l:List Ex}(A:l.length<100000000)(U:∀x∈l,KF (cQ x))(N:∀x∈l,(cQ x).length<100000000):KF l:=by
 have h:=λk R1 R2 D T v X=>FH l A U N k R1 R2 D T l [] v X rfl;unfold KF;rw[ai5 (by simp)];simp[f69]at h⊢;rw[h _ (some (.ret (.d (.bool false)),[])) (some (.ret (.d (.bool true)),[]))]
 ·cases cR l<;>simp
 ·intro v X;simp
 ·intro Y v X;simp
mutual
def vE:Ex->Prop
 | .mk _ _ name field sub _=>(name.length<100000000/\field.length<100000000/\sub.length<100000000)/\oq sub
def oq:List Ex->Prop
 |[]=>True
 |x::r=>vE x/\oq r
end
mutual
theorem aeS:∀x:Ex,vE x->KF (cQ x)/\(cQ x).length<100000000
 | .mk op nn name field sub line,h=>by
  simp only[vE]at h;have N:=An sub h.2;exact⟨T0 h.1.2.2 (λx E=>(N x E).1) (λx E=>(N x E).2),h.1.2.2⟩
theorem An:∀l:List Ex,oq l->∀x∈l,KF (cQ x)/\(cQ x).length<100000000
 |[],_,x,E=>by simp at E
 |y::r,h,x,E=>by
  simp only[oq]at h;have D:=aeS y h.1;have T:=An r h.2;rcases aak.1 E with e|E
  ·rw[e];exact D
  ·exact T x E
end
theorem BL{l:List Ex}(A:l.length<100000000)(h:oq l):KF l:=
 T0 A (λx E=>(An l h x E).1) (λx E=>(An l h x E).2)
end Go.Am
end
section
namespace Go.Am
open Go
theorem M5{k:Int}(h:pN k=true):10<=k/\k<=31:=by
 unfold pN br at h;by_cases A:10<=k/\k<=31
 ·exact A
 ·exfalso;have:xe KL k=[]:=by
   unfold KL;simp only[xe];repeat rw[aac (by omega)]
  rw[this]at h;simp at h
theorem aaT{v:Vr}(h:dA v=true):(v.ty=1\/v.ty=2)\/(10<=v.ty/\v.ty<=31/\pN v.ty=true):=by
 simp only[dA,Ds,ago,aag]at h;rcases h.2.1.2 with h|h
 ·exact .inl h
 ·exact .inr ⟨(M5 h).1,(M5 h).2,h⟩
theorem qx{s:Tx}{v:Vr}:∀{l:List Vr},bu l s=some v->v∈l/\v.name=s
 |x::r,h=>by
  unfold bu at h;split at h
  ·rename_i e;cases h;exact⟨by simp,e⟩
  ·have:=qx h;exact⟨by simp[this.1],this.2⟩
end Go.Am
end
section
namespace Go.Am
open Go Go.Proofs
variable [Inhabited bB]
set_option maxRecDepth 20000
@[simp] def smL(x:Sm):List D:=[.int .i64 (bf x),.str (gC x),
 .int .i64 (cA (fq x)),.int .i64 (iK (fq x)),.str (dY (fq x)),.str (eW (fq x)),.list ((cQ (fq x)).map du),.int .i64 (mY (fq x)),
 .int .i64 (cA (dk x)),.int .i64 (iK (dk x)),.str (dY (dk x)),.str (eW (dk x)),.list ((cQ (dk x)).map du),.int .i64 (mY (dk x)),
 .list ((bV x).map du),.list ((cq x).map gX),.list ((dn x).map .str),.list ((aV x).map oK),.int .i64 (kO x)]
section
variable {vs:List Vr} {n:Int} (A:vs.length<1000000) (E:∀v∈vs,dA v=true)
include A E
end
end Go.Am
end
section
namespace Go.Am
open Go Go.Proofs Go.Proofs.Tryz
variable [Inhabited bB]
set_option maxRecDepth 20000
@[simp] def bg(x:Sm):ax:=.box [.d (.int .i64 (bf x)),.d (.str (gC x)),.d (.int .i64 (cA (fq x))),.d (.int .i64 (iK (fq x))),.d (.str (dY (fq x))),.d (.str (eW (fq x))),.d (.list ((cQ (fq x)).map du)),.d (.int .i64 (mY (fq x))),
 .d (.int .i64 (cA (dk x))),.d (.int .i64 (iK (dk x))),.d (.str (dY (dk x))),.d (.str (eW (dk x))),.d (.list ((cQ (dk x)).map du)),.d (.int .i64 (mY (dk x))),.d (.list ((bV x).map du)),.d (.list ((cq x).map gX)),.d (.list ((dn x).map .str)),.d (.list ((aV x).map oK)),.d (.int .i64 (kO x))]
@[simp] def ix(v:Vr):ax:=.box [.d (.str v.name),.d (.int .i64 v.ty),.d (.int .i64 v.sec),.d (.bool v.arr),.d (.int .i64 v.lo),.d (.int .i64 v.hi),.d (.int .i64 v.init),.d (.int .i64 v.line)]
theorem WA{v:Vr}(D:dA v=true):ah ctx 72 [.d (bm v)] []=some (.ret (.d (.int .i64 (b5 v))),[]):=by
 have H:=Ek v.ty;rw[ai7 (by simp)];unfold b5;cases A:v.arr with
 |true=>
  simp only[dA,Ds,A,afh,aag]at D;have I:IntKind.i64.wrap (v.hi-v.lo)=v.hi-v.lo:=aE (by unfold aG;omega);have J:IntKind.i64.wrap (v.hi-v.lo+1)=v.hi-v.lo+1:=aE (by unfold aG;omega);simp[f72,bm,dj,A,I,J]
 |false=>
  by_cases E:2<v.ty
  ·simp[f72,bm,dj,A,E,H]
  ·simp[f72,bm,dj,A,E]
theorem AZ{v:Vr}(D:dA v=true):0<=b5 v/\b5 v<=256:=by
 have:=zx v.ty;unfold b5;cases A:v.arr with
 |true=>
  simp only[dA,Ds,A,afh,aag]at D;simp only[afh];omega
 |false=>
  simp only[akh,acy];split<;>omega
end Go.Am
end
