/-
  Texts of one proof, one behind the other.
-/
import Derived.Test.YtccmboenpbjhnaaGreatDoorD3
import Derived.Test.YtccmboenpbjhnaaGreatDoorProg
import Derived.KernelRfl
import Derived.Lib.Bytealg
import Derived.Lib.Index
import Derived.Lib.Strings
set_option linter.all false
section
namespace Go.Am
open Go
inductive Ex where
 |mk (op n:Int) (name field:Tx) (sub:List Ex) (line:Int)
inductive Sm where
 |mk (op:Int) (name:Tx) (to val:Ex) (E:List Ex) (H:List (List Int)) (fields:List Tx) (I:List (List Sm)) (line:Int)
instance:Inhabited Ex:=⟨.mk 0 0 [] [] [] 0⟩
instance:Inhabited Sm:=⟨.mk 0 [] default default [] [] [] [] 0⟩
structure Vr where
 name:Tx
 ty:Int
 sec:Int
 arr:Bool
 lo:Int
 hi:Int
 init:Int
 line:Int
 deriving DecidableEq
structure Pg where
 name:Tx
 vars:List Vr
 body:List Sm
mutual
def du:Ex->D
 | .mk op n name field sub line=>.agg [.int .i64 op,.int .i64 n,.str name,.str field,.list (sW sub),.int .i64 line]
def sW:List Ex->List D
 |[]=>[]
 |x::r=>du x::sW r
end
theorem rX:∀l:List Ex,sW l=l.map du
 |[]=>rfl
 |x::r=>by simp[sW,rX r]
def Ix:Ex->List D
 | .mk op n name field sub line=>[.int .i64 op,.int .i64 n,.str name,.str field,.list (sW sub),.int .i64 line]
theorem GB(x:Ex):du x=.agg (Ix x):=by cases x;rfl
def hM(l:List Int):D:=.list (l.map λn=>.int .i64 n)
mutual
def cw:Sm->D
 | .mk op name to val E H fields I line=>.agg (.int .i64 op::.str name::(Ix to++(Ix val++[.list (sW E),.list (H.map hM),.list (fields.map .str),.list (wZ I),.int .i64 line])))
def uP:List Sm->List D
 |[]=>[]
 |x::r=>cw x::uP r
def wZ:List (List Sm)->List D
 |[]=>[]
 |b::r=>.list (uP b)::wZ r
end
theorem As:∀l:List Sm,uP l=l.map cw
 |[]=>rfl
 |x::r=>by simp[uP,As r]
theorem At:∀l:List (List Sm),wZ l=l.map λb=>.list (b.map cw)
 |[]=>rfl
 |x::r=>by simp[wZ,At r,As]
def dk(v:Vr):List D:=[.str v.name,.int .i64 v.ty,.int .i64 v.sec,.bool v.arr,.int .i64 v.lo,.int .i64 v.hi,.int .i64 v.init,.int .i64 v.line]
def bn(v:Vr):D:=.agg (dk v)
structure PS where
 at_:Nat
 deep:Int
 vars:List Vr
structure Er where
 e:Int
 line:Int
 Dl:Int
 deriving DecidableEq
abbrev PM(α:Type):=PR Er PS α
abbrev wr(n:Int):Int:=IntKind.i64.wrap n
section
variable (L:List eJ)
def sX(s:PS):PM eJ:=match L[s.at_]? with
 |some t=>.ok t s
 |none=>.out
def PF{α:Type}(e:Int)(t:eJ)(s:PS):PM α:=.bad ⟨e,t.line,t.Dl⟩ s
def isW(t:eJ)(w:Tx):Bool:=(decide (t.kind=2)||decide (t.kind=4))&&decide (t.text=w)
def isS(w:Tx)(s:PS):PM Bool:=(sX L s).bind λt s=>.ok (isW t w) s
def anyS:List Tx->PS->PM Bool
 |[],s=>.ok false s
 |w::r,s=>(isS L w s).bind λb s=>if b=true then .ok true s else anyS r s
def Au(s:PS):PM eJ:=(sX L s).bind λt s=>.ok t (if t.kind=0 then s else {s with at_:=s.at_+1})
def jH(w:Tx)(s:PS):PM Bool:=(isS L w s).bind λb s=>if b=true then (Au L s).bind λ_ s=>.ok true s else .ok false s
def hU(w:Tx)(s:PS):PM Unit:=(jH L w s).bind λb s=>if b=true then .ok () s else (sX L s).bind λt s=>PF 5 t s
def xc(k:Int)(s:PS):PM eJ:=(sX L s).bind λt s=>if t.kind=k then Au L s else (sX L s).bind λt s=>PF 5 t s
def Yo(s:PS):PM Unit:=if 32<wr (s.deep+1)then (sX L {s with deep:=wr (s.deep+1)}).bind λt s=>PF 13 t s else .ok () {s with deep:=wr (s.deep+1)}
def PG(s:PS):PM Unit:=.ok () {s with deep:=wr (s.deep-1)}
structure Kd where
 at_:eJ
 kind:Int
 arr:Bool
 lo:Int
 hi:Int
def K4(s:PS):PM Int:=(jH L [45] s).bind λb s=>if b=true then (xc L 3 s).bind λt s=>.ok (wr (-t.n)) s else (xc L 3 s).bind λt s=>.ok t.n s
def lvT:List (List Tx):=[[[79,82]],[[88,79,82]],[[65,78,68]],[[61],[60,62],[60],[62],[60,61],[62,61]],[[43],[45]],[[42],[47],[77,79,68]]]
def opT:List Tx:=[[43],[45],[42],[47],[77,79,68],[61],[60,62],[60],[62],[60,61],[62,61],[65,78,68],[88,79,82],[79,82]]
def adq(w:Tx):List Tx->Nat->Int
 |[],_=> -1
 |x::r,i=>if w=x then i else adq w r (i+1)
def opI(w:Tx):Int:=8+adq w opT 0
def vB:Ex:=.mk 0 0 [] [] [] 0
def Yp(t:eJ):Ex:=.mk 3 0 t.text [] [] t.line
def Dm(op:Int)(A:Tx)(l:List Ex)(line:Int):Ex:=.mk op 0 A [] l line
def FO(s:PS):PM Bool:=(sX L s).bind λt s=>if t.kind=3 then .ok true s else isS L [45] s
def K5:Nat->List Int->PS->PM (List Int)
 |0,_,_=>.out
 |f+1,l,s=>(K4 L s).bind λlo s=>(jH L [46,46] s).bind λb s=>(if b=true then K4 L s else .ok lo s).bind λhi s=>
  if l.length<100000 then (jH L [44] s).bind λb s=>if b=true then K5 f (l++[lo,hi]) s else (hU L [58] s).bind λ_ s=>.ok (l++[lo,hi]) s else .out
def Wd(s:PS):PM Bool:=(FO L s).bind λb s=>if b=true then .ok true s else (isS L [69,76,83,69] s).bind λb s=>if b=true then .ok true s else isS L [69,78,68,95,67,65,83,69] s
mutual
def sY:Nat->Nat->PS->PM Ex
 |0,_,_=>.out
 |f+1,n,s=>if n=6 then vC f s else if n<6 then (sY f (n+1) s).bind λx s=>zB f n x s else .out
def zB:Nat->Nat->Ex->PS->PM Ex
 |0,_,_,_=>.out
 |f+1,n,x,s=>(anyS L (lvT.getD n []) s).bind λb s=>if b=true then (Au L s).bind λt s=>(sY f (n+1) s).bind λy s=>
  if n=3 then .ok (Dm (opI t.text) [] [x,y] t.line) s else zB f n (Dm (opI t.text) [] [x,y] t.line) s
  else .ok x s
def vC:Nat->PS->PM Ex
 |0,_=>.out
 |f+1,s=>(sX L s).bind λt s=>(isS L [45] s).bind λb s=>
  if b=true then Dp f 6 t s else (isS L [78,79,84] s).bind λb s=>if b=true then Dp f 7 t s else vD f s
def Dp:Nat->Int->eJ->PS->PM Ex
 |0,_,_,_=>.out
 |f+1,op,t,s=>(Yo L s).bind λ_ s=>(Au L s).bind λ_ s=>(vC f s).bind λx s=>(PG s).bind λ_ s=>.ok (Dm op [] [x] t.line) s
def kH:Nat->PS->PM Ex
 |0,_=>.out
 |f+1,s=>sY f 0 s
def vE:Nat->PS->PM Ex
 |0,_=>.out
 |f+1,s=>(Yo L s).bind λ_ s=>(hU L [91] s).bind λ_ s=>(kH f s).bind λx s=>(hU L [93] s).bind λ_ s=>(PG s).bind λ_ s=>.ok x s
def vD:Nat->PS->PM Ex
 |0,_=>.out
 |f+1,s=>(sX L s).bind λt s=>
  if t.kind=3 then (Au L s).bind λu s=>.ok (.mk 1 u.n [] [] [] t.line) s else
  (jH L [84,82,85,69] s).bind λb s=>if b=true then .ok (.mk 2 1 [] [] [] t.line) s else
  (jH L [70,65,76,83,69] s).bind λb s=>if b=true then .ok (.mk 2 0 [] [] [] t.line) s else
  (isS L [40] s).bind λb s=>if b=true then (Yo L s).bind λ_ s=>(Au L s).bind λ_ s=>(kH f s).bind λx s=>(hU L [41] s).bind λ_ s=>(PG s).bind λ_ s=>.ok x s else
  (xc L 1 s).bind λ_ s=>
  (isS L [91] s).bind λb s=>if b=true then (vE f s).bind λx s=>.ok (Dm 4 t.text [x] t.line) s else
  (jH L [46] s).bind λb s=>if b=true then (xc L 1 s).bind λu s=>.ok (.mk 5 0 t.text u.text [] t.line) s else .ok (Yp t) s
end
def adr(op:Int):Sm:=.mk op [] vB vB [] [] [] [] 0
def amt(line:Int):Sm->Sm
 | .mk op name to val E H fields I _=>.mk op name to val E H fields I line
mutual
def m4:Nat->List Tx->PS->PM (List Sm)
 |0,_,_=>.out
 |f+1,ends,s=>vF f ends [] s
def vF:Nat->List Tx->List Sm->PS->PM (List Sm)
 |0,_,_,_=>.out
 |f+1,ends,l,s=>(anyS L ends s).bind λb s=>if b=true then .ok l s else (Av f s).bind λx s=>if l.length<100000 then vF f ends (l++[x]) s else .out
def Av:Nat->PS->PM Sm
 |0,_=>.out
 |f+1,s=>(sX L s).bind λt s=>(Yo L s).bind λ_ s=>(Dq f s).bind λx s=>(hU L [59] s).bind λ_ s=>(PG s).bind λ_ s=>.ok (amt t.line x) s
def Dq:Nat->PS->PM Sm
 |0,_=>.out
 |f+1,s=>
  (jH L [73,70] s).bind λb s=>if b=true then qB f s else
  (jH L [67,65,83,69] s).bind λb s=>if b=true then zC f s else
  (jH L [70,79,82] s).bind λb s=>if b=true then sZ f s else
  (jH L [87,72,73,76,69] s).bind λb s=>if b=true then (kH L f s).bind λv s=>(hU L [68,79] s).bind λ_ s=>(m4 f [[69,78,68,95,87,72,73,76,69]] s).bind λl s=>(hU L [69,78,68,95,87,72,73,76,69] s).bind λ_ s=>.ok (.mk 5 [] vB v [] [] [] [l] 0) s else
  (jH L [82,69,80,69,65,84] s).bind λb s=>if b=true then (m4 f [[85,78,84,73,76]] s).bind λl s=>(hU L [85,78,84,73,76] s).bind λ_ s=>(kH L f s).bind λv s=>(hU L [69,78,68,95,82,69,80,69,65,84] s).bind λ_ s=>.ok (.mk 6 [] vB v [] [] [] [l] 0) s else
  (jH L [69,88,73,84] s).bind λb s=>if b=true then .ok (adr 7) s else
  (jH L [82,69,84,85,82,78] s).bind λb s=>if b=true then .ok (adr 8) s else
  (xc L 1 s).bind λA s=>(jH L [40] s).bind λb s=>if b=true then Dr f A.text s else
  (isS L [91] s).bind λb s=>(if b=true then (vE L f s).bind λx s=>.ok (Dm 4 A.text [x] A.line) s else .ok (Yp A) s).bind λto s=>
  (hU L [58,61] s).bind λ_ s=>(kH L f s).bind λv s=>.ok (.mk 1 [] to v [] [] [] [] 0) s
def qB:Nat->PS->PM Sm
 |0,_=>.out
 |f+1,s=>lV f [] [] s
def lV:Nat->List Ex->List (List Sm)->PS->PM Sm
 |0,_,_,_=>.out
 |f+1,c,l,s=>(kH L f s).bind λx s=>(hU L [84,72,69,78] s).bind λ_ s=>(m4 f [[69,76,83,73,70],[69,76,83,69],[69,78,68,95,73,70]] s).bind λb s=>
  if c.length<100000/\l.length<100000 then (jH L [69,76,83,73,70] s).bind λm s=>if m=true then lV f (c++[x]) (l++[b]) s else
   (jH L [69,76,83,69] s).bind λm s=>(if m=true then (m4 f [[69,78,68,95,73,70]] s).bind λz s=>.ok (l++[b]++[z]) s else .ok (l++[b]) s).bind λl s=>(hU L [69,78,68,95,73,70] s).bind λ_ s=>.ok (.mk 2 [] vB vB (c++[x]) [] [] l 0) s
  else .out
def zC:Nat->PS->PM Sm
 |0,_=>.out
 |f+1,s=>(kH L f s).bind λv s=>(hU L [79,70] s).bind λ_ s=>s4 f v [] [] s
def s4:Nat->Ex->List (List Int)->List (List Sm)->PS->PM Sm
 |0,_,_,_,_=>.out
 |f+1,v,c,l,s=>(FO L s).bind λb s=>
  if b=true then (K5 L f [] s).bind λx s=>(xd f [] s).bind λb s=>if c.length<100000/\l.length<100000 then s4 f v (c++[x]) (l++[b]) s else .out
  else (jH L [69,76,83,69] s).bind λm s=>(if m=true then (m4 f [[69,78,68,95,67,65,83,69]] s).bind λz s=>if l.length<100000 then .ok (l++[z]) s else .out else .ok l s).bind λl s=>(hU L [69,78,68,95,67,65,83,69] s).bind λ_ s=>.ok (.mk 3 [] vB v [] c [] l 0) s
def xd:Nat->List Sm->PS->PM (List Sm)
 |0,_,_=>.out
 |f+1,l,s=>(Wd L s).bind λb s=>if b=true then .ok l s else (Av f s).bind λx s=>if l.length<100000 then xd f (l++[x]) s else .out
def sZ:Nat->PS->PM Sm
 |0,_=>.out
 |f+1,s=>(xc L 1 s).bind λA s=>(hU L [58,61] s).bind λ_ s=>(kH L f s).bind λa s=>(hU L [84,79] s).bind λ_ s=>(kH L f s).bind λb s=>
  (sX L s).bind λt s=>(jH L [66,89] s).bind λm s=>(if m=true then kH L f s else .ok (.mk 1 1 [] [] [] t.line) s).bind λc s=>
  (hU L [68,79] s).bind λ_ s=>(m4 f [[69,78,68,95,70,79,82]] s).bind λl s=>(hU L [69,78,68,95,70,79,82] s).bind λ_ s=>.ok (.mk 4 A.text vB vB [a,b,c] [] [] [l] 0) s
def Dr:Nat->Tx->PS->PM Sm
 |0,_,_=>.out
 |f+1,A,s=>(jH L [41] s).bind λb s=>if b=true then .ok (.mk 9 A vB vB [] [] [] [] 0) s else xe f A [] [] s
def xe:Nat->Tx->List Tx->List Ex->PS->PM Sm
 |0,_,_,_,_=>.out
 |f+1,A,c,l,s=>(xc L 1 s).bind λt s=>(hU L [58,61] s).bind λ_ s=>(kH L f s).bind λx s=>
  if c.length<100000/\l.length<100000 then (jH L [44] s).bind λb s=>if b=true then xe f A (c++[t.text]) (l++[x]) s else (hU L [41] s).bind λ_ s=>.ok (.mk 9 A vB vB (l++[x]) [] (c++[t.text]) [] 0) s
  else .out
end
end
def cB:Ex->Int| .mk a _ _ _ _ _=>a
def iN:Ex->Int| .mk _ a _ _ _ _=>a
def ec:Ex->Tx| .mk _ _ a _ _ _=>a
def fa:Ex->Tx| .mk _ _ _ a _ _=>a
def cR:Ex->List Ex| .mk _ _ _ _ a _=>a
def m5:Ex->Int| .mk _ _ _ _ _ a=>a
@[simp] theorem ads{a b c d e f}:cB (.mk a b c d e f)=a:=rfl
@[simp] theorem adt{a b c d e f}:iN (.mk a b c d e f)=b:=rfl
@[simp] theorem Th{a b c d e f}:ec (.mk a b c d e f)=c:=rfl
@[simp] theorem Ti{a b c d e f}:fa (.mk a b c d e f)=d:=rfl
@[simp] theorem Tj{a b c d e f}:cR (.mk a b c d e f)=e:=rfl
@[simp] theorem adu{a b c d e f}:m5 (.mk a b c d e f)=f:=rfl
theorem Yq(x:Ex):Ix x=[.int .i64 (cB x),.int .i64 (iN x),.str (ec x),.str (fa x),.list ((cR x).map du),.int .i64 (m5 x)]:=by cases x;simp[Ix,rX]
theorem aZ(x:Ex):du x=.agg [.int .i64 (cB x),.int .i64 (iN x),.str (ec x),.str (fa x),.list ((cR x).map du),.int .i64 (m5 x)]:=by rw[GB,Yq]
def a6:Sm->Int| .mk a _ _ _ _ _ _ _ _=>a
def gG:Sm->Tx| .mk _ a _ _ _ _ _ _ _=>a
def fB:Sm->Ex| .mk _ _ a _ _ _ _ _ _=>a
def dn:Sm->Ex| .mk _ _ _ a _ _ _ _ _=>a
def bV:Sm->List Ex| .mk _ _ _ _ a _ _ _ _=>a
def cx:Sm->List (List Int)| .mk _ _ _ _ _ a _ _ _=>a
def dp:Sm->List Tx| .mk _ _ _ _ _ _ a _ _=>a
def aO:Sm->List (List Sm)| .mk _ _ _ _ _ _ _ a _=>a
def kR:Sm->Int| .mk _ _ _ _ _ _ _ _ a=>a
@[simp] theorem Tk{a b c d e f g h i}:a6 (.mk a b c d e f g h i)=a:=rfl
@[simp] theorem atH{a b c d e f g h i}:gG (.mk a b c d e f g h i)=b:=rfl
@[simp] theorem atJ{a b c d e f g h i}:fB (.mk a b c d e f g h i)=c:=rfl
@[simp] theorem atK{a b c d e f g h i}:dn (.mk a b c d e f g h i)=d:=rfl
@[simp] theorem adv{a b c d e f g h i}:bV (.mk a b c d e f g h i)=e:=rfl
@[simp] theorem aq8{a b c d e f g h i}:cx (.mk a b c d e f g h i)=f:=rfl
@[simp] theorem adw{a b c d e f g h i}:dp (.mk a b c d e f g h i)=g:=rfl
@[simp] theorem adx{a b c d e f g h i}:aO (.mk a b c d e f g h i)=h:=rfl
@[simp] theorem atM{a b c d e f g h i}:kR (.mk a b c d e f g h i)=i:=rfl
def nL(l:List Sm):D:=.list (l.map cw)
theorem b6(x:Sm):cw x=.agg [.int .i64 (a6 x),.str (gG x),
 .int .i64 (cB (fB x)),.int .i64 (iN (fB x)),.str (ec (fB x)),.str (fa (fB x)),.list ((cR (fB x)).map du),.int .i64 (m5 (fB x)),
 .int .i64 (cB (dn x)),.int .i64 (iN (dn x)),.str (ec (dn x)),.str (fa (dn x)),.list ((cR (dn x)).map du),.int .i64 (m5 (dn x)),
 .list ((bV x).map du),.list ((cx x).map hM),.list ((dp x).map .str),.list ((aO x).map nL),.int .i64 (kR x)]:=by
 cases x;simp[cw,Yq,rX,At,nL]
def We(c:UInt8):Bool:=(decide (65<=c.toNat)&&decide (c.toNat<=90))||(decide (97<=c.toNat)&&decide (c.toNat<=122))
def Wf(c:UInt8):Bool:=decide (48<=c.toNat)&&decide (c.toNat<=57)
def tX:List UInt8->Nat->Bool
 |[],_=>true
 |c::r,i=>(We c||(!decide (i=0)&&(decide (c=95)||Wf c)))&&tX r (i+1)
def cL(s:Tx):Bool:=decide (1<=s.length)&&(decide (s.length<=16)&&(!tW s&&tX s 0))
structure Pn where
 name:Tx
 ty:Int
 Iy:Bool
 deriving DecidableEq
def cE(p:Pn):D:=.agg [.str p.name,.int .i64 p.ty,.bool p.Iy]
def jI(ins outs:List (Tx×Bool))(n:Nat):List Pn:=ins.map (λx=>⟨x.1,if x.2 then 1 else 2,true⟩)++outs.map (λx=>⟨x.1,if x.2 then 1 else 2,false⟩)++List.replicate n ⟨[],1,false⟩
def Aw:List (Tx×Bool):=[([68,111,110,101],false),([66,117,115,121],false),([65,99,116,105,118,101],false),([67,111,109,109,97,110,100,65,98,111,114,116,101,100],false),([69,114,114,111,114],false)]
def K6:List (Int×List Pn):=[
 (10,jI [([73,78],false),([80,84],true)] [([81],false),([69,84],true)] 0),
 (11,jI [([73,78],false),([80,84],true)] [([81],false),([69,84],true)] 0),
 (12,jI [([73,78],false),([80,84],true)] [([81],false),([69,84],true)] 2),
 (13,jI [([67,85],false),([82],false),([80,86],true)] [([81],false),([67,86],true)] 1),
 (14,jI [([67,68],false),([76,68],false),([80,86],true)] [([81],false),([67,86],true)] 1),
 (15,jI [([67,76,75],false)] [([81],false)] 1),
 (16,jI [([67,76,75],false)] [([81],false)] 1),
 (17,jI [([83,49],false),([82],false)] [([81,49],false)] 0),
 (18,jI [([83],false),([82,49],false)] [([81,49],false)] 0),
 (20,jI [([65,120,105,115],true),([69,110,97,98,108,101],false)] [([83,116,97,116,117,115],false),([69,114,114,111,114],false)] 0),
 (21,jI [([65,120,105,115],true),([69,120,101,99,117,116,101],false)] Aw 2),
 (22,jI [([65,120,105,115],true),([69,120,101,99,117,116,101],false)] Aw 2),
 (23,jI [([65,120,105,115],true),([69,120,101,99,117,116,101],false)] Aw 2),
 (24,jI [([65,120,105,115],true),([69,120,101,99,117,116,101],false),([80,111,115,105,116,105,111,110],true),([86,101,108,111,99,105,116,121],true),([66,117,102,102,101,114,77,111,100,101],true)] Aw 2),
 (25,jI [([65,120,105,115],true),([69,120,101,99,117,116,101],false),([68,105,115,116,97,110,99,101],true),([86,101,108,111,99,105,116,121],true),([66,117,102,102,101,114,77,111,100,101],true)] Aw 2),
 (26,jI [([65,120,105,115],true),([69,120,101,99,117,116,101],false),([68,105,115,116,97,110,99,101],true),([86,101,108,111,99,105,116,121],true),([66,117,102,102,101,114,77,111,100,101],true)] Aw 2),
 (27,jI [([65,120,105,115],true),([69,120,101,99,117,116,101],false),([86,101,108,111,99,105,116,121],true)] [([73,110,86,101,108,111,99,105,116,121],false),([66,117,115,121],false),([65,99,116,105,118,101],false),([67,111,109,109,97,110,100,65,98,111,114,116,101,100],false),([69,114,114,111,114],false)] 2),
 (28,jI [([65,120,105,115],true),([69,120,101,99,117,116,101],false),([77,97,115,116,101,114],true),([78,117,109,101,114,97,116,111,114],true),([68,101,110,111,109,105,110,97,116,111,114],true)] [([73,110,71,101,97,114],false),([66,117,115,121],false),([65,99,116,105,118,101],false),([67,111,109,109,97,110,100,65,98,111,114,116,101,100],false),([69,114,114,111,114],false)] 2),
 (29,jI [([65,120,105,115],true),([69,120,101,99,117,116,101],false)] [([68,111,110,101],false),([69,114,114,111,114],false)] 1),
 (30,jI [([65,120,105,115],true),([69,120,101,99,117,116,101],false),([80,111,115,105,116,105,111,110],true)] [([68,111,110,101],false),([69,114,114,111,114],false)] 1),
 (31,jI [([65,120,105,115],true),([69,110,97,98,108,101],false),([80,101,114,99,101,110,116],true)] [([69,110,97,98,108,101,100],false)] 0)]
def xf:List (Int×List Pn)->Int->List Pn
 |[],_=>[]
 |(a,l)::r,k=>if a=k then l else xf r k
def br(k:Int):List Pn:=xf K6 k
def xg:List Pn->Tx->Option Pn
 |[],_=>none
 |p::r,s=>if p.name=s/\s≠[]then some p else xg r s
def lW(k:Int)(s:Tx):Option Pn:=xg (br k) s
def bu:List Vr->Tx->Option Vr
 |[],_=>none
 |v::r,s=>if v.name=s then some v else bu r s
def b5(v:Vr):Int:=if v.arr=true then v.hi-v.lo+1 else if 2<v.ty then (br v.ty).length else 1
structure Te where
 t:Int
 e:Int
 line:Int
 deriving DecidableEq
def gN(t:Int):Te:=⟨t,0,0⟩
def cF(e line:Int):Te:=⟨0,e,line⟩
def ic(op t:Int):Int:=if op=6\/(8<=op/\op<=12)\/(15<=op/\op<=18)then 1 else if op=13\/op=14 then t else 2
def lf(op:Int):Int:=if op=6\/(8<=op/\op<=12)then 1 else 2
def b7(op line:Int)(a b:Te):Te:=
 if a.e≠0 then ⟨0,a.e,a.line⟩else if b.e≠0 then ⟨0,b.e,b.line⟩else
 if a.t≠ic op a.t\/b.t≠ic op a.t then cF 10 line else gN (lf op)
theorem rY{op line:Int}{a b:Te}(h:(b7 op line a b).e=0):a.e=0/\b.e=0/\a.t=ic op a.t/\b.t=ic op a.t/\b7 op line a b=gN (lf op):=by
 unfold b7 at h⊢;by_cases A:a.e≠0
 ·rw[aap A]at h;exact absurd h A
 ·rw[aah A]at h⊢;by_cases E:b.e≠0
  ·rw[aap E]at h;exact absurd h E
  ·rw[aah E]at h⊢;by_cases H:a.t≠ic op a.t\/b.t≠ic op a.t
   ·rw[aap H]at h;simp[cF]at h
   ·rw[aah H];simp only[ne_eq,akD,Decidable.not_not]at A E H;exact⟨A,E,H.1,H.2,rfl⟩
mutual
def aR(vs:List Vr):Ex->Te
 | .mk op _ name field sub line=>
  if op=1\/op=2 then gN op
  else if op=3\/op=4\/op=5 then
   match bu vs name with
   |none=>cF 9 line
   |some v=>
    if op=5 then (if v.ty<=2 then cF 10 line else match lW v.ty field with
     |none=>cF 9 line
     |some p=>gN p.ty)
    else if v.arr≠decide (op=4)\/2<v.ty then cF 10 line
    else if op=4 then K7 vs v.ty sub
    else gN v.ty
  else tyO vs op line sub
def K7(vs:List Vr)(t:Int):List Ex->Te
 |[]=>gN t
 |x::_=>if (aR vs x).e≠0 then cF (aR vs x).e (aR vs x).line else if (aR vs x).t≠1 then cF 10 (m5 x)else gN t
def tyO(vs:List Vr)(op line:Int):List Ex->Te
 |[]=>gN 0
 |[x]=>b7 op line (aR vs x) (aR vs x)
 |x::y::_=>b7 op line (aR vs x) (aR vs y)
end
def dy(vs:List Vr)(x:Ex)(t:Int):Int×Int:=if (aR vs x).e≠0 then ((aR vs x).e,(aR vs x).line)else if (aR vs x).t≠t then (10,m5 x)else (0,0)
def nk(b:Int):Nat:=
 if b=10 then 4 else if b=11 then 4 else if b=12 then 6 else if b=13 then 6 else if b=14 then 6 else if b=15 then 3 else if b=16 then 3 else if b=17 then 3 else if b=18 then 3 else if b=20 then 4 else if b=21 then 9 else if b=22 then 9 else if b=23 then 9 else if b=24 then 12 else if b=25 then 12 else if b=26 then 12 else if b=27 then 10 else if b=28 then 12 else if b=29 then 5 else if b=30 then 6 else if b=31 then 4 else 0
def ka:List Int:=[10,11,12,13,14,15,16,17,18,20,21,22,23,24,25,26,27,28,29,30,31]
theorem xh{b:Int}(A:b∉ka):br b=[]:=by
 simp only[ka,aan,acX,akI,akD]at A;obtain⟨D,E,H,I,J,M,N,O,T,U,V,Y,Z,y,A',A0,A1,A2,A3,A4,A5⟩:=A;unfold br K6;simp only[xf,aah (afL D),aah (afL E),aah (afL H),aah (afL I),aah (afL J),aah (afL M),aah (afL N),aah (afL O),aah (afL T),aah (afL U),aah (afL V),aah (afL Y),aah (afL Z),aah (afL y),aah (afL A'),aah (afL A0),aah (afL A1),aah (afL A2),aah (afL A3),aah (afL A4),aah (afL A5)]
theorem zD(b:Int):(br b).length<=20:=by
 by_cases A:b∈ka
 ·simp only[ka,aan,acX,akI]at A;rcases A with rfl|rfl|rfl|rfl|rfl|rfl|rfl|rfl|rfl|rfl|rfl|rfl|rfl|rfl|rfl|rfl|rfl|rfl|rfl|rfl|rfl<;>decide
 ·rw[xh A];decide
def Yr(x:aU)(n:Int):Bool:=decide (x.n<=n)&&decide (n<=x.m)
def xR(C:List Int)(k:Int):Int:=C[k.toNat]?.getD 0
def ahJ(C:List Int)(x:aU):Bool:=decide (0<=xR C (x.b+1)/\xR C x.a<=xR C x.b)||decide (xR C (x.b+1)<0/\xR C x.b<=xR C x.a)
theorem zE(k a b q e:Int):(rK k a b q e).length=4:=by unfold rK;(repeat' split)<;>rfl
theorem tY(k a b q e p r:Int):(nh k a b q e p r).length=6:=by unfold nh Yj Yk Yl;dsimp only;(repeat' split)<;>rfl
theorem Tm(k a b q:Int):(rL k a b q).length=3:=by unfold rL;(repeat' split)<;>rfl
theorem FQ(k:Int)(c:List Int):(gg k c).length=c.length:=by
 unfold gg;split
 ·exact Tm ..
 ·exact zE ..
 ·exact tY ..
 ·rfl
structure Ms where
 cells:List Int
 s6:List Int
 at_:Int
 fuel:Int
 fault:Int
def Ms.pop(s:Ms):Ms:={s with s6:=s.s6.dropLast}
def Ms.push(s:Ms)(n:Int):Ms:={s with s6:=s.s6++[n]}
def Ms.top(s:Ms):Int:=s.s6.getLast?.getD 0
def adz(C:List Int)(k n:Int):List Int:=C.set k.toNat n
def ahK(x:aU)(s:Ms):Option Ms:=
 if x.op=1 then some (s.push x.n)
 else if x.op=2 then some (s.push (xR s.cells x.a))
 else if x.op=3 then some (s.push (dG (decide (xR s.cells x.a≠0))))
 else if x.op=4\/x.op=5 then
  (if Yr x s.top=true then some (s.pop.push (if x.op=4 then xR s.cells (x.a+(s.top-x.n))else dG (decide (xR s.cells (x.a+(s.top-x.n))≠0))))else some {s.pop with fault:=3})
 else if x.op=6 then some {s.pop with cells:=adz s.cells x.a s.top}
 else if x.op=7 then
  (if Yr x s.pop.top=true then some {s.pop.pop with cells:=adz s.cells (x.a+(s.pop.top-x.n)) s.top} else some {s.pop.pop with fault:=3})
 else none
def doF(x:aU)(s:Ms):Ms:=
 if x.b=6\/x.b=7 then
  (if (oo x.b s.top (decide (x.a=1))).2.2=0 then s.pop.push (oo x.b s.top (decide (x.a=1))).1 else {s.pop with fault:=(oo x.b s.top (decide (x.a=1))).2.2})
 else
  (if (kl x.b s.pop.top s.top (decide (x.a=1))).2.2=0 then s.pop.pop.push (kl x.b s.pop.top s.top (decide (x.a=1))).1 else {s.pop.pop with fault:=(kl x.b s.pop.top s.top (decide (x.a=1))).2.2})
def adA(x:aU)(C:List Int):List Int:=C.take x.a.toNat++gg x.b ((C.drop x.a.toNat).take (nk x.b))++C.drop (x.a.toNat+nk x.b)
def amu(x:aU)(s:Ms):Ms:=
 if x.op=8 then doF x s
 else if x.op=9 then {s with at_:=x.a}
 else if x.op=10 then (if s.top=0 then {s.pop with at_:=x.a} else s.pop)
 else if x.op=11 then (if s.fuel=0 then {s with fault:=4} else {s with fuel:=s.fuel-1})
 else if x.op=12 then {s with cells:=adA x s.cells}
 else if x.op=13 then s.push (dG (ahJ s.cells x))
 else if x.op=14 then s.push (dG (decide (x.n<=xR s.cells x.a/\xR s.cells x.a<=x.m)))
 else s
def PH(x:aU)(s:Ms):Ms:=
 match ahK x {s with at_:=s.at_+1} with
 |some t=>t
 |none=>amu x {s with at_:=s.at_+1}
inductive GC(l:List aU):Ms->Ms->Prop
 |fault (s:Ms) (h:s.fault≠0):GC l s s
 |fin (s:Ms) (x:aU) (A6:s.fault=0) (A7:l[s.at_.toNat]?=some x) (h:x.op=15):GC l s s
 |step (s:Ms) (x:aU) (t:Ms) (A6:s.fault=0) (A7:l[s.at_.toNat]?=some x) (h:x.op≠15) (A8:GC l (PH x s) t):GC l s t
end Go.Am
end
section
namespace Go.Am
open Go
open Go.Proofs
abbrev T2(t:Nat)(k:TK)(s:Nat):Prop:=tk Tryz.prog t=k/\eM Tryz.prog t=some s
abbrev T3(t:Nat)(k:TK)(s:Nat)(z:List AV):Prop:=T2 t k s/\rq Tryz.prog t=some z
abbrev T5(t:Nat)(k:TK)(s:Nat)(z:List AV)(b:Nat)(d:D):Prop:=T3 t k s z/\yd Tryz.prog t=some b/\lD Tryz.prog t=some d
abbrev FF(t i o y:Nat):Prop:=vN Tryz.prog t i=some o/\Hk Tryz.prog t i=some y
@[simp] theorem axA:T2 1 (.func) 1:=by and_intros<;>kernel_rfl
@[simp] theorem axB:T5 2 (.int .i64) 1 ([.d (.int .i64 0)]) 8 (.int .i64 0):=by and_intros<;>kernel_rfl
@[simp] theorem axC:T5 3 (.int .i64) 1 ([.d (.int .i64 0)]) 8 (.int .i64 0):=by and_intros<;>kernel_rfl
@[simp] theorem axD:T5 4 (.bool) 1 ([.d (.bool false)]) 1 (.bool false):=by and_intros<;>kernel_rfl
@[simp] theorem axE:T5 5 (.int .u8) 1 ([.d (.int .u8 0)]) 1 (.int .u8 0):=by and_intros<;>kernel_rfl
@[simp] theorem axF:T5 6 (.int .u8) 1 ([.d (.int .u8 0)]) 1 (.int .u8 0):=by and_intros<;>kernel_rfl
@[simp] theorem axG:T5 7 (.struct) 4 ([.d (.int .i64 0),.d (.int .i64 0),.d (.bool false),.d (.int .u8 0)]) 24 (.agg ([.int .i64 0,.int .i64 0,.bool false,.int .u8 0])):=by and_intros<;>kernel_rfl
@[simp] theorem atW:FF 7 0 0 2:=by and_intros<;>kernel_rfl
@[simp] theorem atX:FF 7 1 1 3:=by and_intros<;>kernel_rfl
@[simp] theorem atY:FF 7 2 2 4:=by and_intros<;>kernel_rfl
@[simp] theorem atZ:FF 7 3 3 6:=by and_intros<;>kernel_rfl
@[simp] theorem amv:bh Tryz.prog 7=some [(0,1),(1,1),(2,1),(3,1)]:=by kernel_rfl
@[simp] theorem axH:T5 8 (.struct) 4 ([.d (.int .i64 0),.d (.int .i64 0),.d (.bool false),.d (.int .u8 0)]) 24 (.agg ([.int .i64 0,.int .i64 0,.bool false,.int .u8 0])):=by and_intros<;>kernel_rfl
@[simp] theorem at0:FF 8 0 0 2:=by and_intros<;>kernel_rfl
@[simp] theorem at1:FF 8 1 1 3:=by and_intros<;>kernel_rfl
@[simp] theorem at3:FF 8 2 2 4:=by and_intros<;>kernel_rfl
@[simp] theorem at4:FF 8 3 3 6:=by and_intros<;>kernel_rfl
@[simp] theorem amw:bh Tryz.prog 8=some [(0,1),(1,1),(2,1),(3,1)]:=by kernel_rfl
@[simp] theorem axI:T5 9 (.str) 1 ([.d (.str [])]) 16 (.str []):=by and_intros<;>kernel_rfl
@[simp] theorem aq9:eu Tryz.prog 9=true:=by kernel_rfl
@[simp] theorem awr:T5 10 (.str) 1 ([.d (.str [])]) 16 (.str []):=by and_intros<;>kernel_rfl
@[simp] theorem amx:eu Tryz.prog 10=true:=by kernel_rfl
@[simp] theorem aws:T5 11 (.str) 1 ([.d (.str [])]) 16 (.str []):=by and_intros<;>kernel_rfl
@[simp] theorem amy:eu Tryz.prog 11=true:=by kernel_rfl
@[simp] theorem awt:T5 12 (.int .u64) 1 ([.d (.int .u64 0)]) 8 (.int .u64 0):=by and_intros<;>kernel_rfl
@[simp] theorem awu:T5 13 (.struct) 2 ([.d (.str []),.d (.int .u64 0)]) 24 (.agg ([.str [],.int .u64 0])):=by and_intros<;>kernel_rfl
@[simp] theorem ara:FF 13 0 0 9:=by and_intros<;>kernel_rfl
@[simp] theorem arb:FF 13 1 1 12:=by and_intros<;>kernel_rfl
@[simp] theorem akJ:bh Tryz.prog 13=some [(0,1),(1,1)]:=by kernel_rfl
@[simp] theorem awv:T5 14 (.struct) 2 ([.d (.str []),.d (.int .u64 0)]) 24 (.agg ([.str [],.int .u64 0])):=by and_intros<;>kernel_rfl
@[simp] theorem arc:FF 14 0 0 9:=by and_intros<;>kernel_rfl
@[simp] theorem ard:FF 14 1 1 12:=by and_intros<;>kernel_rfl
@[simp] theorem akK:bh Tryz.prog 14=some [(0,1),(1,1)]:=by kernel_rfl
@[simp] theorem aww:T2 15 (.ptr 348) 1:=by and_intros<;>kernel_rfl
@[simp] theorem awx:T2 16 (.ptr 351) 1:=by and_intros<;>kernel_rfl
@[simp] theorem awy:T2 17 (.ptr 359) 1:=by and_intros<;>kernel_rfl
@[simp] theorem awz:T3 18 (.struct) 1 ([.lit (.pointer none)]):=by and_intros<;>kernel_rfl
@[simp] theorem are:FF 18 0 0 17:=by and_intros<;>kernel_rfl
@[simp] theorem akL:bh Tryz.prog 18=some [(0,1)]:=by kernel_rfl
@[simp] theorem awA:T3 19 (.struct) 1 ([.lit (.pointer none)]):=by and_intros<;>kernel_rfl
@[simp] theorem arf:FF 19 0 0 17:=by and_intros<;>kernel_rfl
@[simp] theorem akM:bh Tryz.prog 19=some [(0,1)]:=by kernel_rfl
@[simp] theorem awB:T2 20 (.iface) 1:=by and_intros<;>kernel_rfl
@[simp] theorem awC:T5 21 (.int .i32) 1 ([.d (.int .i32 0)]) 4 (.int .i32 0):=by and_intros<;>kernel_rfl
@[simp] theorem awD:T5 22 (.slice 64) 1 ([.lit (.slice none 0 0)]) 24 (.list []):=by and_intros<;>kernel_rfl
@[simp] theorem amz:eu Tryz.prog 22=true:=by kernel_rfl
@[simp] theorem awE:T5 23 (.slice 119) 1 ([.lit (.slice none 0 0)]) 24 (.list []):=by and_intros<;>kernel_rfl
@[simp] theorem amA:eu Tryz.prog 23=true:=by kernel_rfl
@[simp] theorem awF:T5 24 (.struct) 3 ([.d (.str []),.lit (.slice none 0 0),.lit (.slice none 0 0)]) 64 (.agg ([.str [],.list [],.list []])):=by and_intros<;>kernel_rfl
@[simp] theorem arh:FF 24 0 0 9:=by and_intros<;>kernel_rfl
@[simp] theorem ari:FF 24 1 1 22:=by and_intros<;>kernel_rfl
@[simp] theorem arj:FF 24 2 2 23:=by and_intros<;>kernel_rfl
@[simp] theorem akN:bh Tryz.prog 24=some [(0,1),(1,1),(2,1)]:=by kernel_rfl
@[simp] theorem awG:T5 25 (.struct) 3 ([.d (.str []),.lit (.slice none 0 0),.lit (.slice none 0 0)]) 64 (.agg ([.str [],.list [],.list []])):=by and_intros<;>kernel_rfl
@[simp] theorem ark:FF 25 0 0 9:=by and_intros<;>kernel_rfl
@[simp] theorem arl:FF 25 1 1 22:=by and_intros<;>kernel_rfl
@[simp] theorem arn:FF 25 2 2 23:=by and_intros<;>kernel_rfl
@[simp] theorem akO:bh Tryz.prog 25=some [(0,1),(1,1),(2,1)]:=by kernel_rfl
@[simp] theorem awH:T5 26 (.slice 2) 1 ([.lit (.slice none 0 0)]) 24 (.list []):=by and_intros<;>kernel_rfl
@[simp] theorem amB:eu Tryz.prog 26=true:=by kernel_rfl
@[simp] theorem awI:T2 27 (.func) 1:=by and_intros<;>kernel_rfl
@[simp] theorem awJ:T2 28 (.func) 1:=by and_intros<;>kernel_rfl
@[simp] theorem awK:T5 29 (.struct) 2 ([.d (.int .i64 0),.d (.int .i64 0)]) 16 (.agg ([.int .i64 0,.int .i64 0])):=by and_intros<;>kernel_rfl
@[simp] theorem aro:FF 29 0 0 3:=by and_intros<;>kernel_rfl
@[simp] theorem arp:FF 29 1 1 3:=by and_intros<;>kernel_rfl
@[simp] theorem akP:bh Tryz.prog 29=some [(0,1),(1,1)]/\bU Tryz.prog 29=some [.int .i64,.int .i64]:=by and_intros<;>kernel_rfl
@[simp] theorem awL:T5 30 (.struct) 2 ([.d (.int .i64 0),.d (.int .i64 0)]) 16 (.agg ([.int .i64 0,.int .i64 0])):=by and_intros<;>kernel_rfl
@[simp] theorem arq:FF 30 0 0 3:=by and_intros<;>kernel_rfl
@[simp] theorem ars:FF 30 1 1 3:=by and_intros<;>kernel_rfl
@[simp] theorem akQ:bh Tryz.prog 30=some [(0,1),(1,1)]/\bU Tryz.prog 30=some [.int .i64,.int .i64]:=by and_intros<;>kernel_rfl
@[simp] theorem awM:T2 31 (.func) 1:=by and_intros<;>kernel_rfl
@[simp] theorem awN:T5 32 (.slice 49) 1 ([.lit (.slice none 0 0)]) 24 (.list []):=by and_intros<;>kernel_rfl
@[simp] theorem amC:eu Tryz.prog 32=true:=by kernel_rfl
@[simp] theorem awO:T5 33 (.struct) 3 ([.lit (.slice none 0 0),.d (.int .i64 0),.d (.int .i64 0)]) 40 (.agg ([.list [],.int .i64 0,.int .i64 0])):=by and_intros<;>kernel_rfl
@[simp] theorem art:FF 33 0 0 32:=by and_intros<;>kernel_rfl
@[simp] theorem aru:FF 33 1 1 3:=by and_intros<;>kernel_rfl
@[simp] theorem arv:FF 33 2 2 3:=by and_intros<;>kernel_rfl
@[simp] theorem akR:bh Tryz.prog 33=some [(0,1),(1,1),(2,1)]:=by kernel_rfl
@[simp] theorem awP:T5 34 (.struct) 3 ([.lit (.slice none 0 0),.d (.int .i64 0),.d (.int .i64 0)]) 40 (.agg ([.list [],.int .i64 0,.int .i64 0])):=by and_intros<;>kernel_rfl
@[simp] theorem arw:FF 34 0 0 32:=by and_intros<;>kernel_rfl
@[simp] theorem arx:FF 34 1 1 3:=by and_intros<;>kernel_rfl
@[simp] theorem ary:FF 34 2 2 3:=by and_intros<;>kernel_rfl
@[simp] theorem akS:bh Tryz.prog 34=some [(0,1),(1,1),(2,1)]:=by kernel_rfl
@[simp] theorem awQ:T5 35 (.int .i64) 1 ([.d (.int .i64 0)]) 8 (.int .i64 0):=by and_intros<;>kernel_rfl
@[simp] theorem awR:T5 40 (.struct) 3 ([.lit (.slice none 0 0),.d (.int .i64 0),.d (.int .i64 0)]) 40 (.agg ([.list [],.int .i64 0,.int .i64 0])):=by and_intros<;>kernel_rfl
@[simp] theorem arz:FF 40 0 0 26:=by and_intros<;>kernel_rfl
@[simp] theorem arA:FF 40 1 1 3:=by and_intros<;>kernel_rfl
@[simp] theorem arB:FF 40 2 2 3:=by and_intros<;>kernel_rfl
@[simp] theorem akT:bh Tryz.prog 40=some [(0,1),(1,1),(2,1)]:=by kernel_rfl
@[simp] theorem awS:T5 41 (.struct) 3 ([.lit (.slice none 0 0),.d (.int .i64 0),.d (.int .i64 0)]) 40 (.agg ([.list [],.int .i64 0,.int .i64 0])):=by and_intros<;>kernel_rfl
@[simp] theorem arC:FF 41 0 0 26:=by and_intros<;>kernel_rfl
@[simp] theorem arD:FF 41 1 1 3:=by and_intros<;>kernel_rfl
@[simp] theorem arE:FF 41 2 2 3:=by and_intros<;>kernel_rfl
@[simp] theorem akU:bh Tryz.prog 41=some [(0,1),(1,1),(2,1)]:=by kernel_rfl
@[simp] theorem awT:T2 46 (.func) 1:=by and_intros<;>kernel_rfl
@[simp] theorem awU:T5 48 (.struct) 5 ([.d (.int .i64 0),.d (.int .i64 0),.d (.int .i64 0),.d (.int .i64 0),.d (.int .i64 0)]) 40 (.agg ([.int .i64 0,.int .i64 0,.int .i64 0,.int .i64 0,.int .i64 0])):=by and_intros<;>kernel_rfl
@[simp] theorem arF:FF 48 0 0 3:=by and_intros<;>kernel_rfl
@[simp] theorem arG:FF 48 1 1 3:=by and_intros<;>kernel_rfl
@[simp] theorem arH:FF 48 2 2 3:=by and_intros<;>kernel_rfl
@[simp] theorem arI:FF 48 3 3 2:=by and_intros<;>kernel_rfl
@[simp] theorem arJ:FF 48 4 4 2:=by and_intros<;>kernel_rfl
@[simp] theorem akV:bh Tryz.prog 48=some [(0,1),(1,1),(2,1),(3,1),(4,1)]/\bU Tryz.prog 48=some [.int .i64,.int .i64,.int .i64,.int .i64,.int .i64]:=by and_intros<;>kernel_rfl
@[simp] theorem awV:T5 49 (.struct) 5 ([.d (.int .i64 0),.d (.int .i64 0),.d (.int .i64 0),.d (.int .i64 0),.d (.int .i64 0)]) 40 (.agg ([.int .i64 0,.int .i64 0,.int .i64 0,.int .i64 0,.int .i64 0])):=by and_intros<;>kernel_rfl
@[simp] theorem arK:FF 49 0 0 3:=by and_intros<;>kernel_rfl
@[simp] theorem arL:FF 49 1 1 3:=by and_intros<;>kernel_rfl
@[simp] theorem arM:FF 49 2 2 3:=by and_intros<;>kernel_rfl
@[simp] theorem arN:FF 49 3 3 2:=by and_intros<;>kernel_rfl
@[simp] theorem arO:FF 49 4 4 2:=by and_intros<;>kernel_rfl
@[simp] theorem akW:bh Tryz.prog 49=some [(0,1),(1,1),(2,1),(3,1),(4,1)]/\bU Tryz.prog 49=some [.int .i64,.int .i64,.int .i64,.int .i64,.int .i64]:=by and_intros<;>kernel_rfl
@[simp] theorem awW:T5 54 (.struct) 5 ([.d (.int .i64 0),.d (.str []),.d (.int .i64 0),.d (.int .i64 0),.d (.int .i64 0)]) 48 (.agg ([.int .i64 0,.str [],.int .i64 0,.int .i64 0,.int .i64 0])):=by and_intros<;>kernel_rfl
@[simp] theorem arP:FF 54 0 0 3:=by and_intros<;>kernel_rfl
@[simp] theorem arQ:FF 54 1 1 9:=by and_intros<;>kernel_rfl
@[simp] theorem arR:FF 54 2 2 2:=by and_intros<;>kernel_rfl
@[simp] theorem arS:FF 54 3 3 3:=by and_intros<;>kernel_rfl
@[simp] theorem arT:FF 54 4 4 3:=by and_intros<;>kernel_rfl
@[simp] theorem akX:bh Tryz.prog 54=some [(0,1),(1,1),(2,1),(3,1),(4,1)]/\bU Tryz.prog 54=some [.int .i64,.str,.int .i64,.int .i64,.int .i64]:=by and_intros<;>kernel_rfl
@[simp] theorem awX:T5 55 (.struct) 5 ([.d (.int .i64 0),.d (.str []),.d (.int .i64 0),.d (.int .i64 0),.d (.int .i64 0)]) 48 (.agg ([.int .i64 0,.str [],.int .i64 0,.int .i64 0,.int .i64 0])):=by and_intros<;>kernel_rfl
@[simp] theorem arU:FF 55 0 0 3:=by and_intros<;>kernel_rfl
@[simp] theorem arV:FF 55 1 1 9:=by and_intros<;>kernel_rfl
@[simp] theorem arW:FF 55 2 2 2:=by and_intros<;>kernel_rfl
@[simp] theorem arX:FF 55 3 3 3:=by and_intros<;>kernel_rfl
@[simp] theorem arY:FF 55 4 4 3:=by and_intros<;>kernel_rfl
@[simp] theorem akY:bh Tryz.prog 55=some [(0,1),(1,1),(2,1),(3,1),(4,1)]/\bU Tryz.prog 55=some [.int .i64,.str,.int .i64,.int .i64,.int .i64]:=by and_intros<;>kernel_rfl
@[simp] theorem awY:T2 57 (.func) 1:=by and_intros<;>kernel_rfl
@[simp] theorem awZ:T2 59 (.func) 1:=by and_intros<;>kernel_rfl
@[simp] theorem aw0:T5 63 (.struct) 8 ([.d (.str []),.d (.int .i64 0),.d (.int .i64 0),.d (.bool false),.d (.int .i64 0),.d (.int .i64 0),.d (.int .i64 0),.d (.int .i64 0)]) 72 (.agg ([.str [],.int .i64 0,.int .i64 0,.bool false,.int .i64 0,.int .i64 0,.int .i64 0,.int .i64 0])):=by and_intros<;>kernel_rfl
@[simp] theorem arZ:FF 63 0 0 9:=by and_intros<;>kernel_rfl
@[simp] theorem ar0:FF 63 1 1 3:=by and_intros<;>kernel_rfl
@[simp] theorem ar1:FF 63 2 2 3:=by and_intros<;>kernel_rfl
@[simp] theorem ar2:FF 63 3 3 4:=by and_intros<;>kernel_rfl
@[simp] theorem ar3:FF 63 4 4 2:=by and_intros<;>kernel_rfl
@[simp] theorem ar4:FF 63 5 5 2:=by and_intros<;>kernel_rfl
@[simp] theorem ar5:FF 63 6 6 2:=by and_intros<;>kernel_rfl
@[simp] theorem ar6:FF 63 7 7 3:=by and_intros<;>kernel_rfl
@[simp] theorem akZ:bh Tryz.prog 63=some [(0,1),(1,1),(2,1),(3,1),(4,1),(5,1),(6,1),(7,1)]/\bU Tryz.prog 63=some [.str,.int .i64,.int .i64,.bool,.int .i64,.int .i64,.int .i64,.int .i64]:=by and_intros<;>kernel_rfl
@[simp] theorem aw1:T5 64 (.struct) 8 ([.d (.str []),.d (.int .i64 0),.d (.int .i64 0),.d (.bool false),.d (.int .i64 0),.d (.int .i64 0),.d (.int .i64 0),.d (.int .i64 0)]) 72 (.agg ([.str [],.int .i64 0,.int .i64 0,.bool false,.int .i64 0,.int .i64 0,.int .i64 0,.int .i64 0])):=by and_intros<;>kernel_rfl
@[simp] theorem ar7:FF 64 0 0 9:=by and_intros<;>kernel_rfl
@[simp] theorem ar8:FF 64 1 1 3:=by and_intros<;>kernel_rfl
@[simp] theorem ar9:FF 64 2 2 3:=by and_intros<;>kernel_rfl
@[simp] theorem asa:FF 64 3 3 4:=by and_intros<;>kernel_rfl
@[simp] theorem asb:FF 64 4 4 2:=by and_intros<;>kernel_rfl
@[simp] theorem asc:FF 64 5 5 2:=by and_intros<;>kernel_rfl
@[simp] theorem asd:FF 64 6 6 2:=by and_intros<;>kernel_rfl
@[simp] theorem ase:FF 64 7 7 3:=by and_intros<;>kernel_rfl
@[simp] theorem ak0:bh Tryz.prog 64=some [(0,1),(1,1),(2,1),(3,1),(4,1),(5,1),(6,1),(7,1)]/\bU Tryz.prog 64=some [.str,.int .i64,.int .i64,.bool,.int .i64,.int .i64,.int .i64,.int .i64]:=by and_intros<;>kernel_rfl
@[simp] theorem aw2:T2 65 (.func) 1:=by and_intros<;>kernel_rfl
@[simp] theorem aw3:T5 70 (.slice 3) 1 ([.lit (.slice none 0 0)]) 24 (.list []):=by and_intros<;>kernel_rfl
@[simp] theorem amD:eu Tryz.prog 70=true:=by kernel_rfl
@[simp] theorem aw4:T5 71 (.struct) 3 ([.lit (.slice none 0 0),.d (.int .i64 0),.lit (.slice none 0 0)]) 56 (.agg ([.list [],.int .i64 0,.list []])):=by and_intros<;>kernel_rfl
@[simp] theorem asf:FF 71 0 0 70:=by and_intros<;>kernel_rfl
@[simp] theorem ash:FF 71 1 1 3:=by and_intros<;>kernel_rfl
@[simp] theorem asi:FF 71 2 2 26:=by and_intros<;>kernel_rfl
@[simp] theorem ak1:bh Tryz.prog 71=some [(0,1),(1,1),(2,1)]:=by kernel_rfl
@[simp] theorem aw5:T5 72 (.struct) 3 ([.lit (.slice none 0 0),.d (.int .i64 0),.lit (.slice none 0 0)]) 56 (.agg ([.list [],.int .i64 0,.list []])):=by and_intros<;>kernel_rfl
@[simp] theorem asj:FF 72 0 0 70:=by and_intros<;>kernel_rfl
@[simp] theorem asl:FF 72 1 1 3:=by and_intros<;>kernel_rfl
@[simp] theorem asm:FF 72 2 2 26:=by and_intros<;>kernel_rfl
@[simp] theorem ak2:bh Tryz.prog 72=some [(0,1),(1,1),(2,1)]:=by kernel_rfl
@[simp] theorem aw6:T2 73 (.func) 1:=by and_intros<;>kernel_rfl
@[simp] theorem aw7:T2 90 (.func) 1:=by and_intros<;>kernel_rfl
@[simp] theorem aw8:T5 93 (.slice 96) 1 ([.lit (.slice none 0 0)]) 24 (.list []):=by and_intros<;>kernel_rfl
@[simp] theorem amE:eu Tryz.prog 93=true:=by kernel_rfl
@[simp] theorem aw9:T5 94 (.struct) 10 ([.d (.str []),.lit (.slice none 0 0),.lit (.slice none 0 0),.lit (.slice none 0 0),.d (.int .i64 0),.lit (.slice none 0 0),.lit (.slice none 0 0),.lit (.slice none 0 0),.d (.int .i64 0),.d (.int .i64 0)]) 184 (.agg ([.str [],.list [],.list [],.list [],.int .i64 0,.list [],.list [],.list [],.int .i64 0,.int .i64 0])):=by and_intros<;>kernel_rfl
@[simp] theorem asn:FF 94 0 0 25:=by and_intros<;>kernel_rfl
@[simp] theorem aso:FF 94 1 3 72:=by and_intros<;>kernel_rfl
@[simp] theorem asp:FF 94 2 6 93:=by and_intros<;>kernel_rfl
@[simp] theorem asq:FF 94 3 7 26:=by and_intros<;>kernel_rfl
@[simp] theorem asr:FF 94 4 8 3:=by and_intros<;>kernel_rfl
@[simp] theorem ass:FF 94 5 9 3:=by and_intros<;>kernel_rfl
@[simp] theorem ak3:bh Tryz.prog 94=some [(0,3),(3,3),(6,1),(7,1),(8,1),(9,1)]:=by kernel_rfl
@[simp] theorem axa:T5 95 (.struct) 10 ([.d (.str []),.lit (.slice none 0 0),.lit (.slice none 0 0),.lit (.slice none 0 0),.d (.int .i64 0),.lit (.slice none 0 0),.lit (.slice none 0 0),.lit (.slice none 0 0),.d (.int .i64 0),.d (.int .i64 0)]) 184 (.agg ([.str [],.list [],.list [],.list [],.int .i64 0,.list [],.list [],.list [],.int .i64 0,.int .i64 0])):=by and_intros<;>kernel_rfl
@[simp] theorem ast:FF 95 0 0 25:=by and_intros<;>kernel_rfl
@[simp] theorem asu:FF 95 1 3 72:=by and_intros<;>kernel_rfl
@[simp] theorem asv:FF 95 2 6 93:=by and_intros<;>kernel_rfl
@[simp] theorem asw:FF 95 3 7 26:=by and_intros<;>kernel_rfl
@[simp] theorem asx:FF 95 4 8 3:=by and_intros<;>kernel_rfl
@[simp] theorem asy:FF 95 5 9 3:=by and_intros<;>kernel_rfl
@[simp] theorem ak4:bh Tryz.prog 95=some [(0,3),(3,3),(6,1),(7,1),(8,1),(9,1)]:=by kernel_rfl
@[simp] theorem axb:T5 96 (.slice 150) 1 ([.lit (.slice none 0 0)]) 24 (.list []):=by and_intros<;>kernel_rfl
@[simp] theorem amF:eu Tryz.prog 96=true:=by kernel_rfl
@[simp] theorem axc:T2 97 (.func) 1:=by and_intros<;>kernel_rfl
@[simp] theorem axd:T2 99 (.ptr 101) 1:=by and_intros<;>kernel_rfl
@[simp] theorem at5:T5 100 (.struct) 7 ([.d (.str []),.lit (.slice none 0 0),.lit (.slice none 0 0),.lit (.slice none 0 0),.lit (.slice none 0 0),.lit (.slice none 0 0),.d (.int .i64 0)]) 144 (.agg ([.str [],.list [],.list [],.list [],.list [],.list [],.int .i64 0])):=by and_intros<;>kernel_rfl
@[simp] theorem amG:FF 100 0 0 25:=by and_intros<;>kernel_rfl
@[simp] theorem amH:FF 100 1 3 70:=by and_intros<;>kernel_rfl
@[simp] theorem amI:FF 100 2 4 93:=by and_intros<;>kernel_rfl
@[simp] theorem amJ:FF 100 3 5 26:=by and_intros<;>kernel_rfl
@[simp] theorem amK:FF 100 4 6 3:=by and_intros<;>kernel_rfl
@[simp] theorem ahL:bh Tryz.prog 100=some [(0,3),(3,1),(4,1),(5,1),(6,1)]:=by kernel_rfl
@[simp] theorem at6:T5 101 (.struct) 7 ([.d (.str []),.lit (.slice none 0 0),.lit (.slice none 0 0),.lit (.slice none 0 0),.lit (.slice none 0 0),.lit (.slice none 0 0),.d (.int .i64 0)]) 144 (.agg ([.str [],.list [],.list [],.list [],.list [],.list [],.int .i64 0])):=by and_intros<;>kernel_rfl
@[simp] theorem amL:FF 101 0 0 25:=by and_intros<;>kernel_rfl
@[simp] theorem amM:FF 101 1 3 70:=by and_intros<;>kernel_rfl
@[simp] theorem amN:FF 101 2 4 93:=by and_intros<;>kernel_rfl
@[simp] theorem amO:FF 101 3 5 26:=by and_intros<;>kernel_rfl
@[simp] theorem amP:FF 101 4 6 3:=by and_intros<;>kernel_rfl
@[simp] theorem ahM:bh Tryz.prog 101=some [(0,3),(3,1),(4,1),(5,1),(6,1)]:=by kernel_rfl
@[simp] theorem at7:T5 102 (.struct) 1 ([.d (.int .i64 0)]) 8 (.agg ([.int .i64 0])):=by and_intros<;>kernel_rfl
@[simp] theorem amQ:FF 102 0 0 3:=by and_intros<;>kernel_rfl
@[simp] theorem ahN:bh Tryz.prog 102=some [(0,1)]/\bU Tryz.prog 102=some [.int .i64]:=by and_intros<;>kernel_rfl
@[simp] theorem aua:T5 103 (.struct) 1 ([.d (.int .i64 0)]) 8 (.agg ([.int .i64 0])):=by and_intros<;>kernel_rfl
@[simp] theorem amR:FF 103 0 0 3:=by and_intros<;>kernel_rfl
@[simp] theorem ahO:bh Tryz.prog 103=some [(0,1)]/\bU Tryz.prog 103=some [.int .i64]:=by and_intros<;>kernel_rfl
@[simp] theorem aub:T2 111 (.func) 1:=by and_intros<;>kernel_rfl
@[simp] theorem auc:T5 112 (.slice 114) 1 ([.lit (.slice none 0 0)]) 24 (.list []):=by and_intros<;>kernel_rfl
@[simp] theorem ak5:eu Tryz.prog 112=true:=by kernel_rfl
@[simp] theorem aud:T5 113 (.struct) 6 ([.d (.int .i64 0),.d (.int .i64 0),.d (.str []),.d (.str []),.lit (.slice none 0 0),.d (.int .i64 0)]) 80 (.agg ([.int .i64 0,.int .i64 0,.str [],.str [],.list [],.int .i64 0])):=by and_intros<;>kernel_rfl
@[simp] theorem amS:FF 113 0 0 3:=by and_intros<;>kernel_rfl
@[simp] theorem amT:FF 113 1 1 2:=by and_intros<;>kernel_rfl
@[simp] theorem amU:FF 113 2 2 9:=by and_intros<;>kernel_rfl
@[simp] theorem amV:FF 113 3 3 9:=by and_intros<;>kernel_rfl
@[simp] theorem amW:FF 113 4 4 112:=by and_intros<;>kernel_rfl
@[simp] theorem amX:FF 113 5 5 3:=by and_intros<;>kernel_rfl
@[simp] theorem ahP:bh Tryz.prog 113=some [(0,1),(1,1),(2,1),(3,1),(4,1),(5,1)]:=by kernel_rfl
@[simp] theorem aue:T5 114 (.struct) 6 ([.d (.int .i64 0),.d (.int .i64 0),.d (.str []),.d (.str []),.lit (.slice none 0 0),.d (.int .i64 0)]) 80 (.agg ([.int .i64 0,.int .i64 0,.str [],.str [],.list [],.int .i64 0])):=by and_intros<;>kernel_rfl
@[simp] theorem amY:FF 114 0 0 3:=by and_intros<;>kernel_rfl
@[simp] theorem amZ:FF 114 1 1 2:=by and_intros<;>kernel_rfl
@[simp] theorem am0:FF 114 2 2 9:=by and_intros<;>kernel_rfl
@[simp] theorem am1:FF 114 3 3 9:=by and_intros<;>kernel_rfl
@[simp] theorem am2:FF 114 4 4 112:=by and_intros<;>kernel_rfl
@[simp] theorem am3:FF 114 5 5 3:=by and_intros<;>kernel_rfl
@[simp] theorem ahQ:bh Tryz.prog 114=some [(0,1),(1,1),(2,1),(3,1),(4,1),(5,1)]:=by kernel_rfl
@[simp] theorem auf:T5 115 (.slice 26) 1 ([.lit (.slice none 0 0)]) 24 (.list []):=by and_intros<;>kernel_rfl
@[simp] theorem ak6:eu Tryz.prog 115=true:=by kernel_rfl
@[simp] theorem aug:T5 116 (.slice 9) 1 ([.lit (.slice none 0 0)]) 24 (.list []):=by and_intros<;>kernel_rfl
@[simp] theorem ak7:eu Tryz.prog 116=true:=by kernel_rfl
@[simp] theorem auh:T5 117 (.slice 23) 1 ([.lit (.slice none 0 0)]) 24 (.list []):=by and_intros<;>kernel_rfl
@[simp] theorem ak8:eu Tryz.prog 117=true:=by kernel_rfl
@[simp] theorem aui:T5 118 (.struct) 19 ([.d (.int .i64 0),.d (.str []),.d (.int .i64 0),.d (.int .i64 0),.d (.str []),.d (.str []),.lit (.slice none 0 0),.d (.int .i64 0),.d (.int .i64 0),.d (.int .i64 0),.d (.str []),.d (.str []),.lit (.slice none 0 0),.d (.int .i64 0),.lit (.slice none 0 0),.lit (.slice none 0 0),.lit (.slice none 0 0),.lit (.slice none 0 0),.d (.int .i64 0)]) 288 (.agg ([.int .i64 0,.str [],.int .i64 0,.int .i64 0,.str [],.str [],.list [],.int .i64 0,.int .i64 0,.int .i64 0,.str [],.str [],.list [],.int .i64 0,.list [],.list [],.list [],.list [],.int .i64 0])):=by and_intros<;>kernel_rfl
@[simp] theorem am4:FF 118 0 0 3:=by and_intros<;>kernel_rfl
@[simp] theorem am5:FF 118 1 1 9:=by and_intros<;>kernel_rfl
@[simp] theorem am6:FF 118 2 2 114:=by and_intros<;>kernel_rfl
@[simp] theorem am7:FF 118 3 8 114:=by and_intros<;>kernel_rfl
@[simp] theorem am8:FF 118 4 14 112:=by and_intros<;>kernel_rfl
@[simp] theorem am9:FF 118 5 15 115:=by and_intros<;>kernel_rfl
@[simp] theorem ana:FF 118 6 16 116:=by and_intros<;>kernel_rfl
@[simp] theorem anb:FF 118 7 17 117:=by and_intros<;>kernel_rfl
@[simp] theorem anc:FF 118 8 18 3:=by and_intros<;>kernel_rfl
@[simp] theorem ahR:bh Tryz.prog 118=some [(0,1),(1,1),(2,6),(8,6),(14,1),(15,1),(16,1),(17,1),(18,1)]:=by kernel_rfl
@[simp] theorem auj:T5 119 (.struct) 19 ([.d (.int .i64 0),.d (.str []),.d (.int .i64 0),.d (.int .i64 0),.d (.str []),.d (.str []),.lit (.slice none 0 0),.d (.int .i64 0),.d (.int .i64 0),.d (.int .i64 0),.d (.str []),.d (.str []),.lit (.slice none 0 0),.d (.int .i64 0),.lit (.slice none 0 0),.lit (.slice none 0 0),.lit (.slice none 0 0),.lit (.slice none 0 0),.d (.int .i64 0)]) 288 (.agg ([.int .i64 0,.str [],.int .i64 0,.int .i64 0,.str [],.str [],.list [],.int .i64 0,.int .i64 0,.int .i64 0,.str [],.str [],.list [],.int .i64 0,.list [],.list [],.list [],.list [],.int .i64 0])):=by and_intros<;>kernel_rfl
@[simp] theorem ane:FF 119 0 0 3:=by and_intros<;>kernel_rfl
@[simp] theorem anf:FF 119 1 1 9:=by and_intros<;>kernel_rfl
@[simp] theorem ang:FF 119 2 2 114:=by and_intros<;>kernel_rfl
@[simp] theorem anh:FF 119 3 8 114:=by and_intros<;>kernel_rfl
@[simp] theorem ani:FF 119 4 14 112:=by and_intros<;>kernel_rfl
@[simp] theorem anj:FF 119 5 15 115:=by and_intros<;>kernel_rfl
@[simp] theorem ank:FF 119 6 16 116:=by and_intros<;>kernel_rfl
@[simp] theorem anl:FF 119 7 17 117:=by and_intros<;>kernel_rfl
@[simp] theorem anm:FF 119 8 18 3:=by and_intros<;>kernel_rfl
@[simp] theorem ahS:bh Tryz.prog 119=some [(0,1),(1,1),(2,6),(8,6),(14,1),(15,1),(16,1),(17,1),(18,1)]:=by kernel_rfl
@[simp] theorem auk:T2 122 (.ptr 125) 1:=by and_intros<;>kernel_rfl
@[simp] theorem aul:T5 123 (.slice 4) 1 ([.lit (.slice none 0 0)]) 24 (.list []):=by and_intros<;>kernel_rfl
@[simp] theorem ak9:eu Tryz.prog 123=true:=by kernel_rfl
@[simp] theorem aum:T5 124 (.struct) 5 ([.lit (.slice none 0 0),.d (.int .i64 0),.d (.int .i64 0),.lit (.slice none 0 0),.lit (.slice none 0 0)]) 88 (.agg ([.list [],.int .i64 0,.int .i64 0,.list [],.list []])):=by and_intros<;>kernel_rfl
@[simp] theorem ann:FF 124 0 0 34:=by and_intros<;>kernel_rfl
@[simp] theorem ano:FF 124 1 3 123:=by and_intros<;>kernel_rfl
@[simp] theorem anp:FF 124 2 4 123:=by and_intros<;>kernel_rfl
@[simp] theorem ahT:bh Tryz.prog 124=some [(0,3),(3,1),(4,1)]:=by kernel_rfl
@[simp] theorem aun:T5 125 (.struct) 5 ([.lit (.slice none 0 0),.d (.int .i64 0),.d (.int .i64 0),.lit (.slice none 0 0),.lit (.slice none 0 0)]) 88 (.agg ([.list [],.int .i64 0,.int .i64 0,.list [],.list []])):=by and_intros<;>kernel_rfl
@[simp] theorem anq:FF 125 0 0 34:=by and_intros<;>kernel_rfl
@[simp] theorem anr:FF 125 1 3 123:=by and_intros<;>kernel_rfl
@[simp] theorem ans:FF 125 2 4 123:=by and_intros<;>kernel_rfl
@[simp] theorem ahU:bh Tryz.prog 125=some [(0,3),(3,1),(4,1)]:=by kernel_rfl
@[simp] theorem auo:T5 127 (.slice 130) 1 ([.lit (.slice none 0 0)]) 24 (.list []):=by and_intros<;>kernel_rfl
@[simp] theorem ala:eu Tryz.prog 127=true:=by kernel_rfl
@[simp] theorem aup:T2 128 (.func) 1:=by and_intros<;>kernel_rfl
@[simp] theorem auq:T5 129 (.struct) 4 ([.d (.int .i64 0),.d (.str []),.d (.str []),.lit (.slice none 0 0)]) 64 (.agg ([.int .i64 0,.str [],.str [],.list []])):=by and_intros<;>kernel_rfl
@[simp] theorem ant:FF 129 0 0 3:=by and_intros<;>kernel_rfl
@[simp] theorem anu:FF 129 1 1 9:=by and_intros<;>kernel_rfl
@[simp] theorem anv:FF 129 2 2 9:=by and_intros<;>kernel_rfl
@[simp] theorem anw:FF 129 3 3 116:=by and_intros<;>kernel_rfl
@[simp] theorem ahV:bh Tryz.prog 129=some [(0,1),(1,1),(2,1),(3,1)]:=by kernel_rfl
@[simp] theorem aur:T5 130 (.struct) 4 ([.d (.int .i64 0),.d (.str []),.d (.str []),.lit (.slice none 0 0)]) 64 (.agg ([.int .i64 0,.str [],.str [],.list []])):=by and_intros<;>kernel_rfl
@[simp] theorem anx:FF 130 0 0 3:=by and_intros<;>kernel_rfl
@[simp] theorem anz:FF 130 1 1 9:=by and_intros<;>kernel_rfl
@[simp] theorem anA:FF 130 2 2 9:=by and_intros<;>kernel_rfl
@[simp] theorem anB:FF 130 3 3 116:=by and_intros<;>kernel_rfl
@[simp] theorem ahW:bh Tryz.prog 130=some [(0,1),(1,1),(2,1),(3,1)]:=by kernel_rfl
@[simp] theorem aus:T2 133 (.func) 1:=by and_intros<;>kernel_rfl
@[simp] theorem aut:T5 149 (.struct) 3 ([.d (.str []),.d (.int .i64 0),.d (.bool false)]) 32 (.agg ([.str [],.int .i64 0,.bool false])):=by and_intros<;>kernel_rfl
@[simp] theorem anC:FF 149 0 0 9:=by and_intros<;>kernel_rfl
@[simp] theorem anD:FF 149 1 1 3:=by and_intros<;>kernel_rfl
@[simp] theorem anE:FF 149 2 2 4:=by and_intros<;>kernel_rfl
@[simp] theorem ahX:bh Tryz.prog 149=some [(0,1),(1,1),(2,1)]/\bU Tryz.prog 149=some [.str,.int .i64,.bool]:=by and_intros<;>kernel_rfl
@[simp] theorem auu:T5 150 (.struct) 3 ([.d (.str []),.d (.int .i64 0),.d (.bool false)]) 32 (.agg ([.str [],.int .i64 0,.bool false])):=by and_intros<;>kernel_rfl
@[simp] theorem anF:FF 150 0 0 9:=by and_intros<;>kernel_rfl
@[simp] theorem anG:FF 150 1 1 3:=by and_intros<;>kernel_rfl
@[simp] theorem anH:FF 150 2 2 4:=by and_intros<;>kernel_rfl
@[simp] theorem ahY:bh Tryz.prog 150=some [(0,1),(1,1),(2,1)]/\bU Tryz.prog 150=some [.str,.int .i64,.bool]:=by and_intros<;>kernel_rfl
@[simp] theorem auv:T5 152 (.struct) 5 ([.d (.int .i64 0),.d (.str []),.d (.str []),.d (.str []),.d (.int .i64 0)]) 64 (.agg ([.int .i64 0,.str [],.str [],.str [],.int .i64 0])):=by and_intros<;>kernel_rfl
@[simp] theorem anI:FF 152 0 0 3:=by and_intros<;>kernel_rfl
@[simp] theorem anJ:FF 152 1 1 9:=by and_intros<;>kernel_rfl
@[simp] theorem anK:FF 152 2 2 9:=by and_intros<;>kernel_rfl
@[simp] theorem anL:FF 152 3 3 9:=by and_intros<;>kernel_rfl
@[simp] theorem anM:FF 152 4 4 3:=by and_intros<;>kernel_rfl
@[simp] theorem ahZ:bh Tryz.prog 152=some [(0,1),(1,1),(2,1),(3,1),(4,1)]/\bU Tryz.prog 152=some [.int .i64,.str,.str,.str,.int .i64]:=by and_intros<;>kernel_rfl
@[simp] theorem auw:T5 153 (.struct) 5 ([.d (.int .i64 0),.d (.str []),.d (.str []),.d (.str []),.d (.int .i64 0)]) 64 (.agg ([.int .i64 0,.str [],.str [],.str [],.int .i64 0])):=by and_intros<;>kernel_rfl
@[simp] theorem anN:FF 153 0 0 3:=by and_intros<;>kernel_rfl
@[simp] theorem anO:FF 153 1 1 9:=by and_intros<;>kernel_rfl
@[simp] theorem anP:FF 153 2 2 9:=by and_intros<;>kernel_rfl
@[simp] theorem anQ:FF 153 3 3 9:=by and_intros<;>kernel_rfl
@[simp] theorem anR:FF 153 4 4 3:=by and_intros<;>kernel_rfl
@[simp] theorem ah0:bh Tryz.prog 153=some [(0,1),(1,1),(2,1),(3,1),(4,1)]/\bU Tryz.prog 153=some [.int .i64,.str,.str,.str,.int .i64]:=by and_intros<;>kernel_rfl
@[simp] theorem auy:T5 157 (.slice 55) 1 ([.lit (.slice none 0 0)]) 24 (.list []):=by and_intros<;>kernel_rfl
@[simp] theorem alb:eu Tryz.prog 157=true:=by kernel_rfl
@[simp] theorem auz:T5 160 (.struct) 6 ([.d (.int .i64 0),.d (.int .i64 0),.d (.str []),.d (.int .i64 0),.d (.int .i64 0),.d (.int .i64 0)]) 56 (.agg ([.int .i64 0,.int .i64 0,.str [],.int .i64 0,.int .i64 0,.int .i64 0])):=by and_intros<;>kernel_rfl
@[simp] theorem anS:FF 160 0 0 35:=by and_intros<;>kernel_rfl
@[simp] theorem anT:FF 160 1 1 55:=by and_intros<;>kernel_rfl
@[simp] theorem ah1:bh Tryz.prog 160=some [(0,1),(1,5)]/\bU Tryz.prog 160=some [.int .i64,.int .i64,.str,.int .i64,.int .i64,.int .i64]:=by and_intros<;>kernel_rfl
@[simp] theorem auA:T5 161 (.struct) 6 ([.d (.int .i64 0),.d (.int .i64 0),.d (.str []),.d (.int .i64 0),.d (.int .i64 0),.d (.int .i64 0)]) 56 (.agg ([.int .i64 0,.int .i64 0,.str [],.int .i64 0,.int .i64 0,.int .i64 0])):=by and_intros<;>kernel_rfl
@[simp] theorem anU:FF 161 0 0 35:=by and_intros<;>kernel_rfl
@[simp] theorem anV:FF 161 1 1 55:=by and_intros<;>kernel_rfl
@[simp] theorem ah2:bh Tryz.prog 161=some [(0,1),(1,5)]/\bU Tryz.prog 161=some [.int .i64,.int .i64,.str,.int .i64,.int .i64,.int .i64]:=by and_intros<;>kernel_rfl
@[simp] theorem auB:T2 163 (.ptr 165) 1:=by and_intros<;>kernel_rfl
@[simp] theorem auC:T5 164 (.struct) 4 ([.lit (.slice none 0 0),.d (.int .i64 0),.d (.int .i64 0),.lit (.slice none 0 0)]) 64 (.agg ([.list [],.int .i64 0,.int .i64 0,.list []])):=by and_intros<;>kernel_rfl
@[simp] theorem anW:FF 164 0 0 157:=by and_intros<;>kernel_rfl
@[simp] theorem anX:FF 164 1 1 3:=by and_intros<;>kernel_rfl
@[simp] theorem anY:FF 164 2 2 3:=by and_intros<;>kernel_rfl
@[simp] theorem anZ:FF 164 3 3 22:=by and_intros<;>kernel_rfl
@[simp] theorem ah3:bh Tryz.prog 164=some [(0,1),(1,1),(2,1),(3,1)]:=by kernel_rfl
@[simp] theorem auD:T5 165 (.struct) 4 ([.lit (.slice none 0 0),.d (.int .i64 0),.d (.int .i64 0),.lit (.slice none 0 0)]) 64 (.agg ([.list [],.int .i64 0,.int .i64 0,.list []])):=by and_intros<;>kernel_rfl
@[simp] theorem an0:FF 165 0 0 157:=by and_intros<;>kernel_rfl
@[simp] theorem an1:FF 165 1 1 3:=by and_intros<;>kernel_rfl
@[simp] theorem an2:FF 165 2 2 3:=by and_intros<;>kernel_rfl
@[simp] theorem an3:FF 165 3 3 22:=by and_intros<;>kernel_rfl
@[simp] theorem ah4:bh Tryz.prog 165=some [(0,1),(1,1),(2,1),(3,1)]:=by kernel_rfl
@[simp] theorem auE:T5 181 (.slice 112) 1 ([.lit (.slice none 0 0)]) 24 (.list []):=by and_intros<;>kernel_rfl
@[simp] theorem alc:eu Tryz.prog 181=true:=by kernel_rfl
@[simp] theorem auF:T5 202 (.slice 153) 1 ([.lit (.slice none 0 0)]) 24 (.list []):=by and_intros<;>kernel_rfl
@[simp] theorem ald:eu Tryz.prog 202=true:=by kernel_rfl
@[simp] theorem auG:T2 205 (.func) 1:=by and_intros<;>kernel_rfl
@[simp] theorem auH:T2 209 (.ptr 211) 1:=by and_intros<;>kernel_rfl
@[simp] theorem auI:T5 210 (.struct) 4 ([.d (.str []),.d (.int .i64 0),.d (.int .i64 0),.d (.int .i64 0)]) 40 (.agg ([.str [],.int .i64 0,.int .i64 0,.int .i64 0])):=by and_intros<;>kernel_rfl
@[simp] theorem an4:FF 210 0 0 9:=by and_intros<;>kernel_rfl
@[simp] theorem an5:FF 210 1 1 3:=by and_intros<;>kernel_rfl
@[simp] theorem an6:FF 210 2 2 3:=by and_intros<;>kernel_rfl
@[simp] theorem an7:FF 210 3 3 3:=by and_intros<;>kernel_rfl
@[simp] theorem ah5:bh Tryz.prog 210=some [(0,1),(1,1),(2,1),(3,1)]/\bU Tryz.prog 210=some [.str,.int .i64,.int .i64,.int .i64]:=by and_intros<;>kernel_rfl
@[simp] theorem auJ:T5 211 (.struct) 4 ([.d (.str []),.d (.int .i64 0),.d (.int .i64 0),.d (.int .i64 0)]) 40 (.agg ([.str [],.int .i64 0,.int .i64 0,.int .i64 0])):=by and_intros<;>kernel_rfl
@[simp] theorem an8:FF 211 0 0 9:=by and_intros<;>kernel_rfl
@[simp] theorem an9:FF 211 1 1 3:=by and_intros<;>kernel_rfl
@[simp] theorem aoa:FF 211 2 2 3:=by and_intros<;>kernel_rfl
@[simp] theorem aob:FF 211 3 3 3:=by and_intros<;>kernel_rfl
@[simp] theorem ah6:bh Tryz.prog 211=some [(0,1),(1,1),(2,1),(3,1)]/\bU Tryz.prog 211=some [.str,.int .i64,.int .i64,.int .i64]:=by and_intros<;>kernel_rfl
@[simp] theorem auK:T2 237 (.func) 1:=by and_intros<;>kernel_rfl
@[simp] theorem auL:T5 251 (.arr 256 5) 256 (List.replicate 256 (.d (.int .u8 0))) 256 (.agg (List.replicate 256 (.int .u8 0))):=by and_intros<;>kernel_rfl
@[simp] theorem ah7:bh Tryz.prog 251=none:=by kernel_rfl
@[simp] theorem auM:T2 253 (.func) 1:=by and_intros<;>kernel_rfl
@[simp] theorem auN:T2 255 (.func) 1:=by and_intros<;>kernel_rfl
@[simp] theorem auO:T2 256 (.func) 1:=by and_intros<;>kernel_rfl
@[simp] theorem auP:T2 262 (.func) 1:=by and_intros<;>kernel_rfl
@[simp] theorem auQ:T2 279 (.func) 1:=by and_intros<;>kernel_rfl
@[simp] theorem auR:T5 282 (.slice 284) 1 ([.lit (.slice none 0 0)]) 24 (.list []):=by and_intros<;>kernel_rfl
@[simp] theorem ale:eu Tryz.prog 282=true:=by kernel_rfl
@[simp] theorem auS:T5 283 (.struct) 2 ([.d (.int .i64 0),.d (.int .i64 0)]) 16 (.agg ([.int .i64 0,.int .i64 0])):=by and_intros<;>kernel_rfl
@[simp] theorem aoc:FF 283 0 0 3:=by and_intros<;>kernel_rfl
@[simp] theorem aod:FF 283 1 1 3:=by and_intros<;>kernel_rfl
@[simp] theorem ah8:bh Tryz.prog 283=some [(0,1),(1,1)]/\bU Tryz.prog 283=some [.int .i64,.int .i64]:=by and_intros<;>kernel_rfl
@[simp] theorem auT:T5 284 (.struct) 2 ([.d (.int .i64 0),.d (.int .i64 0)]) 16 (.agg ([.int .i64 0,.int .i64 0])):=by and_intros<;>kernel_rfl
@[simp] theorem aoe:FF 284 0 0 3:=by and_intros<;>kernel_rfl
@[simp] theorem aof:FF 284 1 1 3:=by and_intros<;>kernel_rfl
@[simp] theorem ah9:bh Tryz.prog 284=some [(0,1),(1,1)]/\bU Tryz.prog 284=some [.int .i64,.int .i64]:=by and_intros<;>kernel_rfl
@[simp] theorem auU:T5 285 (.int .u32) 1 ([.d (.int .u32 0)]) 4 (.int .u32 0):=by and_intros<;>kernel_rfl
@[simp] theorem auV:T2 287 (.ptr 318) 1:=by and_intros<;>kernel_rfl
@[simp] theorem auW:T5 289 (.struct) 2 ([.d (.str []),.d (.int .i64 0)]) 24 (.agg ([.str [],.int .i64 0])):=by and_intros<;>kernel_rfl
@[simp] theorem aog:FF 289 0 0 9:=by and_intros<;>kernel_rfl
@[simp] theorem aoh:FF 289 1 1 2:=by and_intros<;>kernel_rfl
@[simp] theorem aia:bh Tryz.prog 289=some [(0,1),(1,1)]/\bU Tryz.prog 289=some [.str,.int .i64]:=by and_intros<;>kernel_rfl
@[simp] theorem auX:T5 290 (.slice 289) 1 ([.lit (.slice none 0 0)]) 24 (.list []):=by and_intros<;>kernel_rfl
@[simp] theorem alf:eu Tryz.prog 290=true:=by kernel_rfl
@[simp] theorem auY:T5 292 (.struct) 9 ([.d (.int .i64 0),.d (.str []),.d (.int .i64 0),.d (.int .i64 0),.d (.int .i64 0),.d (.int .i64 0),.d (.bool false),.d (.int .i64 0),.d (.int .i64 0)]) 80 (.agg ([.int .i64 0,.str [],.int .i64 0,.int .i64 0,.int .i64 0,.int .i64 0,.bool false,.int .i64 0,.int .i64 0])):=by and_intros<;>kernel_rfl
@[simp] theorem aoi:FF 292 0 0 55:=by and_intros<;>kernel_rfl
@[simp] theorem aoj:FF 292 1 5 3:=by and_intros<;>kernel_rfl
@[simp] theorem aok:FF 292 2 6 4:=by and_intros<;>kernel_rfl
@[simp] theorem aol:FF 292 3 7 2:=by and_intros<;>kernel_rfl
@[simp] theorem aom:FF 292 4 8 2:=by and_intros<;>kernel_rfl
@[simp] theorem aib:bh Tryz.prog 292=some [(0,5),(5,1),(6,1),(7,1),(8,1)]/\bU Tryz.prog 292=some [.int .i64,.str,.int .i64,.int .i64,.int .i64,.int .i64,.bool,.int .i64,.int .i64]:=by and_intros<;>kernel_rfl
@[simp] theorem auZ:T5 293 (.struct) 9 ([.d (.int .i64 0),.d (.str []),.d (.int .i64 0),.d (.int .i64 0),.d (.int .i64 0),.d (.int .i64 0),.d (.bool false),.d (.int .i64 0),.d (.int .i64 0)]) 80 (.agg ([.int .i64 0,.str [],.int .i64 0,.int .i64 0,.int .i64 0,.int .i64 0,.bool false,.int .i64 0,.int .i64 0])):=by and_intros<;>kernel_rfl
@[simp] theorem aon:FF 293 0 0 55:=by and_intros<;>kernel_rfl
@[simp] theorem aoo:FF 293 1 5 3:=by and_intros<;>kernel_rfl
@[simp] theorem aop:FF 293 2 6 4:=by and_intros<;>kernel_rfl
@[simp] theorem aoq:FF 293 3 7 2:=by and_intros<;>kernel_rfl
@[simp] theorem aor:FF 293 4 8 2:=by and_intros<;>kernel_rfl
@[simp] theorem aic:bh Tryz.prog 293=some [(0,5),(5,1),(6,1),(7,1),(8,1)]/\bU Tryz.prog 293=some [.int .i64,.str,.int .i64,.int .i64,.int .i64,.int .i64,.bool,.int .i64,.int .i64]:=by and_intros<;>kernel_rfl
@[simp] theorem au0:T5 298 (.int .u64) 1 ([.d (.int .u64 0)]) 8 (.int .u64 0):=by and_intros<;>kernel_rfl
@[simp] theorem au1:T5 315 (.slice 321) 1 ([.lit (.slice none 0 0)]) 24 (.list []):=by and_intros<;>kernel_rfl
@[simp] theorem alg:eu Tryz.prog 315=true:=by kernel_rfl
@[simp] theorem au2:T5 316 (.slice 324) 1 ([.lit (.slice none 0 0)]) 24 (.list []):=by and_intros<;>kernel_rfl
@[simp] theorem alh:eu Tryz.prog 316=true:=by kernel_rfl
@[simp] theorem au3:T5 317 (.struct) 3 ([.lit (.slice none 0 0),.lit (.slice none 0 0),.d (.int .i64 0)]) 56 (.agg ([.list [],.list [],.int .i64 0])):=by and_intros<;>kernel_rfl
@[simp] theorem aos:FF 317 0 0 315:=by and_intros<;>kernel_rfl
@[simp] theorem aot:FF 317 1 1 316:=by and_intros<;>kernel_rfl
@[simp] theorem aou:FF 317 2 2 3:=by and_intros<;>kernel_rfl
@[simp] theorem aid:bh Tryz.prog 317=some [(0,1),(1,1),(2,1)]:=by kernel_rfl
@[simp] theorem au4:T5 318 (.struct) 3 ([.lit (.slice none 0 0),.lit (.slice none 0 0),.d (.int .i64 0)]) 56 (.agg ([.list [],.list [],.int .i64 0])):=by and_intros<;>kernel_rfl
@[simp] theorem aov:FF 318 0 0 315:=by and_intros<;>kernel_rfl
@[simp] theorem aow:FF 318 1 1 316:=by and_intros<;>kernel_rfl
@[simp] theorem aoy:FF 318 2 2 3:=by and_intros<;>kernel_rfl
@[simp] theorem aie:bh Tryz.prog 318=some [(0,1),(1,1),(2,1)]:=by kernel_rfl
@[simp] theorem au5:T5 319 (.int .u16) 1 ([.d (.int .u16 0)]) 2 (.int .u16 0):=by and_intros<;>kernel_rfl
@[simp] theorem au6:T5 320 (.struct) 3 ([.d (.int .u16 0),.d (.int .u16 0),.d (.int .u16 0)]) 6 (.agg ([.int .u16 0,.int .u16 0,.int .u16 0])):=by and_intros<;>kernel_rfl
@[simp] theorem aoz:FF 320 0 0 319:=by and_intros<;>kernel_rfl
@[simp] theorem aoA:FF 320 1 1 319:=by and_intros<;>kernel_rfl
@[simp] theorem aoB:FF 320 2 2 319:=by and_intros<;>kernel_rfl
@[simp] theorem aif:bh Tryz.prog 320=some [(0,1),(1,1),(2,1)]/\bU Tryz.prog 320=some [.int .u16,.int .u16,.int .u16]:=by and_intros<;>kernel_rfl
@[simp] theorem au7:T5 321 (.struct) 3 ([.d (.int .u16 0),.d (.int .u16 0),.d (.int .u16 0)]) 6 (.agg ([.int .u16 0,.int .u16 0,.int .u16 0])):=by and_intros<;>kernel_rfl
@[simp] theorem aoC:FF 321 0 0 319:=by and_intros<;>kernel_rfl
@[simp] theorem aoD:FF 321 1 1 319:=by and_intros<;>kernel_rfl
@[simp] theorem aoE:FF 321 2 2 319:=by and_intros<;>kernel_rfl
@[simp] theorem aih:bh Tryz.prog 321=some [(0,1),(1,1),(2,1)]/\bU Tryz.prog 321=some [.int .u16,.int .u16,.int .u16]:=by and_intros<;>kernel_rfl
@[simp] theorem au8:T5 323 (.struct) 3 ([.d (.int .u32 0),.d (.int .u32 0),.d (.int .u32 0)]) 12 (.agg ([.int .u32 0,.int .u32 0,.int .u32 0])):=by and_intros<;>kernel_rfl
@[simp] theorem aoF:FF 323 0 0 285:=by and_intros<;>kernel_rfl
@[simp] theorem aoG:FF 323 1 1 285:=by and_intros<;>kernel_rfl
@[simp] theorem aoH:FF 323 2 2 285:=by and_intros<;>kernel_rfl
@[simp] theorem aii:bh Tryz.prog 323=some [(0,1),(1,1),(2,1)]/\bU Tryz.prog 323=some [.int .u32,.int .u32,.int .u32]:=by and_intros<;>kernel_rfl
@[simp] theorem au9:T5 324 (.struct) 3 ([.d (.int .u32 0),.d (.int .u32 0),.d (.int .u32 0)]) 12 (.agg ([.int .u32 0,.int .u32 0,.int .u32 0])):=by and_intros<;>kernel_rfl
@[simp] theorem aoI:FF 324 0 0 285:=by and_intros<;>kernel_rfl
@[simp] theorem aoJ:FF 324 1 1 285:=by and_intros<;>kernel_rfl
@[simp] theorem aoK:FF 324 2 2 285:=by and_intros<;>kernel_rfl
@[simp] theorem aij:bh Tryz.prog 324=some [(0,1),(1,1),(2,1)]/\bU Tryz.prog 324=some [.int .u32,.int .u32,.int .u32]:=by and_intros<;>kernel_rfl
@[simp] theorem ava:T5 327 (.int .u64) 1 ([.d (.int .u64 0)]) 8 (.int .u64 0):=by and_intros<;>kernel_rfl
@[simp] theorem avb:T2 336 (.ptr 321) 1:=by and_intros<;>kernel_rfl
@[simp] theorem avc:T2 337 (.ptr 324) 1:=by and_intros<;>kernel_rfl
@[simp] theorem avd:T5 344 (.slice 116) 1 ([.lit (.slice none 0 0)]) 24 (.list []):=by and_intros<;>kernel_rfl
@[simp] theorem ali:eu Tryz.prog 344=true:=by kernel_rfl
@[simp] theorem ave:T3 347 (.struct) 4 ([.lit (.pointer none),.lit (.pointer none),.lit (.pointer none),.d (.str [])]):=by and_intros<;>kernel_rfl
@[simp] theorem aoL:FF 347 0 0 17:=by and_intros<;>kernel_rfl
@[simp] theorem aoM:FF 347 1 1 17:=by and_intros<;>kernel_rfl
@[simp] theorem aoN:FF 347 2 2 17:=by and_intros<;>kernel_rfl
@[simp] theorem aoO:FF 347 3 3 9:=by and_intros<;>kernel_rfl
@[simp] theorem aik:bh Tryz.prog 347=some [(0,1),(1,1),(2,1),(3,1)]:=by kernel_rfl
@[simp] theorem avf:T3 348 (.struct) 4 ([.lit (.pointer none),.lit (.pointer none),.lit (.pointer none),.d (.str [])]):=by and_intros<;>kernel_rfl
@[simp] theorem aoP:FF 348 0 0 17:=by and_intros<;>kernel_rfl
@[simp] theorem aoQ:FF 348 1 1 17:=by and_intros<;>kernel_rfl
@[simp] theorem aoR:FF 348 2 2 17:=by and_intros<;>kernel_rfl
@[simp] theorem aoS:FF 348 3 3 9:=by and_intros<;>kernel_rfl
@[simp] theorem ail:bh Tryz.prog 348=some [(0,1),(1,1),(2,1),(3,1)]:=by kernel_rfl
@[simp] theorem avg:T5 349 (.arr 0 16) 0 ([]) 0 (.agg ([])):=by and_intros<;>kernel_rfl
@[simp] theorem aim:bh Tryz.prog 349=none:=by kernel_rfl
@[simp] theorem avh:T5 350 (.struct) 0 ([]) 0 (.agg ([])):=by and_intros<;>kernel_rfl
@[simp] theorem ain:bh Tryz.prog 350=some [(0,0)]:=by kernel_rfl
@[simp] theorem avi:T5 351 (.struct) 0 ([]) 0 (.agg ([])):=by and_intros<;>kernel_rfl
@[simp] theorem aio:bh Tryz.prog 351=some [(0,0)]:=by kernel_rfl
@[simp] theorem avj:T5 352 (.int .u8) 1 ([.d (.int .u8 0)]) 1 (.int .u8 0):=by and_intros<;>kernel_rfl
@[simp] theorem avk:T5 353 (.int .u8) 1 ([.d (.int .u8 0)]) 1 (.int .u8 0):=by and_intros<;>kernel_rfl
@[simp] theorem avl:T2 354 (.func) 1:=by and_intros<;>kernel_rfl
@[simp] theorem avm:T2 355 (.ptr 5) 1:=by and_intros<;>kernel_rfl
@[simp] theorem avn:T5 356 (.int .i32) 1 ([.d (.int .i32 0)]) 4 (.int .i32 0):=by and_intros<;>kernel_rfl
@[simp] theorem avo:T5 357 (.int .i32) 1 ([.d (.int .i32 0)]) 4 (.int .i32 0):=by and_intros<;>kernel_rfl
@[simp] theorem avp:T3 358 (.struct) 11 ([.d (.int .u64 0),.d (.int .u64 0),.d (.int .u32 0),.d (.int .u8 0),.d (.int .u8 0),.d (.int .u8 0),.d (.int .u8 0),.lit .nilFunc,.lit (.pointer none),.d (.int .i32 0),.d (.int .i32 0)]):=by and_intros<;>kernel_rfl
@[simp] theorem aoT:FF 358 0 0 12:=by and_intros<;>kernel_rfl
@[simp] theorem aoU:FF 358 1 1 12:=by and_intros<;>kernel_rfl
@[simp] theorem aoV:FF 358 2 2 285:=by and_intros<;>kernel_rfl
@[simp] theorem aoW:FF 358 3 3 352:=by and_intros<;>kernel_rfl
@[simp] theorem aoX:FF 358 4 4 5:=by and_intros<;>kernel_rfl
@[simp] theorem aoY:FF 358 5 5 5:=by and_intros<;>kernel_rfl
@[simp] theorem aoZ:FF 358 6 6 353:=by and_intros<;>kernel_rfl
@[simp] theorem ao0:FF 358 7 7 354:=by and_intros<;>kernel_rfl
@[simp] theorem ao1:FF 358 8 8 355:=by and_intros<;>kernel_rfl
@[simp] theorem ao2:FF 358 9 9 356:=by and_intros<;>kernel_rfl
@[simp] theorem alj:FF 358 10 10 357:=by and_intros<;>kernel_rfl
@[simp] theorem aip:bh Tryz.prog 358=some [(0,1),(1,1),(2,1),(3,1),(4,1),(5,1),(6,1),(7,1),(8,1),(9,1),(10,1)]:=by kernel_rfl
@[simp] theorem avq:T3 359 (.struct) 11 ([.d (.int .u64 0),.d (.int .u64 0),.d (.int .u32 0),.d (.int .u8 0),.d (.int .u8 0),.d (.int .u8 0),.d (.int .u8 0),.lit .nilFunc,.lit (.pointer none),.d (.int .i32 0),.d (.int .i32 0)]):=by and_intros<;>kernel_rfl
@[simp] theorem ao3:FF 359 0 0 12:=by and_intros<;>kernel_rfl
@[simp] theorem ao4:FF 359 1 1 12:=by and_intros<;>kernel_rfl
@[simp] theorem ao5:FF 359 2 2 285:=by and_intros<;>kernel_rfl
@[simp] theorem ao6:FF 359 3 3 352:=by and_intros<;>kernel_rfl
@[simp] theorem ao7:FF 359 4 4 5:=by and_intros<;>kernel_rfl
@[simp] theorem ao8:FF 359 5 5 5:=by and_intros<;>kernel_rfl
@[simp] theorem ao9:FF 359 6 6 353:=by and_intros<;>kernel_rfl
@[simp] theorem apa:FF 359 7 7 354:=by and_intros<;>kernel_rfl
@[simp] theorem apb:FF 359 8 8 355:=by and_intros<;>kernel_rfl
@[simp] theorem apc:FF 359 9 9 356:=by and_intros<;>kernel_rfl
@[simp] theorem alk:FF 359 10 10 357:=by and_intros<;>kernel_rfl
@[simp] theorem aiq:bh Tryz.prog 359=some [(0,1),(1,1),(2,1),(3,1),(4,1),(5,1),(6,1),(7,1),(8,1),(9,1),(10,1)]:=by kernel_rfl
end Go.Am
end
section
namespace Go.Am
open Go
def Iz:List D->Option D
 |[.str s,.str t]=>if s.length<4294967281 then some (.int .i64 (Go.Lib.index s t))else none
 |_=>none
def Tn:List D->Option D
 |[.str s,.int .u8 c]=>some (.int .i64 (Go.Lib.indexByte s c.toNat.toUInt8))
 |_=>none
def To:List D->Option D
 |[.str s,.str p]=>some (.bool (Go.Lib.hasPrefix s p))
 |_=>none
attribute [simp] Iz.eq_1 Tn.eq_1 To.eq_1
section
variable {X:Ctx} {U:bj} {md:Bool} {all:List Oper} {S:St}
@[simp] theorem ahd{d:Option Tmp}{op:Op}{ty:TypeId}{pos:String}{M:Array Edge}:eg X U md all S ⟨d,op,ty,pos,M,none⟩=eK X U S ⟨d,op,ty,pos,M,none⟩ (cJ X.P S ⟨d,op,ty,pos,M,none⟩):=rfl
@[simp] theorem apd{I:List Nat}{i:Nat}{A:List aW}:qM X md all I i [] S A=some (BS A []):=by rw[Eo,afl];rfl
theorem Tp{I:List Nat}{i:Nat}{o:Oper}{r:List Oper}{A:List aW}:qM X md all I i (o::r) S A=if I.contains i=true then (match eg X (λ_ _ _=>none) md all S o with
 |some (S1,p)=>qM X md all I (i+1) r S1 (p::A)
 |none=>none)else qM X md all I (i+1) r (S.put o.dst false .aY) (⟨[],[],false,.aY⟩::A):=by
 simp only[qM];cases I.contains i<;>rfl
end
attribute [simp] Tp eK.eq_1 eK.eq_2 eK.eq_3 O1.eq_1 O0.eq_1 O0.eq_2 fm.eq_1 fm.eq_2 fi.eq_1 fi.eq_2 jk.eq_1 jk.eq_2 St.kill.eq_1 Ed.eq_1 Ed.eq_2 yJ.eq_1 yJ.eq_2
attribute [simp] adp aa7 Wc Td
section
variable {N J α:Type} {X:Ctx} {md:Bool} {O:Nat×List (List Nat)} {S:St} {d:Option Nat} {all q:List Oper} {A:List aW} {k:Kt} {r:PR N J α} {f:α->J->Option eF} {g:N->J->Option eF}
@[simp] theorem alm:oh X md O S d all q A k (r.el f g)=r.el (λa s=>oh X md O S d all q A k (f a s)) (λe s=>oh X md O S d all q A k (g e s)):=by cases r<;>rfl
@[simp] theorem asz:sK S (r.el f g)=r.el (λa s=>sK S (f a s)) (λe s=>sK S (g e s)):=by cases r<;>rfl
@[simp] theorem asA{p:aw}{T:Nat}{rs:List ResultVar}{f:α->J->Option St}{g:N->J->Option St}:BE X p T rs (r.el f g)=r.el (λa s=>BE X p T rs (f a s)) (λe s=>BE X p T rs (g e s)):=by cases r<;>rfl
end
attribute [simp] S7 PA S8 PB PC Kl PD S9 Ta PE
attribute [simp] Dh.eq_1 Ey.eq_1 It.eq_1 GA.eq_1 GA.eq_2 Aq.eq_1 Aq.eq_2 BE.eq_1 BE.eq_2 sK.eq_1 BD.eq_1 BD.eq_2 BD.eq_3 rE.eq_1 Tc Di.eq_1 Di.eq_2
section
variable {X:Ctx} {f:FuncId} {S:St} {E:List DF} {H:zx} {b:Code}
@[simp] theorem asB:Dh X f b H .ret S E=H .ret S E:=rfl
@[simp] theorem asC{t:TypeId}{x:D}:Dh X f b H (.panic t x) S E=H (.panic t x) S E:=rfl
@[simp] theorem asD{i:Nat}:Dh X f b H (.exit i) S E=H (.exit i) S E:=rfl
@[simp] theorem aln{id:Nat}{t:TypeId}{x:D}:Ey X f id H (.panic t x) S E=H (.panic t x) S E:=rfl
@[simp] theorem ape{md:Bool}{all r:List Oper}{t:TypeId}{x:D}:It X md all r E H (.panic t x) S=H (.panic t x) S E:=rfl
end
@[simp] theorem abN:kE none=[]:=rfl
@[simp] theorem abO(k v:Nat):kE (some ⟨k,v,.dead⟩)=[]:=rfl
@[simp] theorem adB(k v:Nat)(cs:List AV):kE (some ⟨k,v,.box cs⟩)=j2 cs:=rfl
@[simp] theorem adC(k v sz:Nat)(ag:List D):kE (some ⟨k,v,.vec sz ag⟩)=[]:=rfl
@[simp] theorem adD(k v:Nat)(ag:List (List D)):kE (some ⟨k,v,.vv ag none⟩)=[]:=rfl
@[simp] theorem ahe(k v:Nat)(ag:List (List D))(x:AV):kE (some ⟨k,v,.vv ag (some x)⟩)=ig x:=rfl
@[simp] theorem asF(m ρ bor nv ag y):uu m ρ bor nv (.vv ag y)=.vv ag (y.map (vw m ρ bor nv)):=rfl
@[simp] theorem alo(ag y):kO (.vv ag y)=(ag.all iZ&&(match y with|none=>true|some x=>dj x)):=rfl
@[simp] theorem avr(ρ H ag y):CB ρ H (.vv ag y)=.vv ag (y.map (up ρ H)):=rfl
@[simp] theorem asG(I ag y):pe I (.vv ag y)=.vv ag (y.map I):=rfl
@[simp] theorem apf{E:Nat}{b:Bool}{c:Prop}[Decidable c]{x y:Option (Out×List (Nat×ay))}:pr E b (if c then x else y)=if c then pr E b x else pr E b y:=by split<;>rfl
@[simp] theorem abP(P t A len ps):fW P t A len ps none=none:=by
 unfold fW;split<;>simp_all
@[simp] theorem air(P t A len n x o):fW P t A len [(n,.d x)] o=none:=by
 unfold fW;split<;>simp_all
@[simp] theorem adE(P t A len n x o):fW P t A len [(n,.agg x)] o=none:=by
 unfold fW;split<;>simp_all
@[simp] theorem adF(P t A len o):fW P t A len [] o=none:=by
 unfold fW;split<;>simp_all
@[simp] theorem adG(P t A len p q r o):fW P t A len (p::q::r) o=none:=by
 unfold fW;split<;>simp_all
@[simp] theorem adH(P t A len k v c):fW P t A len [(0,.lit (.slice none 0 0))] (some ⟨k,v,c⟩)=(match tk P t with
 | .slice e=>match eM P e,lD P e with
  |some sz,some _=>some (.cG (sz=1/\len=1) (.vec A (v+1) 0 1) ⟨A,v+1,.box [.lit (.slice none 0 0)]⟩)
  |_,_=>none
 |_=>none):=rfl
attribute [simp] pL.eq_1
attribute [simp] Ck.eq_1 vQ.eq_1
attribute [simp] Gh.go St.sB.eq_1 St.cls.eq_1 St.shut.eq_1 St.sC.eq_1
end Go.Am
end
section
namespace Go.Am
open Go
open Go.Proofs
set_option maxRecDepth 10000
@[simp] def Ys:Nat->List Nat
 |0=>[1,2,3,4]
 |1=>[1,2,3,4,14]
 |2=>[8]
 |3=>[1,2,3,4,48]
 |4=>[8]
 |5=>[1,2,3,4,9,10]
 |6=>[2,3,4,9,10]
 |7=>[10,11,12]
 |8=>[10,11,12,76]
 |9=>[8]
 |10=>[8]
 |_=>[]
@[simp] def md8:Nat->Bool
 |3=>true
 |_=>false
@[simp] def od8:Nat->List (List Nat)
 |5=>[[1,2,3],[0,2,3,4],[0,1,3],[0,1,2],[1],[]]
 |6=>[[2,4,5,6,7],[2,4,5,6,7],[0,1,4,5,6,7],[4,5,6,7],[0,1,2,3,6,8,9],[0,1,2,3,6,8,9],[0,1,2,3,4,5,8,9],[0,1,2,3,8,9],[4,5,6,7],[4,5,6,7],[],[]]
 |7=>[[1,2,4,5,6,8,9],[0,2,4,5,6,8,9],[0,1,4,5,6,8,9],[4,5,6,8,9],[0,1,2,3,5,6,8,9],[0,1,2,3,4,6,8,9],[0,1,2,3,4,5,8,9],[8,9],[0,1,2,3,4,5,6,7,9],[0,1,2,3,4,5,6,7,8],[],[]]
 |10=>[[1,2,3,4,5,6],[0,2,3,4,5],[0,1,4,5],[0,1,4,5],[0,1,2,3],[0,1,2,3],[0],[],[]]
 |_=>[]
@[simp] def fp8:aw:=⟨[],false,[300,550,600,650,700],[],false⟩
@[simp] def Tq:Nat->List Nat
 |0=>[1]
 |1=>[1,3]
 |2=>[2]
 |_=>[]
@[simp] def Wg:aw:=⟨[],false,[150],[],false⟩
@[simp] def Ts:Nat->List Nat
 |0=>[1]
 |1=>[1,14]
 |2=>[2]
 |3=>[1,3]
 |4=>[1,3,19]
 |5=>[1,3]
 |6=>[1,3,4]
 |7=>[1,3,4,40]
 |8=>[2]
 |9=>[1,3,4,54]
 |10=>[2]
 |11=>[1,3,4,93]
 |12=>[2]
 |13=>[1,3,125]
 |14=>[2]
 |15=>[2]
 |_=>[]
@[simp] def adJ:Nat->Bool
 |9=>true
 |11=>true
 |13=>true
 |_=>false
@[simp] def Wh:aw:=⟨[],false,[150,300],[],false⟩
@[simp] def Tt:Nat->List Nat
 |0=>[1,2]
 |1=>[1,2,3]
 |2=>[1,2,3,4]
 |3=>[1,2,3,4,11]
 |4=>[1,2,3,4]
 |5=>[1,2,3,4,6]
 |6=>[1,2,3,4,28]
 |7=>[2]
 |8=>[1,2,3,4]
 |9=>[1,2,3,4,45]
 |10=>[2]
 |11=>[2]
 |_=>[]
@[simp] def adK:Nat->List (List Nat)
 |5=>[[2,4,5,6,7,8,9,14],[2,4,5,6,7,8,9,14],[0,1,4,5,6,7,8,9,14],[4,5,6,7,8,9,14],[0,1,2,3,6,14],[0,1,2,3,6,14],[0,1,2,3,4,5,14],[0,1,2,3,14],[0,1,2,3,14],[0,1,2,3,14],[14],[14],[13,14],[12,14,15],[0,1,2,3,4,5,6,7,8,9,10,11,12,13],[13],[]]
 |_=>[]
@[simp] def Wi:aw:=⟨[],false,[150,200,350],[],false⟩
@[simp] def Tu:Nat->List Nat
 |0=>[2,3]
 |1=>[4]
 |_=>[]
@[simp] def Wj:aw:=⟨[],false,[200,250],[],false⟩
@[simp] def Tv:Nat->List Nat
 |0=>[1,2,3,6]
 |1=>[1,2,3,6,7]
 |2=>[1,2,3,6,7,8]
 |3=>[3,6,8,33]
 |4=>[6]
 |5=>[3,6,8,40,41,42]
 |6=>[3,6,8,40,41,42,43]
 |7=>[3,6,8,10,40,41,42]
 |8=>[3,6,8,40,41,42]
 |9=>[3,6,8,40,41,42]
 |10=>[3,6,8]
 |11=>[6,8]
 |12=>[6]
 |_=>[]
@[simp] def adL:Nat->List (List Nat)
 |2=>[[1,2,3,4,5,8],[0,3,4,5,8],[0,3,4,5,8],[0,1,2,5,8],[0,1,2,5,8],[0,1,2,3,4,8],[8],[8],[0,1,2,3,4,5,6,7],[]]
 |8=>[[1,2,3,4,5,6,7,8,9],[0,5,6,7,8],[0,5,6,7,8],[0,5,6,7,8],[0,5,6,7,8],[0,1,2,3,4],[0,1,2,3,4],[0,1,2,3,4],[0,1,2,3,4],[0],[],[],[]]
 |12=>[[4,5,6,7],[4,5,6,7],[4,5,6,7],[4,5,6,7],[0,1,2,3],[0,1,2,3],[0,1,2,3],[0,1,2,3],[],[]]
 |_=>[]
@[simp] def adM:Nat->List Gh
 |2=>[.jl 1100 4 1101 1]
 |_=>[]
@[simp] def IA:aw:=⟨[],false,[250,400,450,500,600,951,1100,1101],[],false⟩
@[simp] def Tw:Nat->List Nat
 |0=>[]
 |1=>[1]
 |2=>[4]
 |3=>[0]
 |_=>[]
@[simp] def adN:Nat->Bool
 |3=>true
 |_=>false
@[simp] def Wk:aw:=⟨[],false,[150,250,300],[],false⟩
@[simp] def Ty:Nat->List Nat
 |0=>[1]
 |1=>[2]
 |_=>[]
@[simp] def adO:Nat->Bool
 |1=>true
 |_=>false
@[simp] def Wl:aw:=⟨[],false,[150],[],false⟩
@[simp] def Tz:Nat->List Nat
 |0=>[0]
 |1=>[0,3]
 |2=>[0,3,8]
 |3=>[0,3]
 |4=>[0,3,16]
 |5=>[2]
 |6=>[0,3,4]
 |7=>[0,3,4,24]
 |8=>[0,3,4]
 |9=>[0,3,4,35]
 |10=>[2]
 |11=>[2]
 |_=>[]
@[simp] def Wm:aw:=⟨[],false,[],[],false⟩
@[simp] def TB:Nat->List Nat
 |0=>[1,2]
 |1=>[2,6,7]
 |2=>[4,5]
 |_=>[]
@[simp] def Wn:aw:=⟨[],false,[200],[],false⟩
@[simp] def TC:Nat->List Nat
 |0=>[0]
 |1=>[0,17]
 |2=>[2]
 |3=>[0,3]
 |4=>[0,3,21]
 |5=>[0,3]
 |6=>[0,3,4]
 |7=>[0,3,4,5]
 |8=>[0,3,58]
 |9=>[2]
 |10=>[2]
 |_=>[]
@[simp] def adP:Nat->Bool
 |1=>true
 |7=>true
 |8=>true
 |_=>false
@[simp] def Wo:aw:=⟨[],false,[],[],false⟩
@[simp] def TD:Nat->List Nat
 |0=>[0]
 |1=>[0,3]
 |2=>[0,3,4]
 |3=>[0,3,4,9]
 |4=>[0,3,4]
 |5=>[0,3,4,18]
 |6=>[2]
 |7=>[2]
 |_=>[]
@[simp] def Wp:aw:=⟨[],false,[],[],false⟩
@[simp] def TE:Nat->List Nat
 |0=>[0]
 |1=>[0,3]
 |2=>[0,3,20]
 |3=>[0,3]
 |4=>[0,3,4]
 |5=>[0,3,4,5,6,7]
 |6=>[0,3,4,6,7,59]
 |7=>[2]
 |8=>[0,3,4,7,89]
 |9=>[2]
 |10=>[0,3,4,118]
 |11=>[2]
 |12=>[0,3,4,8,9,10,11,12]
 |13=>[0,3,4,8,9,10,11,12,120]
 |14=>[0,3,4,8,9,10,11,12,120,121]
 |15=>[0,3,4,8,9,10,11,12]
 |16=>[0,3,4,8,9,10,11,12,120,131]
 |17=>[0,3,4,8,9,10,11,12]
 |18=>[0,3,4,8,9,10,11,12,120,139]
 |19=>[0,3,4,8,9,10,11,12]
 |20=>[0,3,4,8,9,10,11,12,120,141]
 |21=>[0,3,4,8,9,10,11,12,120,141]
 |22=>[0,3,4,8,9,10,11,12]
 |23=>[0,3,4,8,9,10,11,12,144]
 |24=>[0,3,4,8,9,10,11,12]
 |25=>[0,3,4,186]
 |26=>[2]
 |27=>[0,3,4,13]
 |28=>[0,3,4,13,191]
 |29=>[0,3,4,13]
 |30=>[0,3,4,13,200]
 |31=>[2]
 |32=>[0,3,4,14]
 |33=>[0,3,4,14,205]
 |34=>[0,3,4,14]
 |35=>[0,3,4,14,224]
 |36=>[2]
 |37=>[0,3,4,14,15]
 |38=>[0,3,4,14,15,232]
 |39=>[0,3,4,14,15]
 |40=>[0,3,4,14,15,243]
 |41=>[2]
 |42=>[0,3,4,16]
 |43=>[0,3,4,16,248]
 |44=>[0,3,4,16]
 |45=>[0,3,4,16,257]
 |46=>[2]
 |47=>[2]
 |_=>[]
@[simp] def adQ:Nat->Bool
 |6=>true
 |8=>true
 |10=>true
 |35=>true
 |_=>false
@[simp] def adR:Nat->List (List Nat)
 |15=>[[4,5,6,7],[4,5,6,7],[4,5,6,7],[4,5,6,7],[0,1,2,3,8],[0,1,2,3,8],[0,1,2,3,8],[0,1,2,3,8],[4,5,6,7],[],[]]
 |17=>[[3,4,5],[3,4,5],[3,4,5],[0,1,2,6],[0,1,2,6],[0,1,2,6],[3,4,5],[],[]]
 |24=>[[3,4,5],[3,4,5],[3,4,5],[0,1,2,6],[0,1,2,6],[0,1,2,6],[3,4,5],[]]
 |_=>[]
@[simp] def Wq:aw:=⟨[],false,[300],[],false⟩
@[simp] def TF:Nat->List Nat
 |0=>[0,1,4]
 |1=>[0,1,4,6]
 |2=>[0,1,4,6,10]
 |3=>[0,1,4,6]
 |4=>[0,1,4,6,19]
 |5=>[4,5]
 |6=>[4,5]
 |_=>[]
@[simp] def Wr:aw:=⟨[],false,[300],[],false⟩
@[simp] def TG:Nat->List Nat
 |0=>[1]
 |1=>[1,4]
 |2=>[2]
 |3=>[1,13]
 |4=>[2]
 |5=>[2]
 |_=>[]
@[simp] def Ws:aw:=⟨[],false,[150],[],false⟩
@[simp] def TH:Nat->List Nat
 |0=>[0,1,2,6]
 |1=>[0,1,2,6,7]
 |2=>[0,1,2,6,7,12]
 |3=>[0,1,2,6,7]
 |4=>[0,1,2,6,7,8]
 |5=>[0,1,2,6,7,8,24]
 |6=>[6]
 |7=>[6]
 |_=>[]
@[simp] def Wt:aw:=⟨[],false,[400,500],[],false⟩
@[simp] def TI:Nat->List Nat
 |0=>[1,2]
 |1=>[1,2,3]
 |2=>[2,3,8,9,10]
 |3=>[2,3,8,9,10,11]
 |4=>[2,3,5,8,9,10]
 |5=>[2,3,5,8,9,10]
 |6=>[2,3,5,6,8,9,10]
 |7=>[2,3,5,6,8,9,10]
 |8=>[2,3,5,8,9,10]
 |9=>[2,3,5,8,9,10,40]
 |10=>[2,3,8,9,10]
 |11=>[2,3,8,9,10]
 |12=>[2]
 |_=>[]
@[simp] def adS:Nat->List Gh
 |1=>[.jl 250 0 251 1,.jl 250 2 252 1]
 |_=>[]
@[simp] def Wu:aw:=⟨[],false,[150,200,250,251,252,350],[],false⟩
@[simp] def TJ:Nat->List Nat
 |0=>[0,1]
 |1=>[0,1,10]
 |2=>[4]
 |3=>[0,1,5]
 |4=>[0,1,5,14]
 |5=>[0,1,5]
 |6=>[0,1,5,25]
 |7=>[4]
 |8=>[4]
 |_=>[]
@[simp] def adT:Nat->List (List Nat)
 |6=>[[1,4,5,6,7],[0,4,5,6,7],[4,5,6,7],[4,5,6,7],[0,1,2,3,5],[0,1,2,3,4],[0,1,2,3],[0,1,2,3],[]]
 |_=>[]
@[simp] def Wv:aw:=⟨[],false,[],[],false⟩
@[simp] def TL:Nat->List Nat
 |0=>[0]
 |1=>[0,4]
 |2=>[2]
 |3=>[2]
 |_=>[]
@[simp] def IB:aw:=⟨[],true,[200,350],[],true⟩
@[simp] def TM:Nat->List Nat
 |0=>[0]
 |1=>[0,14]
 |2=>[2]
 |3=>[0,3]
 |4=>[0,3,4]
 |5=>[0,3,4,19]
 |6=>[0,3,4]
 |7=>[0,3,4,28]
 |8=>[3,4,5]
 |9=>[3,4,5,6]
 |10=>[3,4,5,6,36]
 |11=>[3,4,5,6]
 |12=>[3,4,5,6,7]
 |13=>[3,4,5,6,7,8]
 |14=>[3,4,5,6,7,8,52]
 |15=>[3,4,5,6,7,8]
 |16=>[3,4,5,6,7,8,55]
 |17=>[3,4,5,6,7,8]
 |18=>[3,4,5,6,8]
 |19=>[3,4,5,6]
 |20=>[2]
 |21=>[2]
 |_=>[]
@[simp] def Ww:aw:=⟨[],false,[350,500],[],false⟩
@[simp] def TN:Nat->List Nat
 |0=>[0]
 |1=>[3,4]
 |2=>[3,12]
 |3=>[2]
 |4=>[3,5]
 |5=>[5,21,22]
 |6=>[5,21,22,23]
 |7=>[5,21,22]
 |8=>[5,21,22]
 |9=>[2]
 |_=>[]
@[simp] def adU:Nat->List (List Nat)
 |4=>[[3,4],[3,4],[3,4],[0,1,2],[0,1,2],[],[],[]]
 |_=>[]
@[simp] def Wx:aw:=⟨[],false,[250,851],[],false⟩
@[simp] def TO:Nat->List Nat
 |0=>[0,1,2]
 |1=>[0,1,2,7]
 |2=>[0,1,2,3,4]
 |3=>[0,1,2,3,14]
 |4=>[0,1,3]
 |5=>[]
 |_=>[]
@[simp] def adV:Nat->List (List Nat)
 |5=>[[4,5,6,7,8,9],[4,5,6,7,8,9],[4,5,6,7,8,9],[4,5,6,7,8,9],[0,1,2,3,6,7,8,9],[0,1,2,3,6,7,8,9],[0,1,2,3,4,5],[0,1,2,3,4,5],[0,1,2,3,4,5],[0,1,2,3,4,5],[],[]]
 |_=>[]
@[simp] def IC:aw:=⟨[1,2,3,4,5,6],false,[250],[],false⟩
@[simp] def TP:Nat->List Nat
 |0=>[0,1]
 |1=>[0,8,9,10]
 |2=>[0,8,9,10,11]
 |3=>[0,6,8,9,10]
 |4=>[0,7,8,9,10]
 |5=>[0,7,8,9,10,18]
 |6=>[4]
 |7=>[0,8,9,10]
 |8=>[4]
 |_=>[]
@[simp] def Wy:aw:=⟨[1,2],false,[400],[],false⟩
@[simp] def TQ:Nat->List Nat
 |0=>[0,2,3,4]
 |1=>[2,3,4,5]
 |2=>[2,3,4,5,14]
 |3=>[2,3,4]
 |4=>[2,3,4,5]
 |5=>[2,3,4,6]
 |6=>[2,3,4]
 |_=>[]
@[simp] def adW:Nat->List (List Nat)
 |3=>[[1,2],[0,2,3],[0,1,3,4],[1,2],[2],[]]
 |_=>[]
@[simp] def adX:Nat->List Gh
 |5=>[.jl 1150 3 1151 8]
 |_=>[]
@[simp] def ID:aw:=⟨[],false,[200,250,300,1150,1151],[],false⟩
@[simp] def TR:Nat->List Nat
 |0=>[0,1]
 |1=>[0,1,6,7]
 |2=>[0,1,6,7,8]
 |3=>[0,1,6,7,8,26]
 |4=>[0,1,6,7,8]
 |5=>[0,1,6,7,8]
 |6=>[0,1,6,7,8,9]
 |7=>[0,1,6,7,8,9,42,43,44]
 |8=>[0,1,6,7,8,9,42,43,44,45]
 |9=>[0,1,6,7,8,9,11,42,43,44]
 |10=>[0,1,6,7,8,9,12,13,42,43,44]
 |11=>[0,1,6,7,8,9,13,42,43,44]
 |12=>[0,1,6,7,8,9,42,43,44]
 |13=>[0,1,6,7,8,9,42,43,44]
 |14=>[0,1,6,7,8,9]
 |15=>[0,1,6,7,8,9,14]
 |16=>[0,1,6,7,8,9,14,88]
 |17=>[0,1,6,7,8,9,14]
 |18=>[0,1,6,7,8,9,14]
 |19=>[0,1,6,7,8,9,15]
 |20=>[0,1,6,7,8,9,15,111]
 |21=>[0,1,6,7,8,9,15]
 |22=>[0,1,6,7,8,9,15,16,17]
 |23=>[0,1,6,7,8,9,15,17]
 |24=>[0,1,6,7,8,9,15]
 |25=>[4,5]
 |_=>[]
@[simp] def Wz:aw:=⟨[],false,[550],[],false⟩
@[simp] def TS:Nat->List Nat
 |0=>[0]
 |1=>[0,5,6,7]
 |2=>[0,5,6,7,8]
 |3=>[0,4,5,6,7]
 |4=>[0,5,6,7,13]
 |5=>[2]
 |6=>[0,5,6,7]
 |7=>[2]
 |_=>[]
@[simp] def WA:aw:=⟨[],false,[],[],false⟩
@[simp] def TU:Nat->List Nat
 |0=>[]
 |1=>[0]
 |_=>[]
@[simp] def adY:aw:=⟨[],false,[],[],false⟩
@[simp] def TV:Nat->List Nat
 |0=>[0]
 |1=>[2,3,4]
 |_=>[]
@[simp] def WB:aw:=⟨[],false,[],[],false⟩
@[simp] def TW:Nat->List Nat
 |0=>[0]
 |1=>[0,3]
 |2=>[0,3,11]
 |3=>[0,3]
 |4=>[0,3,4]
 |5=>[0,3,4,5,6,7]
 |6=>[0,3,4,5,6,7,18]
 |7=>[0,3,4,5,6,7,18]
 |8=>[0,3,4,5,6,7,18]
 |9=>[0,3,4,5,6,7,18]
 |10=>[0,3,4,5,6,7,18]
 |11=>[2]
 |12=>[0,3,4,5,6,7,54]
 |13=>[0,3,4,5,6,7]
 |14=>[0,3,4,5,6,7,58]
 |15=>[0,3,4,5,6,7]
 |16=>[0,3,4,5,6,7,62]
 |17=>[0,3,4,5,6,7]
 |18=>[0,3,4,5,6,7,66]
 |19=>[0,3,4,5,6,7]
 |20=>[0,3,4,5,6,7,75]
 |21=>[0,3,4,5,6,7]
 |22=>[0,3,125]
 |23=>[2]
 |24=>[2]
 |_=>[]
@[simp] def adZ:Nat->Bool
 |7=>true
 |22=>true
 |_=>false
@[simp] def WC:aw:=⟨[],false,[300],[],false⟩
@[simp] def TX:Nat->List Nat
 |0=>[1]
 |1=>[2]
 |_=>[]
@[simp] def WD:aw:=⟨[],false,[150],[],false⟩
@[simp] def TY:Nat->List Nat
 |0=>[0,2,4,6]
 |1=>[0,2,4,6,25]
 |2=>[0,2,4,6,25,26]
 |3=>[0,4,6,7,8]
 |4=>[0,4,6,7,37]
 |5=>[6]
 |6=>[0,4,6,44]
 |7=>[6]
 |8=>[0,4,6,9,10]
 |9=>[0,4,6,9,10,58]
 |10=>[6]
 |11=>[4,6,9,10,11]
 |12=>[4,6,9,10,11,69]
 |13=>[6]
 |14=>[4,6,73]
 |15=>[6]
 |16=>[0,2,4,6,25,77]
 |17=>[0,2,4,6,12]
 |18=>[0,2,4,6,12,83]
 |19=>[0,2,4,6,12]
 |20=>[0,2,4,6,12,90]
 |21=>[0,2,4,6,12,13]
 |22=>[0,2,4,6,12,13,100]
 |23=>[6]
 |24=>[0,2,4,6,12,14]
 |25=>[0,2,4,6,12,14,112]
 |26=>[6]
 |27=>[0,2,4,6,25,114]
 |28=>[0,2,4,6,15]
 |29=>[0,2,4,6,15,122]
 |30=>[6]
 |31=>[0,2,4,6,16]
 |32=>[0,2,4,6,16,128]
 |33=>[0,2,4,6,16]
 |34=>[0,2,4,6,16,17]
 |35=>[0,2,4,6,16,17,141]
 |36=>[6]
 |37=>[0,2,4,6,25,143]
 |38=>[0,4,6,18,19]
 |39=>[0,4,6,18,153]
 |40=>[6]
 |41=>[0,4,6,18,159]
 |42=>[6]
 |43=>[0,4,6,169]
 |44=>[6]
 |45=>[0,4,6,20]
 |46=>[0,4,6,20,177]
 |47=>[0,4,6,20]
 |48=>[0,4,6,20,21]
 |49=>[0,4,6,20,21,189]
 |50=>[6]
 |51=>[6]
 |52=>[0,2,4,6,25,197]
 |53=>[0,4,6,22]
 |54=>[0,4,6,22,205]
 |55=>[6]
 |56=>[6]
 |57=>[0,2,4,6,25,213]
 |58=>[0,4,6,23]
 |59=>[0,4,6,23,223]
 |60=>[6]
 |61=>[6]
 |62=>[0,2,4,6,25,229]
 |63=>[4,6,232]
 |64=>[6]
 |65=>[0,4,6,236]
 |66=>[6]
 |67=>[6]
 |_=>[]
@[simp] def WE:aw:=⟨[],false,[300,400,450,600,750,800,850,950,1000,1150,1200,1250],[],false⟩
@[simp] def TZ:Nat->List Nat
 |0=>[1]
 |1=>[1,3]
 |2=>[2]
 |3=>[1,12]
 |4=>[2]
 |5=>[2]
 |_=>[]
@[simp] def WG:aw:=⟨[],false,[150],[],false⟩
@[simp] def T0:Nat->List Nat
 |0=>[0,1]
 |1=>[0,5]
 |2=>[0,5,13]
 |3=>[4]
 |4=>[0,5,15]
 |5=>[0,5,15,16]
 |6=>[0,5,15,16]
 |7=>[0,5,15,16]
 |8=>[5]
 |9=>[0,5,15,23]
 |10=>[0,5,15,23]
 |11=>[5]
 |12=>[5,15,29]
 |13=>[5]
 |14=>[5]
 |15=>[5,15,51]
 |16=>[5]
 |17=>[5]
 |18=>[5,15,73]
 |19=>[5]
 |20=>[5,94]
 |21=>[5]
 |22=>[4]
 |_=>[]
@[simp] def ad0:Nat->Bool
 |13=>true
 |16=>true
 |19=>true
 |21=>true
 |_=>false
@[simp] def WH:aw:=⟨[],true,[300,451],[],false⟩
@[simp] def T1:Nat->List Nat
 |0=>[1,2]
 |1=>[1,2,4]
 |2=>[2,4,5]
 |3=>[2,4,5,11]
 |4=>[2,3]
 |5=>[2,3]
 |_=>[]
@[simp] def WI:aw:=⟨[],false,[150,200],[],false⟩
@[simp] def T4:Nat->List Nat
 |0=>[0,1]
 |1=>[0,1,5]
 |2=>[1,5,12,13,14]
 |3=>[1,5,12,13,14,15]
 |4=>[1,5,7,12,13,14]
 |5=>[1,5,7,8,12,13,14]
 |6=>[1,5,8,9,10,12,13,14]
 |7=>[1,5,8,9,12,13,14,26]
 |8=>[1,5,8,12,13,14]
 |9=>[1,5,12,13,14]
 |10=>[1,5,12,13,14]
 |11=>[4]
 |_=>[]
@[simp] def ad1:aw:=⟨[],true,[300,350,500],[],false⟩
@[simp] def T6:Nat->List Nat
 |0=>[0,3]
 |1=>[0,3]
 |2=>[0,3,8]
 |3=>[0,3,8,9]
 |4=>[]
 |5=>[0,3,8,14]
 |6=>[4]
 |7=>[0,3,8,19]
 |8=>[4]
 |9=>[0,3,8,24]
 |10=>[4]
 |11=>[0,3,8,30]
 |12=>[0,3,8,30]
 |13=>[4]
 |14=>[0,3,8,37]
 |15=>[4]
 |16=>[0,3,8,39]
 |17=>[4]
 |18=>[0,3,41]
 |19=>[]
 |20=>[4]
 |_=>[]
@[simp] def WJ:aw:=⟨[1,2],false,[250],[],false⟩
@[simp] def T7:Nat->List Nat
 |0=>[0,4]
 |1=>[0,4,13]
 |2=>[2,3,4]
 |3=>[4,5]
 |4=>[4,5,6]
 |5=>[4,5,6,7]
 |6=>[4,5,6,7,8]
 |7=>[4,5,6,8,29]
 |8=>[2,3,4]
 |9=>[4,5,6,8,33]
 |10=>[2,3,4]
 |11=>[4,5,6,8,9,10]
 |12=>[4,5,6,8,9,10,50]
 |13=>[2,3,4]
 |14=>[4,5,6,9]
 |15=>[4,5,6]
 |_=>[]
@[simp] def ad2:Nat->List (List Nat)
 |6=>[[4,5,6,7,9],[4,5,6,7,9],[4,5,6,7,9],[4,5,6,7,9],[0,1,2,3,9],[0,1,2,3,9],[0,1,2,3,9],[0,1,2,3,9],[9],[0,1,2,3,4,5,6,7,8],[]]
 |8=>[[1,2],[0],[0],[]]
 |11=>[[2,7],[2,7],[0,1,7],[7],[7],[6,7],[5,7,8],[0,1,2,3,4,5,6],[6],[]]
 |13=>[[1,2],[0,2,3],[0,1],[1],[]]
 |_=>[]
@[simp] def PI:aw:=⟨[],false,[200,300,400,500,550,950],[],false⟩
@[simp] def T8:Nat->List Nat
 |0=>[0,1,2,3]
 |1=>[0,1,2,3,8]
 |2=>[0,1,2,3,4,5]
 |3=>[0,1,2,3,4,15]
 |4=>[0,1,2,4]
 |5=>[]
 |_=>[]
@[simp] def ad3:Nat->List (List Nat)
 |5=>[[1,2,3,4],[0,3,4,5],[0,3,4,5],[0,1,2,5,6],[0,1,2,5,6],[1,2,3,4],[3,4],[]]
 |_=>[]
@[simp] def IE:aw:=⟨[],false,[300],[],false⟩
@[simp] def T9:Nat->List Nat
 |0=>[0,2]
 |1=>[0,2]
 |2=>[0,2,3]
 |3=>[0,2,3]
 |4=>[0,2,3]
 |5=>[0,2,3]
 |6=>[0,2,3]
 |7=>[2,3]
 |8=>[2]
 |_=>[]
@[simp] def ad4:aw:=⟨[],false,[200,250],[],false⟩
@[simp] def K8:Nat->List Nat
 |0=>[0,1]
 |1=>[0,1,6,7]
 |2=>[0,1,6,7,8]
 |3=>[0,1,6,7,8,19]
 |4=>[0,1,6,7,8]
 |5=>[0,1,6,7,8,9,10]
 |6=>[0,1,6,7,8,10]
 |7=>[0,1,6,7,8]
 |8=>[4,5]
 |_=>[]
@[simp] def PJ:aw:=⟨[],false,[],[],false⟩
@[simp] def K9:Nat->List Nat
 |0=>[0,3,5]
 |1=>[0,3,5,6]
 |2=>[0,3,5,6,21]
 |3=>[0,3,5,6,21,22]
 |4=>[0,3,5,6,21,22]
 |5=>[4,5]
 |6=>[0,3,5,6,21,28]
 |7=>[0,3,5,6,21,28]
 |8=>[0,3,5,6,28]
 |9=>[0,3,5,6,7,8]
 |10=>[0,3,5,6,7,40]
 |11=>[4,5]
 |12=>[0,3,5,6,7,46]
 |13=>[3,5,6,7,49]
 |14=>[4,5]
 |15=>[3,5,9,10]
 |16=>[3,5,9,60]
 |17=>[4,5]
 |18=>[4,5]
 |19=>[0,3,5,6,7,77]
 |20=>[4,5]
 |21=>[0,3,5,7,81]
 |22=>[5,7,11]
 |23=>[5,7,11,90]
 |24=>[4,5]
 |25=>[4,5]
 |26=>[0,3,5,6,12,13]
 |27=>[0,3,5,6,12,13,106]
 |28=>[4,5]
 |29=>[0,3,5,6,12,13,14]
 |30=>[0,3,5,6,12,13,14,112]
 |31=>[3,5,6,12,13,14]
 |32=>[3,5,6,12,13,14,124]
 |33=>[4,5]
 |34=>[3,5,6,12,14,15]
 |35=>[3,5,6,12,14,15,16]
 |36=>[5,6,12,14,15,16,127]
 |37=>[5,6,12,14,15,16,127,128]
 |38=>[5,6,12,14,15,16,127,128]
 |39=>[5,6,12,14,15,16,127,128]
 |40=>[5,6,12,14,15,16,127,128]
 |41=>[5,6,12,14,15,16,127,128]
 |42=>[5,6,12,14,15,16,127,128]
 |43=>[5,6,12,14,15,16]
 |44=>[5,6,12,14,15,16,127,135]
 |45=>[5,6,12,14,15,16,127,135]
 |46=>[5,6,12,14,15,16]
 |47=>[5,6,12,14,15,16,127,139]
 |48=>[5,6,12,14,15,16,127,139]
 |49=>[5,6,12,14,15,16,127,139]
 |50=>[5,6,12,14,15,16,139]
 |51=>[5,6,12,14,15,16]
 |52=>[5,6,16,151]
 |53=>[4,5]
 |54=>[4,5]
 |_=>[]
@[simp] def Yt:Nat->List (List Nat)
 |11=>[[3],[3],[3],[0,1,2],[]]
 |14=>[[1],[0],[]]
 |17=>[[3],[3],[3],[0,1,2],[]]
 |20=>[[1],[0],[]]
 |24=>[[1],[0],[]]
 |28=>[[1],[0],[]]
 |33=>[[1],[0],[]]
 |53=>[[1],[0],[]]
 |_=>[]
@[simp] def PK:aw:=⟨[],false,[250,350,400,450,550,650,750],[],false⟩
@[simp] def La:Nat->List Nat
 |0=>[0,2,4,6]
 |1=>[2,4,6,7,8]
 |2=>[4,6,8,22]
 |3=>[6]
 |4=>[6]
 |_=>[]
@[simp] def PN:aw:=⟨[],false,[300,400,500],[],false⟩
@[simp] def Lc:Nat->List Nat
 |0=>[0,3,4]
 |1=>[0,3,4,5,6]
 |2=>[0,3,4,5,20]
 |3=>[4]
 |4=>[0,3,4,5,26]
 |5=>[4]
 |6=>[0,3,4,5,7]
 |7=>[0,3,4,5,7,34]
 |8=>[0,3,4,5,7]
 |9=>[0,3,4,5,7,8,9]
 |10=>[0,3,4,5,7,8,54]
 |11=>[4]
 |12=>[0,3,4,5,7,8,10]
 |13=>[0,3,4,5,7,8,10,60]
 |14=>[0,3,4,5,7,8,10]
 |15=>[0,3,4,5,7,8,10,73]
 |16=>[4]
 |17=>[0,3,4,5,7,11]
 |18=>[0,3,4,5,7,11,88]
 |19=>[4]
 |20=>[4]
 |_=>[]
@[simp] def Yu:Nat->List (List Nat)
 |9=>[[2,3,4,5,6,11],[2,3,4,5,6,11],[0,1,4,11],[0,1,4,11],[0,1,2,3,11],[0,1,11],[0,1,11],[11],[11],[10,11],[9,11,12],[0,1,2,3,4,5,6,7,8,9,10],[10],[]]
 |15=>[[2,5,6,7,8,9],[2,5,6,7,8,9],[0,1,5,6,7,8,9],[5,6,7,8,9],[5,6,7,8,9],[0,1,2,3,4,7],[0,1,2,3,4,7],[0,1,2,3,4,5,6],[0,1,2,3,4],[0,1,2,3,4],[]]
 |17=>[[1,2,3,4,5,6,7,9],[0,3,6,7,9],[0,3,6,7,9],[0,1,2,6,7,9],[0,6,7,9],[0,6,7,9],[0,1,2,3,4,5,9],[0,1,2,3,4,5,9],[9],[0,1,2,3,4,5,6,7,8],[]]
 |_=>[]
@[simp] def PO:aw:=⟨[],false,[250,300,350,500,650],[],false⟩
@[simp] def Ld:Nat->List Nat
 |0=>[0,1,2]
 |1=>[0,1,2,11,12,13]
 |2=>[0,1,2,11,12,13,14]
 |3=>[0,1,2,10,11,12,13]
 |4=>[0,1,2,11,12,13,25]
 |5=>[6,7,8]
 |6=>[0,1,2,11,12,13]
 |7=>[0,1,2,27]
 |8=>[6,7,8]
 |9=>[0,1,2,40]
 |10=>[6,7,8]
 |11=>[0,1,44]
 |12=>[6,7,8]
 |13=>[0,1,57]
 |14=>[6,7,8]
 |15=>[0,1,75]
 |16=>[6,7,8]
 |17=>[6,7,8]
 |_=>[]
@[simp] def Yv:Nat->List (List Nat)
 |12=>[[1,2,3,4,5,6],[0,4,5,6],[0,4,5,6],[0,4,5,6],[0,1,2,3],[0,1,2,3],[0,1,2,3],[],[9,10],[8,10],[8,9],[],[],[]]
 |14=>[[1,2,3,4,5,6],[0,4,5,6],[0,4,5,6],[0,4,5,6],[0,1,2,3],[0,1,2,3],[0,1,2,3],[],[9,10],[8,10],[8,9],[],[],[]]
 |16=>[[1,2,3,4,5,6],[0,4,5,6],[0,4,5,6],[0,4,5,6],[0,1,2,3],[0,1,2,3],[0,1,2,3],[],[9,10],[8,10],[8,9],[],[],[]]
 |_=>[]
@[simp] def PQ:aw:=⟨[],false,[],[],false⟩
@[simp] def Lf:Nat->List Nat
 |0=>[0,3]
 |1=>[0,3,4]
 |2=>[3,4,6]
 |3=>[3,4,6,7]
 |4=>[3,4,12]
 |5=>[]
 |6=>[3]
 |7=>[]
 |8=>[3,4,6,29]
 |9=>[3,4,34]
 |10=>[]
 |11=>[3,4,42]
 |12=>[3]
 |13=>[]
 |14=>[3,4,55]
 |15=>[3,4,72]
 |16=>[3,4]
 |17=>[3,4,80]
 |18=>[3,4]
 |19=>[3,4]
 |20=>[3]
 |21=>[]
 |_=>[]
@[simp] def Yw:Nat->Bool
 |15=>true
 |_=>false
@[simp] def Yx:Nat->List (List Nat)
 |5=>[[1],[0,2,3],[1],[1],[],[]]
 |7=>[[1,2,3,4,5,6,7,8],[0,4,5,6],[0,4,5,6],[0,4,5,6],[0,1,2,3],[0,1,2,3],[0,1,2,3],[0],[0],[],[]]
 |10=>[[1],[0,2,3],[1],[1],[],[]]
 |13=>[[1,2,3,4,5,6,7,8],[0,4,5,6],[0,4,5,6],[0,4,5,6],[0,1,2,3],[0,1,2,3],[0,1,2,3],[0],[0],[],[]]
 |16=>[[1],[0,2,3],[1],[1],[],[]]
 |18=>[[1,2,3,4,5,6,7,8],[0,4,5,6],[0,4,5,6],[0,4,5,6],[0,1,2,3],[0,1,2,3],[0,1,2,3],[0],[0],[],[]]
 |19=>[[1,2,3],[0],[0],[0],[],[]]
 |21=>[[1,2,3,4,5],[0],[0],[0],[0],[0],[],[]]
 |_=>[]
@[simp] def PT:aw:=⟨[0],false,[250],[1],false⟩
@[simp] def Lg:Nat->List Nat
 |0=>[0,1,4]
 |1=>[1,4,16]
 |2=>[1,4,20]
 |3=>[1]
 |4=>[1,29]
 |5=>[1]
 |6=>[1]
 |7=>[1,4,48]
 |8=>[1]
 |9=>[1,60]
 |10=>[1]
 |11=>[1]
 |12=>[]
 |_=>[]
@[simp] def Yy:Nat->Bool
 |0=>true
 |4=>true
 |9=>true
 |_=>false
@[simp] def Yz:Nat->List (List Nat)
 |6=>[[1,2,3,4,5,6,7,8],[0,4,5,6],[0,4,5,6],[0,4,5,6],[0,1,2,3],[0,1,2,3],[0,1,2,3],[0],[0],[],[]]
 |_=>[]
@[simp] def PU:aw:=⟨[0],false,[],[1],false⟩
@[simp] def Lh:Nat->List Nat
 |0=>[0]
 |1=>[3]
 |2=>[2]
 |3=>[2]
 |_=>[]
@[simp] def PV:aw:=⟨[],false,[],[],false⟩
@[simp] def Li:Nat->List Nat
 |0=>[]
 |1=>[0]
 |_=>[]
@[simp] def YA:aw:=⟨[],false,[],[],false⟩
@[simp] def Lj:Nat->List Nat
 |0=>[0,1]
 |1=>[0,1,7,8]
 |2=>[0,1,7,8,9]
 |3=>[0,1,5,7,8]
 |4=>[0,1,5,7,8,16]
 |5=>[4]
 |6=>[0,1,7,8]
 |7=>[4]
 |_=>[]
@[simp] def PW:aw:=⟨[],false,[],[],false⟩
@[simp] def Lk:Nat->List Nat
 |0=>[1,2]
 |1=>[3]
 |_=>[]
@[simp] def PX:aw:=⟨[],false,[200],[],false⟩
@[simp] def Ll:Nat->List Nat
 |0=>[0]
 |1=>[0,3]
 |2=>[0,3,4]
 |3=>[0,3,4,5]
 |4=>[0,3,4,5,6]
 |5=>[0,3,4,5,6,16]
 |6=>[0,3,4,5,6]
 |7=>[0,3,4,5,6,7]
 |8=>[0,3,4,5,6,7]
 |9=>[0,3,4,5,6,8]
 |10=>[0,3,5,6,8]
 |11=>[0,3,4,5,6]
 |12=>[0,3,37]
 |13=>[2]
 |14=>[0,9]
 |15=>[0,9,10]
 |16=>[0,9,10]
 |17=>[0,9,10,12]
 |18=>[0,9,10,12,53]
 |19=>[0,9,10,12]
 |20=>[0,9,10,11,12]
 |21=>[0,9,10,11,12,60]
 |22=>[0,9,10,11,12,66]
 |23=>[0,9,10,11,12]
 |24=>[0,9,10,12]
 |25=>[0,9,10,12]
 |26=>[0,9,10,12]
 |27=>[0,9,10,12,91]
 |28=>[0,9,10,12]
 |29=>[0,9,10,11,12]
 |30=>[0,9,10,11,98]
 |31=>[9]
 |32=>[2]
 |_=>[]
@[simp] def YB:Nat->Bool
 |18=>true
 |27=>true
 |_=>false
@[simp] def YC:aw:=⟨[],false,[2150],[],false⟩
@[simp] def Lm:Nat->List Nat
 |0=>[0,1]
 |1=>[4,5]
 |_=>[]
@[simp] def YD:aw:=⟨[],false,[],[],false⟩
@[simp] def Ln:Nat->List Nat
 |0=>[0,6]
 |1=>[0]
 |2=>[]
 |_=>[]
@[simp] def PY:aw:=⟨[1,2],false,[],[],false⟩
@[simp] def Lo:Nat->List Nat
 |0=>[0,3]
 |1=>[0,3,4,5]
 |2=>[0,3,4,5,19]
 |3=>[]
 |4=>[0,3,4,5,6]
 |5=>[0,4,5,6,7]
 |6=>[]
 |_=>[]
@[simp] def YE:Nat->List (List Nat)
 |3=>[[4,5,6,7,8],[4,5,6,7,8],[4,5,6,7,8],[4,5,6,7,8],[0,1,2,3,5,6,7,8],[0,1,2,3,4,6,7],[0,1,2,3,4,5],[0,1,2,3,4,5],[0,1,2,3,4],[],[]]
 |6=>[[4,5,6,7,8],[4,5,6,7,8],[4,5,6,7,8],[4,5,6,7,8],[0,1,2,3,5,6,8],[0,1,2,3,4,6,8],[0,1,2,3,4,5,8],[0,1,2,3,8],[0,1,2,3,4,5,6,7],[],[]]
 |_=>[]
@[simp] def PZ:aw:=⟨[1,2],false,[250,350],[],false⟩
@[simp] def Lp:Nat->List Nat
 |0=>[0,3]
 |1=>[0,3,8,9,10]
 |2=>[0,3,8,9,10,11]
 |3=>[0,3,5,6,8,9,10]
 |4=>[0,3,5,8,9,10,18]
 |5=>[4]
 |6=>[0,3,8,9,10]
 |7=>[4]
 |_=>[]
@[simp] def P0:aw:=⟨[1,2],false,[250,400],[],false⟩
@[simp] def Lq:Nat->List Nat
 |0=>[0,3]
 |1=>[0,3,5]
 |2=>[0,3,5,14,15,16]
 |3=>[0,3,5,14,15,16,17]
 |4=>[0,3,5,6,7,14,15,16]
 |5=>[0,3,5,6,7,8,14,15,16]
 |6=>[0,3,5,6,7,8,14,15,16,25]
 |7=>[0,3,5,6,7,8,14,15,16]
 |8=>[0,3,5,6,7,8,14,15,16,42]
 |9=>[4]
 |10=>[0,3,5,14,15,16]
 |11=>[4]
 |_=>[]
@[simp] def YF:Nat->Bool
 |8=>true
 |_=>false
@[simp] def P1:aw:=⟨[1,2],false,[250],[],false⟩
@[simp] def Lr:Nat->List Nat
 |0=>[0]
 |1=>[0,4]
 |2=>[2]
 |3=>[2]
 |_=>[]
@[simp] def P2:aw:=⟨[],false,[],[],false⟩
@[simp] def Ls:Nat->List Nat
 |0=>[0,3]
 |1=>[0,3,5]
 |2=>[0,3,5,7]
 |3=>[0,3,5,7,8]
 |4=>[0,3,5,7,8,9]
 |5=>[0,3,5,8,9]
 |6=>[0,3,5,8,9]
 |7=>[0,3,5,8,9,75]
 |8=>[4]
 |9=>[0,3,5,8,9,10]
 |10=>[0,3,5,8,9,10,83]
 |11=>[4]
 |12=>[0,3,5,8,9,11,13]
 |13=>[0,3,5,8,9,11,13,100]
 |14=>[0,3,5,8,9,11]
 |15=>[0,3,5,8,9]
 |_=>[]
@[simp] def YG:Nat->Bool
 |7=>true
 |_=>false
@[simp] def P3:aw:=⟨[1,2],false,[250,400],[],false⟩
@[simp] def Lt:Nat->List Nat
 |0=>[0,3]
 |1=>[0,3,8]
 |2=>[0,3]
 |3=>[0,3,15]
 |4=>[4]
 |5=>[0,3,5]
 |6=>[0,3,5,23]
 |7=>[4]
 |8=>[0,3,27]
 |9=>[0,3]
 |10=>[0,3,34]
 |11=>[4]
 |_=>[]
@[simp] def P4:aw:=⟨[1,2],false,[250],[],false⟩
@[simp] def Lu:Nat->List Nat
 |0=>[0,3]
 |1=>[0,3,4,5]
 |2=>[0,3,4,5,19,20,21]
 |3=>[0,3,4,5,19,20,21,22]
 |4=>[0,3,4,5,6,7,19,20,21]
 |5=>[0,3,4,5,6,8,19,20,21]
 |6=>[0,3,4,5,19,20,21]
 |7=>[0,3,4,5,19,20,21]
 |8=>[0,4,5,10]
 |9=>[]
 |_=>[]
@[simp] def YH:Nat->List (List Nat)
 |6=>[[4,5,6,7,8,9,10,11],[4,5,6,7,8,9,10,11],[4,5,6,7,8,9,10,11],[4,5,6,7,8,9,10,11],[0,1,2,3,5,6,7,8,9,10,11],[0,1,2,3,4,6,7,8,9,10],[0,1,2,3,4,5,8],[0,1,2,3,4,5,8],[0,1,2,3,4,5,6,7],[0,1,2,3,4,5],[0,1,2,3,4,5],[0,1,2,3,4],[],[]]
 |9=>[[4,6,7,8,9,10,11,12,13,14,15,16,17],[4,6,7,8,9,10,11,12,13,14,15,16,17],[4,6,7,8,9,10,11,12,13,14,15,16,17],[4,6,7,8,9,10,11,12,13,14,15,16,17],[0,1,2,3,6,7,8,9,10,11,12,13,14,15,16,17],[6,7,8,9,10,11,12,13,14,15,16,17],[0,1,2,3,4,5,8,9,10,11,12,13,14,15,16],[0,1,2,3,4,5,8,9,10,11,12,13,14,15,16],[0,1,2,3,4,5,6,7,12,13,14,15],[0,1,2,3,4,5,6,7,12,13,14,15],[0,1,2,3,4,5,6,7,12,13,14,15],[0,1,2,3,4,5,6,7,12,13,14,15],[0,1,2,3,4,5,6,7,8,9,10,11,13,14,15],[0,1,2,3,4,5,6,7,8,9,10,11,12,14],[0,1,2,3,4,5,6,7,8,9,10,11,12,13],[0,1,2,3,4,5,6,7,8,9,10,11,12],[0,1,2,3,4,5,6,7],[0,1,2,3,4,5],[]]
 |_=>[]
@[simp] def P5:aw:=⟨[1,2],false,[250,350,550,3551],[],false⟩
@[simp] def Lv:Nat->List Nat
 |0=>[0]
 |1=>[0,3]
 |2=>[2]
 |3=>[0,3,8]
 |4=>[2]
 |5=>[0,3,11]
 |6=>[0]
 |7=>[0,3,27]
 |8=>[0,3,4]
 |9=>[0,3,4,33]
 |10=>[0,4]
 |11=>[0]
 |12=>[0,3,39]
 |13=>[0,5]
 |14=>[0,5,46]
 |15=>[2]
 |16=>[0]
 |_=>[]
@[simp] def YI:Nat->Bool
 |5=>true
 |_=>false
@[simp] def P6:aw:=⟨[],false,[],[],false⟩
@[simp] def Lw:Nat->List Nat
 |0=>[0]
 |1=>[2]
 |_=>[]
@[simp] def YJ:Nat->List (List Nat)
 |1=>[[4,5,6,7],[4,5,6,7],[4,5,6,7],[4,5,6,7],[0,1,2,3],[0,1,2,3],[0,1,2,3],[0,1,2,3],[],[]]
 |_=>[]
@[simp] def P7:aw:=⟨[],false,[],[],false⟩
@[simp] def LA:Nat->List Nat
 |0=>[0,3,4]
 |1=>[0,3,4]
 |2=>[0,3,4,6]
 |3=>[0,3,4,6,13]
 |4=>[4,5]
 |5=>[0,3,4,6]
 |6=>[0,3,4,16]
 |7=>[0,3,4,6]
 |8=>[0,3,4,6]
 |9=>[0,3,4,6,26]
 |10=>[0,3,4,6]
 |11=>[0,3,4,6,29]
 |12=>[4,5]
 |13=>[0,3,4,31]
 |14=>[0,3,4,7,8,9]
 |15=>[0,3,4,7,8,9,42]
 |16=>[4,5]
 |17=>[0,3,4,6,8]
 |18=>[0,3,4,6]
 |19=>[3,4]
 |20=>[4,5]
 |_=>[]
@[simp] def P8:aw:=⟨[],false,[250,300],[],false⟩
@[simp] def LC:Nat->List Nat
 |0=>[0,4,5]
 |1=>[0,4,5,6]
 |2=>[0,4,5]
 |3=>[0,4,5,23]
 |4=>[0,4,5]
 |5=>[0,4,5]
 |6=>[0,4,5]
 |7=>[0,4,5]
 |_=>[]
@[simp] def YK:Nat->List (List Nat)
 |3=>[[4,5,6,7],[4,5,6,7],[4,5,6,7],[4,5,6,7],[0,1,2,3],[0,1,2,3],[0,1,2,3],[0,1,2,3],[],[]]
 |_=>[]
@[simp] def P9:aw:=⟨[],false,[],[],false⟩
@[simp] def LD:Nat->List Nat
 |0=>[0,7]
 |1=>[]
 |_=>[]
@[simp] def YL:aw:=⟨[1],false,[],[],false⟩
@[simp] def LF:Nat->List Nat
 |0=>[0,1,4]
 |1=>[0,4,9]
 |2=>[0,4]
 |3=>[4]
 |_=>[]
@[simp] def YM:aw:=⟨[1],false,[300],[],false⟩
@[simp] def LG:Nat->List Nat
 |0=>[0,2]
 |1=>[0,2,3]
 |2=>[0,6]
 |3=>[0,2]
 |4=>[0,9]
 |5=>[0,2]
 |6=>[0,2,14]
 |7=>[0,2]
 |_=>[]
@[simp] def YN:aw:=⟨[],false,[],[],false⟩
@[simp] def LH:Nat->List Nat
 |0=>[0,1]
 |1=>[0,1,5]
 |2=>[0,1,5,10]
 |3=>[0,1,5]
 |4=>[4]
 |_=>[]
@[simp] def YO:aw:=⟨[1],false,[350],[],false⟩
@[simp] def LJ:Nat->List Nat
 |0=>[0]
 |1=>[3]
 |2=>[2]
 |3=>[2]
 |_=>[]
@[simp] def Qa:aw:=⟨[],false,[],[],false⟩
@[simp] def LL:Nat->List Nat
 |0=>[0,1,4]
 |1=>[1,4,6]
 |2=>[1,4,6,7]
 |3=>[1,4,6,7,13]
 |4=>[1,4,6,7]
 |5=>[1,4,6,7,26]
 |6=>[4,5]
 |7=>[4,5]
 |_=>[]
@[simp] def YP:Nat->Bool
 |5=>true
 |_=>false
@[simp] def Qb:aw:=⟨[],false,[300],[],false⟩
@[simp] def LM:Nat->List Nat
 |0=>[0,3,4]
 |1=>[3,4,5,6]
 |2=>[3,4,6,19]
 |3=>[4]
 |4=>[4]
 |_=>[]
@[simp] def Qc:aw:=⟨[],false,[250,300,400],[],false⟩
@[simp] def LO:Nat->List Nat
 |0=>[0,1,2]
 |1=>[0,1,2,11]
 |2=>[9,10]
 |3=>[9,24]
 |4=>[6,7,8]
 |5=>[6,7,8]
 |6=>[1,26]
 |7=>[6,7,8]
 |8=>[6,7,8]
 |_=>[]
@[simp] def Qd:aw:=⟨[],false,[],[],false⟩
@[simp] def LP:Nat->List Nat
 |0=>[0,1,2]
 |1=>[1,2,9]
 |2=>[1,2,9,10]
 |3=>[6,7,8]
 |4=>[1,2,9,16]
 |5=>[1,2,9,16]
 |6=>[6,7,8]
 |7=>[1,2,9,23]
 |8=>[6,7,8]
 |9=>[1,2,28]
 |10=>[6,7,8]
 |11=>[6,7,8]
 |_=>[]
@[simp] def Qe:aw:=⟨[],false,[],[],false⟩
@[simp] def LQ:Nat->List Nat
 |0=>[0,1,2]
 |1=>[0,1,2,9]
 |2=>[0,1,2,9,10]
 |3=>[0,1,2,9,10,11]
 |4=>[1,2,9,10,11,12]
 |5=>[1,2,9,10,11,12,13]
 |6=>[9,10,11]
 |7=>[1,2,9,10,11,12,21]
 |8=>[9,10,11]
 |9=>[1,2,9,10,11,12,29]
 |10=>[9,10,11]
 |11=>[1,2,9,10,11,12,37]
 |12=>[9,10,11]
 |13=>[1,2,9,10,11,45]
 |14=>[9,10,11]
 |15=>[9,10,11,53]
 |16=>[6,7,8]
 |17=>[9,56]
 |18=>[6,7,8]
 |19=>[6,7,8]
 |_=>[]
@[simp] def Qf:aw:=⟨[],false,[],[],false⟩
@[simp] def LR:Nat->List Nat
 |0=>[0,1,2]
 |1=>[0,1,2,9]
 |2=>[1,2,9,10]
 |3=>[1,2,9,10,11]
 |4=>[9]
 |5=>[1,2,9,10,16]
 |6=>[9]
 |7=>[1,2,9,10,21]
 |8=>[9]
 |9=>[1,2,9,10,26]
 |10=>[9]
 |11=>[1,2,9,10,31]
 |12=>[9]
 |13=>[1,2,9,36]
 |14=>[9]
 |15=>[6,7,8]
 |_=>[]
@[simp] def Qg:aw:=⟨[],false,[],[],false⟩
@[simp] def LS:Nat->List Nat
 |0=>[0,7]
 |1=>[]
 |_=>[]
@[simp] def YQ:Nat->List (List Nat)
 |0=>[[3,4,5],[3,4,5],[3,4,5],[0,1,2],[0,1,2],[0,1,2],[]]
 |_=>[]
@[simp] def Qi:aw:=⟨[1],false,[],[],false⟩
@[simp] def LU:Nat->List Nat
 |0=>[0,1]
 |1=>[0,1,5]
 |2=>[0,1,5,6]
 |3=>[0,1,5,6,14]
 |4=>[0,1,5,6,14,15,16]
 |5=>[0,1,5,6,7,8,14]
 |6=>[0,1,5,6,7,14,21]
 |7=>[0,1,5,6,7,14,23]
 |8=>[0,1,5,6,14]
 |9=>[0,1,5,6,14]
 |10=>[0,1,5,6,7,14,33]
 |11=>[0,1,5,6,14]
 |12=>[0,5,6,36]
 |13=>[0,5]
 |14=>[0,5,9]
 |15=>[0,9,47,48,49]
 |16=>[0,9,47,48,49,50]
 |17=>[0,9,10,11,47,48,49]
 |18=>[0,9,47,48,49]
 |19=>[0,9,47,48,49]
 |20=>[4]
 |_=>[]
@[simp] def YR:aw:=⟨[],false,[650,700,2400],[],false⟩
@[simp] def LV:Nat->List Nat
 |0=>[0]
 |1=>[0,5]
 |2=>[6]
 |3=>[6,7]
 |4=>[6,7]
 |5=>[6,7]
 |6=>[6,7]
 |7=>[6,7]
 |8=>[6,7]
 |9=>[6,7]
 |10=>[7]
 |11=>[2]
 |12=>[2]
 |13=>[2]
 |_=>[]
@[simp] def YS:aw:=⟨[],false,[],[],false⟩
@[simp] def LW:Nat->List Nat
 |0=>[0,1]
 |1=>[0,1,9]
 |2=>[4,5]
 |3=>[4,5]
 |_=>[]
@[simp] def YT:aw:=⟨[],false,[],[],false⟩
@[simp] def LX:Nat->List Nat
 |0=>[0,1,5]
 |1=>[0,5,6]
 |2=>[4,5]
 |_=>[]
@[simp] def YU:Nat->List (List Nat)
 |2=>[[4,7,8,9,10,11,12,13,14],[4,7,8,9,10,11,12,13,14],[4,7,8,9,10,11,12,13,14],[4,7,8,9,10,11,12,13,14],[0,1,2,3,7,8,9,10,11,12,13,14],[7,8,9,10,11,12,13,14],[7,8,9,10,11,12,13,14],[0,1,2,3,4,5,6,12,15],[0,1,2,3,4,5,6,12,15],[0,1,2,3,4,5,6,12,15],[0,1,2,3,4,5,6,12,15],[0,1,2,3,4,5,6,12,15],[0,1,2,3,4,5,6,7,8,9,10,11,15],[0,1,2,3,4,5,6,15],[0,1,2,3,4,5,6,15],[7,8,9,10,11,12,13,14],[]]
 |_=>[]
@[simp] def Qj:aw:=⟨[1,2],false,[350],[],false⟩
@[simp] def LY:Nat->List Nat
 |0=>[0,3]
 |1=>[5]
 |2=>[4]
 |_=>[]
@[simp] def Qk:aw:=⟨[1,2],false,[250],[2000],false⟩
@[simp] def LZ:Nat->List Nat
 |0=>[0,2,4]
 |1=>[0,2,4,16]
 |2=>[0,2,4]
 |3=>[6]
 |_=>[]
@[simp] def Ql:aw:=⟨[],false,[300],[],false⟩
@[simp] def L3:Nat->List Nat
 |0=>[0,2,4]
 |1=>[0,2,4,11]
 |2=>[6]
 |3=>[6]
 |_=>[]
@[simp] def Qm:aw:=⟨[1,2],false,[300],[],false⟩
@[simp] def L4:Nat->List Nat
 |0=>[0,1,5,7]
 |1=>[0,5,7,8]
 |2=>[0,7,8,9]
 |3=>[6,7]
 |_=>[]
@[simp] def YV:Nat->List (List Nat)
 |3=>[[4,7,9,10,11,12,13,14,15,16,17,18],[4,7,9,10,11,12,13,14,15,16,17,18],[4,7,9,10,11,12,13,14,15,16,17,18],[4,7,9,10,11,12,13,14,15,16,17,18],[0,1,2,3,7,9,10,11,12,13,14,15,16,17,18],[7,9,10,11,12,13,14,15,16,17,18],[7,9,10,11,12,13,14,15,16,17,18],[0,1,2,3,4,5,6,9,10,11,12,13,14,15,16,17,18],[9,10,11,12,13,14,15,16,17,18],[0,1,2,3,4,5,6,7,8,13,16,19],[0,1,2,3,4,5,6,7,8,13,16,19],[0,1,2,3,4,5,6,7,8,13,16,19],[0,1,2,3,4,5,6,7,8,13,16,19],[0,1,2,3,4,5,6,7,8,9,10,11,12,16,19],[0,1,2,3,4,5,6,7,8,16,19],[0,1,2,3,4,5,6,7,8,16,19],[0,1,2,3,4,5,6,7,8,9,10,11,12,13,14,15,19],[0,1,2,3,4,5,6,7,8,19],[0,1,2,3,4,5,6,7,8,19],[9,10,11,12,13,14,15,16,17,18],[]]
 |_=>[]
@[simp] def Qn:aw:=⟨[1,2],false,[350,450],[],false⟩
@[simp] def L5:Nat->List Nat
 |0=>[0,1]
 |1=>[4]
 |_=>[]
@[simp] def YW:aw:=⟨[],false,[],[],false⟩
@[simp] def L6:Nat->List Nat
 |0=>[0,1]
 |1=>[4]
 |_=>[]
@[simp] def Qo:aw:=⟨[],false,[],[],false⟩
@[simp] def L7:Nat->List Nat
 |0=>[0,1]
 |1=>[4]
 |_=>[]
@[simp] def YX:aw:=⟨[],false,[],[],false⟩
@[simp] def L8:Nat->List Nat
 |0=>[0]
 |1=>[2]
 |_=>[]
@[simp] def YY:Nat->Bool
 |1=>true
 |_=>false
@[simp] def Qp:aw:=⟨[],false,[],[],false⟩
@[simp] def L9:Nat->List Nat
 |0=>[0,1]
 |1=>[0,1,5]
 |2=>[0,1,5,16]
 |3=>[0,1,5]
 |4=>[4]
 |_=>[]
@[simp] def YZ:Nat->Bool
 |2=>true
 |_=>false
@[simp] def Qq:aw:=⟨[],false,[],[],false⟩
@[simp] def Ma:Nat->List Nat
 |0=>[0]
 |1=>[2]
 |_=>[]
@[simp] def Y0:Nat->Bool
 |1=>true
 |_=>false
@[simp] def Qr:aw:=⟨[],false,[],[],false⟩
@[simp] def Mb:Nat->List Nat
 |0=>[0]
 |1=>[2]
 |_=>[]
@[simp] def Qs:aw:=⟨[],false,[],[],false⟩
@[simp] def Md:Nat->List Nat
 |0=>[0]
 |1=>[2]
 |_=>[]
@[simp] def Qt:aw:=⟨[],false,[],[],false⟩
@[simp] def Me:Nat->List Nat
 |0=>[0]
 |1=>[0,5,6]
 |2=>[0,5,6,16,17,18]
 |3=>[0,5,6,16,17,18,19]
 |4=>[0,5,6,8,16,17,18]
 |5=>[0,5,6,8,16,17,18,25]
 |6=>[0,5,6,16,17,18]
 |7=>[0,5,6,16,17,18]
 |8=>[0,5,6,9]
 |9=>[0,5,6,9,59]
 |10=>[2,3,4]
 |11=>[0,5,6,9,10]
 |12=>[0,5,9,10,11]
 |13=>[0,5,9,10,11,63]
 |14=>[0,5,9,10,11]
 |15=>[0,5,9,10,11,12]
 |16=>[0,5,9,10,11,12,75]
 |17=>[2,3,4]
 |18=>[0,5,9,10,11]
 |19=>[2,3,4]
 |_=>[]
@[simp] def Y1:Nat->Bool
 |9=>true
 |_=>false
@[simp] def Y2:Nat->List (List Nat)
 |6=>[[2,3,4],[2,3,4],[0,1,5],[0,1,5],[0,1,5],[2,3,4],[]]
 |_=>[]
@[simp] def Qu:aw:=⟨[],false,[350,500],[],false⟩
@[simp] def Mf:Nat->List Nat
 |0=>[0]
 |1=>[0,5,6,7]
 |2=>[0,5,6,7,8]
 |3=>[0,4,5,6,7]
 |4=>[0,5,6,7,13]
 |5=>[2]
 |6=>[0,5,6,7]
 |7=>[18]
 |8=>[2]
 |9=>[2]
 |_=>[]
@[simp] def Qv:aw:=⟨[],false,[],[],false⟩
@[simp] def Mg:Nat->List Nat
 |0=>[0,1]
 |1=>[0,8]
 |2=>[4]
 |3=>[]
 |4=>[4]
 |_=>[]
@[simp] def Y3:aw:=⟨[1],false,[],[],false⟩
@[simp] def Mh:Nat->List Nat
 |0=>[0,3]
 |1=>[]
 |_=>[]
@[simp] def Y4:aw:=⟨[],false,[250],[],false⟩
@[simp] def Mi:Nat->List Nat
 |0=>[0,2]
 |1=>[2]
 |_=>[]
@[simp] def Y5:Nat->List (List Nat)
 |1=>[[4,5,6,7],[4,5,6,7],[4,5,6,7],[4,5,6,7],[0,1,2,3],[0,1,2,3],[0,1,2,3],[0,1,2,3],[],[],[]]
 |_=>[]
@[simp] def Y6:aw:=⟨[1],false,[200],[],false⟩
@[simp] def Mj:Nat->List Nat
 |0=>[0,2]
 |1=>[0,2,3]
 |2=>[0,2,3,8]
 |3=>[2,3]
 |4=>[2]
 |_=>[]
@[simp] def Za:aw:=⟨[1],false,[200,250],[],false⟩
@[simp] def Ml:Nat->List Nat
 |0=>[0,1,4]
 |1=>[0,1,4,5]
 |2=>[0,1,4,5]
 |3=>[0,1,4,5,26]
 |4=>[0,1,4]
 |5=>[0,1,4,31]
 |6=>[0,1,4]
 |7=>[0,1,4,6]
 |8=>[0,1,4,6,7]
 |9=>[0,1,4,6,7,37]
 |10=>[0,1,4,6,8,9]
 |11=>[0,1,4,6,8,56]
 |12=>[0,1,4,6,8]
 |13=>[0,1,4,6,7]
 |14=>[0,1,4,6,7]
 |15=>[0,1,6,7,63,64,65]
 |16=>[0,1,6,7,63,64,65,66]
 |17=>[0,1,6,7,11,63,64,65]
 |18=>[0,1,6,7,63,64,65]
 |19=>[0,1,6,7,63,64,65]
 |_=>[]
@[simp] def Zb:Nat->List (List Nat)
 |18=>[[1,2,3,4,5,6,7,8,9,10,11,12,13,14,15,16,17,18,19,20,21],[0,5,6,7,8,9,10,11,12,13,14,15,16,17,18,19,20],[0,5,6,7,8,9,10,11,12,13,14,15,16,17,18,19,20],[0,5,6,7,8,9,10,11,12,13,14,15,16,17,18,19,20],[0,5,6,7,8,9,10,11,12,13,14,15,16,17,18,19,20],[0,1,2,3,4,7,8,9,10,11,12,13,14,15,16,17,18],[0,1,2,3,4,7,8,9,10,11,12,13,14,15,16,17,18],[0,1,2,3,4,5,6,9,10,11,12,13,14,15,16,17,18],[0,1,2,3,4,5,6,9,10,11,12,13,14,15,16,17,18],[0,1,2,3,4,5,6,7,8,10,11,12,13,14,15,16,17,18],[0,1,2,3,4,5,6,7,8,9,12,13,14,15,16,17,18],[0,1,2,3,4,5,6,7,8,9,12,13,14,15,16,17,18],[0,1,2,3,4,5,6,7,8,9,10,11,14,15,16,17,18],[0,1,2,3,4,5,6,7,8,9,10,11,14,15,16,17,18],[0,1,2,3,4,5,6,7,8,9,10,11,12,13,16,17,18],[0,1,2,3,4,5,6,7,8,9,10,11,12,13,16,17,18],[0,1,2,3,4,5,6,7,8,9,10,11,12,13,14,15,17,18],[0,1,2,3,4,5,6,7,8,9,10,11,12,13,14,15,16],[0,1,2,3,4,5,6,7,8,9,10,11,12,13,14,15,16],[0,1,2,3,4],[0,1,2,3,4],[0],[],[],[]]
 |_=>[]
@[simp] def Zc:aw:=⟨[],false,[300,350,400,650],[],false⟩
@[simp] def Mm:Nat->List Nat
 |0=>[0,1]
 |1=>[4]
 |_=>[]
@[simp] def Zd:aw:=⟨[1],false,[],[],false⟩
@[simp] def Mn:Nat->List Nat
 |0=>[0,1]
 |1=>[1,5]
 |2=>[4]
 |_=>[]
@[simp] def Ze:aw:=⟨[1],false,[350],[],false⟩
@[simp] def Mo:Nat->List Nat
 |0=>[0,2]
 |1=>[0,2,3]
 |2=>[0,2,3]
 |3=>[0,2,3,4]
 |4=>[0,2,3,4]
 |5=>[2,3,4]
 |6=>[2,4]
 |7=>[2]
 |_=>[]
@[simp] def Zf:aw:=⟨[1],false,[200,250,300],[],false⟩
@[simp] def Mp:Nat->List Nat
 |0=>[0,1]
 |1=>[0,1,7,8]
 |2=>[0,1,7,8,9]
 |3=>[0,1,5,7,8]
 |4=>[0,1,5,7,8,16]
 |5=>[4]
 |6=>[0,1,7,8]
 |7=>[4]
 |_=>[]
@[simp] def Qw:aw:=⟨[],false,[],[],false⟩
@[simp] def Mq:Nat->List Nat
 |0=>[0,1]
 |1=>[0,1,7,8]
 |2=>[0,1,7,8,9]
 |3=>[0,1,5,7,8]
 |4=>[0,1,5,7,8,16]
 |5=>[4]
 |6=>[0,1,7,8]
 |7=>[4]
 |_=>[]
@[simp] def Qx:aw:=⟨[],false,[],[],false⟩
@[simp] def Mr:Nat->List Nat
 |0=>[0,1]
 |1=>[0,1,6]
 |2=>[6,21]
 |3=>[4,5]
 |4=>[4,5]
 |_=>[]
@[simp] def Qy:aw:=⟨[],false,[],[],false⟩
@[simp] def Mt:Nat->List Nat
 |0=>[0,1]
 |1=>[0,1,6]
 |2=>[6,21]
 |3=>[4,5]
 |4=>[4,5]
 |_=>[]
@[simp] def Qz:aw:=⟨[],false,[],[],false⟩
@[simp] def Mu:Nat->List Nat
 |0=>[0,1]
 |1=>[0,1,6,7]
 |2=>[0,1,7,17]
 |3=>[4,5]
 |4=>[4,5]
 |_=>[]
@[simp] def QA:aw:=⟨[],false,[],[],false⟩
@[simp] def Mv:Nat->List Nat
 |0=>[0,1]
 |1=>[0,1,6]
 |2=>[4,5]
 |3=>[0,1,9]
 |4=>[4,5]
 |5=>[4,5]
 |_=>[]
@[simp] def QB:aw:=⟨[],false,[],[],false⟩
@[simp] def Mw:Nat->List Nat
 |0=>[0,1]
 |1=>[0,1,6]
 |2=>[0,1,6,7]
 |3=>[4,5]
 |4=>[0,1,9]
 |5=>[4,5]
 |6=>[4,5]
 |_=>[]
@[simp] def QC:aw:=⟨[],false,[],[],false⟩
@[simp] def Mx:Nat->List Nat
 |0=>[0,1]
 |1=>[0,1,5]
 |2=>[0,1,5,6]
 |3=>[0,1,5,6,32]
 |4=>[4]
 |5=>[1,7]
 |6=>[1,7,54]
 |7=>[4]
 |8=>[4]
 |_=>[]
@[simp] def Zg:Nat->Bool
 |3=>true
 |6=>true
 |_=>false
@[simp] def Zh:aw:=⟨[],false,[],[],false⟩
@[simp] def My:Nat->List Nat
 |0=>[0,1]
 |1=>[4]
 |_=>[]
@[simp] def Zi:Nat->Bool
 |1=>true
 |_=>false
@[simp] def Zj:aw:=⟨[],false,[],[],false⟩
@[simp] def Mz:Nat->List Nat
 |0=>[0,3]
 |1=>[4]
 |_=>[]
@[simp] def QD:aw:=⟨[1,2],false,[250],[],false⟩
@[simp] def MA:Nat->List Nat
 |0=>[0,3]
 |1=>[0,3,24]
 |2=>[0,3,24,25]
 |3=>[4,5]
 |4=>[0,3,24,29]
 |5=>[4,5]
 |6=>[0,3,24,33]
 |7=>[0,6,7]
 |8=>[4,5]
 |9=>[0,3,24,50]
 |10=>[0,3,8,9]
 |11=>[0,8,9,10]
 |12=>[4,5]
 |13=>[0,3,79]
 |14=>[0,12,13]
 |15=>[4,5]
 |16=>[0,3,14]
 |17=>[0,3,14,15]
 |18=>[0,3,14,15,99,100,101]
 |19=>[0,3,14,15,99,100,101,102]
 |20=>[0,3,14,17,99,100,101]
 |21=>[0,3,14,18,19,99,100,101]
 |22=>[0,3,14,19,99,100,101]
 |23=>[0,3,14,15,99,100,101]
 |24=>[0,3,14,15,99,100,101]
 |25=>[20,21,22]
 |26=>[20,21,22,127]
 |27=>[20,21]
 |28=>[4,5]
 |_=>[]
@[simp] def Zk:Nat->List (List Nat)
 |8=>[[1,2,3,5,6,7],[0,2,3,5,6,7],[0,1,5,6,7],[0,1,5,6,7],[5,6,7],[0,1,2,3,4,8],[0,1,2,3,4,8],[0,1,2,3,4,8],[5,6,7],[]]
 |12=>[[1,2,3,4,5,6,8,9,10],[0,2,3,5,6,8,9,10],[0,1,3,5,6,8,9,10],[0,1,2,5,6,8,9,10],[0,5,6,8,9,10],[0,1,2,3,4,8,9,10],[0,1,2,3,4,8,9,10],[8,9,10],[0,1,2,3,4,5,6,7,11],[0,1,2,3,4,5,6,7,11],[0,1,2,3,4,5,6,7,11],[8,9,10],[]]
 |15=>[[1,2,3,5,6,7],[0,2,3,5,6,7],[0,1,5,6,7],[0,1,5,6,7],[5,6,7],[0,1,2,3,4,8],[0,1,2,3,4,8],[0,1,2,3,4,8],[5,6,7],[]]
 |_=>[]
@[simp] def QE:aw:=⟨[1,2],false,[250,450,550,750,800,950],[],false⟩
@[simp] def MB:Nat->List Nat
 |0=>[1,2]
 |1=>[3]
 |_=>[]
@[simp] def QF:aw:=⟨[],false,[200],[],false⟩
@[simp] def MD:Nat->List Nat
 |0=>[0,1]
 |1=>[4]
 |_=>[]
@[simp] def Zl:Nat->Bool
 |1=>true
 |_=>false
@[simp] def Zm:aw:=⟨[],false,[],[],false⟩
@[simp] def ME:Nat->List Nat
 |0=>[0,1]
 |1=>[4]
 |_=>[]
@[simp] def Zn:aw:=⟨[],false,[],[],false⟩
@[simp] def MF:Nat->List Nat
 |0=>[0,1]
 |1=>[0,1,5]
 |2=>[0,1,5,16]
 |3=>[4]
 |4=>[0,1,5,24]
 |5=>[4]
 |6=>[0,1,5,31]
 |7=>[4]
 |8=>[0,1,5,36]
 |9=>[4]
 |10=>[0,1,5,6]
 |11=>[0,1,5,6,7]
 |12=>[0,1,5,6,7,8]
 |13=>[0,1,5,6,7,8,9]
 |14=>[0,1,5,6,7,8,9,10]
 |15=>[0,1,5,6,7,8,9,10,59]
 |16=>[0,1,5,6,7,8,9,10,64]
 |17=>[0,1,5,6,7,8,9,10,11]
 |18=>[0,1,5,6,7,8,9,10,11,73]
 |19=>[4]
 |20=>[0,1,5,6,7,8,9,10]
 |21=>[0,1,5,6,7,8,9,10,93]
 |22=>[4]
 |23=>[0,1,5,6,7,8,9,10]
 |24=>[0,1,5,6,7,8,9,10]
 |25=>[0,1,5,6,7,8,9,10,107]
 |26=>[8,12]
 |27=>[8,12,114]
 |28=>[4]
 |29=>[4]
 |30=>[0,1,5,6,7,8,9,10,132]
 |31=>[8,13]
 |32=>[8,13,139]
 |33=>[4]
 |34=>[4]
 |35=>[4]
 |_=>[]
@[simp] def Zo:Nat->Bool
 |21=>true
 |25=>true
 |_=>false
@[simp] def Zp:aw:=⟨[],false,[],[],false⟩
@[simp] def MG:Nat->List Nat
 |0=>[0,1]
 |1=>[4]
 |_=>[]
@[simp] def QG:aw:=⟨[],false,[],[],false⟩
@[simp] def MH:Nat->List Nat
 |0=>[0,1]
 |1=>[3]
 |_=>[]
@[simp] def Zq:Nat->List (List Nat)
 |1=>[[2],[2],[0,1],[],[]]
 |_=>[]
@[simp] def QH:aw:=⟨[],false,[],[],false⟩
@[simp] def MI:Nat->List Nat
 |0=>[0]
 |1=>[0,3]
 |2=>[2]
 |3=>[0,9]
 |4=>[2]
 |5=>[2]
 |_=>[]
@[simp] def QI:aw:=⟨[],false,[],[],false⟩
@[simp] def MJ:Nat->List Nat
 |0=>[0,2]
 |1=>[0,2,3]
 |2=>[0,2,3,4,5]
 |3=>[0,2,3,4,15]
 |4=>[2,3]
 |5=>[2]
 |6=>[0,2,3,20]
 |7=>[2]
 |8=>[2,3,6]
 |9=>[2,3,6]
 |10=>[2,3,6,32]
 |11=>[2,3]
 |12=>[2]
 |_=>[]
@[simp] def Zr:aw:=⟨[1],false,[200,250,400],[],false⟩
@[simp] def ML:Nat->List Nat
 |0=>[0]
 |1=>[0,4]
 |2=>[2,3]
 |3=>[0,7]
 |4=>[2,3]
 |5=>[2,3]
 |_=>[]
@[simp] def Zs:aw:=⟨[1],false,[],[],false⟩
@[simp] def MM:Nat->List Nat
 |0=>[0,1]
 |1=>[0,1,7,8]
 |2=>[0,1,7,8,9]
 |3=>[0,1,5,7,8]
 |4=>[0,1,5,7,8,16]
 |5=>[4]
 |6=>[0,1,7,8]
 |7=>[4]
 |_=>[]
@[simp] def Zt:aw:=⟨[1],false,[],[],false⟩
@[simp] def MN:Nat->List Nat
 |0=>[0]
 |1=>[0,13]
 |2=>[]
 |_=>[]
@[simp] def Zu:aw:=⟨[1],false,[],[],false⟩
@[simp] def MO:Nat->List Nat
 |0=>[0,2]
 |1=>[0,2,7]
 |2=>[2]
 |3=>[0,2,12]
 |4=>[2]
 |5=>[0,2,17]
 |6=>[2]
 |7=>[0,2,22]
 |8=>[0,2,3]
 |9=>[0,2,3]
 |10=>[0,2,3]
 |11=>[2,3]
 |12=>[2]
 |13=>[0,2,38]
 |14=>[0,2,4]
 |15=>[0,2,4]
 |16=>[0,2,4]
 |17=>[2,4]
 |18=>[2]
 |19=>[0,2,54]
 |20=>[2]
 |21=>[0,2,58]
 |22=>[2]
 |23=>[0,2,5]
 |24=>[0,2,5,65]
 |25=>[2]
 |26=>[0,2,5,6]
 |27=>[0,2,5,6,76]
 |28=>[0,2,6]
 |29=>[0,2,6]
 |30=>[2]
 |_=>[]
@[simp] def Zv:Nat->List (List Nat)
 |28=>[[2,3,4,5,6],[2,3,4,5,6],[0,1,5,6],[0,1,5,6],[0,1,5,6],[0,1,2,3,4],[0,1,2,3,4],[],[]]
 |30=>[[1,2],[0],[0],[],[]]
 |_=>[]
@[simp] def Zw:aw:=⟨[1],false,[200,250,300,350,400],[],false⟩
@[simp] def MP:Nat->List Nat
 |0=>[]
 |_=>[]
@[simp] def Zx:aw:=⟨[1],false,[],[],false⟩
@[simp] def MQ:Nat->List Nat
 |0=>[0,1]
 |1=>[0,1,6]
 |2=>[0,1,6,7]
 |3=>[0,1,6,7,8]
 |4=>[0,1,6,7,8,9]
 |5=>[0,1,6,7,8,9,10]
 |6=>[0,1,6,7,9,11]
 |7=>[0,1,6,7,9,11,12]
 |8=>[0,1,6,7,9,12,13]
 |9=>[0,1,7,9,12,13]
 |10=>[0,1,4]
 |11=>[4,5]
 |_=>[]
@[simp] def QJ:aw:=⟨[],false,[],[],false⟩
@[simp] def MR:Nat->List Nat
 |0=>[0]
 |1=>[0,4]
 |2=>[2]
 |3=>[2]
 |_=>[]
@[simp] def QK:aw:=⟨[],false,[],[],false⟩
@[simp] def MS:Nat->List Nat
 |0=>[0,1]
 |1=>[0,1,6]
 |2=>[4,5]
 |3=>[0,15]
 |4=>[4,5]
 |5=>[4,5]
 |_=>[]
@[simp] def QL:aw:=⟨[],false,[],[],false⟩
@[simp] def MT:Nat->List Nat
 |0=>[0,1]
 |1=>[0,1,17]
 |2=>[0,1,19,20]
 |3=>[0,1,19,20,21]
 |4=>[0,1,5,19,20]
 |5=>[0,1,6,19,20]
 |6=>[0,1,6,19,20,31]
 |7=>[4]
 |8=>[0,1,6,19,20,37]
 |9=>[4]
 |10=>[0,1,19,20]
 |11=>[4]
 |12=>[0,1,7]
 |13=>[0,1,7,8]
 |14=>[0,1,7,8,62]
 |15=>[0,1,7,8,9]
 |16=>[0,1,7,8,9,10]
 |17=>[0,1,7,8,9,10,85]
 |18=>[4]
 |19=>[0,1,7,8,9,110]
 |20=>[0,1,7,8]
 |21=>[0,1,7,8]
 |22=>[4]
 |_=>[]
@[simp] def Zy:Nat->List (List Nat)
 |9=>[[],[],[],[],[],[],[7,8,9,10,12,13,14,15],[6,12,13,14,15],[6,12,13,14,15],[6,12,13,14,15],[6,12,13,14,15],[12,13,14,15],[6,7,8,9,10,11],[6,7,8,9,10,11],[6,7,8,9,10,11],[6,7,8,9,10,11],[],[],[],[]]
 |18=>[[],[],[],[],[],[],[7,8,9,10,12,13,14,15],[6,12,13,14,15],[6,12,13,14,15],[6,12,13,14,15],[6,12,13,14,15],[12,13,14,15],[6,7,8,9,10,11],[6,7,8,9,10,11],[6,7,8,9,10,11],[6,7,8,9,10,11],[],[],[],[]]
 |_=>[]
@[simp] def Zz:aw:=⟨[],false,[],[],false⟩
@[simp] def MU:Nat->List Nat
 |0=>[0,1]
 |1=>[0,1,13]
 |2=>[0,1,15,16]
 |3=>[0,1,15,16,17]
 |4=>[0,1,5,15,16]
 |5=>[0,1,6,15,16]
 |6=>[0,1,6,15,16,27]
 |7=>[4]
 |8=>[0,1,6,15,16,33]
 |9=>[4]
 |10=>[0,1,15,16]
 |11=>[4]
 |12=>[0,1,7]
 |13=>[0,1,7,8]
 |14=>[0,1,7,8,58]
 |15=>[0,1,7,8,9]
 |16=>[0,1,7,8,9,10]
 |17=>[0,1,7,8,9,10,78]
 |18=>[4]
 |19=>[0,1,7,8,9,95]
 |20=>[0,1,7,8]
 |21=>[0,1,7,8]
 |22=>[4]
 |_=>[]
@[simp] def ZA:Nat->List (List Nat)
 |9=>[[],[],[],[],[],[],[7,8,9,10,12,13,14,15],[6,12,13,14,15],[6,12,13,14,15],[6,12,13,14,15],[6,12,13,14,15],[12,13,14,15],[6,7,8,9,10,11],[6,7,8,9,10,11],[6,7,8,9,10,11],[6,7,8,9,10,11],[],[],[],[]]
 |_=>[]
@[simp] def ZB:aw:=⟨[],false,[600],[],false⟩
@[simp] def MV:Nat->List Nat
 |0=>[1,2]
 |1=>[3]
 |_=>[]
@[simp] def QM:aw:=⟨[],false,[200],[],false⟩
@[simp] def MW:Nat->List Nat
 |0=>[0,1,2]
 |1=>[0,1,8]
 |2=>[6]
 |3=>[6]
 |_=>[]
@[simp] def QN:aw:=⟨[1,2],false,[],[],false⟩
@[simp] def MX:Nat->List Nat
 |0=>[0]
 |1=>[2]
 |_=>[]
@[simp] def ZC:aw:=⟨[],false,[],[],false⟩
@[simp] def MY:Nat->List Nat
 |0=>[0,1]
 |1=>[0,1,5,6]
 |2=>[0,1,5,6,7]
 |3=>[0,1,5,6,7,8]
 |4=>[0,1,5,6,7,8,9]
 |5=>[0,1,5,6,7,8,9,20]
 |6=>[0,1,5,6,7,8,9]
 |7=>[0,1,5,6,7,8,9]
 |8=>[0,1,5,6,7,8,39]
 |9=>[4]
 |10=>[0,1,5,6,7,8,10]
 |11=>[0,1,5,6,7,8,10,44]
 |12=>[0,1,5,6,7,8,10]
 |13=>[0,1,5,6,7,8,10]
 |14=>[0,1,5,6,7,8,10]
 |15=>[0,1,5,6,7,8,10]
 |16=>[0,1,5,6,7,8,10,77]
 |17=>[4]
 |18=>[4]
 |_=>[]
@[simp] def ZD:Nat->Bool
 |8=>true
 |16=>true
 |_=>false
@[simp] def ZE:aw:=⟨[],false,[],[],false⟩
@[simp] def MZ:Nat->List Nat
 |0=>[0,1]
 |1=>[0,1,7,8]
 |2=>[0,1,7,8,9]
 |3=>[0,1,5,7,8]
 |4=>[0,1,5,7,8,16]
 |5=>[4]
 |6=>[0,1,7,8]
 |7=>[4]
 |_=>[]
@[simp] def QO:aw:=⟨[],false,[],[],false⟩
@[simp] def M0:Nat->List Nat
 |0=>[0]
 |1=>[0,4]
 |2=>[2,3]
 |3=>[7]
 |4=>[2,3]
 |5=>[2,3]
 |_=>[]
@[simp] def ZF:aw:=⟨[1],false,[],[],false⟩
@[simp] def M1:Nat->List Nat
 |0=>[0,3,4]
 |1=>[0,3,4]
 |2=>[0,3,4]
 |3=>[0,3,4]
 |4=>[0,3,4,5]
 |5=>[0,3,4,5,27]
 |6=>[0,3,4,5]
 |7=>[0,3,4]
 |8=>[0,3,4]
 |9=>[0,3,4]
 |10=>[0,3,4,6,7]
 |11=>[0,3,4,6,44]
 |12=>[3,4,6]
 |13=>[3,4]
 |14=>[4]
 |_=>[]
@[simp] def ZG:Nat->List (List Nat)
 |7=>[[2,3],[2,3],[0,1],[0,1],[],[]]
 |_=>[]
@[simp] def ZH:aw:=⟨[1],false,[250,300,350],[],false⟩
@[simp] def M3:Nat->List Nat
 |0=>[1]
 |1=>[1,3]
 |2=>[3,4]
 |3=>[3,4,10]
 |4=>[2]
 |5=>[2]
 |_=>[]
@[simp] def ZI:aw:=⟨[],false,[150],[],false⟩
@[simp] def M4:Nat->List Nat
 |0=>[0]
 |1=>[0,4]
 |2=>[2]
 |3=>[2]
 |_=>[]
@[simp] def ZJ:aw:=⟨[1],false,[],[],false⟩
@[simp] def M5:Nat->List Nat
 |0=>[0,2]
 |1=>[0,2,3]
 |2=>[0,2,3]
 |3=>[0,2,3]
 |4=>[0,2,3]
 |5=>[0,2,3,24]
 |6=>[0,2,3,26]
 |7=>[0,2,3]
 |8=>[2,3]
 |9=>[2]
 |_=>[]
@[simp] def ZK:Nat->List (List Nat)
 |2=>[[2,3,4],[2,3,4],[0,1],[0,1],[0,1],[],[],[]]
 |4=>[[2,3,4,5],[2,3,4,5],[0,1,3],[0,1,2],[0,1],[0,1],[],[],[]]
 |7=>[[2,3,4,5],[2,3,4,5],[0,1,3],[0,1,2],[0,1],[0,1],[],[],[]]
 |_=>[]
@[simp] def ZL:Nat->List Gh
 |1=>[.jl 250 14 251 6,.jl 250 17 252 1]
 |_=>[]
@[simp] def ZM:aw:=⟨[1],false,[200,250,251,252],[],false⟩
@[simp] def M6:Nat->List Nat
 |0=>[0,2]
 |1=>[0,2,3]
 |2=>[0,2,3]
 |3=>[0,2,3,11]
 |4=>[0,2,3]
 |5=>[0,2,3,4]
 |6=>[0,2,3,4,31]
 |7=>[0,2,3,4]
 |8=>[0,2,3]
 |9=>[0,2,3,44]
 |10=>[0,2,3]
 |11=>[2,3]
 |12=>[2]
 |_=>[]
@[simp] def ZN:Nat->Bool
 |6=>true
 |_=>false
@[simp] def ZO:Nat->List (List Nat)
 |4=>[[2,3,4],[2,3,4],[0,1],[0,1],[0,1],[],[],[]]
 |10=>[[2,3,4,5],[2,3,4,5],[0,1,3],[0,1,2],[0,1],[0,1],[],[],[]]
 |_=>[]
@[simp] def ZP:Nat->List Gh
 |1=>[.jl 250 15 251 1,.jl 250 17 252 1]
 |1000002=>[.freeze 300]
 |_=>[]
@[simp] def ZQ:aw:=⟨[1],false,[200,250,251,252,300],[],false⟩
@[simp] def M7:Nat->List Nat
 |0=>[0,2]
 |1=>[0,2,3]
 |2=>[0,2,3]
 |3=>[0,2,3,4]
 |4=>[0,2,3,4]
 |5=>[0,2,3]
 |6=>[0,2,3,5]
 |7=>[0,2,3,5,26]
 |8=>[0,2,3,5]
 |9=>[0,2,3]
 |10=>[0,2,3]
 |11=>[0,2,3]
 |12=>[2,3]
 |13=>[2]
 |_=>[]
@[simp] def ZR:Nat->List (List Nat)
 |5=>[[1,2],[0],[0],[],[],[]]
 |_=>[]
@[simp] def ZS:aw:=⟨[1],false,[200,250,300,350,1050],[],false⟩
@[simp] def M8:Nat->List Nat
 |0=>[0,2]
 |1=>[2]
 |_=>[]
@[simp] def ZT:aw:=⟨[1],false,[200],[],false⟩
@[simp] def M9:Nat->List Nat
 |0=>[0,1,4]
 |1=>[0,4,5]
 |2=>[0,4,5,9]
 |3=>[4]
 |4=>[0,4,5]
 |5=>[0,4,5]
 |6=>[0,4,5]
 |7=>[0,4,5,30]
 |8=>[4,5]
 |9=>[4]
 |_=>[]
@[simp] def ZU:Nat->List (List Nat)
 |4=>[[2,3,4,5],[2,3,4,5],[0,1],[0,1],[0,1],[0,1],[],[],[]]
 |6=>[[2,3,4],[2,3,4],[0,1],[0,1],[0,1],[],[],[]]
 |_=>[]
@[simp] def ZV:Nat->List Gh
 |1=>[.jl 350 14 351 6,.jl 350 16 352 1]
 |_=>[]
@[simp] def ZW:aw:=⟨[1],false,[300,350,351,352],[],false⟩
@[simp] def Na:Nat->List Nat
 |0=>[0,2]
 |1=>[0,2]
 |2=>[0,2]
 |3=>[0,2,3]
 |4=>[0,2,3]
 |5=>[2,3]
 |6=>[2]
 |_=>[]
@[simp] def ZX:aw:=⟨[1],false,[200,250],[],false⟩
@[simp] def Nb:Nat->List Nat
 |0=>[0]
 |1=>[3]
 |2=>[2]
 |3=>[2]
 |_=>[]
@[simp] def QP:aw:=⟨[],false,[],[],false⟩
@[simp] def Nc:Nat->List Nat
 |0=>[0]
 |1=>[0,4]
 |2=>[0,4,5]
 |3=>[0,4,5,12]
 |4=>[0,4,5]
 |5=>[0,4,5]
 |6=>[0,4,6,7]
 |7=>[4,6,7,8]
 |8=>[4,6,7,8,25]
 |9=>[4,6,7,8]
 |10=>[4,6,7,8,30]
 |11=>[4,6,7,8]
 |12=>[4,6,7,8]
 |13=>[2,3]
 |_=>[]
@[simp] def ZY:aw:=⟨[],false,[],[],false⟩
@[simp] def Nd:Nat->List Nat
 |0=>[1,2]
 |1=>[3]
 |_=>[]
@[simp] def ZZ:aw:=⟨[],false,[200],[],false⟩
@[simp] def Nf:Nat->List Nat
 |0=>[0]
 |1=>[2]
 |_=>[]
@[simp] def Z0:Nat->Bool
 |1=>true
 |_=>false
@[simp] def Z1:aw:=⟨[1],false,[],[],false⟩
@[simp] def Ng:Nat->List Nat
 |0=>[0]
 |1=>[0,3]
 |2=>[0,3,4]
 |3=>[0,3,4,5]
 |4=>[0,3,4,5,10]
 |5=>[0,3,4,5]
 |6=>[0,3]
 |7=>[0,3,20]
 |8=>[3]
 |9=>[2]
 |_=>[]
@[simp] def Z2:aw:=⟨[1],false,[250],[],false⟩
@[simp] def Nh:Nat->List Nat
 |0=>[0,1,4]
 |1=>[0,1,4,5]
 |2=>[0,1,4,5,12]
 |3=>[4]
 |4=>[0,1,4,5,6]
 |5=>[0,1,4,5,6,25]
 |6=>[0,1,4,5,6,7]
 |7=>[0,1,4,5,6]
 |8=>[0,1,4,5,6,41]
 |9=>[4]
 |_=>[]
@[simp] def Z3:Nat->List (List Nat)
 |7=>[[3,4,5,6,9,10],[3,4,5,6,9,10],[3,4,5,6,9,10],[0,1,2,4,5,6,7,9,10],[0,1,2,3,5,6,9,10],[0,1,2,3,4,9,10],[0,1,2,3,4,9,10],[3,9,10],[9,10],[0,1,2,3,4,5,6,7,8],[0,1,2,3,4,5,6,7,8],[],[]]
 |_=>[]
@[simp] def Z4:aw:=⟨[1],false,[300,400,450],[],false⟩
@[simp] def Ni:Nat->List Nat
 |0=>[]
 |1=>[0]
 |_=>[]
@[simp] def Z5:aw:=⟨[],false,[],[],false⟩
@[simp] def Nj:Nat->List Nat
 |0=>[0,2]
 |1=>[0,2,3]
 |2=>[0,2,3]
 |3=>[2]
 |4=>[0,2,3,10]
 |5=>[0,2,3,4]
 |6=>[0,2,3,13]
 |7=>[0,2,3,4]
 |8=>[0,2,3,4]
 |9=>[0,2,3,4]
 |10=>[0,2,5]
 |11=>[2,5]
 |12=>[2]
 |_=>[]
@[simp] def Z6:Nat->List (List Nat)
 |10=>[[1,2,3,4,5,7],[0,4,5,7],[0,4,5,7],[0,4,5,7],[0,1,2,3,7],[0,1,2,3,7],[7],[0,1,2,3,4,5,6],[]]
 |_=>[]
@[simp] def Z7:aw:=⟨[1],false,[200,250,350],[],false⟩
@[simp] def Nk:Nat->List Nat
 |0=>[0]
 |1=>[0,3]
 |2=>[2]
 |_=>[]
@[simp] def Z8:aw:=⟨[],false,[],[],false⟩
@[simp] def Nl:Nat->List Nat
 |0=>[0,2]
 |1=>[0,2,3]
 |2=>[0,2,3,7]
 |3=>[2]
 |4=>[0,2,3,17]
 |5=>[2]
 |6=>[0,2,3,23]
 |7=>[2]
 |8=>[0,2,3,29]
 |9=>[0,2]
 |10=>[0,2]
 |11=>[0,2,4]
 |12=>[0,2,4]
 |13=>[2,4]
 |14=>[2]
 |15=>[0,2,3]
 |16=>[0,2,3,45]
 |17=>[2]
 |18=>[0,2,3,56]
 |19=>[2]
 |20=>[2]
 |_=>[]
@[simp] def Z9:Nat->List (List Nat)
 |3=>[[3,4],[3,4],[3,4],[0,1,2],[0,1,2],[],[]]
 |17=>[[2,3,4,5,6],[2,3,4,5,6],[0,1,5,6],[0,1,5,6],[0,1,5,6],[0,1,2,3,4],[0,1,2,3,4],[],[]]
 |19=>[[2,3,4,5,6],[2,3,4,5,6],[0,1,5,6],[0,1,5,6],[0,1,5,6],[0,1,2,3,4],[0,1,2,3,4],[],[]]
 |_=>[]
@[simp] def aaa:aw:=⟨[1],false,[200,250,300],[],false⟩
def od3:Nat->List (List Nat)
 |9=>[[],[],[],[4,5,7,8,9],[3,5,7,8,9],[3,4,7,8,9],[7,8,9],[3,4,5,6,8,9],[3,4,5,6,7,9],[3,4,5,6,7,8],[],[],[],[]]
 |_=>[]
def od4:Nat->List (List Nat)
 |6=>[[],[],[],[4,5,7,8,9],[3,5,7,8,9],[3,4,7,8,9],[7,8,9],[3,4,5,6,8,9],[3,4,5,6,7,9],[3,4,5,6,7,8],[],[],[],[]]
 |_=>[]
def od7:Nat->List (List Nat)
 |5=>[[1,2,4,5,6,7,8,10,11],[0,2,4,5,6,7,8,10,11],[0,1,4,5,6,7,8,10,11],[4,5,6,7,8,10,11],[0,1,2,3,5,6,7,8,10,11],[0,1,2,3,4,6,7,8,10,11],[0,1,2,3,4,5,7,10,11],[0,1,2,3,4,5,6,10,11],[0,1,2,3,4,5,10,11],[10,11],[0,1,2,3,4,5,6,7,8,9,11],[0,1,2,3,4,5,6,7,8,9,10],[],[]]
 |_=>[]
def od9:Nat->List (List Nat)
 |5=>[[1,2,4,6,7],[0,2,4,6,7],[0,1,4,6,7],[4,6,7],[0,1,2,3,6,7],[6,7],[0,1,2,3,4,5,7],[0,1,2,3,4,5,6],[],[],[]]
 |_=>[]
def apg:Nat->List (List Nat)
 |9=>[[1,2,4,5,6],[0,2,4,5,6],[0,1,4,5,6],[4,5,6],[0,1,2,3,5,6],[0,1,2,3,4,6],[0,1,2,3,4,5],[],[],[]]
 |_=>[]
def aph:Nat->List (List Nat)
 |8=>[[4,5,6,7,8],[4,5,6,7,8],[4,5,6,7,8],[4,5,6,7,8],[0,1,2,3,5,6,7,8],[0,1,2,3,4],[0,1,2,3,4],[0,1,2,3,4],[0,1,2,3,4],[],[],[]]
 |_=>[]
def api:Nat->List (List Nat)
 |3=>[[1,2,3,4,5,6,7,8,9],[0,3,4,5,6,7,9],[0,3,4,5,6,7,9],[0,1,2,5,6,9],[0,1,2,5,6,9],[0,1,2,3,4,9],[0,1,2,3,4,9],[0,1,2,9],[0,9],[0,1,2,3,4,5,6,7,8],[],[],[]]
 |5=>[[2,3,4,5,8],[2,3,4,5,8],[0,1,8],[0,1,8],[0,1,8],[0,1,8],[8],[8],[0,1,2,3,4,5,6,7],[]]
 |10=>[[4,5,8,9,10,11,12,13,14,15],[4,5,8,9,10,11,12,13,14,15],[4,5,8,9,10,11,12,13,14,15],[4,5,8,9,10,11,12,13,14,15],[0,1,2,3,8,9,10,11,12,13,14,15],[0,1,2,3,8,9,10,11,12,13,14,15],[8,9,10,11,12,13,14,15],[8,9,10,11,12,13,14,15],[0,1,2,3,4,5,6,7,12,13,14,15],[0,1,2,3,4,5,6,7,12,13,14,15],[0,1,2,3,4,5,6,7,12,13,14,15],[0,1,2,3,4,5,6,7,12,13,14,15],[0,1,2,3,4,5,6,7,8,9,10,11],[0,1,2,3,4,5,6,7,8,9,10,11],[0,1,2,3,4,5,6,7,8,9,10,11],[0,1,2,3,4,5,6,7,8,9,10,11],[],[]]
 |_=>[]
def apj:Nat->List (List Nat)
 |1=>[[1,2,3,4,5,6],[0,3,4,6],[0,3,4,6],[0,1,2,4,6],[0,1,2,3,6],[0,6],[0,1,2,3,4,5],[],[],[]]
 |5=>[[1,2,3,4,5,6,7,8,9,10,11,12,13],[0,5,6,7,8,9,10,11,12],[0,5,6,7,8,9,10,11,12],[0,5,6,7,8,9,10,11,12],[0,5,6,7,8,9,10,11,12],[0,1,2,3,4,7],[0,1,2,3,4,7],[0,1,2,3,4,5,6],[0,1,2,3,4],[0,1,2,3,4],[0,1,2,3,4],[0,1,2,3,4],[0,1,2,3,4],[0],[],[],[]]
 |7=>[[4,5,6,7,8,9,10,11],[4,5,6,7,8,9,10,11],[4,5,6,7,8,9,10,11],[4,5,6,7,8,9,10,11],[0,1,2,3,8,9,10,11],[0,1,2,3,8,9,10,11],[0,1,2,3,8,9,10,11],[0,1,2,3,8,9,10,11],[0,1,2,3,4,5,6,7],[0,1,2,3,4,5,6,7],[0,1,2,3,4,5,6,7],[0,1,2,3,4,5,6,7],[],[]]
 |_=>[]
def apk:Nat->List (List Nat)
 |6=>[[2,5,6,7,8,9],[2,5,6,7,8,9],[0,1,5,6,7,8,9],[5,6,7,8,9],[5,6,7,8,9],[0,1,2,3,4,7],[0,1,2,3,4,7],[0,1,2,3,4,5,6],[0,1,2,3,4],[0,1,2,3,4],[]]
 |_=>[]
def apl:Nat->List (List Nat)
 |3=>[[1,2,3],[0,2,3,4],[0,1,3,4,5],[0,1,2,4,5,6],[1,2,3],[2,3],[3],[]]
 |10=>[[1,2],[0,2,3],[0,1,3,4,5],[1,2],[2],[2],[]]
 |_=>[]
def apm:Nat->List (List Nat)
 |1=>[[1,2,3,4],[0],[0],[0],[0],[],[],[]]
 |_=>[]
def apn:Nat->List (List Nat)
 |1=>[[1,2,3,4,5,6,7],[0,5,6],[0,5,6],[0,5,6],[0,5,6],[0,1,2,3,4],[0,1,2,3,4],[0],[],[],[]]
 |3=>[[1,2,3,4,5,6,7,8,9],[0,5,6,7,8],[0,5,6,7,8],[0,5,6,7,8],[0,5,6,7,8],[0,1,2,3,4],[0,1,2,3,4],[0,1,2,3,4],[0,1,2,3,4],[0],[],[],[]]
 |_=>[]
def apo:Nat->List (List Nat)
 |6=>[[1,2,3,4,5,6,7,8],[0,5,6],[0,5,6],[0,5,6],[0,5,6],[0,1,2,3,4],[0,1,2,3,4],[0],[0],[]]
 |8=>[[1,2,3,4,5,6,7,8,9,10],[0,5,6],[0,5,6],[0,5,6],[0,5,6],[0,1,2,3,4],[0,1,2,3,4],[0],[0],[0],[0],[]]
 |11=>[[1,2,3],[0,2,3],[0,1],[0,1],[],[],[7],[6,8],[7],[]]
 |18=>[[4,5,6],[4,5,6],[4,5,6],[4,5,6],[0,1,2,3,6],[0,1,2,3,6],[0,1,2,3,4,5],[],[]]
 |21=>[[1,2,3],[0,2,3],[0,1],[0,1],[],[],[7],[6,8],[7],[]]
 |_=>[]
def apq:Nat->List (List Nat)
 |15=>[[4,5,7,8,9,10,11,12,13,14,15,16,17,18,19,20],[4,5,7,8,9,10,11,12,13,14,15,16,17,18,19,20],[4,5,7,8,9,10,11,12,13,14,15,16,17,18,19,20],[4,5,7,8,9,10,11,12,13,14,15,16,17,18,19,20],[0,1,2,3,7,8,9,10,11,12,13,14,15,16,17,18,19,20],[0,1,2,3,7,8,9,10,11,12,13,14,15,16,17,18,19,20],[7,8,9,10,11,12,13,14,15,16,17,18,19,20],[0,1,2,3,4,5,6,9,10,11,12,13,14,15,16,17,18,19],[0,1,2,3,4,5,6,9,10,11,12,13,14,15,16,17,18,19],[0,1,2,3,4,5,6,7,8,13,14,15,16,17,18],[0,1,2,3,4,5,6,7,8,13,14,15,16,17,18],[0,1,2,3,4,5,6,7,8,13,14,15,16,17,18],[0,1,2,3,4,5,6,7,8,13,14,15,16,17,18],[0,1,2,3,4,5,6,7,8,9,10,11,12,15,16,17,18],[0,1,2,3,4,5,6,7,8,9,10,11,12,15,16,17,18],[0,1,2,3,4,5,6,7,8,9,10,11,12,13,14,17],[0,1,2,3,4,5,6,7,8,9,10,11,12,13,14,17],[0,1,2,3,4,5,6,7,8,9,10,11,12,13,14,15,16],[0,1,2,3,4,5,6,7,8,9,10,11,12,13,14],[0,1,2,3,4,5,6,7,8],[0,1,2,3,4,5,6],[]]
 |19=>[[4,5],[4,5],[4,5],[4,5],[0,1,2,3],[0,1,2,3],[],[],[]]
 |_=>[]
def apr:Nat->List (List Nat)
 |5=>[[1,2,3,4,5,6,7,8],[0,3,4,5,6,7],[0,3,4,5,6,7],[0,1,2,4,5,6,7],[0,1,2,3,5],[0,1,2,3,4],[0,1,2,3],[0,1,2,3],[0],[],[],[]]
 |_=>[]
def aps:Nat->List (List Nat)
 |12=>[[2,3,4,5,6,7,8,9,10,11],[2,3,4,5,6,7,8,9,10,11],[0,1,3,7],[0,1,2,7],[0,1,7],[0,1,7],[0,1,7],[0,1,2,3,4,5,6],[0,1],[0,1],[0,1],[0,1],[],[],[]]
 |17=>[[2,3,4,5,6,7,8,9,10,11],[2,3,4,5,6,7,8,9,10,11],[0,1,3,7],[0,1,2,7],[0,1,7],[0,1,7],[0,1,7],[0,1,2,3,4,5,6],[0,1],[0,1],[0,1],[0,1],[],[],[]]
 |_=>[]
def apt:Nat->List (List Nat)
 |5=>[[3,4,6,7],[3,4,6,7],[3,4,6,7],[0,1,2,6,7],[0,1,2,6,7],[6,7,9],[0,1,2,3,4,5],[0,1,2,3,4,5],[9],[5,8],[],[],[],[],[]]
 |_=>[]
def apu:Nat->List (List Nat)
 |5=>[[4,5],[4,5],[4,5],[4,5],[0,1,2,3],[0,1,2,3],[],[]]
 |_=>[]
def apv:Nat->List (List Nat)
 |16=>[[4,5,6,7,8,9,10,11,12,13,14,15],[4,5,6,7,8,9,10,11,12,13,14,15],[4,5,6,7,8,9,10,11,12,13,14,15],[4,5,6,7,8,9,10,11,12,13,14,15],[0,1,2,3,5,6,7,8,9,10,11,12,13,14,15],[0,1,2,3,4,9,12,13,14],[0,1,2,3,4,9,12,13,14],[0,1,2,3,4,9,12,13,14],[0,1,2,3,4,9,12,13,14],[0,1,2,3,4,5,6,7,8,12,13,14],[0,1,2,3,4,12,13,14],[0,1,2,3,4,12,13,14],[0,1,2,3,4,5,6,7,8,9,10,11],[0,1,2,3,4,5,6,7,8,9,10,11],[0,1,2,3,4,5,6,7,8,9,10,11],[0,1,2,3,4],[],[]]
 |18=>[[1,2,3,4,5,6,7,8],[0,5,6,7],[0,5,6,7],[0,5,6,7],[0,5,6,7],[0,1,2,3,4],[0,1,2,3,4],[0,1,2,3,4],[0],[],[],[]]
 |_=>[]
def apw:Nat->List (List Nat)
 |0=>[[4,5,6],[4,5,6],[4,5,6],[4,5,6],[0,1,2,3,5,6],[0,1,2,3,4],[0,1,2,3,4],[],[],[]]
 |_=>[]
def apx:Nat->List (List Nat)
 |5=>[[1],[0],[],[],[],[],[7,8,9,10,11],[6,8],[6,7],[6],[6],[6],[],[],[],[],[],[],[19,23,24,25,26,27,28,29,30,31],[18,23,24,25,26,27,28,29,30,31],[23,24,25,26,27,28,29,30,31],[23,24,25,26,27,28,29,30,31],[23,24,25,26,27,28,29,30,31],[18,19,20,21,22,24,25,26,27,28],[18,19,20,21,22,23,25],[18,19,20,21,22,23,24],[18,19,20,21,22,23],[18,19,20,21,22,23],[18,19,20,21,22,23],[18,19,20,21,22],[18,19,20,21,22],[18,19,20,21,22],[],[]]
 |_=>[]
def apy:Nat->List (List Nat)
 |0=>[[1,2,3,4,5],[0,5,6,7],[0,5,6,7],[0,5,6,7],[0,5,6,7],[0,1,2,3,4,6,7],[1,2,3,4,5],[1,2,3,4,5],[],[]]
 |_=>[]
def apz:Nat->List (List Nat)
 |2=>[[1,2,3,4],[0,5,6],[0,5,6],[0,5,6],[0,5,6],[1,2,3,4],[1,2,3,4],[],[],[]]
 |_=>[]
def apA:Nat->List (List Nat)
 |4=>[[3,4,5,6,7,8,9,10,11,12],[3,4,5,6,7,8,9,10,11,12],[3,4,5,6,7,8,9,10,11,12],[0,1,2,7,9,10,11,12],[0,1,2,7,9,10,11,12],[0,1,2,7,9,10,11,12],[0,1,2,7,9,10,11,12],[0,1,2,3,4,5,6,9,10,11,12],[0,1,2,9,10,11,12],[0,1,2,3,4,5,6,7,8],[0,1,2,3,4,5,6,7,8],[0,1,2,3,4,5,6,7,8],[0,1,2,3,4,5,6,7,8],[],[],[]]
 |_=>[]
def apB:Nat->List (List Nat)
 |1=>[[4,5,8,9,10,11,12,13,14,15,16,17,18,19,20,21,22,23,24],[4,5,8,9,10,11,12,13,14,15,16,17,18,19,20,21,22,23,24],[4,5,8,9,10,11,12,13,14,15,16,17,18,19,20,21,22,23,24],[4,5,8,9,10,11,12,13,14,15,16,17,18,19,20,21,22,23,24],[0,1,2,3,8,9,10,11,12,13,14,15,16,17,18,19,20,21,22,23,24],[0,1,2,3,8,9,10,11,12,13,14,15,16,17,18,19,20,21,22,23,24],[8,9,10,11,12,13,14,15,16,17,18,19,20,21,22,23,24],[8,9,10,11,12,13,14,15,16,17,18,19,20,21,22,23,24],[0,1,2,3,4,5,6,7,12,13,16,17,18,19,20,21,22,23,24,25],[0,1,2,3,4,5,6,7,12,13,16,17,18,19,20,21,22,23,24,25],[0,1,2,3,4,5,6,7,12,13,16,17,18,19,20,21,22,23,24,25],[0,1,2,3,4,5,6,7,12,13,16,17,18,19,20,21,22,23,24,25],[0,1,2,3,4,5,6,7,8,9,10,11,16,17,18,19,20,21,22,23,24,25],[0,1,2,3,4,5,6,7,8,9,10,11,16,17,18,19,20,21,22,23,24,25],[0,1,2,3,4,5,6,7,16,17,18,19,20,21,22,23,24,25],[0,1,2,3,4,5,6,7,16,17,18,19,20,21,22,23,24,25],[0,1,2,3,4,5,6,7,8,9,10,11,12,13,14,15,20,21,22,25,26],[0,1,2,3,4,5,6,7,8,9,10,11,12,13,14,15,20,21,22,25,26],[0,1,2,3,4,5,6,7,8,9,10,11,12,13,14,15,20,21,22,25,26],[0,1,2,3,4,5,6,7,8,9,10,11,12,13,14,15,20,21,22,25,26],[0,1,2,3,4,5,6,7,8,9,10,11,12,13,14,15,16,17,18,19,25,26],[0,1,2,3,4,5,6,7,8,9,10,11,12,13,14,15,16,17,18,19,25,26],[0,1,2,3,4,5,6,7,8,9,10,11,12,13,14,15,16,17,18,19,25,26],[0,1,2,3,4,5,6,7,8,9,10,11,12,13,14,15,25,26],[0,1,2,3,4,5,6,7,8,9,10,11,12,13,14,15,25,26],[8,9,10,11,12,13,14,15,16,17,18,19,20,21,22,23,24],[16,17,18,19,20,21,22,23,24],[]]
 |_=>[]
def apC:Nat->List (List Nat)
 |64=>[[1,2,3,4,5,6,7],[0,3,4,5,6,7],[0,3,4,5,6,7],[0,1,2,5],[0,1,2,5],[0,1,2,3,4],[0,1,2],[0,1,2],[],[],[11],[10,12],[11],[]]
 |67=>[[2,3,4,5,6,7,8,9,10,11,12],[2,3,4,5,6,7,8,9,10,11,12],[0,1,3,4,5,6,7,8,9,10,11],[0,1,2,7,8,9,10],[0,1,2,7,8,9,10],[0,1,2,7,8,9,10],[0,1,2,7,8,9,10],[0,1,2,3,4,5,6,8,9,10],[0,1,2,3,4,5,6,7,9],[0,1,2,3,4,5,6,7,8],[0,1,2,3,4,5,6,7],[0,1,2],[0,1],[],[]]
 |71=>[[4,5,6,7,8,9,10],[4,5,6,7,8,9,10],[4,5,6,7,8,9,10],[4,5,6,7,8,9,10],[0,1,2,3,5,7,8,9,10],[0,1,2,3,4,7,8,9,10],[0,1,2,3,7,8,9,10],[0,1,2,3,4,5,6,8],[0,1,2,3,4,5,6,7],[0,1,2,3,4,5,6],[0,1,2,3,4,5,6],[],[]]
 |_=>[]
def apD:Nat->List (List Nat)
 |1=>[[4,5,11],[4,5,11],[4,5,11],[4,5,11],[0,1,2,3,11],[0,1,2,3,11],[11],[11],[9,10,11],[8,10,11,12],[8,9,11,12,13],[0,1,2,3,4,5,6,7,8,9,10],[9,10],[10],[]]
 |4=>[[4,5,6],[4,5,6],[4,5,6],[4,5,6],[0,1,2,3],[0,1,2,3],[0,1,2,3],[],[],[10,11],[9,11,12],[9,10,12,13],[10,11],[11]]
 |8=>[[1,2,3,4,5,6,7,8,9,10,11],[0,2,3,5,6,7,8,9,10],[0,1,5,6,7,8,9,10],[0,1,5,6,7,8,9,10],[0,5,6,7,8,9,10],[0,1,2,3,4,6,7,8,9],[0,1,2,3,4,5,8,9],[0,1,2,3,4,5,8,9],[0,1,2,3,4,5,6,7],[0,1,2,3,4,5,6,7],[0,1,2,3,4],[0],[],[],[]]
 |32=>[[1,2,3,4,5,6,7,8,9,10,11,12,13,14,15,16,17,18,19,20,21],[0,2,3,4,5,6,7,8,9,10,11,12,13,14,15,16,17,18,20],[0,1,4,7,10,11,12,13,14,15,16,17,18,20],[0,1,4,7,10,11,12,13,14,15,16,17,18,20],[0,1,2,3,7,10,11,12,13,14,15,16,17,18,20],[0,1,7,10,11,12,13,14,15,16,17,18,20],[0,1,7,10,11,12,13,14,15,16,17,18,20],[0,1,2,3,4,5,6,10,11,12,13,14,15,16,17,18,20],[0,1,10,11,12,13,14,15,16,17,18,20],[0,1,10,11,12,13,14,15,16,17,18,20],[0,1,2,3,4,5,6,7,8,9,12,15,16,20],[0,1,2,3,4,5,6,7,8,9,12,15,16,20],[0,1,2,3,4,5,6,7,8,9,10,11,15,16,20],[0,1,2,3,4,5,6,7,8,9,15,16,20],[0,1,2,3,4,5,6,7,8,9,15,16,20],[0,1,2,3,4,5,6,7,8,9,10,11,12,13,14,20],[0,1,2,3,4,5,6,7,8,9,10,11,12,13,14,20],[0,1,2,3,4,5,6,7,8,9,20],[0,1,2,3,4,5,6,7,8,9,20],[0,20],[0,1,2,3,4,5,6,7,8,9,10,11,12,13,14,15,16,17,18,19],[0],[],[]]
 |39=>[[1,2,3,4,6,7,8,9,10,12,13,14,15,16,18,19,20,21,22,23,24,25],[0,6,7,8,9,10,12,13,14,15,16,18,19,20,21,22,23,24,25],[0,6,7,8,9,10,12,13,14,15,16,18,19,20,21,22,23,24,25],[0,6,7,8,9,10,12,13,14,15,16,18,19,20,21,22,23,24,25],[0,6,7,8,9,10,12,13,14,15,16,18,19,20,21,22,23,24,25],[6,7,8,9,10,12,13,14,15,16,18,19,20,21,22,23,24,25],[0,1,2,3,4,5,7,8,9,10,12,13,14,15,16,18,19,20,21,22,23,24,25],[0,1,2,3,4,5,6,12,13,14,15,16,18,19,20,21,22,23,24,25],[0,1,2,3,4,5,6,12,13,14,15,16,18,19,20,21,22,23,24,25],[0,1,2,3,4,5,6,12,13,14,15,16,18,19,20,21,22,23,24,25],[0,1,2,3,4,5,6,12,13,14,15,16,18,19,20,21,22,23,24,25],[12,13,14,15,16,18,19,20,21,22,23,24,25],[0,1,2,3,4,5,6,7,8,9,10,11,13,14,15,16,18,19,20,21,22,23,24,25],[0,1,2,3,4,5,6,7,8,9,10,11,12,18,19,20,21,22,23,24,25],[0,1,2,3,4,5,6,7,8,9,10,11,12,18,19,20,21,22,23,24,25],[0,1,2,3,4,5,6,7,8,9,10,11,12,18,19,20,21,22,23,24,25],[0,1,2,3,4,5,6,7,8,9,10,11,12,18,19,20,21,22,23,24,25],[18,19,20,21,22,23,24,25],[0,1,2,3,4,5,6,7,8,9,10,11,12,13,14,15,16,17,21,22,23,24],[0,1,2,3,4,5,6,7,8,9,10,11,12,13,14,15,16,17,21,22,23,24],[0,1,2,3,4,5,6,7,8,9,10,11,12,13,14,15,16,17,21,22,23,24],[0,1,2,3,4,5,6,7,8,9,10,11,12,13,14,15,16,17,18,19,20,23,24],[0,1,2,3,4,5,6,7,8,9,10,11,12,13,14,15,16,17,18,19,20,23,24],[0,1,2,3,4,5,6,7,8,9,10,11,12,13,14,15,16,17,18,19,20,21,22],[0,1,2,3,4,5,6,7,8,9,10,11,12,13,14,15,16,17,18,19,20,21,22],[0,1,2,3,4,5,6,7,8,9,10,11,12,13,14,15,16,17],[],[],[]]
 |47=>[[2,3,4,6],[2,3,4,6],[0,1,3,4,6],[0,1,2,6],[0,1,2,6],[6],[0,1,2,3,4,5],[],[],[],[]]
 |53=>[[1,2,3,4,5,6,9,10],[0,3,4,5,9,10],[0,3,4,5,9,10],[0,1,2,4,5,9,10],[0,1,2,3,9,10],[0,1,2,3,9,10],[0,9,10],[9,10],[9,10],[0,1,2,3,4,5,6,7,8],[0,1,2,3,4,5,6,7,8],[],[]]
 |63=>[[4,5,6,7,8,9,10,16],[4,5,6,7,8,9,10,16],[4,5,6,7,8,9,10,16],[4,5,6,7,8,9,10,16],[0,1,2,3,6,7,8,9,10,16],[0,1,2,3,6,7,8,9,10,16],[0,1,2,3,4,5,8,16],[0,1,2,3,4,5,8,16],[0,1,2,3,4,5,6,7,16],[0,1,2,3,4,5,16],[0,1,2,3,4,5,16],[16],[16],[14,15,16],[13,15,16,17],[13,14,16,17,18],[0,1,2,3,4,5,6,7,8,9,10,11,12,13,14,15],[14,15],[15],[]]
 |_=>[]
def apE:Nat->List (List Nat)
 |6=>[[2,3,4,5,6,7,8],[2,3,4,5,6,7,8],[0,1,4],[0,1,4],[0,1,2,3],[0,1],[0,1],[0,1],[0,1],[],[],[]]
 |_=>[]
def ais:Nat->List (List Nat)
 |5=>[[1,2,3,4,5],[0,2,3,4,5,6,7],[0,1,4,5],[0,1,4,5],[0,1,2,3,6,7],[0,1,2,3,6,7],[1,4,5],[1,4,5],[],[]]
 |_=>[]
def ait:Nat->List (List Nat)
 |4=>[[4,7,8],[4,7,8],[4,7,8],[4,7,8],[0,1,2,3,7,8],[7,8],[7,8],[0,1,2,3,4,5,6],[0,1,2,3,4,5,6],[]]
 |7=>[[1,2,3,4,5,6,7],[0,5,6],[0,5,6],[0,5,6],[0,5,6],[0,1,2,3,4],[0,1,2,3,4],[0],[],[],[]]
 |_=>[]
def aiu:Nat->List (List Nat)
 |1=>[[4,5,6,12],[4,5,6,12],[4,5,6,12],[4,5,6,12],[0,1,2,3,12],[0,1,2,3,12],[0,1,2,3,12],[12],[12],[10,11,12],[9,11,12,13],[9,10,12,13,14],[0,1,2,3,4,5,6,7,8,9,10,11],[10,11],[11],[]]
 |_=>[]
def aiv:Nat->List (List Nat)
 |0=>[[1,2,3,4,5],[0,3],[0,3],[0,1,2],[0],[0],[]]
 |_=>[]
def aiw:Nat->List (List Nat)
 |7=>[[4,5,11],[4,5,11],[4,5,11],[4,5,11],[0,1,2,3,11],[0,1,2,3,11],[11],[11],[9,10,11],[8,10,11,12],[8,9,11,12,13],[0,1,2,3,4,5,6,7,8,9,10],[9,10],[10],[]]
 |11=>[[4,5,11],[4,5,11],[4,5,11],[4,5,11],[0,1,2,3,11],[0,1,2,3,11],[11],[11],[9,10,11],[8,10,11,12],[8,9,11,12,13],[0,1,2,3,4,5,6,7,8,9,10],[9,10],[10],[]]
 |19=>[[4,5,6,7,13],[4,5,6,7,13],[4,5,6,7,13],[4,5,6,7,13],[0,1,2,3,6,7,13],[0,1,2,3,6,7,13],[0,1,2,3,4,5,13],[0,1,2,3,4,5,13],[13],[13],[11,12,13],[10,12,13,14],[10,11,13,14,15],[0,1,2,3,4,5,6,7,8,9,10,11,12],[11,12],[12],[]]
 |_=>[]
def aix:Nat->List (List Nat)
 |2=>[[4,5,11,12],[4,5,11,12],[4,5,11,12],[4,5,11,12],[0,1,2,3,11,12],[0,1,2,3,11,12],[11,12],[11,12],[9,10,11,12],[8,10,11,12,13],[8,9,11,12,13,14],[0,1,2,3,4,5,6,7,8,9,10,12],[0,1,2,3,4,5,6,7,8,9,10,11],[9,10],[10],[]]
 |_=>[]
def aiy:Nat->List (List Nat)
 |1=>[[4,5,11],[4,5,11],[4,5,11],[4,5,11],[0,1,2,3,11],[0,1,2,3,11],[11],[11],[9,10,11],[8,10,11,12],[8,9,11,12,13],[0,1,2,3,4,5,6,7,8,9,10],[9,10],[10],[]]
 |5=>[[4,5,6,12],[4,5,6,12],[4,5,6,12],[4,5,6,12],[0,1,2,3,6,12],[0,1,2,3,6,12],[0,1,2,3,4,5,12],[12],[12],[10,11,12],[9,11,12,13],[9,10,12,13,14],[0,1,2,3,4,5,6,7,8,9,10,11],[10,11],[11],[]]
 |_=>[]
def aiz:Nat->List (List Nat)
 |5=>[[5,8,9,10,11,12,13,14,15],[5,8,9,10,11,12,13,14,15],[5,8,9,10,11,12,13,14,15],[5,8,9,10,11,12,13,14,15],[5,8,9,10,11,12,13,14,15],[0,1,2,3,4,8,9,10,11,12,13,14,15],[8,9,10,11,12,13,14,15],[8,9,10,11,12,13,14,15],[0,1,2,3,4,5,6,7,13,16],[0,1,2,3,4,5,6,7,13,16],[0,1,2,3,4,5,6,7,13,16],[0,1,2,3,4,5,6,7,13,16],[0,1,2,3,4,5,6,7,13,16],[0,1,2,3,4,5,6,7,8,9,10,11,12,16],[0,1,2,3,4,5,6,7,16],[0,1,2,3,4,5,6,7,16],[8,9,10,11,12,13,14,15],[]]
 |_=>[]
def aiA:Nat->List (List Nat)
 |4=>[[2,3,4],[2,3,4],[0,1,5],[0,1,5],[0,1,5],[2,3,4],[]]
 |_=>[]
def aiB:Nat->List (List Nat)
 |10=>[[4,5,6,7],[4,5,6,7],[4,5,6,7],[4,5,6,7],[0,1,2,3,5,6,7],[0,1,2,3,4],[0,1,2,3,4],[0,1,2,3,4],[],[]]
 |18=>[[4,7,8,9],[4,7,8,9],[4,7,8,9],[4,7,8,9],[0,1,2,3,7,8,9],[7,8,9],[7,8,9],[0,1,2,3,4,5,6],[0,1,2,3,4,5,6],[0,1,2,3,4,5,6],[],[],[],[14,15],[13,15,16],[13,14,16,17],[14,15],[15],[]]
 |_=>[]
def aiC:Nat->List (List Nat)
 |9=>[[5,8,10,11,12,13,14,15,16,17,18,19,20],[5,8,10,11,12,13,14,15,16,17,18,19,20],[5,8,10,11,12,13,14,15,16,17,18,19,20],[5,8,10,11,12,13,14,15,16,17,18,19,20],[5,8,10,11,12,13,14,15,16,17,18,19,20],[0,1,2,3,4,8,10,11,12,13,14,15,16,17,18,19,20],[8,10,11,12,13,14,15,16,17,18,19,20],[8,10,11,12,13,14,15,16,17,18,19,20],[0,1,2,3,4,5,6,7,10,11,12,13,14,15,16,17,18,19,20],[10,11,12,13,14,15,16,17,18,19,20],[0,1,2,3,4,5,6,7,8,9,14,17,21],[0,1,2,3,4,5,6,7,8,9,14,17,21],[0,1,2,3,4,5,6,7,8,9,14,17,21],[0,1,2,3,4,5,6,7,8,9,14,17,21],[0,1,2,3,4,5,6,7,8,9,10,11,12,13,17,21],[0,1,2,3,4,5,6,7,8,9,17,21],[0,1,2,3,4,5,6,7,8,9,17,21],[0,1,2,3,4,5,6,7,8,9,10,11,12,13,14,15,16,21],[0,1,2,3,4,5,6,7,8,9,21],[0,1,2,3,4,5,6,7,8,9,21],[0,1,2,3,4,5,6,7,8,9,21],[10,11,12,13,14,15,16,17,18,19,20],[]]
 |_=>[]
def aiD:Nat->List (List Nat)
 |6=>[[3,4,5],[3,4,5],[3,4,5],[0,1,2],[0,1,2],[0,1,2],[],[]]
 |7=>[[3,4,5],[3,4,5],[3,4,5],[0,1,2],[0,1,2],[0,1,2],[],[]]
 |8=>[[3,4,5,6,7,8,9,10,11,12],[3,4,5,6,7,8,9,10,11,12],[3,4,5,6,7,8,9,10,11,12],[0,1,2,6,7,8,9,10,11,12],[0,1,2,6,7,8,9,10,11,12],[0,1,2,6,7,8,9,10,11,12],[0,1,2,3,4,5,7,8,9,12],[0,1,2,3,4,5,6,12],[0,1,2,3,4,5,6,12],[0,1,2,3,4,5,6,12],[0,1,2,3,4,5,12],[0,1,2,3,4,5,12],[0,1,2,3,4,5,6,7,8,9,10,11],[],[]]
 |11=>[[3,4,5],[3,4,5],[3,4,5],[0,1,2],[0,1,2],[0,1,2],[],[]]
 |14=>[[3,4,5],[3,4,5],[3,4,5],[0,1,2],[0,1,2],[0,1,2],[],[]]
 |15=>[[3,4,5,6,7,8,9,10,11,12],[3,4,5,6,7,8,9,10,11,12],[3,4,5,6,7,8,9,10,11,12],[0,1,2,6,7,8,9,10,11,12],[0,1,2,6,7,8,9,10,11,12],[0,1,2,6,7,8,9,10,11,12],[0,1,2,3,4,5,7,8,9,12],[0,1,2,3,4,5,6,12],[0,1,2,3,4,5,6,12],[0,1,2,3,4,5,6,12],[0,1,2,3,4,5,12],[0,1,2,3,4,5,12],[0,1,2,3,4,5,6,7,8,9,10,11],[],[]]
 |17=>[[3,4,5,6,7,8],[3,4,5,6,7,8],[3,4,5,6,7,8],[0,1,2,6,7,8,9],[0,1,2,6,7,8,9],[0,1,2,6,7,8,9],[0,1,2,3,4,5,9,10],[0,1,2,3,4,5,9,10],[0,1,2,3,4,5,9,10],[3,4,5,6,7,8],[6,7,8],[]]
 |24=>[[3,4,5,6,7,8,9,10,11,12,13],[3,4,5,6,7,8,9,10,11,12,13],[3,4,5,6,7,8,9,10,11,12,13],[0,1,2,6,7,8,9,10,11,12,13],[0,1,2,6,7,8,9,10,11,12,13],[0,1,2,6,7,8,9,10,11,12,13],[0,1,2,3,4,5,7,8,9,10,11,12,13],[0,1,2,3,4,5,6,8,9,10,11,12,13],[0,1,2,3,4,5,6,7,13],[0,1,2,3,4,5,6,7,13],[0,1,2,3,4,5,6,7,13],[0,1,2,3,4,5,6,7,13],[0,1,2,3,4,5,6,7,13],[0,1,2,3,4,5,6,7,8,9,10,11,12],[],[]]
 |31=>[[3,4,5,6,7,8,9,10,11,12,13,14,15,16,17,18,19,20],[3,4,5,6,7,8,9,10,11,12,13,14,15,16,17,18,19,20],[3,4,5,6,7,8,9,10,11,12,13,14,15,16,17,18,19,20],[0,1,2,6,7,8,9,10,11,12,13,14,15,16,17,18,19,20],[0,1,2,6,7,8,9,10,11,12,13,14,15,16,17,18,19,20],[0,1,2,6,7,8,9,10,11,12,13,14,15,16,17,18,19,20],[0,1,2,3,4,5,9,10,11,12,13,14,15,16,17,18,19,20],[0,1,2,3,4,5,9,10,11,12,13,14,15,16,17,18,19,20],[0,1,2,3,4,5,9,10,11,12,13,14,15,16,17,18,19,20],[0,1,2,3,4,5,6,7,8,10,11,12,15,16,17,18,19],[0,1,2,3,4,5,6,7,8,9,15,16,17,18,19],[0,1,2,3,4,5,6,7,8,9,15,16,17,18,19],[0,1,2,3,4,5,6,7,8,9,15,16,17,18,19],[0,1,2,3,4,5,6,7,8,15,16,17,18,19],[0,1,2,3,4,5,6,7,8,15,16,17,18,19],[0,1,2,3,4,5,6,7,8,9,10,11,12,13,14,16,17,18,19,20],[0,1,2,3,4,5,6,7,8,9,10,11,12,13,14,15],[0,1,2,3,4,5,6,7,8,9,10,11,12,13,14,15],[0,1,2,3,4,5,6,7,8,9,10,11,12,13,14,15],[0,1,2,3,4,5,6,7,8,9,10,11,12,13,14,15],[0,1,2,3,4,5,6,7,8,15],[],[]]
 |38=>[[3,4,5,6,7,8,9,10,11,12,13,14,15,16,17],[3,4,5,6,7,8,9,10,11,12,13,14,15,16,17],[3,4,5,6,7,8,9,10,11,12,13,14,15,16,17],[0,1,2,6,7,8,9,10,11,12,13,14,15,16,17],[0,1,2,6,7,8,9,10,11,12,13,14,15,16,17],[0,1,2,6,7,8,9,10,11,12,13,14,15,16,17],[0,1,2,3,4,5,9,10,11,12,13,14,15,16,17],[0,1,2,3,4,5,9,10,11,12,13,14,15,16,17],[0,1,2,3,4,5,9,10,11,12,13,14,15,16,17],[0,1,2,3,4,5,6,7,8,12,13,14,15,16],[0,1,2,3,4,5,6,7,8,12,13,14,15,16],[0,1,2,3,4,5,6,7,8,12,13,14,15,16],[0,1,2,3,4,5,6,7,8,9,10,11,13,14,15,16,17],[0,1,2,3,4,5,6,7,8,9,10,11,12],[0,1,2,3,4,5,6,7,8,9,10,11,12],[0,1,2,3,4,5,6,7,8,9,10,11,12],[0,1,2,3,4,5,6,7,8,9,10,11,12],[0,1,2,3,4,5,6,7,8,12],[],[]]
 |40=>[[3,4,5,6,7,8,9,10,11,12,13,14,15,16,17,18],[3,4,5,6,7,8,9,10,11,12,13,14,15,16,17,18],[3,4,5,6,7,8,9,10,11,12,13,14,15,16,17,18],[0,1,2,14,15,16,17],[0,1,2,14,15,16,17],[0,1,2,14,15,16,17],[0,1,2,14,15,16,17],[0,1,2,14,15,16,17],[0,1,2,14,15,16,17],[0,1,2,14,15,16,17],[0,1,2,14,15,16,17],[0,1,2,14,15,16,17],[0,1,2,14,15,16,17],[0,1,2,14,15,16,17],[0,1,2,3,4,5,6,7,8,9,10,11,12,13],[0,1,2,3,4,5,6,7,8,9,10,11,12,13],[0,1,2,3,4,5,6,7,8,9,10,11,12,13],[0,1,2,3,4,5,6,7,8,9,10,11,12,13],[0,1,2],[],[]]
 |42=>[[3,4,5,6,7,8,9,10,11,12,13,14,15,16,17,18],[3,4,5,6,7,8,9,10,11,12,13,14,15,16,17,18],[3,4,5,6,7,8,9,10,11,12,13,14,15,16,17,18],[0,1,2,14,15,16,17],[0,1,2,14,15,16,17],[0,1,2,14,15,16,17],[0,1,2,14,15,16,17],[0,1,2,14,15,16,17],[0,1,2,14,15,16,17],[0,1,2,14,15,16,17],[0,1,2,14,15,16,17],[0,1,2,14,15,16,17],[0,1,2,14,15,16,17],[0,1,2,14,15,16,17],[0,1,2,3,4,5,6,7,8,9,10,11,12,13],[0,1,2,3,4,5,6,7,8,9,10,11,12,13],[0,1,2,3,4,5,6,7,8,9,10,11,12,13],[0,1,2,3,4,5,6,7,8,9,10,11,12,13],[0,1,2],[],[]]
 |44=>[[3,4,5,6,7,8,9,10,11,12,13,14,15,16,17,18,19,20,21,22],[3,4,5,6,7,8,9,10,11,12,13,14,15,16,17,18,19,20,21,22],[3,4,5,6,7,8,9,10,11,12,13,14,15,16,17,18,19,20,21,22],[0,1,2,6,7,8,9,10,11,12,13,14,15,16,17,18,19,20,21,22],[0,1,2,6,7,8,9,10,11,12,13,14,15,16,17,18,19,20,21,22],[0,1,2,6,7,8,9,10,11,12,13,14,15,16,17,18,19,20,21,22],[0,1,2,3,4,5],[0,1,2,3,4,5],[0,1,2,3,4,5],[0,1,2,3,4,5],[0,1,2,3,4,5],[0,1,2,3,4,5],[0,1,2,3,4,5],[0,1,2,3,4,5],[0,1,2,3,4,5],[0,1,2,3,4,5],[0,1,2,3,4,5],[0,1,2,3,4,5],[0,1,2,3,4,5],[0,1,2,3,4,5],[0,1,2,3,4,5],[0,1,2,3,4,5],[0,1,2,3,4,5],[],[]]
 |46=>[[3,4,5,6,7,8,9,10,11,12,13,14,15,16,17,18,19,20,21,22],[3,4,5,6,7,8,9,10,11,12,13,14,15,16,17,18,19,20,21,22],[3,4,5,6,7,8,9,10,11,12,13,14,15,16,17,18,19,20,21,22],[0,1,2,6,7,8,9,10,11,12,13,14,15,16,17,18,19,20,21,22],[0,1,2,6,7,8,9,10,11,12,13,14,15,16,17,18,19,20,21,22],[0,1,2,6,7,8,9,10,11,12,13,14,15,16,17,18,19,20,21,22],[0,1,2,3,4,5],[0,1,2,3,4,5],[0,1,2,3,4,5],[0,1,2,3,4,5],[0,1,2,3,4,5],[0,1,2,3,4,5],[0,1,2,3,4,5],[0,1,2,3,4,5],[0,1,2,3,4,5],[0,1,2,3,4,5],[0,1,2,3,4,5],[0,1,2,3,4,5],[0,1,2,3,4,5],[0,1,2,3,4,5],[0,1,2,3,4,5],[0,1,2,3,4,5],[0,1,2,3,4,5],[],[]]
 |_=>[]
def aiE:Nat->List (List Nat)
 |6=>[[2,5,6,7,8,9],[2,5,6,7,8,9],[0,1,5,6,7,8,9],[5,6,7,8,9],[5,6,7,8,9],[0,1,2,3,4,7,10],[0,1,2,3,4,7,10],[0,1,2,3,4,5,6,10],[0,1,2,3,4,10],[0,1,2,3,4,10],[5,6,7,8,9],[],[]]
 |_=>[]
def aiF:Nat->List (List Nat)
 |10=>[[1,4,5,6],[0,4,5,6],[4,5,6],[4,5,6],[0,1,2,3,6],[0,1,2,3,6],[0,1,2,3,4,5],[],[],[]]
 |_=>[]
def aiG:Nat->List (List Nat)
 |9=>[[1,3,4,5,6],[0,3,4,5,6],[3,4,5,6],[0,1,2,4,7],[0,1,2,3,7],[0,1,2,7],[0,1,2,7],[3,4,5,6],[],[]]
 |_=>[]
def aiH:Nat->List (List Nat)
 |2=>[[2,3],[2,3],[0,1,4],[0,1,4],[2,3],[]]
 |_=>[]
def aiI:Nat->List (List Nat)
 |17=>[[3,4,5],[3,4,5],[3,4,5],[0,1,2,6],[0,1,2,6],[0,1,2,6],[3,4,5],[]]
 |_=>[]
def aiJ:Nat->List (List Nat)
 |18=>[[5,6],[5,6],[5,6],[5,6],[5,6],[0,1,2,3,4],[0,1,2,3,4],[]]
 |_=>[]
def aiK:Nat->List (List Nat)
 |3=>[[4,5,6,7,8,9,10,13],[4,5,6,7,8,9,10,13],[4,5,6,7,8,9,10,13],[4,5,6,7,8,9,10,13],[0,1,2,3,9,13],[0,1,2,3,9,13],[0,1,2,3,9,13],[0,1,2,3,9,13],[0,1,2,3,9,13],[0,1,2,3,4,5,6,7,8,13],[0,1,2,3,13],[13],[13],[0,1,2,3,4,5,6,7,8,9,10,11,12]]
 |9=>[[1,2,3,4,5,6,7,8,9,10,11,12],[0,5,6,7,8,9,10,11],[0,5,6,7,8,9,10,11],[0,5,6,7,8,9,10,11],[0,5,6,7,8,9,10,11],[0,1,2,3,4,10],[0,1,2,3,4,10],[0,1,2,3,4,10],[0,1,2,3,4,10],[0,1,2,3,4,10],[0,1,2,3,4,5,6,7,8,9],[0,1,2,3,4],[0],[],[],[]]
 |_=>[]
def aiL:Nat->List (List Nat)
 |6=>[[1],[0,2],[1],[],[]]
 |_=>[]
def aiM:Nat->List (List Nat)
 |8=>[[1,3,4,5,6],[0,3,4,5,6],[3,4,5,6],[0,1,2,4,7],[0,1,2,3,7],[0,1,2,7],[0,1,2,7],[3,4,5,6],[],[]]
 |_=>[]
def aiN:Nat->List (List Nat)
 |5=>[[1,2,3,4,5,6,7,8,9,10,11],[0,2,3,4,5,6,7,8,9,10],[0,1,3,6,7,8,9,10],[0,1,2,6,7,8,9,10],[0,1,6,7,8,9,10],[0,1,6,7,8,9,10],[0,1,2,3,4,5,7,8],[0,1,2,3,4,5,6],[0,1,2,3,4,5,6],[0,1,2,3,4,5],[0,1,2,3,4,5],[0],[]]
 |_=>[]
def aiO:Nat->List (List Nat)
 |4=>[[1,2,3,4],[0],[0],[0],[0],[]]
 |_=>[]
def aiP:Nat->List (List Nat)
 |2=>[[1,2,3,4],[0],[0],[0],[0],[]]
 |9=>[[1,2,3,4],[0],[0],[0],[0],[]]
 |_=>[]
def aiQ:Nat->List (List Nat)
 |5=>[[4,5,6],[4,5,6],[4,5,6],[4,5,6],[0,1,2,3,7],[0,1,2,3,7],[0,1,2,3,7],[4,5,6],[]]
 |8=>[[4,5,11],[4,5,11],[4,5,11],[4,5,11],[0,1,2,3,11],[0,1,2,3,11],[11],[11],[9,10,11],[8,10,11,12],[8,9,11,12,13],[0,1,2,3,4,5,6,7,8,9,10],[9,10],[10],[]]
 |11=>[[4,5,6,7,13],[4,5,6,7,13],[4,5,6,7,13],[4,5,6,7,13],[0,1,2,3,6,7,13],[0,1,2,3,6,7,13],[0,1,2,3,4,5,13],[0,1,2,3,4,5,13],[13],[13],[11,12,13],[10,12,13,14],[10,11,13,14,15],[0,1,2,3,4,5,6,7,8,9,10,11,12],[11,12],[12],[]]
 |12=>[[1,2],[0,3],[0,3],[1,2],[]]
 |15=>[[4,5,11],[4,5,11],[4,5,11],[4,5,11],[0,1,2,3,11],[0,1,2,3,11],[11],[11],[9,10,11],[8,10,11,12],[8,9,11,12,13],[0,1,2,3,4,5,6,7,8,9,10],[9,10],[10],[]]
 |17=>[[1,2,3,4,5,6,7,8,9,10,13,14,15],[0,4,5,6,7,8,13,14,15],[0,4,5,6,7,8,13,14,15],[0,4,5,6,7,8,13,14,15],[0,1,2,3,5,6,7,8,13,14,15],[0,1,2,3,4,7,8,13,14,15],[0,1,2,3,4,7,8,13,14,15],[0,1,2,3,4,5,6,13,14,15],[0,1,2,3,4,5,6,13,14,15],[0,13,14,15],[0,13,14,15],[13,14,15],[13,14,15],[0,1,2,3,4,5,6,7,8,9,10,11,12,16],[0,1,2,3,4,5,6,7,8,9,10,11,12,16],[0,1,2,3,4,5,6,7,8,9,10,11,12,16],[13,14,15],[]]
 |29=>[[1,2,5,6,7],[0,5,6,7],[0,5,6,7],[5,6,7],[5,6,7],[0,1,2,3,4],[0,1,2,3,4],[0,1,2,3,4],[],[13],[13],[13],[13],[9,10,11,12],[]]
 |_=>[]
def aiR:Nat->List (List Nat)
 |4=>[[1,2,7,8],[0,7,8],[0,7,8],[7,8],[7,8],[6,7,8],[5,7,8,9],[0,1,2,3,4,5,6,8],[0,1,2,3,4,5,6,7],[6],[]]
 |_=>[]
def aiS:Nat->List (List Nat)
 |4=>[[1,2,4,6,7],[0,4,6,7],[0,4,6,7],[4,6,7],[0,1,2,3,6,7],[6,7],[0,1,2,3,4,5],[0,1,2,3,4,5],[]]
 |_=>[]
def aiT:Nat->List (List Nat)
 |1=>[[1,4,5],[0,4,5],[4,5],[4,5],[0,1,2,3],[0,1,2,3],[]]
 |_=>[]
def aiU:Nat->List (List Nat)
 |1=>[[1,4,5],[0,4,5],[4,5],[4,5],[0,1,2,3],[0,1,2,3],[]]
 |_=>[]
def aiV:Nat->List (List Nat)
 |2=>[[2,3],[2,3],[0,1],[0,1],[]]
 |8=>[[2,4,7,8],[2,4,7,8],[0,1,4,7,8],[4,7,8],[0,1,2,3,7,8],[7,8],[7,8],[0,1,2,3,4,5,6],[0,1,2,3,4,5,6],[]]
 |9=>[[1,2,3,4,5,7,8,10,11,12,13,14,15],[0,3,7,8,10,11,12,13,14,15],[0,3,7,8,10,11,12,13,14,15],[0,1,2,7,8,10,11,12,13,14,15],[0,7,8,10,11,12,13,14,15],[0,7,8,10,11,12,13,14,15],[7,8,10,11,12,13,14,15],[0,1,2,3,4,5,6,10,11,12,13,14,15],[0,1,2,3,4,5,6,10,11,12,13,14,15],[10,11,12,13,14,15],[0,1,2,3,4,5,6,7,8,9,12],[0,1,2,3,4,5,6,7,8,9,12],[0,1,2,3,4,5,6,7,8,9,10,11],[0,1,2,3,4,5,6,7,8,9],[0,1,2,3,4,5,6,7,8,9],[0,1,2,3,4,5,6,7,8,9],[]]
 |_=>[]
def aiW:Nat->List (List Nat)
 |8=>[[1,4,5,6,7],[0,4,5,6,7],[4,5,6,7],[4,5,6,7],[0,1,2,3,5],[0,1,2,3,4],[0,1,2,3],[0,1,2,3],[],[]]
 |_=>[]
def aiX:Nat->List (List Nat)
 |13=>[[1],[0,2],[1],[]]
 |_=>[]
def aiY:Nat->List (List Nat)
 |5=>[[8,9],[8,9],[8,9],[8,9],[8,9],[8,9],[8,9],[8,9],[0,1,2,3,4,5,6,7],[0,1,2,3,4,5,6,7],[]]
 |_=>[]
def aiZ:Nat->List (List Nat)
 |6=>[[1,2,3,4,5,6,7],[0,2,3,4,5,7],[0,1,4,5,7],[0,1,4,5,7],[0,1,2,3,7],[0,1,2,3,7],[0,7],[0,1,2,3,4,5,6],[],[]]
 |10=>[[2,3],[2,3],[0,1],[0,1],[]]
 |12=>[[2,3],[2,3],[0,1],[0,1],[]]
 |15=>[[1,2,3,5,6],[0,5,6],[0,5,6],[0,5,6],[5,6],[0,1,2,3,4],[0,1,2,3,4],[]]
 |17=>[[2,3],[2,3],[0,1],[0,1],[]]
 |_=>[]
def ai0:Nat->List (List Nat)
 |5=>[[1,4,5,6,7,9],[0,4,5,6,7,9],[4,5,6,7,9],[4,5,6,7,9],[0,1,2,3,5,9],[0,1,2,3,4,9],[0,1,2,3,9],[0,1,2,3,9],[9],[0,1,2,3,4,5,6,7,8],[],[]]
 |_=>[]
def ai1:Nat->List (List Nat)
 |4=>[[1,4,5,6,7],[0,4,5,6,7],[4,5,6,7],[4,5,6,7],[0,1,2,3,5],[0,1,2,3,4],[0,1,2,3],[0,1,2,3],[]]
 |6=>[[1,4,5,6,7],[0,4,5,6,7],[4,5,6,7],[4,5,6,7],[0,1,2,3,5],[0,1,2,3,4],[0,1,2,3],[0,1,2,3],[]]
 |_=>[]
def ai2:Nat->List (List Nat)
 |5=>[[1,5,6,7,8,10],[0,5,6,7,8,10],[5,6,7,8,10],[5,6,7,8,10],[5,6,7,8,10],[0,1,2,3,4,6,10],[0,1,2,3,4,5,10],[0,1,2,3,4,10],[0,1,2,3,4,10],[10],[0,1,2,3,4,5,6,7,8,9],[],[]]
 |_=>[]
def ai3:Nat->List (List Nat)
 |2=>[[2,3],[2,3],[0,1],[0,1],[]]
 |_=>[]
end Go.Am
end
section
namespace Go.Am
open Go Go.Proofs.Tryz
open Go.Proofs
set_option maxRecDepth 10000
abbrev zk:Nat->List Nat:=λ_=>[]
abbrev zg:Nat->List Gh:=λ_=>[]
abbrev zm:Nat->Bool:=λ_=>false
abbrev zf:aw:=⟨[],false,[],[],false⟩
abbrev zo:Nat->List (List Nat):=λ_=>[]
abbrev zl:Nat->List (Nat×Nat):=λ_=>[]
noncomputable def ai4:List (Nat->List Nat):=[zk,zk,zk,zk,zk,zk,zk,zk,Ys,zk,zk,zk,zk,Tq,Ts,Tt,zk,zk,Tu,zk,zk,zk,Tv,zk,zk,zk,zk,Tw,Ty,Tz,zk,zk,zk,zk,TB,TC,TD,TE,TF,TG,TH,TI,zk,zk,zk,zk,zk,TJ,TL,zk,zk,zk,TM,zk,TN,TO,TP,TQ,zk,zk,zk,zk,zk,zk,zk,TR,TS,TU,TV,TW,TX,TY,TZ,zk,zk,zk,zk,zk,zk,zk,zk,zk,zk,zk,zk,T0,zk,zk,zk,T1,T4,T6,T7,T8,T9,zk,zk,zk,zk,zk,zk,zk,zk,zk,zk,zk,zk,zk,K8,K9,La,Lc,zk,zk,zk,zk,zk,zk,zk,zk,zk,zk,zk,zk,zk,Ld,Lf,Lg,Lh,zk,zk,zk,zk,zk,zk,zk,zk,Li,Lj,Lk,Ll,Lm,Ln,Lo,Lp,Lq,Lr,Ls,Lt,Lu,Lv,Lw,LA,LC,LD,LF,LG,LH,zk,zk,zk,zk,zk,zk,zk,zk,zk,LJ,zk,zk,zk,zk,zk,zk,zk,zk,zk,zk,zk,LL,LM,zk,zk,zk,zk,zk,zk,zk,zk,zk,zk,LO,LP,LQ,LR,LS,zk,zk,zk,LU,LV,LW,LX,LY,LZ,L3,L4,L5,L6,L7,L8,L9,Ma,Mb,Md,Me,Mf,Mg,Mh,Mi,Mj,Ml,Mm,Mn,Mo,zk,zk,zk,zk,zk,zk,zk,zk,Mp,zk,zk,zk,zk,zk,zk,zk,Mq,zk,Mr,Mt,Mu,Mv,Mw,Mx,My,Mz,MA,MB,MD,ME,MF,MG,MH,MI,MJ,ML,MM,MN,MO,MP,zk,zk,zk,zk,zk,zk,zk,zk,zk,zk,zk,MQ,MR,MS,MT,MU,MV,MW,zk,zk,MX,MY,MZ,M0,M1,M3,M4,M5,M6,M7,M8,M9,Na,zk,zk,zk,zk,zk,zk,zk,zk,Nb,Nc,Nd,Nf,Ng,Nh,zk,zk,Ni,Nj,Nk,zk,Nl,zk,zk,zk,zk,zk,zk,zk,zk,zk,zk,zk,zk,zk,zk,zk,zk,zk,zk,zk,zk,zk,zk,zk,zk]
noncomputable def ghL:List (Nat->List Gh):=[zg,zg,zg,zg,zg,zg,zg,zg,zg,zg,zg,zg,zg,zg,zg,zg,zg,zg,zg,zg,zg,zg,adM,zg,zg,zg,zg,zg,zg,zg,zg,zg,zg,zg,zg,zg,zg,zg,zg,zg,zg,adS,zg,zg,zg,zg,zg,zg,zg,zg,zg,zg,zg,zg,zg,zg,zg,adX,zg,zg,zg,zg,zg,zg,zg,zg,zg,zg,zg,zg,zg,zg,zg,zg,zg,zg,zg,zg,zg,zg,zg,zg,zg,zg,zg,zg,zg,zg,zg,zg,zg,zg,zg,zg,zg,zg,zg,zg,zg,zg,zg,zg,zg,zg,zg,zg,zg,zg,zg,zg,zg,zg,zg,zg,zg,zg,zg,zg,zg,zg,zg,zg,zg,zg,zg,zg,zg,zg,zg,zg,zg,zg,zg,zg,zg,zg,zg,zg,zg,zg,zg,zg,zg,zg,zg,zg,zg,zg,zg,zg,zg,zg,zg,zg,zg,zg,zg,zg,zg,zg,zg,zg,zg,zg,zg,zg,zg,zg,zg,zg,zg,zg,zg,zg,zg,zg,zg,zg,zg,zg,zg,zg,zg,zg,zg,zg,zg,zg,zg,zg,zg,zg,zg,zg,zg,zg,zg,zg,zg,zg,zg,zg,zg,zg,zg,zg,zg,zg,zg,zg,zg,zg,zg,zg,zg,zg,zg,zg,zg,zg,zg,zg,zg,zg,zg,zg,zg,zg,zg,zg,zg,zg,zg,zg,zg,zg,zg,zg,zg,zg,zg,zg,zg,zg,zg,zg,zg,zg,zg,zg,zg,zg,zg,zg,zg,zg,zg,zg,zg,zg,zg,zg,zg,zg,zg,zg,zg,zg,zg,zg,zg,zg,zg,zg,zg,zg,zg,zg,zg,zg,zg,zg,zg,zg,zg,zg,zg,zg,zg,zg,zg,zg,ZL,ZP,zg,zg,ZV,zg,zg,zg,zg,zg,zg,zg,zg,zg,zg,zg,zg,zg,zg,zg,zg,zg,zg,zg,zg,zg,zg,zg,zg,zg,zg,zg,zg,zg,zg,zg,zg,zg,zg,zg,zg,zg,zg,zg,zg,zg,zg,zg,zg,zg,zg]
noncomputable def mdL:List (Nat->Bool):=[zm,zm,zm,zm,zm,zm,zm,zm,md8,zm,zm,zm,zm,zm,adJ,zm,zm,zm,zm,zm,zm,zm,zm,zm,zm,zm,zm,adN,adO,zm,zm,zm,zm,zm,zm,adP,zm,adQ,zm,zm,zm,zm,zm,zm,zm,zm,zm,zm,zm,zm,zm,zm,zm,zm,zm,zm,zm,zm,zm,zm,zm,zm,zm,zm,zm,zm,zm,zm,zm,adZ,zm,zm,zm,zm,zm,zm,zm,zm,zm,zm,zm,zm,zm,zm,zm,ad0,zm,zm,zm,zm,zm,zm,zm,zm,zm,zm,zm,zm,zm,zm,zm,zm,zm,zm,zm,zm,zm,zm,zm,zm,zm,zm,zm,zm,zm,zm,zm,zm,zm,zm,zm,zm,zm,zm,zm,zm,Yw,Yy,zm,zm,zm,zm,zm,zm,zm,zm,zm,zm,zm,zm,YB,zm,zm,zm,zm,YF,zm,YG,zm,zm,YI,zm,zm,zm,zm,zm,zm,zm,zm,zm,zm,zm,zm,zm,zm,zm,zm,zm,zm,zm,zm,zm,zm,zm,zm,zm,zm,zm,zm,YP,zm,zm,zm,zm,zm,zm,zm,zm,zm,zm,zm,zm,zm,zm,zm,zm,zm,zm,zm,zm,zm,zm,zm,zm,zm,zm,zm,zm,zm,zm,YY,YZ,Y0,zm,zm,Y1,zm,zm,zm,zm,zm,zm,zm,zm,zm,zm,zm,zm,zm,zm,zm,zm,zm,zm,zm,zm,zm,zm,zm,zm,zm,zm,zm,zm,zm,zm,zm,zm,Zg,Zi,zm,zm,zm,Zl,zm,Zo,zm,zm,zm,zm,zm,zm,zm,zm,zm,zm,zm,zm,zm,zm,zm,zm,zm,zm,zm,zm,zm,zm,zm,zm,zm,zm,zm,zm,zm,zm,ZD,zm,zm,zm,zm,zm,zm,ZN,zm,zm,zm,zm,zm,zm,zm,zm,zm,zm,zm,zm,zm,zm,zm,Z0,zm,zm,zm,zm,zm,zm,zm,zm,zm,zm,zm,zm,zm,zm,zm,zm,zm,zm,zm,zm,zm,zm,zm,zm,zm,zm,zm,zm,zm,zm,zm,zm,zm]
noncomputable def fpL:List (aw):=[zf,zf,zf,zf,zf,zf,zf,zf,fp8,zf,zf,zf,zf,Wg,Wh,Wi,zf,zf,Wj,zf,zf,zf,IA,zf,zf,zf,zf,Wk,Wl,Wm,zf,zf,zf,zf,Wn,Wo,Wp,Wq,Wr,Ws,Wt,Wu,zf,zf,zf,zf,zf,Wv,IB,zf,zf,zf,Ww,zf,Wx,IC,Wy,ID,zf,zf,zf,zf,zf,zf,zf,Wz,WA,adY,WB,WC,WD,WE,WG,zf,zf,zf,zf,zf,zf,zf,zf,zf,zf,zf,zf,WH,zf,zf,zf,WI,ad1,WJ,PI,IE,ad4,zf,zf,zf,zf,zf,zf,zf,zf,zf,zf,zf,zf,zf,PJ,PK,PN,PO,zf,zf,zf,zf,zf,zf,zf,zf,zf,zf,zf,zf,zf,PQ,PT,PU,PV,zf,zf,zf,zf,zf,zf,zf,zf,YA,PW,PX,YC,YD,PY,PZ,P0,P1,P2,P3,P4,P5,P6,P7,P8,P9,YL,YM,YN,YO,zf,zf,zf,zf,zf,zf,zf,zf,zf,Qa,zf,zf,zf,zf,zf,zf,zf,zf,zf,zf,zf,Qb,Qc,zf,zf,zf,zf,zf,zf,zf,zf,zf,zf,Qd,Qe,Qf,Qg,Qi,zf,zf,zf,YR,YS,YT,Qj,Qk,Ql,Qm,Qn,YW,Qo,YX,Qp,Qq,Qr,Qs,Qt,Qu,Qv,Y3,Y4,Y6,Za,Zc,Zd,Ze,Zf,zf,zf,zf,zf,zf,zf,zf,zf,Qw,zf,zf,zf,zf,zf,zf,zf,Qx,zf,Qy,Qz,QA,QB,QC,Zh,Zj,QD,QE,QF,Zm,Zn,Zp,QG,QH,QI,Zr,Zs,Zt,Zu,Zw,Zx,zf,zf,zf,zf,zf,zf,zf,zf,zf,zf,zf,QJ,QK,QL,Zz,ZB,QM,QN,zf,zf,ZC,ZE,QO,ZF,ZH,ZI,ZJ,ZM,ZQ,ZS,ZT,ZW,ZX,zf,zf,zf,zf,zf,zf,zf,zf,QP,ZY,ZZ,Z1,Z2,Z4,zf,zf,Z5,Z7,Z8,zf,aaa,zf,zf,zf,zf,zf,zf,zf,zf,zf,zf,zf,zf,zf,zf,zf,zf,zf,zf,zf,zf,zf,zf,zf,zf]
noncomputable def odL:List (Nat->List (List Nat)):=[zo,zo,zo,od3,od4,zo,zo,od7,od8,od9,zo,apg,zo,zo,zo,adK,aph,zo,zo,api,apj,zo,adL,zo,zo,zo,apk,zo,zo,zo,zo,zo,apl,apm,zo,zo,zo,adR,zo,zo,zo,zo,zo,zo,apn,zo,zo,adT,zo,apo,apq,zo,zo,zo,adU,adV,zo,adW,apr,aps,apt,zo,zo,apu,zo,zo,zo,zo,zo,zo,zo,zo,zo,apv,apw,apx,zo,zo,zo,zo,apy,zo,zo,apz,apA,zo,apB,zo,apC,zo,zo,zo,ad2,ad3,zo,zo,zo,apD,apE,zo,zo,ais,ait,zo,zo,zo,zo,zo,zo,Yt,zo,Yu,zo,aiu,zo,aiv,aiw,zo,aix,zo,zo,aiy,zo,zo,zo,Yv,Yx,Yz,zo,aiz,aiA,zo,zo,aiB,zo,aiC,aiD,zo,zo,zo,zo,zo,zo,YE,zo,zo,zo,zo,zo,YH,zo,YJ,zo,YK,zo,zo,zo,zo,zo,aiE,zo,aiF,zo,aiG,aiH,aiI,zo,zo,zo,zo,zo,zo,aiJ,zo,zo,zo,zo,aiK,zo,zo,zo,aiL,zo,zo,zo,aiM,zo,aiN,zo,aiO,aiP,zo,zo,zo,zo,YQ,zo,zo,zo,zo,zo,zo,YU,zo,zo,zo,YV,zo,zo,zo,zo,zo,zo,zo,zo,Y2,zo,zo,zo,Y5,zo,Zb,zo,zo,zo,aiQ,zo,zo,zo,zo,zo,aiR,zo,zo,aiS,zo,aiT,zo,aiU,zo,aiV,zo,zo,zo,zo,zo,zo,zo,zo,zo,zo,Zk,zo,zo,zo,zo,zo,Zq,zo,zo,zo,zo,zo,Zv,zo,zo,zo,zo,zo,aiW,aiX,zo,aiY,aiZ,zo,zo,zo,zo,zo,Zy,ZA,zo,zo,zo,zo,zo,zo,zo,zo,ZG,zo,zo,ZK,ZO,ZR,zo,ZU,zo,ai0,ai1,ai2,zo,ai3,zo,zo,zo,zo,zo,zo,zo,zo,Z3,zo,zo,zo,Z6,zo,zo,Z9,zo,zo,zo,zo,zo,zo,zo,zo,zo,zo,zo,zo,zo,zo,zo,zo,zo,zo,zo,zo,zo,zo,zo,zo]
noncomputable def flL:List (Nat->List (Nat×Nat)):=[zl,zl,zl,zl,zl,zl,zl,zl,zl,zl,zl,zl,zl,zl,zl,zl,zl,zl,zl,zl,zl,zl,zl,zl,zl,zl,zl,zl,zl,zl,zl,zl,zl,zl,zl,zl,zl,zl,zl,zl,zl,zl,zl,zl,zl,zl,zl,zl,zl,zl,zl,zl,zl,zl,zl,zl,zl,zl,zl,zl,zl,zl,zl,zl,zl,zl,zl,zl,zl,zl,zl,zl,zl,zl,zl,zl,zl,zl,zl,zl,zl,zl,zl,zl,zl,zl,zl,zl,zl,zl,zl,zl,zl,zl,zl,zl,zl,zl,zl,zl,zl,zl,zl,zl,zl,zl,zl,zl,zl,zl,zl,zl,zl,zl,zl,zl,zl,zl,zl,zl,zl,zl,zl,zl,zl,zl,zl,zl,zl,zl,zl,zl,zl,zl,zl,zl,zl,zl,zl,zl,zl,zl,zl,zl,zl,zl,zl,zl,zl,zl,zl,zl,zl,zl,zl,zl,zl,zl,zl,zl,zl,zl,zl,zl,zl,zl,zl,zl,zl,zl,zl,zl,zl,zl,zl,zl,zl,zl,zl,zl,zl,zl,zl,zl,zl,zl,zl,zl,zl,zl,zl,zl,zl,zl,zl,zl,zl,zl,zl,zl,zl,zl,zl,zl,zl,zl,zl,zl,zl,zl,zl,zl,zl,zl,zl,zl,zl,zl,zl,zl,zl,zl,zl,zl,zl,zl,zl,zl,zl,zl,zl,zl,zl,zl,zl,zl,zl,zl,zl,zl,zl,zl,zl,zl,zl,zl,zl,zl,zl,zl,zl,zl,zl,zl,zl,zl,zl,zl,zl,zl,zl,zl,zl,zl,zl,zl,zl,zl,zl,zl,zl,zl,zl,zl,zl,zl,zl,zl,zl,zl,zl,zl,zl,zl,zl,zl,zl,zl,zl,zl,zl,zl,zl,zl,zl,zl,zl,zl,zl,zl,zl,zl,zl,zl,zl,zl,zl,zl,zl,zl,zl,zl,zl,zl,zl,zl,zl,zl,zl,zl,zl,zl,zl,zl,zl,zl,zl,zl,zl,zl,zl,zl,zl,zl,zl,zl,zl,zl,zl,zl,zl,zl,zl]
def bA:Type:=Int
variable [Inhabited bA]
def EB:List Int:=[0,0,0,0,0,0,0,0,0,1,1,1,1,1,0,0,0,0,0,0,0,0,0,0,0,0,0,0,0,0,0,0,1,0,0,0,0,0,0,0,0,0,0,0,0,0,0,0,0,0,0,0,0,0,0,0,0,0,0,0,0,0,0,0,0,0,0,0,0,0,0,0,0,0,0,0,0,0,0,0,0,0,0,0,0,0,0,0,0,0,0,0,0,0,0,0,0,0,0,0,0,0,0,0,0,0,0,0,0,0,0,0,0,0,0,0,0,0,0,0,0,0,0,0,0,0,0,0,0,0,0,0,0,0,0,0,0,0,0,0,0,0,0,0,0,0,0,0,0,0,0,0,0,0,0,0,0,0,0,0,0,0,0,0,0,0,0,0,0,0,0,0,0,0,0,0,0,0,0,0,0,0,0,0,0,0,0,0,0,0,0,0,0,0,0,0,0,0,0,0,0,0,0,0,0,0,0,0,0,0,0,0,0,0,0,0,0,0,0,0,0,0,0,0,0,0,0,0,0,0,0,0,0,0,0,0,0,0,0,0,0,0,0,0,0,0,0,0,0,0,0,0,0,0,0,0]
def aA:List (Nat×D):=[(0,.agg (EB.map λz=>.int .u8 z)),(2,.int .i64 (id (α:=Int) (default:bA)))]
@[simp] theorem axe:EU aA 0=some (.agg (EB.map λz=>.int .u8 z)):=rfl
def WK:FuncId->Option (List AV->Option AV)
 |207=>some (ng To)
 |209=>some (ng Iz)
 |254=>some (ng Tn)
 |_=>none
noncomputable def ctx:Ctx:=⟨Tryz.prog,aA,λf=>ai4.getD f (λ_=>[]),λf=>ghL.getD f (λ_=>[]),λf=>mdL.getD f (λ_=>false),λf=>fpL.getD f ⟨[],false,[],[],false⟩,λf=>odL.getD f (λ_=>[]),WK,λf=>flL.getD f (λ_=>[]),none⟩
@[simp] theorem axf:ctx.P=Tryz.prog:=rfl
@[simp] theorem avC:ctx.gl=aA:=rfl
@[simp] def bm(fn:Func):Code:=fn.body.getD .skip
abbrev EF(n:Nat)(k:Nat->List Nat)(g:Nat->List Gh)(m:Nat->Bool)(p:aw)(l:Nat->List (Nat×Nat))(o:Nat->List (List Nat)):Prop:=ctx.pa n=k/\ctx.gh n=g/\ctx.md n=m/\ctx.fp n=p/\ctx.fl n=l/\ctx.od n=o
abbrev RF(n c:Nat)(p:aw)(fn:Func)(rs:List ResultVar):Prop:=∀{args:List AV}{cs:List ay},iM c p args cs=true->ah ctx n args cs=aI ctx n (bm fn) (entry c aA args cs p.sites) (uM Tryz.prog p cs.length rs)
@[simp] theorem E8:EF 8 Ys zg md8 fp8 zl od8:=⟨rfl,rfl,rfl,rfl,rfl,rfl⟩
theorem apF:RF 8 88 fp8 f8 [.tmp 8]:=ax rfl rfl Tryz.func8 rfl (by kernel_rfl) Tryz.ntmps8 (by rw[Tryz.results8]) rfl rfl
@[simp] theorem E13:EF 13 Tq zg zm Wg zl zo:=⟨rfl,rfl,rfl,rfl,rfl,rfl⟩
theorem ai5:RF 13 18 Wg f13 [.tmp 2]:=ax rfl rfl Tryz.func13 rfl (by kernel_rfl) Tryz.ntmps13 (by rw[Tryz.results13]) rfl rfl
@[simp] theorem E14:EF 14 Ts zg adJ Wh zl zo:=⟨rfl,rfl,rfl,rfl,rfl,rfl⟩
theorem ai6:RF 14 129 Wh f14 [.tmp 2]:=ax rfl rfl Tryz.func14 rfl (by kernel_rfl) Tryz.ntmps14 (by rw[Tryz.results14]) rfl rfl
@[simp] theorem E15:EF 15 Tt zg zm Wi zl adK:=⟨rfl,rfl,rfl,rfl,rfl,rfl⟩
theorem ai7:RF 15 58 Wi f15 [.cell 2 30]:=ax rfl rfl Tryz.func15 rfl (by kernel_rfl) Tryz.ntmps15 (by rw[Tryz.results15]) rfl rfl
@[simp] theorem E18:EF 18 Tu zg zm Wj zl zo:=⟨rfl,rfl,rfl,rfl,rfl,rfl⟩
theorem ai8:RF 18 24 Wj f18 [.tmp 4]:=ax rfl rfl Tryz.func18 rfl (by kernel_rfl) Tryz.ntmps18 (by rw[Tryz.results18]) rfl rfl
@[simp] theorem E22:EF 22 Tv adM zm IA zl adL:=⟨rfl,rfl,rfl,rfl,rfl,rfl⟩
theorem aab{args:List AV}{cs:List ay}(h:iM 73 IA args cs=true):ah ctx 22 args cs=iS ctx 22 (bm f22) (entry 73 aA args cs IA.sites) [] (Aq ctx IA cs.length [.cell 6 41]):=
 FM rfl rfl Tryz.func22 rfl (by kernel_rfl) Tryz.ntmps22 (by rw[Tryz.results22]) rfl h
@[simp] theorem E27:EF 27 Tw zg adN Wk zl zo:=⟨rfl,rfl,rfl,rfl,rfl,rfl⟩
theorem ai9:RF 27 34 Wk f27 [.tmp 0]:=ax rfl rfl Tryz.func27 rfl (by kernel_rfl) Tryz.ntmps27 (by rw[Tryz.results27]) rfl rfl
@[simp] theorem E28:EF 28 Ty zg adO Wl zl zo:=⟨rfl,rfl,rfl,rfl,rfl,rfl⟩
theorem QQ:RF 28 15 Wl f28 [.tmp 2]:=ax rfl rfl Tryz.func28 rfl (by kernel_rfl) Tryz.ntmps28 (by rw[Tryz.results28]) rfl rfl
@[simp] theorem E29:EF 29 Tz zg zm Wm zl zo:=⟨rfl,rfl,rfl,rfl,rfl,rfl⟩
theorem aja:RF 29 36 Wm f29 [.tmp 2]:=ax rfl rfl Tryz.func29 rfl (by kernel_rfl) Tryz.ntmps29 (by rw[Tryz.results29]) rfl rfl
@[simp] theorem E34:EF 34 TB zg zm Wn zl zo:=⟨rfl,rfl,rfl,rfl,rfl,rfl⟩
theorem ajb:RF 34 21 Wn f34 [.tmp 4,.tmp 5]:=ax rfl rfl Tryz.func34 rfl (by kernel_rfl) Tryz.ntmps34 (by rw[Tryz.results34]) rfl rfl
@[simp] theorem E35:EF 35 TC zg adP Wo zl zo:=⟨rfl,rfl,rfl,rfl,rfl,rfl⟩
theorem ajc:RF 35 59 Wo f35 [.tmp 2]:=ax rfl rfl Tryz.func35 rfl (by kernel_rfl) Tryz.ntmps35 (by rw[Tryz.results35]) rfl rfl
@[simp] theorem E36:EF 36 TD zg zm Wp zl zo:=⟨rfl,rfl,rfl,rfl,rfl,rfl⟩
theorem ajd:RF 36 24 Wp f36 [.tmp 2]:=ax rfl rfl Tryz.func36 rfl (by kernel_rfl) Tryz.ntmps36 (by rw[Tryz.results36]) rfl rfl
@[simp] theorem E37:EF 37 TE zg adQ Wq zl adR:=⟨rfl,rfl,rfl,rfl,rfl,rfl⟩
theorem aje:RF 37 258 Wq f37 [.tmp 2]:=ax rfl rfl Tryz.func37 rfl (by kernel_rfl) Tryz.ntmps37 (by rw[Tryz.results37]) rfl rfl
@[simp] theorem E38:EF 38 TF zg zm Wr zl zo:=⟨rfl,rfl,rfl,rfl,rfl,rfl⟩
theorem ajf:RF 38 25 Wr f38 [.cell 4 64,.tmp 5]:=ax rfl rfl Tryz.func38 rfl (by kernel_rfl) Tryz.ntmps38 (by rw[Tryz.results38]) rfl rfl
@[simp] theorem E39:EF 39 TG zg zm Ws zl zo:=⟨rfl,rfl,rfl,rfl,rfl,rfl⟩
theorem ajg:RF 39 18 Ws f39 [.tmp 2]:=ax rfl rfl Tryz.func39 rfl (by kernel_rfl) Tryz.ntmps39 (by rw[Tryz.results39]) rfl rfl
@[simp] theorem E40:EF 40 TH zg zm Wt zl zo:=⟨rfl,rfl,rfl,rfl,rfl,rfl⟩
theorem ajh:RF 40 27 Wt f40 [.cell 6 30]:=ax rfl rfl Tryz.func40 rfl (by kernel_rfl) Tryz.ntmps40 (by rw[Tryz.results40]) rfl rfl
@[simp] theorem E41:EF 41 TI adS zm Wu zl zo:=⟨rfl,rfl,rfl,rfl,rfl,rfl⟩
theorem aji:RF 41 51 Wu f41 [.cell 2 72]:=ax rfl rfl Tryz.func41 rfl (by kernel_rfl) Tryz.ntmps41 (by rw[Tryz.results41]) rfl rfl
@[simp] theorem E47:EF 47 TJ zg zm Wv zl adT:=⟨rfl,rfl,rfl,rfl,rfl,rfl⟩
theorem ajj:RF 47 26 Wv f47 [.tmp 4]:=ax rfl rfl Tryz.func47 rfl (by kernel_rfl) Tryz.ntmps47 (by rw[Tryz.results47]) rfl rfl
@[simp] theorem E48:EF 48 TL zg zm IB zl zo:=⟨rfl,rfl,rfl,rfl,rfl,rfl⟩
theorem ajk{args:List AV}{cs:List ay}(h:iM 8 IB args cs=true):ah ctx 48 args cs=gd (λargs=>aI ctx 48 (bm f48) (entry 8 aA args cs IB.sites) (uM Tryz.prog IB cs.length [.tmp 2])) args true:=
 Ep rfl rfl Tryz.func48 rfl (by kernel_rfl) Tryz.ntmps48 (by rw[Tryz.results48]) rfl rfl h
@[simp] theorem E52:EF 52 TM zg zm Ww zl zo:=⟨rfl,rfl,rfl,rfl,rfl,rfl⟩
theorem ajl:RF 52 77 Ww f52 [.tmp 2]:=ax rfl rfl Tryz.func52 rfl (by kernel_rfl) Tryz.ntmps52 (by rw[Tryz.results52]) rfl rfl
@[simp] theorem E54:EF 54 TN zg zm Wx zl adU:=⟨rfl,rfl,rfl,rfl,rfl,rfl⟩
theorem aac:RF 54 30 Wx f54 [.tmp 2]:=ax rfl rfl Tryz.func54 rfl (by kernel_rfl) Tryz.ntmps54 (by rw[Tryz.results54]) rfl rfl
@[simp] theorem E55:EF 55 TO zg zm IC zl adV:=⟨rfl,rfl,rfl,rfl,rfl,rfl⟩
theorem aad{args A:List AV}{E:AV}{cs:List ay}(H:args.getLast?=some E)(I:args.dropLast=A)(h:iM 27 IC A cs=true):wW ctx 55 args cs=rN ctx 55 E (bm f55) (entry 27 aA A cs IC.sites) (Di Tryz.prog IC cs.length []):=
 K3 Tryz.func55 rfl Tryz.ntmps55 (by rw[Tryz.results55]) rfl H I h
@[simp] theorem E56:EF 56 TP zg zm Wy zl zo:=⟨rfl,rfl,rfl,rfl,rfl,rfl⟩
theorem ajm:RF 56 21 Wy f56 [.tmp 4]:=ax rfl rfl Tryz.func56 rfl (by kernel_rfl) Tryz.ntmps56 (by rw[Tryz.results56]) rfl rfl
@[simp] theorem E57:EF 57 TQ adX zm ID zl adW:=⟨rfl,rfl,rfl,rfl,rfl,rfl⟩
theorem ajn{args:List AV}{cs:List ay}(h:iM 25 ID args cs=true):ah ctx 57 args cs=iS ctx 57 (bm f57) (entry 25 aA args cs ID.sites) [] (Aq ctx ID cs.length [.cell 2 25,.cell 3 35,.cell 4 55]):=
 FM rfl rfl Tryz.func57 rfl (by kernel_rfl) Tryz.ntmps57 (by rw[Tryz.results57]) rfl h
@[simp] theorem E65:EF 65 TR zg zm Wz zl zo:=⟨rfl,rfl,rfl,rfl,rfl,rfl⟩
theorem ajo:RF 65 136 Wz f65 [.tmp 4,.tmp 5]:=ax rfl rfl Tryz.func65 rfl (by kernel_rfl) Tryz.ntmps65 (by rw[Tryz.results65]) rfl rfl
@[simp] theorem E66:EF 66 TS zg zm WA zl zo:=⟨rfl,rfl,rfl,rfl,rfl,rfl⟩
theorem ajp:RF 66 15 WA f66 [.tmp 2]:=ax rfl rfl Tryz.func66 rfl (by kernel_rfl) Tryz.ntmps66 (by rw[Tryz.results66]) rfl rfl
@[simp] theorem E67:EF 67 TU zg zm adY zl zo:=⟨rfl,rfl,rfl,rfl,rfl,rfl⟩
@[simp] theorem E68:EF 68 TV zg zm WB zl zo:=⟨rfl,rfl,rfl,rfl,rfl,rfl⟩
theorem ajq:RF 68 27 WB f68 [.tmp 2,.tmp 3,.tmp 4]:=ax rfl rfl Tryz.func68 rfl (by kernel_rfl) Tryz.ntmps68 (by rw[Tryz.results68]) rfl rfl
@[simp] theorem E69:EF 69 TW zg adZ WC zl zo:=⟨rfl,rfl,rfl,rfl,rfl,rfl⟩
theorem ajr:RF 69 126 WC f69 [.tmp 2]:=ax rfl rfl Tryz.func69 rfl (by kernel_rfl) Tryz.ntmps69 (by rw[Tryz.results69]) rfl rfl
@[simp] theorem E70:EF 70 TX zg zm WD zl zo:=⟨rfl,rfl,rfl,rfl,rfl,rfl⟩
theorem ajs:RF 70 25 WD f70 [.tmp 2]:=ax rfl rfl Tryz.func70 rfl (by kernel_rfl) Tryz.ntmps70 (by rw[Tryz.results70]) rfl rfl
@[simp] theorem E71:EF 71 TY zg zm WE zl zo:=⟨rfl,rfl,rfl,rfl,rfl,rfl⟩
theorem mf:RF 71 242 WE f71 [.cell 6 30]:=ax rfl rfl Tryz.func71 rfl (by kernel_rfl) Tryz.ntmps71 (by rw[Tryz.results71]) rfl rfl
@[simp] theorem E72:EF 72 TZ zg zm WG zl zo:=⟨rfl,rfl,rfl,rfl,rfl,rfl⟩
theorem ajt:RF 72 20 WG f72 [.tmp 2]:=ax rfl rfl Tryz.func72 rfl (by kernel_rfl) Tryz.ntmps72 (by rw[Tryz.results72]) rfl rfl
@[simp] theorem E85:EF 85 T0 zg ad0 WH zl zo:=⟨rfl,rfl,rfl,rfl,rfl,rfl⟩
theorem aju:RF 85 116 WH f85 [.tmp 4]:=ax rfl rfl Tryz.func85 rfl (by kernel_rfl) Tryz.ntmps85 (by rw[Tryz.results85]) rfl rfl
@[simp] theorem E89:EF 89 T1 zg zm WI zl zo:=⟨rfl,rfl,rfl,rfl,rfl,rfl⟩
theorem aae:RF 89 17 WI f89 [.cell 2 153,.tmp 3]:=ax rfl rfl Tryz.func89 rfl (by kernel_rfl) Tryz.ntmps89 (by rw[Tryz.results89]) rfl rfl
@[simp] theorem E90:EF 90 T4 zg zm ad1 zl zo:=⟨rfl,rfl,rfl,rfl,rfl,rfl⟩
@[simp] theorem E91:EF 91 T6 zg zm WJ zl zo:=⟨rfl,rfl,rfl,rfl,rfl,rfl⟩
theorem xj:RF 91 46 WJ f91 [.tmp 4]:=ax rfl rfl Tryz.func91 rfl (by kernel_rfl) Tryz.ntmps91 (by rw[Tryz.results91]) rfl rfl
@[simp] theorem E92:EF 92 T7 zg zm PI zl ad2:=⟨rfl,rfl,rfl,rfl,rfl,rfl⟩
theorem ajv:RF 92 62 PI f92 [.tmp 2,.tmp 3,.cell 4 55]:=ax rfl rfl Tryz.func92 rfl (by kernel_rfl) Tryz.ntmps92 (by rw[Tryz.results92]) rfl rfl
@[simp] theorem E93:EF 93 T8 zg zm IE zl ad3:=⟨rfl,rfl,rfl,rfl,rfl,rfl⟩
theorem ajw{args A:List AV}{E:AV}{cs:List ay}(H:args.getLast?=some E)(I:args.dropLast=A)(h:iM 22 IE A cs=true):wW ctx 93 args cs=rN ctx 93 E (bm f93) (entry 22 aA A cs IE.sites) (Di Tryz.prog IE cs.length []):=
 K3 Tryz.func93 rfl Tryz.ntmps93 (by rw[Tryz.results93]) rfl H I h
@[simp] theorem E94:EF 94 T9 zg zm ad4 zl zo:=⟨rfl,rfl,rfl,rfl,rfl,rfl⟩
@[simp] theorem axJ:EF 108 K8 zg zm PJ zl zo:=⟨rfl,rfl,rfl,rfl,rfl,rfl⟩
theorem ad5:RF 108 44 PJ f108 [.tmp 4,.tmp 5]:=ax rfl rfl Tryz.func108 rfl (by kernel_rfl) Tryz.ntmps108 (by rw[Tryz.results108]) rfl rfl
@[simp] theorem axK:EF 109 K9 zg zm PK zl Yt:=⟨rfl,rfl,rfl,rfl,rfl,rfl⟩
theorem dV:RF 109 155 PK f109 [.tmp 4,.cell 5 30]:=ax rfl rfl Tryz.func109 rfl (by kernel_rfl) Tryz.ntmps109 (by rw[Tryz.results109]) rfl rfl
@[simp] theorem axL:EF 110 La zg zm PN zl zo:=⟨rfl,rfl,rfl,rfl,rfl,rfl⟩
theorem ad6:RF 110 27 PN f110 [.cell 6 30]:=ax rfl rfl Tryz.func110 rfl (by kernel_rfl) Tryz.ntmps110 (by rw[Tryz.results110]) rfl rfl
@[simp] theorem axM:EF 111 Lc zg zm PO zl Yu:=⟨rfl,rfl,rfl,rfl,rfl,rfl⟩
theorem ad7:RF 111 91 PO f111 [.cell 4 30]:=ax rfl rfl Tryz.func111 rfl (by kernel_rfl) Tryz.ntmps111 (by rw[Tryz.results111]) rfl rfl
@[simp] theorem axN:EF 125 Ld zg zm PQ zl Yv:=⟨rfl,rfl,rfl,rfl,rfl,rfl⟩
theorem Ua:RF 125 93 PQ f125 [.tmp 6,.tmp 7,.tmp 8]:=ax rfl rfl Tryz.func125 rfl (by kernel_rfl) Tryz.ntmps125 (by rw[Tryz.results125]) rfl rfl
@[simp] theorem axO:EF 126 Lf zg Yw PT zl Yx:=⟨rfl,rfl,rfl,rfl,rfl,rfl⟩
theorem Ub:RF 126 105 PT f126 []:=ax rfl rfl Tryz.func126 rfl (by kernel_rfl) Tryz.ntmps126 (by rw[Tryz.results126]) rfl rfl
@[simp] theorem axP:EF 127 Lg zg Yy PU zl Yz:=⟨rfl,rfl,rfl,rfl,rfl,rfl⟩
theorem ad8:RF 127 80 PU f127 []:=ax rfl rfl Tryz.func127 rfl (by kernel_rfl) Tryz.ntmps127 (by rw[Tryz.results127]) rfl rfl
@[simp] theorem axQ:EF 128 Lh zg zm PV zl zo:=⟨rfl,rfl,rfl,rfl,rfl,rfl⟩
theorem ad9:RF 128 4 PV f128 [.tmp 2]:=ax rfl rfl Tryz.func128 rfl (by kernel_rfl) Tryz.ntmps128 (by rw[Tryz.results128]) rfl rfl
@[simp] theorem axR:EF 137 Li zg zm YA zl zo:=⟨rfl,rfl,rfl,rfl,rfl,rfl⟩
@[simp] theorem axS:EF 138 Lj zg zm PW zl zo:=⟨rfl,rfl,rfl,rfl,rfl,rfl⟩
theorem Uc:RF 138 19 PW f138 [.tmp 4]:=ax rfl rfl Tryz.func138 rfl (by kernel_rfl) Tryz.ntmps138 (by rw[Tryz.results138]) rfl rfl
@[simp] theorem axT:EF 139 Lk zg zm PX zl zo:=⟨rfl,rfl,rfl,rfl,rfl,rfl⟩
theorem Ud:RF 139 8 PX f139 [.tmp 3]:=ax rfl rfl Tryz.func139 rfl (by kernel_rfl) Tryz.ntmps139 (by rw[Tryz.results139]) rfl rfl
@[simp] theorem axU:EF 140 Ll zg YB YC zl zo:=⟨rfl,rfl,rfl,rfl,rfl,rfl⟩
@[simp] theorem axV:EF 141 Lm zg zm YD zl zo:=⟨rfl,rfl,rfl,rfl,rfl,rfl⟩
@[simp] theorem axW:EF 142 Ln zg zm PY zl zo:=⟨rfl,rfl,rfl,rfl,rfl,rfl⟩
theorem aea:RF 142 16 PY f142 []:=ax rfl rfl Tryz.func142 rfl (by kernel_rfl) Tryz.ntmps142 (by rw[Tryz.results142]) rfl rfl
@[simp] theorem axX:EF 143 Lo zg zm PZ zl YE:=⟨rfl,rfl,rfl,rfl,rfl,rfl⟩
theorem Ue:RF 143 51 PZ f143 []:=ax rfl rfl Tryz.func143 rfl (by kernel_rfl) Tryz.ntmps143 (by rw[Tryz.results143]) rfl rfl
@[simp] theorem axY:EF 144 Lp zg zm P0 zl zo:=⟨rfl,rfl,rfl,rfl,rfl,rfl⟩
theorem aeb:RF 144 33 P0 f144 [.tmp 4]:=ax rfl rfl Tryz.func144 rfl (by kernel_rfl) Tryz.ntmps144 (by rw[Tryz.results144]) rfl rfl
@[simp] theorem axZ:EF 145 Lq zg YF P1 zl zo:=⟨rfl,rfl,rfl,rfl,rfl,rfl⟩
theorem aec:RF 145 57 P1 f145 [.tmp 4]:=ax rfl rfl Tryz.func145 rfl (by kernel_rfl) Tryz.ntmps145 (by rw[Tryz.results145]) rfl rfl
@[simp] theorem ax0:EF 146 Lr zg zm P2 zl zo:=⟨rfl,rfl,rfl,rfl,rfl,rfl⟩
theorem aed:RF 146 6 P2 f146 [.tmp 2]:=ax rfl rfl Tryz.func146 rfl (by kernel_rfl) Tryz.ntmps146 (by rw[Tryz.results146]) rfl rfl
@[simp] theorem ax1:EF 147 Ls zg YG P3 zl zo:=⟨rfl,rfl,rfl,rfl,rfl,rfl⟩
theorem aee:RF 147 111 P3 f147 [.tmp 4]:=ax rfl rfl Tryz.func147 rfl (by kernel_rfl) Tryz.ntmps147 (by rw[Tryz.results147]) rfl rfl
@[simp] theorem ax2:EF 148 Lt zg zm P4 zl zo:=⟨rfl,rfl,rfl,rfl,rfl,rfl⟩
theorem aef:RF 148 35 P4 f148 [.tmp 4]:=ax rfl rfl Tryz.func148 rfl (by kernel_rfl) Tryz.ntmps148 (by rw[Tryz.results148]) rfl rfl
@[simp] theorem ax3:EF 149 Lu zg zm P5 zl YH:=⟨rfl,rfl,rfl,rfl,rfl,rfl⟩
theorem aeg:RF 149 71 P5 f149 []:=ax rfl rfl Tryz.func149 rfl (by kernel_rfl) Tryz.ntmps149 (by rw[Tryz.results149]) rfl rfl
@[simp] theorem ax4:EF 150 Lv zg YI P6 zl zo:=⟨rfl,rfl,rfl,rfl,rfl,rfl⟩
theorem aeh:RF 150 51 P6 f150 [.tmp 2]:=ax rfl rfl Tryz.func150 rfl (by kernel_rfl) Tryz.ntmps150 (by rw[Tryz.results150]) rfl rfl
@[simp] theorem ax5:EF 151 Lw zg zm P7 zl YJ:=⟨rfl,rfl,rfl,rfl,rfl,rfl⟩
theorem aei:RF 151 12 P7 f151 [.tmp 2]:=ax rfl rfl Tryz.func151 rfl (by kernel_rfl) Tryz.ntmps151 (by rw[Tryz.results151]) rfl rfl
@[simp] theorem ax6:EF 152 LA zg zm P8 zl zo:=⟨rfl,rfl,rfl,rfl,rfl,rfl⟩
theorem aej:RF 152 54 P8 f152 [.cell 4 55,.tmp 5]:=ax rfl rfl Tryz.func152 rfl (by kernel_rfl) Tryz.ntmps152 (by rw[Tryz.results152]) rfl rfl
@[simp] theorem ax7:EF 153 LC zg zm P9 zl YK:=⟨rfl,rfl,rfl,rfl,rfl,rfl⟩
theorem aek:RF 153 42 P9 f153 []:=ax rfl rfl Tryz.func153 rfl (by kernel_rfl) Tryz.ntmps153 (by rw[Tryz.results153]) rfl rfl
@[simp] theorem ax8:EF 154 LD zg zm YL zl zo:=⟨rfl,rfl,rfl,rfl,rfl,rfl⟩
@[simp] theorem ax9:EF 155 LF zg zm YM zl zo:=⟨rfl,rfl,rfl,rfl,rfl,rfl⟩
@[simp] theorem aya:EF 156 LG zg zm YN zl zo:=⟨rfl,rfl,rfl,rfl,rfl,rfl⟩
@[simp] theorem ayb:EF 157 LH zg zm YO zl zo:=⟨rfl,rfl,rfl,rfl,rfl,rfl⟩
@[simp] theorem ayc:EF 167 LJ zg zm Qa zl zo:=⟨rfl,rfl,rfl,rfl,rfl,rfl⟩
theorem ael:RF 167 4 Qa f167 [.tmp 2]:=ax rfl rfl Tryz.func167 rfl (by kernel_rfl) Tryz.ntmps167 (by rw[Tryz.results167]) rfl rfl
@[simp] theorem ayd:EF 179 LL zg YP Qb zl zo:=⟨rfl,rfl,rfl,rfl,rfl,rfl⟩
theorem aem:RF 179 32 Qb f179 [.cell 4 150,.tmp 5]:=ax rfl rfl Tryz.func179 rfl (by kernel_rfl) Tryz.ntmps179 (by rw[Tryz.results179]) rfl rfl
@[simp] theorem aye:EF 180 LM zg zm Qc zl zo:=⟨rfl,rfl,rfl,rfl,rfl,rfl⟩
theorem aen:RF 180 24 Qc f180 [.cell 4 30]:=ax rfl rfl Tryz.func180 rfl (by kernel_rfl) Tryz.ntmps180 (by rw[Tryz.results180]) rfl rfl
@[simp] theorem ayf:EF 191 LO zg zm Qd zl zo:=⟨rfl,rfl,rfl,rfl,rfl,rfl⟩
theorem aeo:RF 191 34 Qd f191 [.tmp 6,.tmp 7,.tmp 8]:=ax rfl rfl Tryz.func191 rfl (by kernel_rfl) Tryz.ntmps191 (by rw[Tryz.results191]) rfl rfl
@[simp] theorem ayg:EF 192 LP zg zm Qe zl zo:=⟨rfl,rfl,rfl,rfl,rfl,rfl⟩
theorem aep:RF 192 33 Qe f192 [.tmp 6,.tmp 7,.tmp 8]:=ax rfl rfl Tryz.func192 rfl (by kernel_rfl) Tryz.ntmps192 (by rw[Tryz.results192]) rfl rfl
@[simp] theorem ayh:EF 193 LQ zg zm Qf zl zo:=⟨rfl,rfl,rfl,rfl,rfl,rfl⟩
theorem aeq:RF 193 64 Qf f193 [.tmp 6,.tmp 7,.tmp 8]:=ax rfl rfl Tryz.func193 rfl (by kernel_rfl) Tryz.ntmps193 (by rw[Tryz.results193]) rfl rfl
@[simp] theorem ayi:EF 194 LR zg zm Qg zl zo:=⟨rfl,rfl,rfl,rfl,rfl,rfl⟩
theorem aer:RF 194 43 Qg f194 [.tmp 6,.tmp 7,.tmp 8]:=ax rfl rfl Tryz.func194 rfl (by kernel_rfl) Tryz.ntmps194 (by rw[Tryz.results194]) rfl rfl
@[simp] theorem ayj:EF 195 LS zg zm Qi zl YQ:=⟨rfl,rfl,rfl,rfl,rfl,rfl⟩
theorem Uf:RF 195 13 Qi f195 []:=ax rfl rfl Tryz.func195 rfl (by kernel_rfl) Tryz.ntmps195 (by rw[Tryz.results195]) rfl rfl
@[simp] theorem ayk:EF 199 LU zg zm YR zl zo:=⟨rfl,rfl,rfl,rfl,rfl,rfl⟩
@[simp] theorem ayl:EF 200 LV zg zm YS zl zo:=⟨rfl,rfl,rfl,rfl,rfl,rfl⟩
@[simp] theorem aym:EF 201 LW zg zm YT zl zo:=⟨rfl,rfl,rfl,rfl,rfl,rfl⟩
@[simp] theorem ayn:EF 202 LX zg zm Qj zl YU:=⟨rfl,rfl,rfl,rfl,rfl,rfl⟩
theorem aes:RF 202 25 Qj f202 [.tmp 4,.cell 5 64]:=ax rfl rfl Tryz.func202 rfl (by kernel_rfl) Tryz.ntmps202 (by rw[Tryz.results202]) rfl rfl
@[simp] theorem ayo:EF 203 LY zg zm Qk zl zo:=⟨rfl,rfl,rfl,rfl,rfl,rfl⟩
theorem aet:RF 203 14 Qk f203 [.tmp 4]:=ax rfl rfl Tryz.func203 rfl (by kernel_rfl) Tryz.ntmps203 (by rw[Tryz.results203]) rfl rfl
@[simp] theorem ayp:EF 204 LZ zg zm Ql zl zo:=⟨rfl,rfl,rfl,rfl,rfl,rfl⟩
theorem aeu:RF 204 25 Ql f204 [.tmp 6]:=ax rfl rfl Tryz.func204 rfl (by kernel_rfl) Tryz.ntmps204 (by rw[Tryz.results204]) rfl rfl
@[simp] theorem ayq:EF 205 L3 zg zm Qm zl zo:=⟨rfl,rfl,rfl,rfl,rfl,rfl⟩
theorem aev:RF 205 19 Qm f205 [.tmp 6]:=ax rfl rfl Tryz.func205 rfl (by kernel_rfl) Tryz.ntmps205 (by rw[Tryz.results205]) rfl rfl
@[simp] theorem ayr:EF 206 L4 zg zm Qn zl YV:=⟨rfl,rfl,rfl,rfl,rfl,rfl⟩
theorem aew:RF 206 41 Qn f206 [.tmp 6,.cell 7 150]:=ax rfl rfl Tryz.func206 rfl (by kernel_rfl) Tryz.ntmps206 (by rw[Tryz.results206]) rfl rfl
@[simp] theorem ays:EF 207 L5 zg zm YW zl zo:=⟨rfl,rfl,rfl,rfl,rfl,rfl⟩
@[simp] theorem ajx{args:List AV}{cs:List ay}:ah ctx 207 args cs=lN (ng To) args cs:=zj rfl rfl
@[simp] theorem ayt:EF 208 L6 zg zm Qo zl zo:=⟨rfl,rfl,rfl,rfl,rfl,rfl⟩
theorem aex:RF 208 8 Qo f208 [.tmp 4]:=ax rfl rfl Tryz.func208 rfl (by kernel_rfl) Tryz.ntmps208 (by rw[Tryz.results208]) rfl rfl
@[simp] theorem ayu:EF 209 L7 zg zm YX zl zo:=⟨rfl,rfl,rfl,rfl,rfl,rfl⟩
@[simp] theorem ajy{args:List AV}{cs:List ay}:ah ctx 209 args cs=lN (ng Iz) args cs:=zj rfl rfl
@[simp] theorem ayv:EF 210 L8 zg YY Qp zl zo:=⟨rfl,rfl,rfl,rfl,rfl,rfl⟩
theorem aey:RF 210 17 Qp f210 [.tmp 2]:=ax rfl rfl Tryz.func210 rfl (by kernel_rfl) Tryz.ntmps210 (by rw[Tryz.results210]) rfl rfl
@[simp] theorem ayw:EF 211 L9 zg YZ Qq zl zo:=⟨rfl,rfl,rfl,rfl,rfl,rfl⟩
theorem Ug:RF 211 20 Qq f211 [.tmp 4]:=ax rfl rfl Tryz.func211 rfl (by kernel_rfl) Tryz.ntmps211 (by rw[Tryz.results211]) rfl rfl
@[simp] theorem ayx:EF 212 Ma zg Y0 Qr zl zo:=⟨rfl,rfl,rfl,rfl,rfl,rfl⟩
theorem aez:RF 212 13 Qr f212 [.tmp 2]:=ax rfl rfl Tryz.func212 rfl (by kernel_rfl) Tryz.ntmps212 (by rw[Tryz.results212]) rfl rfl
@[simp] theorem ayy:EF 213 Mb zg zm Qs zl zo:=⟨rfl,rfl,rfl,rfl,rfl,rfl⟩
theorem aeA:RF 213 6 Qs f213 [.tmp 2]:=ax rfl rfl Tryz.func213 rfl (by kernel_rfl) Tryz.ntmps213 (by rw[Tryz.results213]) rfl rfl
@[simp] theorem ayz:EF 214 Md zg zm Qt zl zo:=⟨rfl,rfl,rfl,rfl,rfl,rfl⟩
theorem aeB:RF 214 9 Qt f214 [.tmp 2]:=ax rfl rfl Tryz.func214 rfl (by kernel_rfl) Tryz.ntmps214 (by rw[Tryz.results214]) rfl rfl
@[simp] theorem ayA:EF 215 Me zg Y1 Qu zl Y2:=⟨rfl,rfl,rfl,rfl,rfl,rfl⟩
theorem aeC:RF 215 83 Qu f215 [.tmp 2,.tmp 3,.tmp 4]:=ax rfl rfl Tryz.func215 rfl (by kernel_rfl) Tryz.ntmps215 (by rw[Tryz.results215]) rfl rfl
@[simp] theorem ayB:EF 216 Mf zg zm Qv zl zo:=⟨rfl,rfl,rfl,rfl,rfl,rfl⟩
theorem aeD:RF 216 19 Qv f216 [.tmp 2]:=ax rfl rfl Tryz.func216 rfl (by kernel_rfl) Tryz.ntmps216 (by rw[Tryz.results216]) rfl rfl
@[simp] theorem ayC:EF 217 Mg zg zm Y3 zl zo:=⟨rfl,rfl,rfl,rfl,rfl,rfl⟩
@[simp] theorem ayD:EF 218 Mh zg zm Y4 zl zo:=⟨rfl,rfl,rfl,rfl,rfl,rfl⟩
@[simp] theorem ayE:EF 219 Mi zg zm Y6 zl Y5:=⟨rfl,rfl,rfl,rfl,rfl,rfl⟩
@[simp] theorem ayF:EF 220 Mj zg zm Za zl zo:=⟨rfl,rfl,rfl,rfl,rfl,rfl⟩
@[simp] theorem ayG:EF 221 Ml zg zm Zc zl Zb:=⟨rfl,rfl,rfl,rfl,rfl,rfl⟩
@[simp] theorem ayH:EF 222 Mm zg zm Zd zl zo:=⟨rfl,rfl,rfl,rfl,rfl,rfl⟩
@[simp] theorem ayI:EF 223 Mn zg zm Ze zl zo:=⟨rfl,rfl,rfl,rfl,rfl,rfl⟩
@[simp] theorem ayJ:EF 224 Mo zg zm Zf zl zo:=⟨rfl,rfl,rfl,rfl,rfl,rfl⟩
@[simp] theorem ayK:EF 233 Mp zg zm Qw zl zo:=⟨rfl,rfl,rfl,rfl,rfl,rfl⟩
theorem aeE:RF 233 19 Qw f233 [.tmp 4]:=ax rfl rfl Tryz.func233 rfl (by kernel_rfl) Tryz.ntmps233 (by rw[Tryz.results233]) rfl rfl
@[simp] theorem ayL:EF 241 Mq zg zm Qx zl zo:=⟨rfl,rfl,rfl,rfl,rfl,rfl⟩
theorem aeF:RF 241 19 Qx f241 [.tmp 4]:=ax rfl rfl Tryz.func241 rfl (by kernel_rfl) Tryz.ntmps241 (by rw[Tryz.results241]) rfl rfl
@[simp] theorem ayM:EF 243 Mr zg zm Qy zl zo:=⟨rfl,rfl,rfl,rfl,rfl,rfl⟩
theorem aeG:RF 243 23 Qy f243 [.tmp 4,.tmp 5]:=ax rfl rfl Tryz.func243 rfl (by kernel_rfl) Tryz.ntmps243 (by rw[Tryz.results243]) rfl rfl
@[simp] theorem ayN:EF 244 Mt zg zm Qz zl zo:=⟨rfl,rfl,rfl,rfl,rfl,rfl⟩
theorem aeH:RF 244 23 Qz f244 [.tmp 4,.tmp 5]:=ax rfl rfl Tryz.func244 rfl (by kernel_rfl) Tryz.ntmps244 (by rw[Tryz.results244]) rfl rfl
@[simp] theorem ayO:EF 245 Mu zg zm QA zl zo:=⟨rfl,rfl,rfl,rfl,rfl,rfl⟩
theorem aeI:RF 245 27 QA f245 [.tmp 4,.tmp 5]:=ax rfl rfl Tryz.func245 rfl (by kernel_rfl) Tryz.ntmps245 (by rw[Tryz.results245]) rfl rfl
@[simp] theorem ayP:EF 246 Mv zg zm QB zl zo:=⟨rfl,rfl,rfl,rfl,rfl,rfl⟩
theorem aeJ:RF 246 19 QB f246 [.tmp 4,.tmp 5]:=ax rfl rfl Tryz.func246 rfl (by kernel_rfl) Tryz.ntmps246 (by rw[Tryz.results246]) rfl rfl
@[simp] theorem ayQ:EF 247 Mw zg zm QC zl zo:=⟨rfl,rfl,rfl,rfl,rfl,rfl⟩
theorem aeK:RF 247 14 QC f247 [.tmp 4,.tmp 5]:=ax rfl rfl Tryz.func247 rfl (by kernel_rfl) Tryz.ntmps247 (by rw[Tryz.results247]) rfl rfl
@[simp] theorem ayR:EF 248 Mx zg Zg Zh zl zo:=⟨rfl,rfl,rfl,rfl,rfl,rfl⟩
@[simp] theorem ayS:EF 249 My zg Zi Zj zl zo:=⟨rfl,rfl,rfl,rfl,rfl,rfl⟩
@[simp] theorem ayT:EF 250 Mz zg zm QD zl zo:=⟨rfl,rfl,rfl,rfl,rfl,rfl⟩
theorem aeL:RF 250 12 QD f250 [.tmp 4]:=ax rfl rfl Tryz.func250 rfl (by kernel_rfl) Tryz.ntmps250 (by rw[Tryz.results250]) rfl rfl
@[simp] theorem ayU:EF 251 MA zg zm QE zl Zk:=⟨rfl,rfl,rfl,rfl,rfl,rfl⟩
theorem s7:RF 251 133 QE f251 [.tmp 4,.tmp 5]:=ax rfl rfl Tryz.func251 rfl (by kernel_rfl) Tryz.ntmps251 (by rw[Tryz.results251]) rfl rfl
@[simp] theorem ayV:EF 252 MB zg zm QF zl zo:=⟨rfl,rfl,rfl,rfl,rfl,rfl⟩
theorem aeM:RF 252 8 QF f252 [.tmp 3]:=ax rfl rfl Tryz.func252 rfl (by kernel_rfl) Tryz.ntmps252 (by rw[Tryz.results252]) rfl rfl
@[simp] theorem ayW:EF 253 MD zg Zl Zm zl zo:=⟨rfl,rfl,rfl,rfl,rfl,rfl⟩
@[simp] theorem ayX:EF 254 ME zg zm Zn zl zo:=⟨rfl,rfl,rfl,rfl,rfl,rfl⟩
@[simp] theorem ajz{args:List AV}{cs:List ay}:ah ctx 254 args cs=lN (ng Tn) args cs:=zj rfl rfl
@[simp] theorem ayY:EF 255 MF zg Zo Zp zl zo:=⟨rfl,rfl,rfl,rfl,rfl,rfl⟩
@[simp] theorem ayZ:EF 256 MG zg zm QG zl zo:=⟨rfl,rfl,rfl,rfl,rfl,rfl⟩
theorem aeN:RF 256 9 QG f256 [.tmp 4]:=ax rfl rfl Tryz.func256 rfl (by kernel_rfl) Tryz.ntmps256 (by rw[Tryz.results256]) rfl rfl
@[simp] theorem ay0:EF 257 MH zg zm QH zl Zq:=⟨rfl,rfl,rfl,rfl,rfl,rfl⟩
theorem aeO:RF 257 8 QH f257 [.tmp 3]:=ax rfl rfl Tryz.func257 rfl (by kernel_rfl) Tryz.ntmps257 (by rw[Tryz.results257]) rfl rfl
@[simp] theorem ay1:EF 258 MI zg zm QI zl zo:=⟨rfl,rfl,rfl,rfl,rfl,rfl⟩
theorem aeP:RF 258 20 QI f258 [.tmp 2]:=ax rfl rfl Tryz.func258 rfl (by kernel_rfl) Tryz.ntmps258 (by rw[Tryz.results258]) rfl rfl
@[simp] theorem ay2:EF 259 MJ zg zm Zr zl zo:=⟨rfl,rfl,rfl,rfl,rfl,rfl⟩
@[simp] theorem ay3:EF 260 ML zg zm Zs zl zo:=⟨rfl,rfl,rfl,rfl,rfl,rfl⟩
@[simp] theorem ay4:EF 261 MM zg zm Zt zl zo:=⟨rfl,rfl,rfl,rfl,rfl,rfl⟩
@[simp] theorem ay5:EF 262 MN zg zm Zu zl zo:=⟨rfl,rfl,rfl,rfl,rfl,rfl⟩
@[simp] theorem ay6:EF 263 MO zg zm Zw zl Zv:=⟨rfl,rfl,rfl,rfl,rfl,rfl⟩
@[simp] theorem ay7:EF 264 MP zg zm Zx zl zo:=⟨rfl,rfl,rfl,rfl,rfl,rfl⟩
@[simp] theorem ay8:EF 276 MQ zg zm QJ zl zo:=⟨rfl,rfl,rfl,rfl,rfl,rfl⟩
theorem aeQ:RF 276 51 QJ f276 [.tmp 4,.tmp 5]:=ax rfl rfl Tryz.func276 rfl (by kernel_rfl) Tryz.ntmps276 (by rw[Tryz.results276]) rfl rfl
@[simp] theorem ay9:EF 277 MR zg zm QK zl zo:=⟨rfl,rfl,rfl,rfl,rfl,rfl⟩
theorem aeR:RF 277 10 QK f277 [.tmp 2]:=ax rfl rfl Tryz.func277 rfl (by kernel_rfl) Tryz.ntmps277 (by rw[Tryz.results277]) rfl rfl
@[simp] theorem aza:EF 278 MS zg zm QL zl zo:=⟨rfl,rfl,rfl,rfl,rfl,rfl⟩
theorem aeS:RF 278 24 QL f278 [.tmp 4,.tmp 5]:=ax rfl rfl Tryz.func278 rfl (by kernel_rfl) Tryz.ntmps278 (by rw[Tryz.results278]) rfl rfl
@[simp] theorem azb:EF 279 MT zg zm Zz zl Zy:=⟨rfl,rfl,rfl,rfl,rfl,rfl⟩
@[simp] theorem azc:EF 280 MU zg zm ZB zl ZA:=⟨rfl,rfl,rfl,rfl,rfl,rfl⟩
@[simp] theorem azd:EF 281 MV zg zm QM zl zo:=⟨rfl,rfl,rfl,rfl,rfl,rfl⟩
theorem aeT:RF 281 8 QM f281 [.tmp 3]:=ax rfl rfl Tryz.func281 rfl (by kernel_rfl) Tryz.ntmps281 (by rw[Tryz.results281]) rfl rfl
@[simp] theorem aze:EF 282 MW zg zm QN zl zo:=⟨rfl,rfl,rfl,rfl,rfl,rfl⟩
theorem aeU:RF 282 25 QN f282 [.tmp 6]:=ax rfl rfl Tryz.func282 rfl (by kernel_rfl) Tryz.ntmps282 (by rw[Tryz.results282]) rfl rfl
@[simp] theorem azf:EF 285 MX zg zm ZC zl zo:=⟨rfl,rfl,rfl,rfl,rfl,rfl⟩
@[simp] theorem azg:EF 286 MY zg ZD ZE zl zo:=⟨rfl,rfl,rfl,rfl,rfl,rfl⟩
@[simp] theorem azh:EF 287 MZ zg zm QO zl zo:=⟨rfl,rfl,rfl,rfl,rfl,rfl⟩
theorem aeV:RF 287 19 QO f287 [.tmp 4]:=ax rfl rfl Tryz.func287 rfl (by kernel_rfl) Tryz.ntmps287 (by rw[Tryz.results287]) rfl rfl
@[simp] theorem azi:EF 288 M0 zg zm ZF zl zo:=⟨rfl,rfl,rfl,rfl,rfl,rfl⟩
@[simp] theorem azj:EF 289 M1 zg zm ZH zl ZG:=⟨rfl,rfl,rfl,rfl,rfl,rfl⟩
@[simp] theorem azk:EF 290 M3 zg zm ZI zl zo:=⟨rfl,rfl,rfl,rfl,rfl,rfl⟩
@[simp] theorem azl:EF 291 M4 zg zm ZJ zl zo:=⟨rfl,rfl,rfl,rfl,rfl,rfl⟩
@[simp] theorem azm:EF 292 M5 ZL zm ZM zl ZK:=⟨rfl,rfl,rfl,rfl,rfl,rfl⟩
@[simp] theorem azn:EF 293 M6 ZP ZN ZQ zl ZO:=⟨rfl,rfl,rfl,rfl,rfl,rfl⟩
@[simp] theorem azo:EF 294 M7 zg zm ZS zl ZR:=⟨rfl,rfl,rfl,rfl,rfl,rfl⟩
@[simp] theorem azp:EF 295 M8 zg zm ZT zl zo:=⟨rfl,rfl,rfl,rfl,rfl,rfl⟩
@[simp] theorem azq:EF 296 M9 ZV zm ZW zl ZU:=⟨rfl,rfl,rfl,rfl,rfl,rfl⟩
@[simp] theorem azr:EF 297 Na zg zm ZX zl zo:=⟨rfl,rfl,rfl,rfl,rfl,rfl⟩
@[simp] theorem azs:EF 306 Nb zg zm QP zl zo:=⟨rfl,rfl,rfl,rfl,rfl,rfl⟩
theorem aeW:RF 306 4 QP f306 [.tmp 2]:=ax rfl rfl Tryz.func306 rfl (by kernel_rfl) Tryz.ntmps306 (by rw[Tryz.results306]) rfl rfl
@[simp] theorem azt:EF 307 Nc zg zm ZY zl zo:=⟨rfl,rfl,rfl,rfl,rfl,rfl⟩
@[simp] theorem azu:EF 308 Nd zg zm ZZ zl zo:=⟨rfl,rfl,rfl,rfl,rfl,rfl⟩
@[simp] theorem azv:EF 309 Nf zg Z0 Z1 zl zo:=⟨rfl,rfl,rfl,rfl,rfl,rfl⟩
@[simp] theorem azw:EF 310 Ng zg zm Z2 zl zo:=⟨rfl,rfl,rfl,rfl,rfl,rfl⟩
@[simp] theorem azx:EF 311 Nh zg zm Z4 zl Z3:=⟨rfl,rfl,rfl,rfl,rfl,rfl⟩
@[simp] theorem azy:EF 314 Ni zg zm Z5 zl zo:=⟨rfl,rfl,rfl,rfl,rfl,rfl⟩
@[simp] theorem azz:EF 315 Nj zg zm Z7 zl Z6:=⟨rfl,rfl,rfl,rfl,rfl,rfl⟩
@[simp] theorem azA:EF 316 Nk zg zm Z8 zl zo:=⟨rfl,rfl,rfl,rfl,rfl,rfl⟩
@[simp] theorem azB:EF 318 Nl zg zm aaa zl Z9:=⟨rfl,rfl,rfl,rfl,rfl,rfl⟩
end Go.Am
end
section
namespace Go.Am
@[simp] def pA(t:eJ):D:=.agg [.int .i64 t.kind,.str t.text,.int .i64 t.n,.int .i64 t.line,.int .i64 t.Dl]
end Go.Am
end
section
namespace Go.Am
open Go
def gI(op:Int):Nat:=if op=4\/op=6\/op=7 then 1 else if 7<op then 2 else 0
mutual
def dJ:Ex->Bool
 | .mk op n name field sub _=>
  !decide ((op=1/\n<0)\/(op=2/\(n<0\/1<n))\/(2<op/\n≠0)\/op<1\/21<op)&&
  (decide (sub.length=gI op)&&((if op=3\/op=4\/op=5 then cL name else decide (name=[]))&&((if op=5 then cL field else decide (field=[]))&&cS sub)))
def cS:List Ex->Bool
 |[]=>true
 |x::r=>dJ x&&cS r
end
theorem zF:∀l:List Ex,cS l=true↔∀x∈l,dJ x=true
 |[]=>by simp[cS]
 |x::r=>by simp[cS,zF r]
def fw(x:Ex):Bool:=decide (cB x=0)&&(decide (iN x=0)&&decide ((ec x).length+(fa x).length+(cR x).length=0))
def zG(l:List Int):Bool:=!decide (l.length=0)&&(decide (l.length%2=0)&&l.all λn=>decide (n≠ -9223372036854775808))
def gO(op:Int)(D H fields A:Nat):Bool:=
 if op=2 then decide (D=max 1 D)&&(decide (H=0)&&(decide (fields=0)&&(decide (max 1 D<=A)&&decide (A<=max 1 D+1))))
 else if op=3 then decide (D=0)&&(decide (fields=0)&&(decide (H<=A)&&decide (A<=H+1)))
 else if op=4 then decide (D=3)&&(decide (H=0)&&(decide (fields=0)&&decide (A=1)))
 else if op=5\/op=6 then decide (D=0)&&(decide (H=0)&&(decide (fields=0)&&decide (A=1)))
 else if op=9 then decide (D=fields)&&(decide (H=0)&&decide (A=0))
 else decide (D=0)&&(decide (H=0)&&(decide (fields=0)&&decide (A=0)))
mutual
def nu:Sm->Bool
 | .mk op name to val D H fields A _=>
  decide (1<=op/\op<=9)&&((if op=4\/op=9 then cL name else decide (name=[]))&&
  ((if op=1 then decide (cB to=3\/cB to=4)&&dJ to else fw to)&&
  ((if op=1\/op=3\/op=5\/op=6 then !fw val&&dJ val else fw val)&&
  (cS D&&(gO op D.length H.length fields.length A.length&&
  (fields.all cL&&(H.all zG&&dL A)))))))
def ej:List Sm->Bool
 |[]=>true
 |x::r=>nu x&&ej r
def dL:List (List Sm)->Bool
 |[]=>true
 |b::r=>ej b&&dL r
end
def pU(k:Int):Bool:=(br k).length≠0
def dB(v:Vr):Bool:=
 cL v.name&&(decide (0<=v.sec/\v.sec<=2)&&(decide (v.ty=1\/v.ty=2)||pU v.ty)&&
 ((if v.arr=true then decide (v.ty<=2/\0<=v.lo/\v.lo<=v.hi/\v.hi<=255)else decide (v.lo=0/\v.hi=0))&&
 !decide (((v.arr=true\/2<v.ty)/\v.init≠0)\/(v.ty=2/\(v.init<0\/1<v.init))\/v.init= -9223372036854775808)))
def mG(p:Pg):Bool:=cL p.name&&(decide (p.vars.length<=64)&&(p.vars.all dB&&ej p.body))
abbrev EL:=Int×Int
def eS(a b:EL):EL:=if a.1≠0 then a else b
def FR(a:Te):EL:=(a.e,a.line)
def asE(vs:List Vr)(to val:Ex)(line:Int):EL:=
 match bu vs (ec to)with
 |none=>(9,m5 to)
 |some v=>if v.sec=1 then (1,m5 to)else eS (FR (aR vs to)) (eS (FR (aR vs val)) (if (aR vs val).t≠(aR vs to).t then (10,line)else (0,0)))
def lX(vs:List Vr)(t:Int):List Ex->EL
 |[]=>(0,0)
 |x::r=>eS (dy vs x t) (lX vs t r)
def jt(vs:List Vr)(k line:Int):List Tx->List Ex->List Tx->EL
 |f::I,x::xs,p=>match lW k f with
  |none=>(9,line)
  |some q=>if q.Iy=false then (9,line)else if f∈p then (11,line)else eS (dy vs x q.ty) (jt vs k line I xs (p++[f]))
 |_,_,_=>(0,0)
mutual
def zH(vs:List Vr)(E:Bool):Sm->EL
 | .mk op name to val D _ fields A line=>
  if op=1 then asE vs to val line
  else if op=2 then fJ vs E D A
  else if op=3 then eS (dy vs val 1) (fJ vs E [] A)
  else if op=4 then (match bu vs name with
   |none=>(9,line)
   |some v=>if v.sec=1 then (1,line)else if v.arr=true\/v.ty≠1 then (10,line)else eS (lX vs 1 D) (s8 vs A))
  else if op=5 then eS (dy vs val 2) (s8 vs A)
  else if op=6 then eS (s8 vs A) (dy vs val 2)
  else if op=7 then (if E=true then (0,0)else (14,line))
  else if op=9 then (match bu vs name with
   |none=>(9,line)
   |some v=>if v.ty<=2 then (10,line)else jt vs v.ty line fields D [])
  else (0,0)
def dW(vs:List Vr)(E:Bool):List Sm->EL
 |[]=>(0,0)
 |x::r=>eS (zH vs E x) (dW vs E r)
def fJ(vs:List Vr)(E:Bool):List Ex->List (List Sm)->EL
 |_,[]=>(0,0)
 |[],b::r=>eS (dW vs E b) (fJ vs E [] r)
 |c::cs,b::r=>eS (dy vs c 2) (eS (dW vs E b) (fJ vs E cs r))
def s8(vs:List Vr):List (List Sm)->EL
 |[]=>(0,0)
 |b::_=>dW vs true b
end
def FT:List Vr->List Vr->Int->EL
 |[],_,_=>(0,0)
 |v::r,p,n=>if (bu p v.name).isSome then (11,v.line)else if 1024<n+b5 v then (13,v.line)else FT r (p++[v]) (n+b5 v)
def lY(p:Pg):EL:=eS (FT p.vars [] 0) (dW p.vars false p.body)
def iO{α:Type}(p:α->Bool):List α->Nat->Int
 |[],_=> -1
 |x::r,i=>if p x=true then i else iO p r (i+1)
theorem xk{α:Type}(p:α->Bool):∀(l:List α)(i:Nat),iO p l i= -1\/(i<=iO p l i/\iO p l i<i+l.length)
 |[],i=>.inl rfl
 |x::r,i=>by
  unfold iO;split
  ·right;simp;omega
  ·rcases xk p r (i+1)with h|h
   ·exact .inl h
   ·right;simp only[ab1];omega
end Go.Am
end
section
namespace Go.Am
open Go Go.Proofs
variable [Inhabited bA]
set_option maxRecDepth 20000
@[simp] theorem asH(a b:Tx):(a == b)=decide (a=b):=by by_cases h:a=b<;>simp[h]
end Go.Am
end
section
namespace Go.Am
open Go Go.Proofs Go.Proofs.Tryz
variable [Inhabited bA]
set_option maxRecDepth 20000
theorem apG:ah ctx 54 [.d (.int .i64 10)] []=some (.ret (.d (.list ((br 10).map cE))),[]):=bk 120 (by kernel_rfl)
theorem apH:ah ctx 54 [.d (.int .i64 11)] []=some (.ret (.d (.list ((br 11).map cE))),[]):=bk 120 (by kernel_rfl)
theorem apI:ah ctx 54 [.d (.int .i64 12)] []=some (.ret (.d (.list ((br 12).map cE))),[]):=bk 120 (by kernel_rfl)
theorem apJ:ah ctx 54 [.d (.int .i64 13)] []=some (.ret (.d (.list ((br 13).map cE))),[]):=bk 120 (by kernel_rfl)
theorem apK:ah ctx 54 [.d (.int .i64 14)] []=some (.ret (.d (.list ((br 14).map cE))),[]):=bk 120 (by kernel_rfl)
theorem apL:ah ctx 54 [.d (.int .i64 15)] []=some (.ret (.d (.list ((br 15).map cE))),[]):=bk 120 (by kernel_rfl)
theorem apM:ah ctx 54 [.d (.int .i64 16)] []=some (.ret (.d (.list ((br 16).map cE))),[]):=bk 120 (by kernel_rfl)
theorem apN:ah ctx 54 [.d (.int .i64 17)] []=some (.ret (.d (.list ((br 17).map cE))),[]):=bk 120 (by kernel_rfl)
theorem apO:ah ctx 54 [.d (.int .i64 18)] []=some (.ret (.d (.list ((br 18).map cE))),[]):=bk 120 (by kernel_rfl)
theorem apP:ah ctx 54 [.d (.int .i64 20)] []=some (.ret (.d (.list ((br 20).map cE))),[]):=bk 120 (by kernel_rfl)
theorem apQ:ah ctx 54 [.d (.int .i64 21)] []=some (.ret (.d (.list ((br 21).map cE))),[]):=bk 120 (by kernel_rfl)
theorem apR:ah ctx 54 [.d (.int .i64 22)] []=some (.ret (.d (.list ((br 22).map cE))),[]):=bk 120 (by kernel_rfl)
theorem apS:ah ctx 54 [.d (.int .i64 23)] []=some (.ret (.d (.list ((br 23).map cE))),[]):=bk 120 (by kernel_rfl)
theorem apT:ah ctx 54 [.d (.int .i64 24)] []=some (.ret (.d (.list ((br 24).map cE))),[]):=bk 120 (by kernel_rfl)
theorem apU:ah ctx 54 [.d (.int .i64 25)] []=some (.ret (.d (.list ((br 25).map cE))),[]):=bk 120 (by kernel_rfl)
theorem apV:ah ctx 54 [.d (.int .i64 26)] []=some (.ret (.d (.list ((br 26).map cE))),[]):=bk 120 (by kernel_rfl)
theorem apW:ah ctx 54 [.d (.int .i64 27)] []=some (.ret (.d (.list ((br 27).map cE))),[]):=bk 120 (by kernel_rfl)
theorem apX:ah ctx 54 [.d (.int .i64 28)] []=some (.ret (.d (.list ((br 28).map cE))),[]):=bk 120 (by kernel_rfl)
theorem apY:ah ctx 54 [.d (.int .i64 29)] []=some (.ret (.d (.list ((br 29).map cE))),[]):=bk 120 (by kernel_rfl)
theorem apZ:ah ctx 54 [.d (.int .i64 30)] []=some (.ret (.d (.list ((br 30).map cE))),[]):=bk 120 (by kernel_rfl)
theorem ap0:ah ctx 54 [.d (.int .i64 31)] []=some (.ret (.d (.list ((br 31).map cE))),[]):=bk 120 (by kernel_rfl)
def ou:D->Option Int
 | .agg [.int .i64 k,.str _,.str _,.str _,.int .i64 _]=>some k
 |_=>none
theorem A8{d:D}{k:Int}(h:ou d=some k):∃a b c n,d=.agg [.int .i64 k,.str a,.str b,.str c,.int .i64 n]:=by
 unfold ou at h;split at h
 ·rename_i A' a b c n;cases h;exact⟨a,b,c,n,rfl⟩
 ·cases h
def Nn:Option (Out×List (Nat×ay))->Option (List (Option Int))
 |some (.ret (.d (.list l)),[])=>some (l.map ou)
 |_=>none
theorem aeX:Nn (aF ctx 120 137 [] [])=some (ka.map some):=by kernel_rfl
theorem WL:∃l:List D,ah ctx 137 [] []=some (.ret (.d (.list l)),[])/\l.map ou=ka.map some:=by
 have h:=aeX;generalize T:aF ctx 120 137 [] []=r at h;unfold Nn at h;split at h
 ·rename_i l;exact⟨l,bk 120 T,by simpa using h⟩
 ·cases h
theorem WM(d:D)(k b:Int)(E:ou d=some k):ah ctx 139 [.d d,.ptr 0 0 0] [.box [.d (.int .i64 b)]]=some (.ret (.d (.bool (decide (k=b)))),[(0,.box [.d (.int .i64 b)])]):=by
 obtain⟨a,e,c,n,rfl⟩:=A8 E;rw[Ud (by simp)];simp[f139]
theorem A9(b:Int):∀(rest pre:List D),(∀d∈rest,∃k,ou d=some k/\k≠b)->(pre++rest).length<1000->∀k:Kt,
 aI ctx 138 (.loop (Code.at (bm f138) [1,0,1,0,0])) ⟨19,aA,[(0,true,.d (.list (pre++rest))),(1,true,.fn 139 [.ptr 0 0 0]),(7,true,.d (.int .i64 (pre++rest).length)),(8,true,.d (.int .i64 pre.length))],[⟨0,0,.box [.d (.int .i64 b)]⟩]⟩ k=
  k (.exit 0) ⟨19,aA,[(0,true,.d (.list (pre++rest))),(1,true,.fn 139 [.ptr 0 0 0]),(7,true,.d (.int .i64 (pre++rest).length)),(8,true,.d (.int .i64 (pre++rest).length)),(9,true,.d (.bool false))],[⟨0,0,.box [.d (.int .i64 b)]⟩]⟩
 |[],pre,h,H,k=>by
  rw[ai];simp[f138]
 |d::rest,pre,h,H,k=>by
  obtain⟨M,I,U⟩:=h d (by simp);have N:=WM d M b I;obtain⟨V,a2,a3,a4,rfl⟩:=A8 I;have ih:=A9 b rest (pre++[.agg [.int .i64 M,.str V,.str a2,.str a3,.int .i64 a4]]) (λd E=>h d (by simp[E])) (by simpa using H) k;have J:(pre.length:Int)<pre.length+(rest.length+1):=by omega
  have Y:IntKind.i64.wrap ((pre.length:Int)+1)=pre.length+1:=aE (by unfold aG;simp at H;omega);simp[U]at N;rw[ai];simp[f138]at ih⊢;simp[J,Y,N,ih]
theorem QR(b:Int)(A:b∉ka):ah ctx 54 [.d (.int .i64 b)] []=some (.ret (.d (.list [])),[]):=by
 obtain⟨l,H,hm⟩:=WL;have A0:l.length=21:=by have:=ac8 List.length hm;simpa [ka]using this
 have Z:∀d∈l,∃k,ou d=some k/\k≠b:=by
  intro d E;have J:ou d∈l.map ou:=abY E;rw[hm]at J;obtain⟨k,I,he⟩:=acb.1 J;exact⟨k,he.symm,λh=>A (h▸I)⟩
 have O:=A9 b l [] Z (by simp;omega);have q:ah ctx 138 [.d (.list l),.fn 139 [.ptr 0 0 0]] [.box [.d (.int .i64 b)]]=some (.ret (.d (.int .i64 (-1))),[(0,.box [.d (.int .i64 b)])]):=by
  rw[Uc (by simp)];simp[f138]at O⊢;simp[O]
 have y:ah ctx 89 [.d (.int .i64 b)] []=some (.ret (.bM [.d (.agg [.int .i64 0,.str [],.str [],.str [],.int .i64 0]),.d (.bool false)]),[]):=by
  rw[aae (by simp)];simp[f89,H,q]
 rw[aac (by simp)];simp[f54,y]
theorem EC(b:Int):ah ctx 54 [.d (.int .i64 b)] []=some (.ret (.d (.list ((br b).map cE))),[]):=by
 by_cases A:b∈ka
 ·simp only[ka,aan,acX,akI]at A;rcases A with rfl|rfl|rfl|rfl|rfl|rfl|rfl|rfl|rfl|rfl|rfl|rfl|rfl|rfl|rfl|rfl|rfl|rfl|rfl|rfl|rfl
  ·exact apG
  ·exact apH
  ·exact apI
  ·exact apJ
  ·exact apK
  ·exact apL
  ·exact apM
  ·exact apN
  ·exact apO
  ·exact apP
  ·exact apQ
  ·exact apR
  ·exact apS
  ·exact apT
  ·exact apU
  ·exact apV
  ·exact apW
  ·exact apX
  ·exact apY
  ·exact apZ
  ·exact ap0
 ·rw[xh A];exact QR b A
end Go.Am
end
section
namespace Go.Am
open Go Go.Proofs
variable [Inhabited bA]
set_option maxRecDepth 20000
def rk:Vr:=⟨[],0,0,false,0,0,0,0⟩
def fV(vs:List Vr)(s:Tx):Vr:=(bu vs s).getD rk
def tZ:Pn:=⟨[],0,false⟩
def fP(k:Int)(s:Tx):Pn:=(lW k s).getD tZ
end Go.Am
end
section
namespace Go.Am
open Go Go.Proofs Go.Proofs.Tryz
variable [Inhabited bA]
set_option maxRecDepth 20000
@[simp] def QS(t:Tx):D:=.str t
theorem Dt(s:Tx)(l:List Tx)(Z:l.length<=1000)(k:Kt)(R1 R2:bW)
 (E:k .ret ⟨15,aA,[(2,true,.d (.bool true))],[]⟩=R1)
 (A:∀Y:Env,k (.exit 0) ⟨15,aA,Y,[]⟩=R2):∀(rest:List Tx)(j:Nat),l.drop j=rest->j+rest.length=l.length->
 aI ctx 66 (.loop (Code.at (bm f66) [1,0,1,0,0])) ⟨15,aA,[(0,true,.d (.str s)),(5,true,.d (.list (l.map QS))),(6,true,.d (.int .i64 l.length)),(7,true,.d (.int .i64 j))],[]⟩ k=if s∈rest then R1 else R2
 |[],j,I,H=>by
  have H:j=l.length:=by simpa using H
  subst H;rw[ai];simp[f66,A]
 |x::rest,j,I,H=>by
  have M:j<l.length:=by simp at H;omega
  have U:l[j]=x:=by
   have:=ac8 (·[0]?) I;simp at this;simpa [M]using this
  have ih:=Dt s l Z k R1 R2 E A rest (j+1) (by rw[<-akE,I];rfl) (by simp at H;omega);have N:IntKind.i64.wrap ((j:Int)+1)=(j:Int)+1:=aE (by unfold aG;omega);rw[ai];by_cases q:x=s
  ·simp[f66];simp[M,U,q,E]
  ·have A2:¬s=x:=λh=>q h.symm;simp[f66]at ih⊢;simp[M,U,q,A2,N,ih]
theorem Uh(s:Tx):ah ctx 66 [.d (.str s)] []=some (.ret (.d (.bool (tW s))),[]):=by
 have O:=λk R1 R2 E A=>Dt s jr (by decide) k R1 R2 E A jr 0 rfl (by decide);have e:List.map QS jr=jr.map QS:=rfl;have A6:jr.length=36:=rfl;have A3:List.range' 0 36=[0,1,2,3,4,5,6,7,8,9,10,11,12,13,14,15,16,17,18,19,20,21,22,23,24,25,26,27,28,29,30,31,32,33,34,35]:=rfl;rw[ajp (by simp)];unfold tW;generalize y:decide (s∈jr)=B;simp[f66,jr]at O;simp[f66,A3];rw[O _ (some (.ret (.d (.bool true)),[])) (some (.ret (.d (.bool false)),[])) (by simp) (by simp)];subst y;by_cases hm:s∈jr
 ·rw[akt hm];simp only[jr,aan,acX,akI]at hm;rw[aap hm]
 ·rw[decide_eq_false hm];simp only[jr,aan,acX,akI]at hm;rw[aah hm]
theorem Du(s:Tx)(Z:s.length<=16)(k:Kt)(R1 R2:bW)
 (E:k .ret ⟨59,aA,[(2,true,.d (.bool false))],[]⟩=R1)
 (A:∀Y:Env,k (.exit 0) ⟨59,aA,Y,[]⟩=R2):∀(rest:Tx)(j:Nat),s.drop j=rest->j+rest.length=s.length->
 aI ctx 35 (.loop (Code.at (bm f35) [1,1,0,1,0,0])) ⟨59,aA,[(0,true,.d (.str s)),(3,true,.d (.int .i64 j))],[]⟩ k=if tX rest j=true then R2 else R1
 |[],j,I,H=>by
  have H:j=s.length:=by simpa using H
  subst H;rw[ai];simp[f35,A,tX]
 |c::rest,j,I,H=>by
  have M:j<s.length:=by simp at H;omega
  have U:im s j=c:=by
   have:=ac8 (·[0]?) I;simp at this;simp[im,this]
  have ih:=Du s Z k R1 R2 E A rest (j+1) (by rw[<-akE,I];rfl) (by simp at H;omega);have N:IntKind.i64.wrap ((j:Int)+1)=(j:Int)+1:=aE (by unfold aG;omega);have key:tX (c::rest) j=((We c||(!decide (j=0)&&(decide (c=95)||Wf c)))&&tX rest (j+1)):=rfl;have A4:decide (c=95)=decide (c.toNat=95):=by
   rw[decide_eq_decide];exact⟨λh=>by rw[h];rfl,λh=>UInt8.toNat_inj.1 (by rw[h];rfl)⟩
  rw[key,A4];generalize tX rest (j+1)=B at*;rw[ai];simp[f35]at ih⊢;simp[M,U,N,E,ih];unfold We Wf;grind
theorem ei(s:Tx):ah ctx 35 [.d (.str s)] []=some (.ret (.d (.bool (cL s))),[]):=by
 have hw:=Uh s;unfold cL;rw[ajc (by simp)];by_cases E:s.length<1
 ·have A:¬1<=s.length:=by omega
  have J:(s.length:Int)<1:=by omega
  simp[f35,A,J]
 ·by_cases A':16<s.length
  ·have A:1<=s.length:=by omega
   have J:¬(s.length:Int)<1:=by omega
   have T:¬s.length<=16:=by omega
   have V:(16:Int)<s.length:=by omega
   simp[f35,A,J,T,A',V]
  ·have A:1<=s.length:=by omega
   have J:¬(s.length:Int)<1:=by omega
   have T:s.length<=16:=by omega
   have V:¬(16:Int)<s.length:=by omega
   cases A1:tW s with
   |true=>
    rw[A1]at hw;simp[f35,A,J,T,A',V,hw]
   |false=>
    rw[A1]at hw;have O:=λk R1 R2 E A=>Du s T k R1 R2 E A s 0 rfl (by simp);simp[f35]at O;simp[f35,A,J,T,A',V,hw];rw[O _ (some (.ret (.d (.bool false)),[])) (some (.ret (.d (.bool true)),[])) (by simp) (by simp)];cases tX s 0<;>simp
theorem No{x:Ex}(h:(ec x).length<100000000/\(fa x).length<100000000/\(cR x).length<100000000):ah ctx 70 [.d (.agg [.int .i64 (cB x),.int .i64 (iN x),.str (ec x),.str (fa x),.list ((cR x).map du),.int .i64 (m5 x)])] []=some (.ret (.d (.bool (fw x))),[]):=by
 have N:IntKind.i64.wrap ((ec x).length+(fa x).length:Int)=(ec x).length+(fa x).length:=aE (by unfold aG;omega);have A5:IntKind.i64.wrap ((ec x).length+(fa x).length+(cR x).length:Int)=(ec x).length+(fa x).length+(cR x).length:=aE (by unfold aG;omega);unfold fw;generalize y:decide ((ec x).length+(fa x).length+(cR x).length=0)=B;rw[ajs (by simp)];by_cases A0:cB x=0
 ·by_cases E:iN x=0
  ·simp[f70,A0,E];rw[N,A5,<-y,decide_eq_decide];omega
  ·simp[f70,A0,E]
 ·simp[f70,A0]
theorem WO(op:Int):ah ctx 68 [.d (.int .i64 op)] []=some (.ret (.bM [.d (.bool (decide (op=4\/op=9))),.d (.bool (decide (op=1))),.d (.bool (decide (op=1\/op=3\/op=5\/op=6)))]),[]):=by
 rw[ajq (by simp)];simp[f68];grind
theorem oy(x:Ex):dJ x=(!decide ((cB x=1/\iN x<0)\/(cB x=2/\(iN x<0\/1<iN x))\/(2<cB x/\iN x≠0)\/cB x<1\/21<cB x)&&
 (decide ((cR x).length=gI (cB x))&&((if cB x=3\/cB x=4\/cB x=5 then cL (ec x)else decide (ec x=[]))&&((if cB x=5 then cL (fa x)else decide (fa x=[]))&&cS (cR x))))):=by
 cases x;rw[dJ];rfl
def KF(l:List Ex):Prop:=ah ctx 69 [.d (.list (l.map du))] []=some (.ret (.d (.bool (cS l))),[])
theorem aeY{l:List Ex}(U:l.length<100000000){i:Nat}{x:Ex}(D:i<l.length)(E:l[i]=x)(A:KF (cR x))(V:(cR x).length<100000000)(k:Kt)(R1 R2:bW)(B:Bool)
 (H:∀v X,k .ret ⟨126,aA,[(2,true,.d (.bool false))],[⟨300,v,X⟩]⟩=R1)
 (ih:∀v X,aI ctx 69 (.loop (Code.at (bm f69) [1,0,1,0,0])) ⟨126,aA,[(0,true,.d (.list (l.map du))),(3,true,.d (.int .i64 (i+1)))],[⟨300,v,X⟩]⟩ k=if B=true then R2 else R1) (h:cB x<1) (v:Nat) (X:ay):
 aI ctx 69 (.loop (Code.at (bm f69) [1,0,1,0,0])) ⟨126,aA,[(0,true,.d (.list (l.map du))),(3,true,.d (.int .i64 i))],[⟨300,v,X⟩]⟩ k=if (dJ x&&B)=true then R2 else R1:=by
 have I:IntKind.i64.wrap ((i:Int)+1)=i+1:=aE (by unfold aG;omega);have J:=ei (ec x);have M:=ei (fa x);unfold KF at A;rw[oy];generalize cS (cR x)=S at*;generalize cL (ec x)=N at*;generalize cL (fa x)=F at*;have Y:¬cB x=1:=by omega
 have Z:¬cB x=2:=by omega
 have y:¬cB x=3:=by omega
 have A':¬cB x=4:=by omega
 have A0:¬cB x=5:=by omega
 have A1:¬cB x=6:=by omega
 have A2:¬cB x=7:=by omega
 have d1:¬2<cB x:=by omega
 rw[ai];simp[f69]at ih⊢;simp[D,E,I,aZ,h,A,J,M,ih,H,Y,Z,d1];intros;omega
theorem aeZ{l:List Ex}(U:l.length<100000000){i:Nat}{x:Ex}(D:i<l.length)(E:l[i]=x)(A:KF (cR x))(V:(cR x).length<100000000)(k:Kt)(R1 R2:bW)(B:Bool)
 (H:∀v X,k .ret ⟨126,aA,[(2,true,.d (.bool false))],[⟨300,v,X⟩]⟩=R1)
 (ih:∀v X,aI ctx 69 (.loop (Code.at (bm f69) [1,0,1,0,0])) ⟨126,aA,[(0,true,.d (.list (l.map du))),(3,true,.d (.int .i64 (i+1)))],[⟨300,v,X⟩]⟩ k=if B=true then R2 else R1) (h:cB x=1) (v:Nat) (X:ay):
 aI ctx 69 (.loop (Code.at (bm f69) [1,0,1,0,0])) ⟨126,aA,[(0,true,.d (.list (l.map du))),(3,true,.d (.int .i64 i))],[⟨300,v,X⟩]⟩ k=if (dJ x&&B)=true then R2 else R1:=by
 have I:IntKind.i64.wrap ((i:Int)+1)=i+1:=aE (by unfold aG;omega);have J:=ei (ec x);have M:=ei (fa x);unfold KF at A;rw[oy];generalize cS (cR x)=S at*;generalize cL (ec x)=N at*;generalize cL (fa x)=F at*;rw[ai];simp[f69]at ih⊢;have T:gI 1=0:=rfl;by_cases O:iN x<0
 ·simp[D,E,I,aZ,h,A,J,M,ih,H,O];intros;omega
 ·by_cases q:1<iN x
  ·simp[D,E,I,aZ,h,A,J,M,ih,H,O,q,T];grind
  ·simp[D,E,I,aZ,h,A,J,M,ih,H,O,q,T];grind
theorem ae0{l:List Ex}(U:l.length<100000000){i:Nat}{x:Ex}(D:i<l.length)(E:l[i]=x)(A:KF (cR x))(V:(cR x).length<100000000)(k:Kt)(R1 R2:bW)(B:Bool)
 (H:∀v X,k .ret ⟨126,aA,[(2,true,.d (.bool false))],[⟨300,v,X⟩]⟩=R1)
 (ih:∀v X,aI ctx 69 (.loop (Code.at (bm f69) [1,0,1,0,0])) ⟨126,aA,[(0,true,.d (.list (l.map du))),(3,true,.d (.int .i64 (i+1)))],[⟨300,v,X⟩]⟩ k=if B=true then R2 else R1) (h:cB x=2) (v:Nat) (X:ay):
 aI ctx 69 (.loop (Code.at (bm f69) [1,0,1,0,0])) ⟨126,aA,[(0,true,.d (.list (l.map du))),(3,true,.d (.int .i64 i))],[⟨300,v,X⟩]⟩ k=if (dJ x&&B)=true then R2 else R1:=by
 have I:IntKind.i64.wrap ((i:Int)+1)=i+1:=aE (by unfold aG;omega);have J:=ei (ec x);have M:=ei (fa x);unfold KF at A;rw[oy];generalize cS (cR x)=S at*;generalize cL (ec x)=N at*;generalize cL (fa x)=F at*;rw[ai];simp[f69]at ih⊢;have T:gI 2=0:=rfl;by_cases O:iN x<0
 ·simp[D,E,I,aZ,h,A,J,M,ih,H,O];intros;omega
 ·by_cases q:1<iN x
  ·simp[D,E,I,aZ,h,A,J,M,ih,H,O,q,T];intros;omega
  ·simp[D,E,I,aZ,h,A,J,M,ih,H,O,q,T];grind
theorem ae1{l:List Ex}(U:l.length<100000000){i:Nat}{x:Ex}(D:i<l.length)(E:l[i]=x)(A:KF (cR x))(V:(cR x).length<100000000)(k:Kt)(R1 R2:bW)(B:Bool)
 (H:∀v X,k .ret ⟨126,aA,[(2,true,.d (.bool false))],[⟨300,v,X⟩]⟩=R1)
 (ih:∀v X,aI ctx 69 (.loop (Code.at (bm f69) [1,0,1,0,0])) ⟨126,aA,[(0,true,.d (.list (l.map du))),(3,true,.d (.int .i64 (i+1)))],[⟨300,v,X⟩]⟩ k=if B=true then R2 else R1) (h:cB x=3) (v:Nat) (X:ay):
 aI ctx 69 (.loop (Code.at (bm f69) [1,0,1,0,0])) ⟨126,aA,[(0,true,.d (.list (l.map du))),(3,true,.d (.int .i64 i))],[⟨300,v,X⟩]⟩ k=if (dJ x&&B)=true then R2 else R1:=by
 have I:IntKind.i64.wrap ((i:Int)+1)=i+1:=aE (by unfold aG;omega);have J:=ei (ec x);have M:=ei (fa x);unfold KF at A;rw[oy];generalize cS (cR x)=S at*;generalize cL (ec x)=N at*;generalize cL (fa x)=F at*;rw[ai];simp[f69]at ih⊢;have T:gI 3=0:=rfl;by_cases O:iN x=0
 ·simp[D,E,I,aZ,h,A,J,M,ih,H,O,T];grind
 ·simp[D,E,I,aZ,h,A,J,M,ih,H,O]
theorem ae2{l:List Ex}(U:l.length<100000000){i:Nat}{x:Ex}(D:i<l.length)(E:l[i]=x)(A:KF (cR x))(V:(cR x).length<100000000)(k:Kt)(R1 R2:bW)(B:Bool)
 (H:∀v X,k .ret ⟨126,aA,[(2,true,.d (.bool false))],[⟨300,v,X⟩]⟩=R1)
 (ih:∀v X,aI ctx 69 (.loop (Code.at (bm f69) [1,0,1,0,0])) ⟨126,aA,[(0,true,.d (.list (l.map du))),(3,true,.d (.int .i64 (i+1)))],[⟨300,v,X⟩]⟩ k=if B=true then R2 else R1) (h:cB x=4) (v:Nat) (X:ay):
 aI ctx 69 (.loop (Code.at (bm f69) [1,0,1,0,0])) ⟨126,aA,[(0,true,.d (.list (l.map du))),(3,true,.d (.int .i64 i))],[⟨300,v,X⟩]⟩ k=if (dJ x&&B)=true then R2 else R1:=by
 have I:IntKind.i64.wrap ((i:Int)+1)=i+1:=aE (by unfold aG;omega);have J:=ei (ec x);have M:=ei (fa x);unfold KF at A;rw[oy];generalize cS (cR x)=S at*;generalize cL (ec x)=N at*;generalize cL (fa x)=F at*;rw[ai];simp[f69]at ih⊢;have T:gI 4=1:=rfl;by_cases O:iN x=0
 ·simp[D,E,I,aZ,h,A,J,M,ih,H,O,T];grind
 ·simp[D,E,I,aZ,h,A,J,M,ih,H,O]
theorem ae3{l:List Ex}(U:l.length<100000000){i:Nat}{x:Ex}(D:i<l.length)(E:l[i]=x)(A:KF (cR x))(V:(cR x).length<100000000)(k:Kt)(R1 R2:bW)(B:Bool)
 (H:∀v X,k .ret ⟨126,aA,[(2,true,.d (.bool false))],[⟨300,v,X⟩]⟩=R1)
 (ih:∀v X,aI ctx 69 (.loop (Code.at (bm f69) [1,0,1,0,0])) ⟨126,aA,[(0,true,.d (.list (l.map du))),(3,true,.d (.int .i64 (i+1)))],[⟨300,v,X⟩]⟩ k=if B=true then R2 else R1) (h:cB x=5) (v:Nat) (X:ay):
 aI ctx 69 (.loop (Code.at (bm f69) [1,0,1,0,0])) ⟨126,aA,[(0,true,.d (.list (l.map du))),(3,true,.d (.int .i64 i))],[⟨300,v,X⟩]⟩ k=if (dJ x&&B)=true then R2 else R1:=by
 have I:IntKind.i64.wrap ((i:Int)+1)=i+1:=aE (by unfold aG;omega);have J:=ei (ec x);have M:=ei (fa x);unfold KF at A;rw[oy];generalize cS (cR x)=S at*;generalize cL (ec x)=N at*;generalize cL (fa x)=F at*;rw[ai];simp[f69]at ih⊢;have T:gI 5=0:=rfl;by_cases O:iN x=0
 ·simp[D,E,I,aZ,h,A,J,M,ih,H,O,T];grind
 ·simp[D,E,I,aZ,h,A,J,M,ih,H,O]
theorem ae4{l:List Ex}(U:l.length<100000000){i:Nat}{x:Ex}(D:i<l.length)(E:l[i]=x)(A:KF (cR x))(V:(cR x).length<100000000)(k:Kt)(R1 R2:bW)(B:Bool)
 (H:∀v X,k .ret ⟨126,aA,[(2,true,.d (.bool false))],[⟨300,v,X⟩]⟩=R1)
 (ih:∀v X,aI ctx 69 (.loop (Code.at (bm f69) [1,0,1,0,0])) ⟨126,aA,[(0,true,.d (.list (l.map du))),(3,true,.d (.int .i64 (i+1)))],[⟨300,v,X⟩]⟩ k=if B=true then R2 else R1) (h:cB x=6) (v:Nat) (X:ay):
 aI ctx 69 (.loop (Code.at (bm f69) [1,0,1,0,0])) ⟨126,aA,[(0,true,.d (.list (l.map du))),(3,true,.d (.int .i64 i))],[⟨300,v,X⟩]⟩ k=if (dJ x&&B)=true then R2 else R1:=by
 have I:IntKind.i64.wrap ((i:Int)+1)=i+1:=aE (by unfold aG;omega);have J:=ei (ec x);have M:=ei (fa x);unfold KF at A;rw[oy];generalize cS (cR x)=S at*;generalize cL (ec x)=N at*;generalize cL (fa x)=F at*;rw[ai];simp[f69]at ih⊢;have T:gI 6=1:=rfl;by_cases O:iN x=0
 ·simp[D,E,I,aZ,h,A,J,M,ih,H,O,T];grind
 ·simp[D,E,I,aZ,h,A,J,M,ih,H,O]
theorem ae5{l:List Ex}(U:l.length<100000000){i:Nat}{x:Ex}(D:i<l.length)(E:l[i]=x)(A:KF (cR x))(V:(cR x).length<100000000)(k:Kt)(R1 R2:bW)(B:Bool)
 (H:∀v X,k .ret ⟨126,aA,[(2,true,.d (.bool false))],[⟨300,v,X⟩]⟩=R1)
 (ih:∀v X,aI ctx 69 (.loop (Code.at (bm f69) [1,0,1,0,0])) ⟨126,aA,[(0,true,.d (.list (l.map du))),(3,true,.d (.int .i64 (i+1)))],[⟨300,v,X⟩]⟩ k=if B=true then R2 else R1) (h:cB x=7) (v:Nat) (X:ay):
 aI ctx 69 (.loop (Code.at (bm f69) [1,0,1,0,0])) ⟨126,aA,[(0,true,.d (.list (l.map du))),(3,true,.d (.int .i64 i))],[⟨300,v,X⟩]⟩ k=if (dJ x&&B)=true then R2 else R1:=by
 have I:IntKind.i64.wrap ((i:Int)+1)=i+1:=aE (by unfold aG;omega);have J:=ei (ec x);have M:=ei (fa x);unfold KF at A;rw[oy];generalize cS (cR x)=S at*;generalize cL (ec x)=N at*;generalize cL (fa x)=F at*;rw[ai];simp[f69]at ih⊢;have T:gI 7=1:=rfl;by_cases O:iN x=0
 ·simp[D,E,I,aZ,h,A,J,M,ih,H,O,T];grind
 ·simp[D,E,I,aZ,h,A,J,M,ih,H,O]
theorem ae6{l:List Ex}(U:l.length<100000000){i:Nat}{x:Ex}(D:i<l.length)(E:l[i]=x)(A:KF (cR x))(V:(cR x).length<100000000)(k:Kt)(R1 R2:bW)(B:Bool)
 (H:∀v X,k .ret ⟨126,aA,[(2,true,.d (.bool false))],[⟨300,v,X⟩]⟩=R1)
 (ih:∀v X,aI ctx 69 (.loop (Code.at (bm f69) [1,0,1,0,0])) ⟨126,aA,[(0,true,.d (.list (l.map du))),(3,true,.d (.int .i64 (i+1)))],[⟨300,v,X⟩]⟩ k=if B=true then R2 else R1) (h:7<cB x) (v:Nat) (X:ay):
 aI ctx 69 (.loop (Code.at (bm f69) [1,0,1,0,0])) ⟨126,aA,[(0,true,.d (.list (l.map du))),(3,true,.d (.int .i64 i))],[⟨300,v,X⟩]⟩ k=if (dJ x&&B)=true then R2 else R1:=by
 have I:IntKind.i64.wrap ((i:Int)+1)=i+1:=aE (by unfold aG;omega);have J:=ei (ec x);have M:=ei (fa x);unfold KF at A;rw[oy];generalize cS (cR x)=S at*;generalize cL (ec x)=N at*;generalize cL (fa x)=F at*;have Y:¬cB x=1:=by omega
 have Z:¬cB x=2:=by omega
 have y:¬cB x=3:=by omega
 have A':¬cB x=4:=by omega
 have A0:¬cB x=5:=by omega
 have A1:¬cB x=6:=by omega
 have A2:¬cB x=7:=by omega
 have d1:2<cB x:=by omega
 have d2:¬cB x<1:=by omega
 have T:gI (cB x)=2:=by unfold gI;rw[aah (by omega),aap h]
 rw[ai];simp[f69]at ih⊢;by_cases O:iN x=0
 ·by_cases A3:21<cB x
  ·simp[D,E,I,aZ,h,A,J,M,ih,H,O,A3,Y,Z,y,A',A0,A1,A2,d1,d2];intros;omega
  ·simp[D,E,I,aZ,h,A,J,M,ih,H,O,A3,T,Y,Z,y,A',A0,A1,A2,d1,d2];grind
 ·simp[D,E,I,aZ,h,A,J,M,ih,H,O,Y,Z,d1];intros;omega
theorem FU(l:List Ex)(A:l.length<100000000)(U:∀x∈l,KF (cR x))(N:∀x∈l,(cR x).length<100000000)(k:Kt)(R1 R2:bW)
 (D:∀v X,k .ret ⟨126,aA,[(2,true,.d (.bool false))],[⟨300,v,X⟩]⟩=R1)
 (T:∀(Y:Env) v X,k (.exit 0) ⟨126,aA,Y,[⟨300,v,X⟩]⟩=R2):∀(rest pre:List Ex)(v:Nat)(X:ay),l=pre++rest->
 aI ctx 69 (.loop (Code.at (bm f69) [1,0,1,0,0])) ⟨126,aA,[(0,true,.d (.list (l.map du))),(3,true,.d (.int .i64 pre.length))],[⟨300,v,X⟩]⟩ k=if cS rest=true then R2 else R1
 |[],pre,v,X,O=>by
  have V:pre.length=l.length:=by rw[O];simp
  rw[V,ai];simp[f69,T,cS]
 |x::rest,pre,v,X,O=>by
  have H:pre.length<l.length:=by rw[O];simp
  have I:l[pre.length]=x:=by simp[O]
  have J:=U x (by rw[O];simp);have M:=N x (by rw[O];simp);have ih:∀v X,aI ctx 69 (.loop (Code.at (bm f69) [1,0,1,0,0])) ⟨126,aA,[(0,true,.d (.list (l.map du))),(3,true,.d (.int .i64 (pre.length+1)))],[⟨300,v,X⟩]⟩ k=if cS rest=true then R2 else R1:=λv X=>by
   have:=FU l A U N k R1 R2 D T rest (pre++[x]) v X (by simp[O]);simpa using this
  have key:cS (x::rest)=(dJ x&&cS rest):=by rw[cS]
  rw[key];have Z:cB x<1\/cB x=1\/cB x=2\/cB x=3\/cB x=4\/cB x=5\/cB x=6\/cB x=7\/7<cB x:=by omega
  rcases Z with h|h|h|h|h|h|h|h|h
  ·exact aeY A H I J M k R1 R2 _ D ih h v X
  ·exact aeZ A H I J M k R1 R2 _ D ih h v X
  ·exact ae0 A H I J M k R1 R2 _ D ih h v X
  ·exact ae1 A H I J M k R1 R2 _ D ih h v X
  ·exact ae2 A H I J M k R1 R2 _ D ih h v X
  ·exact ae3 A H I J M k R1 R2 _ D ih h v X
  ·exact ae4 A H I J M k R1 R2 _ D ih h v X
  ·exact ae5 A H I J M k R1 R2 _ D ih h v X
  ·exact ae6 A H I J M k R1 R2 _ D ih h v X
theorem Ui{l:List Ex}(A:l.length<100000000)(U:∀x∈l,KF (cR x))(N:∀x∈l,(cR x).length<100000000):KF l:=by
 have h:=λk R1 R2 D T v X=>FU l A U N k R1 R2 D T l [] v X rfl;unfold KF;rw[ajr (by simp)];simp[f69]at h⊢;rw[h _ (some (.ret (.d (.bool false)),[])) (some (.ret (.d (.bool true)),[]))]
 ·cases cS l<;>simp
 ·intro v X;simp
 ·intro Y v X;simp
mutual
def vG:Ex->Prop
 | .mk _ _ name field sub _=>(name.length<100000000/\field.length<100000000/\sub.length<100000000)/\oz sub
def oz:List Ex->Prop
 |[]=>True
 |x::r=>vG x/\oz r
end
mutual
theorem ae7:∀x:Ex,vG x->KF (cR x)/\(cR x).length<100000000
 | .mk op nn name field sub line,h=>by
  simp only[vG]at h;have N:=Ax sub h.2;exact⟨Ui h.1.2.2 (λx E=>(N x E).1) (λx E=>(N x E).2),h.1.2.2⟩
theorem Ax:∀l:List Ex,oz l->∀x∈l,KF (cR x)/\(cR x).length<100000000
 |[],_,x,E=>by simp at E
 |y::r,h,x,E=>by
  simp only[oz]at h;have D:=ae7 y h.1;have T:=Ax r h.2;rcases aan.1 E with e|E
  ·rw[e];exact D
  ·exact T x E
end
theorem BX{l:List Ex}(A:l.length<100000000)(h:oz l):KF l:=
 Ui A (λx E=>(Ax l h x E).1) (λx E=>(Ax l h x E).2)
end Go.Am
end
section
namespace Go.Am
open Go
theorem Np{k:Int}(h:pU k=true):10<=k/\k<=31:=by
 unfold pU br at h;by_cases A:10<=k/\k<=31
 ·exact A
 ·exfalso;have:xf K6 k=[]:=by
   unfold K6;simp only[xf];repeat rw[aah (by omega)]
  rw[this]at h;simp at h
theorem aa8{v:Vr}(h:dB v=true):(v.ty=1\/v.ty=2)\/(10<=v.ty/\v.ty<=31/\pU v.ty=true):=by
 simp only[dB,Ds,afP,aam]at h;rcases h.2.1.2 with h|h
 ·exact .inl h
 ·exact .inr ⟨(Np h).1,(Np h).2,h⟩
theorem qD{s:Tx}{v:Vr}:∀{l:List Vr},bu l s=some v->v∈l/\v.name=s
 |x::r,h=>by
  unfold bu at h;split at h
  ·rename_i e;cases h;exact⟨by simp,e⟩
  ·have:=qD h;exact⟨by simp[this.1],this.2⟩
end Go.Am
end
section
namespace Go.Am
open Go Go.Proofs
variable [Inhabited bA]
set_option maxRecDepth 20000
@[simp] def smL(x:Sm):List D:=[.int .i64 (a6 x),.str (gG x),
 .int .i64 (cB (fB x)),.int .i64 (iN (fB x)),.str (ec (fB x)),.str (fa (fB x)),.list ((cR (fB x)).map du),.int .i64 (m5 (fB x)),
 .int .i64 (cB (dn x)),.int .i64 (iN (dn x)),.str (ec (dn x)),.str (fa (dn x)),.list ((cR (dn x)).map du),.int .i64 (m5 (dn x)),
 .list ((bV x).map du),.list ((cx x).map hM),.list ((dp x).map .str),.list ((aO x).map nL),.int .i64 (kR x)]
section
variable {vs:List Vr} {n:Int} (A:vs.length<1000000) (E:∀v∈vs,dB v=true)
include A E
end
end Go.Am
end
section
namespace Go.Am
open Go Go.Proofs Go.Proofs.Tryz
variable [Inhabited bA]
set_option maxRecDepth 20000
@[simp] def bg(x:Sm):ay:=.box [.d (.int .i64 (a6 x)),.d (.str (gG x)),.d (.int .i64 (cB (fB x))),.d (.int .i64 (iN (fB x))),.d (.str (ec (fB x))),.d (.str (fa (fB x))),.d (.list ((cR (fB x)).map du)),.d (.int .i64 (m5 (fB x))),
 .d (.int .i64 (cB (dn x))),.d (.int .i64 (iN (dn x))),.d (.str (ec (dn x))),.d (.str (fa (dn x))),.d (.list ((cR (dn x)).map du)),.d (.int .i64 (m5 (dn x))),.d (.list ((bV x).map du)),.d (.list ((cx x).map hM)),.d (.list ((dp x).map .str)),.d (.list ((aO x).map nL)),.d (.int .i64 (kR x))]
@[simp] def iB(v:Vr):ay:=.box [.d (.str v.name),.d (.int .i64 v.ty),.d (.int .i64 v.sec),.d (.bool v.arr),.d (.int .i64 v.lo),.d (.int .i64 v.hi),.d (.int .i64 v.init),.d (.int .i64 v.line)]
theorem WQ{v:Vr}(D:dB v=true):ah ctx 72 [.d (bn v)] []=some (.ret (.d (.int .i64 (b5 v))),[]):=by
 have H:=EC v.ty;rw[ajt (by simp)];unfold b5;cases A:v.arr with
 |true=>
  simp only[dB,Ds,A,adI,aam]at D;have I:IntKind.i64.wrap (v.hi-v.lo)=v.hi-v.lo:=aE (by unfold aG;omega);have J:IntKind.i64.wrap (v.hi-v.lo+1)=v.hi-v.lo+1:=aE (by unfold aG;omega);simp[f72,bn,dk,A,I,J]
 |false=>
  by_cases E:2<v.ty
  ·simp[f72,bn,dk,A,E,H]
  ·simp[f72,bn,dk,A,E]
theorem Ba{v:Vr}(D:dB v=true):0<=b5 v/\b5 v<=256:=by
 have:=zD v.ty;unfold b5;cases A:v.arr with
 |true=>
  simp only[dB,Ds,A,adI,aam]at D;simp only[adI];omega
 |false=>
  simp only[aky,acF];split<;>omega
end Go.Am
end
