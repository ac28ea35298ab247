/-
  Texts of one proof, one behind the other.
-/
import Derived.Test.YtccmboenpbjhnaaGreatDoorG3
import Derived.Lib.Bytealg
import Derived.Lib.Index
import Derived.Lib.Strings
import Derived.Test.YtccmboenpbjhnaaGreatDoorProg
import Derived.KernelRfl
set_option linter.all false
section
namespace Go.Am
abbrev Tx:=List UInt8
def rq(c:UInt8):Bool:=decide (65<=c.toNat)&&decide (c.toNat<=90)||decide (97<=c.toNat)&&decide (c.toNat<=122)
def qf(c:UInt8):Bool:=decide (48<=c.toNat)&&decide (c.toNat<=57)
def fI(c:UInt8):Bool:=rq c||qf c||decide (c.toNat=95)
def xY(c:UInt8):Bool:=decide (c.toNat=32)||decide (c.toNat=10)||decide (c.toNat=9)
def gF(c:UInt8):Nat:=if qf c then c.toNat-48 else if 65<=c.toNat/\c.toNat<=70 then c.toNat-65+10 else 99
def kz(p:Int×Int)(c:UInt8):Int×Int:=if c=10 then (p.1+1,1)else (p.1,p.2+1)
def gG(s:Tx):Int×Int:=s.foldl kz (1,1)
theorem FW:∀(s:Tx)(p:Int×Int)(n:Nat),1<=p.1->p.1<=n->1<=p.2->p.2<=n->1<=(s.foldl kz p).1/\(s.foldl kz p).1<=n+s.length/\1<=(s.foldl kz p).2/\(s.foldl kz p).2<=n+s.length
 |[],p,n,E,J,M,O=>by simp;omega
 |c::r,p,n,E,J,M,O=>by
  have h:=FW r (kz p c) (n+1) (by unfold kz;split<;>simp<;>omega) (by unfold kz;split<;>simp<;>omega) (by unfold kz;split<;>simp<;>omega) (by unfold kz;split<;>simp<;>omega);simp only[agc,abb];omega
theorem Ws{s:Tx}{i:Nat}:1<=(gG (s.take i)).1/\(gG (s.take i)).1<=s.length+1/\1<=(gG (s.take i)).2/\(gG (s.take i)).2<=s.length+1:=by
 have h:=FW (s.take i) (1,1) 1 (by simp) (by simp) (by simp) (by simp);have T:(s.take i).length<=s.length:=by simp;omega
 unfold gG;omega
theorem BH{s:Tx}{i:Nat}(h:i<s.length):gG (s.take (i+1))=kz (gG (s.take i)) s[i]:=by
 unfold gG;rw[List.take_add_one,adv h,List.foldl_append];rfl
def nR:Tx->Option Nat
 |[]=>none
 |c::r=>if c=42/\r.head?=some 41 then some 0 else (nR r).map (·+1)
def jk(s:Tx):Nat:=(s.takeWhile (·≠10)).length
theorem Lg(s:Tx):jk s<=s.length:=by unfold jk;exact (ajj _).length_le
theorem aby(a c:UInt8):(a == c)=decide (c=a):=by
 by_cases h:c=a
 ·simp[h]
 ·simp[h];exact λe=>h e.symm
theorem xZ:∀(t:Tx),Go.Lib.indexByte t 10=if jk t<t.length then (jk t:Int)else-1
 |[]=>rfl
 |c::r=>by
  have ih:=xZ r;unfold Go.Lib.indexByte;by_cases D:c=10
  ·subst D;simp[jk]
  ·have e:jk (c::r)=jk r+1:=by simp[jk,D]
   rw[e,ih];simp only[beq_iff_eq,D,adW,abb];by_cases h:jk r<r.length
   ·simp only[abf h];rw[aa4 (by omega),abf (by omega)];omega
   ·simp[h]
theorem zF:∀{t:Tx}{m:Nat},nR t=some m->m+2<=t.length
 |[],m,h=>by cases h
 |c::r,m,h=>by
  unfold nR at h;split at h
  ·rename_i D;cases h;cases r with
   |nil=>simp at D
   |cons d r=>simp
  ·cases H:nR r with
   |none=>rw[H]at h;cases h
   |some n=>
    rw[H]at h;cases h;have:=zF H;simp;omega
theorem Im:∀(t:Tx),Go.Lib.index t [42,41]=match nR t with|none=> -1|some m=>(m:Int)
 |[]=>rfl
 |c::r=>by
  have ih:=Im r;unfold Go.Lib.index nR;have e:(([42,41]:Tx).isPrefixOf (c::r))=decide (c=42/\r.head?=some 41):=by
   cases r with
   |nil=>simp[List.isPrefixOf]
   |cons d r=>simp[List.isPrefixOf,aby]
  rw[e,ih];by_cases D:c=42/\r.head?=some 41
  ·simp[D]
  ·rw[aa4 D];simp only[D,decide_false,agb,adW];cases H:nR r with
   |none=>simp
   |some n=>simp
theorem FX(a b c:UInt8)(r:Tx):Go.Lib.hasPrefix (c::r) [a,b]=(decide (c=a)&&decide (r.head?=some b)):=by
 unfold Go.Lib.hasPrefix;cases r with
 |nil=>simp[List.isPrefixOf]
 |cons d r=>simp[List.isPrefixOf,aby]
def gm:Nat->Tx->Nat×Bool
 |0,_=>(0,true)
 |_+1,[]=>(0,true)
 |f+1,c::r=>
  if xY c then (1+(gm f r).1,(gm f r).2)
  else if c=47/\r.head?=some 47 then (jk (c::r)+(gm f ((c::r).drop (jk (c::r)))).1,(gm f ((c::r).drop (jk (c::r)))).2)
  else if c=40/\r.head?=some 42 then match nR r.tail with
   |none=>(0,false)
   |some m=>(m+4+(gm f ((c::r).drop (m+4))).1,(gm f ((c::r).drop (m+4))).2)
  else (0,true)
def oZ(s:Tx):Nat×Nat:=if [49,54,35].isPrefixOf s then (16,3)else if [56,35].isPrefixOf s then (8,2)else if [50,35].isPrefixOf s then (2,2)else (10,0)
def G8(base:Nat):Nat->Tx->Option Nat
 |x,[]=>some x
 |x,c::r=>if (9223372036854775807-gF c)/base<x then none else G8 base (x*base+gF c) r
def D7(s:Tx)(b h:Nat)(I:Tx):Nat×Nat×Nat:=
 if I=[]\/(∃c,s[h+I.length]?=some c/\(fI c=true\/c=35))then (0,0,5)
 else match G8 b 0 I with
  |none=>(0,0,2)
  |some x=>(h+I.length,x,0)
def ot(s:Tx):Nat×Nat×Nat:=D7 s (oZ s).1 (oZ s).2 ((s.drop (oZ s).2).takeWhile (λc=>decide (gF c<(oZ s).1)))
def BI:Tx:=[43,45,42,47,40,41,91,93,46,44,59,58,60,62,61]
def Lh:List Tx:=[[58,61],[60,61],[62,61],[60,62],[46,46]]
def tU(s:Tx):Nat:=if Lh.any (λp=>p.isPrefixOf s)then 2 else match s with
 |[]=>0
 |c::_=>if c∈BI then 1 else 0
theorem Cu:∀(f:Nat)(t:Tx),(gm f t).1<=t.length
 |0,_=>by simp[gm]
 |_+1,[]=>by simp[gm]
 |f+1,c::r=>by
  unfold gm;split
  ·have:=Cu f r;simp;omega
  ·split
   ·have E:=Cu f ((c::r).drop (jk (c::r)));have J:=Lg (c::r);simp only[ags]at E;simp only;omega
   ·split
    ·split
     ·simp
     ·rename_i m hm;have E:=Cu f ((c::r).drop (m+4));have J:=zF hm;have M:r.tail.length=r.length-1:=by simp
      simp only[ags,abb]at E⊢;omega
    ·simp
def Wt:Tx:=[80,82,79,71,82,65,77,32,69,78,68,95,80,82,79,71,82,65,77,32,86,65,82,32,86,65,82,95,73,78,80,85,84,32,86,65,82,95,79,85,84,80,85,84,32,69,78,68,95,86,65,82,32,73,78,84,32,66,79,79,76,32,65,82,82,65,89,32,79,70,32,84,82,85,69,32,70,65,76,83,69,32,73,70,32,84,72,69,78,32,69,76,83,73,70,32,69,76,83,69,32,69,78,68,95,73,70,32,67,65,83,69,32,69,78,68,95,67,65,83,69,32,70,79,82,32,84,79,32,66,89,32,68,79,32,69,78,68,95,70,79,82,32,87,72,73,76,69,32,69,78,68,95,87,72,73,76,69,32,82,69,80,69,65,84,32,85,78,84,73,76,32,69,78,68,95,82,69,80,69,65,84,32,69,88,73,84,32,82,69,84,85,82,78,32,65,78,68,32,79,82,32,88,79,82,32,78,79,84,32,77,79,68]
def kA:List Tx:=[[80,82,79,71,82,65,77],[69,78,68,95,80,82,79,71,82,65,77],[86,65,82],[86,65,82,95,73,78,80,85,84],[86,65,82,95,79,85,84,80,85,84],[69,78,68,95,86,65,82],[73,78,84],[66,79,79,76],[65,82,82,65,89],[79,70],[84,82,85,69],[70,65,76,83,69],[73,70],[84,72,69,78],[69,76,83,73,70],[69,76,83,69],[69,78,68,95,73,70],[67,65,83,69],[69,78,68,95,67,65,83,69],[70,79,82],[84,79],[66,89],[68,79],[69,78,68,95,70,79,82],[87,72,73,76,69],[69,78,68,95,87,72,73,76,69],[82,69,80,69,65,84],[85,78,84,73,76],[69,78,68,95,82,69,80,69,65,84],[69,88,73,84],[82,69,84,85,82,78],[65,78,68],[79,82],[88,79,82],[78,79,84],[77,79,68]]
def wg(s:Tx):Bool:=decide (s∈kA)
structure fR where
 kind:Int
 text:Tx
 n:Int
 line:Int
 FY:Int
 deriving DecidableEq
def kZ(s:Tx):Nat×Nat×Nat×Nat:=
 match s with
 |[]=>(5,0,0,0)
 |c::_=>
  if rq c then
   if wg (s.take (s.takeWhile fI).length)then (0,2,(s.takeWhile fI).length,0)
   else if 16<(s.takeWhile fI).length then (9,1,0,0)else (0,1,(s.takeWhile fI).length,0)
  else if qf c then
   if (ot s).2.2=0 then (0,3,(ot s).1,(ot s).2.1)else ((ot s).2.2,0,0,0)
  else if tU s=0 then (5,0,0,0)else (0,4,tU s,0)
def here(p:Int×Int):fR:=⟨0,[],0,p.1,p.2⟩
def D8(s:Tx):Nat->Nat->List fR->List fR×Nat×fR
 |0,_,_=>([],5,⟨0,[],0,0,0⟩)
 |f+1,i,out=>
  if (gm (s.length+1) (s.drop i)).2=false then ([],5,here (gG (s.take (i+(gm (s.length+1) (s.drop i)).1))))
  else if s.drop (i+(gm (s.length+1) (s.drop i)).1)=[]then (out++[here (gG (s.take (i+(gm (s.length+1) (s.drop i)).1)))],0,⟨0,[],0,0,0⟩)
  else if (kZ (s.drop (i+(gm (s.length+1) (s.drop i)).1))).1≠0 then ([],(kZ (s.drop (i+(gm (s.length+1) (s.drop i)).1))).1,here (gG (s.take (i+(gm (s.length+1) (s.drop i)).1))))
  else D8 s f (i+(gm (s.length+1) (s.drop i)).1+(kZ (s.drop (i+(gm (s.length+1) (s.drop i)).1))).2.2.1)
   (out++[⟨(kZ (s.drop (i+(gm (s.length+1) (s.drop i)).1))).2.1,(s.drop (i+(gm (s.length+1) (s.drop i)).1)).take (kZ (s.drop (i+(gm (s.length+1) (s.drop i)).1))).2.2.1,(kZ (s.drop (i+(gm (s.length+1) (s.drop i)).1))).2.2.2,
    (gG (s.take (i+(gm (s.length+1) (s.drop i)).1))).1,(gG (s.take (i+(gm (s.length+1) (s.drop i)).1))).2⟩])
def G9(s:Tx):List fR×Nat×fR:=if 16384<s.length then ([],13,⟨0,[],0,1,1⟩)else D8 s (s.length+1) 0 []
end Go.Am
end
section
namespace Go.Am
open Go
inductive Ex where
 |mk (op n:Int) (name field:Tx) (sub:List Ex) (line:Int)
inductive Sm where
 |mk (op:Int) (name:Tx) (to val:Ex) (conds:List Ex) (H:List (List Int)) (fields:List Tx) (blocks:List (List Sm)) (line:Int)
instance:Inhabited Ex:=⟨.mk 0 0 [] [] [] 0⟩
instance:Inhabited Sm:=⟨.mk 0 [] default default [] [] [] [] 0⟩
structure Vr where
 name:Tx
 ty:Int
 sec:Int
 arr:Bool
 lo:Int
 hi:Int
 init:Int
 line:Int
 deriving DecidableEq
structure Pg where
 name:Tx
 vars:List Vr
 body:List Sm
mutual
def bU:Ex->D
 | .mk op n name field sub line=>.agg [.int .i64 op,.int .i64 n,.str name,.str field,.list (gK sub),.int .i64 line]
def gK:List Ex->List D
 |[]=>[]
 |x::r=>bU x::gK r
end
theorem uf:∀l:List Ex,gK l=l.map bU
 |[]=>rfl
 |x::r=>by simp[gK,uf r]
def x8:Ex->List D
 | .mk op n name field sub line=>[.int .i64 op,.int .i64 n,.str name,.str field,.list (gK sub),.int .i64 line]
theorem Jl(x:Ex):bU x=.agg (x8 x):=by cases x;rfl
def n8(l:List Int):D:=.list (l.map λn=>.int .i64 n)
mutual
def cq:Sm->D
 | .mk op name to val conds H fields blocks line=>.agg (.int .i64 op::.str name::(x8 to++(x8 val++[.list (gK conds),.list (H.map n8),.list (fields.map .str),.list (mL blocks),.int .i64 line])))
def mM:List Sm->List D
 |[]=>[]
 |x::r=>cq x::mM r
def mL:List (List Sm)->List D
 |[]=>[]
 |b::r=>.list (mM b)::mL r
end
theorem yb:∀l:List Sm,mM l=l.map cq
 |[]=>rfl
 |x::r=>by simp[mM,yb r]
theorem Cv:∀l:List (List Sm),mL l=l.map λb=>.list (b.map cq)
 |[]=>rfl
 |x::r=>by simp[mL,Cv r,yb]
def eV(v:Vr):List D:=[.str v.name,.int .i64 v.ty,.int .i64 v.sec,.bool v.arr,.int .i64 v.lo,.int .i64 v.hi,.int .i64 v.init,.int .i64 v.line]
def bN(v:Vr):D:=.agg (eV v)
structure PS where
 at_:Nat
 deep:Int
 vars:List Vr
structure Er where
 e:Int
 line:Int
 FY:Int
 deriving DecidableEq
abbrev PM(α:Type):=PR Er PS α
abbrev wr(n:Int):Int:=IntKind.i64.wrap n
section
variable (L:List fR)
def u7(s:PS):PM fR:=match L[s.at_]? with
 |some t=>.ok t s
 |none=>.out
def S5{α:Type}(e:Int)(t:fR)(s:PS):PM α:=.bad ⟨e,t.line,t.FY⟩ s
def isW(t:fR)(w:Tx):Bool:=(decide (t.kind=2)||decide (t.kind=4))&&decide (t.text=w)
def isS(w:Tx)(s:PS):PM Bool:=(u7 L s).bind λt s=>.ok (isW t w) s
def anyS:List Tx->PS->PM Bool
 |[],s=>.ok false s
 |w::r,s=>(isS L w s).bind λb s=>if b=true then .ok true s else anyS r s
def Cw(s:PS):PM fR:=(u7 L s).bind λt s=>.ok t (if t.kind=0 then s else {s with at_:=s.at_+1})
def kO(w:Tx)(s:PS):PM Bool:=(isS L w s).bind λb s=>if b=true then (Cw L s).bind λ_ s=>.ok true s else .ok false s
def jl(w:Tx)(s:PS):PM Unit:=(kO L w s).bind λb s=>if b=true then .ok () s else (u7 L s).bind λt s=>S5 5 t s
def zG(k:Int)(s:PS):PM fR:=(u7 L s).bind λt s=>if t.kind=k then Cw L s else (u7 L s).bind λt s=>S5 5 t s
def inS(s:PS):PM Unit:=if 32<wr (s.deep+1)then (u7 L {s with deep:=wr (s.deep+1)}).bind λt s=>S5 13 t s else .ok () {s with deep:=wr (s.deep+1)}
def S6(s:PS):PM Unit:=.ok () {s with deep:=wr (s.deep-1)}
structure Kd where
 at_:fR
 kind:Int
 arr:Bool
 lo:Int
 hi:Int
def Ox(s:PS):PM Int:=(kO L [45] s).bind λb s=>if b=true then (zG L 3 s).bind λt s=>.ok (wr (-t.n)) s else (zG L 3 s).bind λt s=>.ok t.n s
def lvT:List (List Tx):=[[[79,82]],[[88,79,82]],[[65,78,68]],[[61],[60,62],[60],[62],[60,61],[62,61]],[[43],[45]],[[42],[47],[77,79,68]]]
def opT:List Tx:=[[43],[45],[42],[47],[77,79,68],[61],[60,62],[60],[62],[60,61],[62,61],[65,78,68],[88,79,82],[79,82]]
def agR(w:Tx):List Tx->Nat->Int
 |[],_=> -1
 |x::r,i=>if w=x then i else agR w r (i+1)
def opI(w:Tx):Int:=8+agR w opT 0
def yc:Ex:=.mk 0 0 [] [] [] 0
def abA(t:fR):Ex:=.mk 3 0 t.text [] [] t.line
def FZ(op:Int)(E:Tx)(l:List Ex)(line:Int):Ex:=.mk op 0 E [] l line
def Io(s:PS):PM Bool:=(u7 L s).bind λt s=>if t.kind=3 then .ok true s else isS L [45] s
def Oy:Nat->List Int->PS->PM (List Int)
 |0,_,_=>.out
 |f+1,l,s=>(Ox L s).bind λlo s=>(kO L [46,46] s).bind λb s=>(if b=true then Ox L s else .ok lo s).bind λhi s=>
  if l.length<100000 then (kO L [44] s).bind λb s=>if b=true then Oy f (l++[lo,hi]) s else (jl L [58] s).bind λ_ s=>.ok (l++[lo,hi]) s else .out
def Zw(s:PS):PM Bool:=(Io L s).bind λb s=>if b=true then .ok true s else (isS L [69,76,83,69] s).bind λb s=>if b=true then .ok true s else isS L [69,78,68,95,67,65,83,69] s
mutual
def u9:Nat->Nat->PS->PM Ex
 |0,_,_=>.out
 |f+1,n,s=>if n=6 then yd f s else if n<6 then (u9 f (n+1) s).bind λx s=>BJ f n x s else .out
def BJ:Nat->Nat->Ex->PS->PM Ex
 |0,_,_,_=>.out
 |f+1,n,x,s=>(anyS L (lvT.getD n []) s).bind λb s=>if b=true then (Cw L s).bind λt s=>(u9 f (n+1) s).bind λy s=>
  if n=3 then .ok (FZ (opI t.text) [] [x,y] t.line) s else BJ f n (FZ (opI t.text) [] [x,y] t.line) s
  else .ok x s
def yd:Nat->PS->PM Ex
 |0,_=>.out
 |f+1,s=>(u7 L s).bind λt s=>(isS L [45] s).bind λb s=>
  if b=true then F0 f 6 t s else (isS L [78,79,84] s).bind λb s=>if b=true then F0 f 7 t s else ye f s
def F0:Nat->Int->fR->PS->PM Ex
 |0,_,_,_=>.out
 |f+1,op,t,s=>(inS L s).bind λ_ s=>(Cw L s).bind λ_ s=>(yd f s).bind λx s=>(S6 s).bind λ_ s=>.ok (FZ op [] [x] t.line) s
def mh:Nat->PS->PM Ex
 |0,_=>.out
 |f+1,s=>u9 f 0 s
def yf:Nat->PS->PM Ex
 |0,_=>.out
 |f+1,s=>(inS L s).bind λ_ s=>(jl L [91] s).bind λ_ s=>(mh f s).bind λx s=>(jl L [93] s).bind λ_ s=>(S6 s).bind λ_ s=>.ok x s
def ye:Nat->PS->PM Ex
 |0,_=>.out
 |f+1,s=>(u7 L s).bind λt s=>
  if t.kind=3 then (Cw L s).bind λu s=>.ok (.mk 1 u.n [] [] [] t.line) s else
  (kO L [84,82,85,69] s).bind λb s=>if b=true then .ok (.mk 2 1 [] [] [] t.line) s else
  (kO L [70,65,76,83,69] s).bind λb s=>if b=true then .ok (.mk 2 0 [] [] [] t.line) s else
  (isS L [40] s).bind λb s=>if b=true then (inS L s).bind λ_ s=>(Cw L s).bind λ_ s=>(mh f s).bind λx s=>(jl L [41] s).bind λ_ s=>(S6 s).bind λ_ s=>.ok x s else
  (zG L 1 s).bind λ_ s=>
  (isS L [91] s).bind λb s=>if b=true then (yf f s).bind λx s=>.ok (FZ 4 t.text [x] t.line) s else
  (kO L [46] s).bind λb s=>if b=true then (zG L 1 s).bind λu s=>.ok (.mk 5 0 t.text u.text [] t.line) s else .ok (abA t) s
end
def agS(op:Int):Sm:=.mk op [] yc yc [] [] [] [] 0
def ap1(line:Int):Sm->Sm
 | .mk op name to val conds H fields blocks _=>.mk op name to val conds H fields blocks line
mutual
def oL:Nat->List Tx->PS->PM (List Sm)
 |0,_,_=>.out
 |f+1,ends,s=>yg f ends [] s
def yg:Nat->List Tx->List Sm->PS->PM (List Sm)
 |0,_,_,_=>.out
 |f+1,ends,l,s=>(anyS L ends s).bind λb s=>if b=true then .ok l s else (Cx f s).bind λx s=>if l.length<100000 then yg f ends (l++[x]) s else .out
def Cx:Nat->PS->PM Sm
 |0,_=>.out
 |f+1,s=>(u7 L s).bind λt s=>(inS L s).bind λ_ s=>(F2 f s).bind λx s=>(jl L [59] s).bind λ_ s=>(S6 s).bind λ_ s=>.ok (ap1 t.line x) s
def F2:Nat->PS->PM Sm
 |0,_=>.out
 |f+1,s=>
  (kO L [73,70] s).bind λb s=>if b=true then sL f s else
  (kO L [67,65,83,69] s).bind λb s=>if b=true then BK f s else
  (kO L [70,79,82] s).bind λb s=>if b=true then vd f s else
  (kO L [87,72,73,76,69] s).bind λb s=>if b=true then (mh L f s).bind λv s=>(jl L [68,79] s).bind λ_ s=>(oL f [[69,78,68,95,87,72,73,76,69]] s).bind λl s=>(jl L [69,78,68,95,87,72,73,76,69] s).bind λ_ s=>.ok (.mk 5 [] yc v [] [] [] [l] 0) s else
  (kO L [82,69,80,69,65,84] s).bind λb s=>if b=true then (oL f [[85,78,84,73,76]] s).bind λl s=>(jl L [85,78,84,73,76] s).bind λ_ s=>(mh L f s).bind λv s=>(jl L [69,78,68,95,82,69,80,69,65,84] s).bind λ_ s=>.ok (.mk 6 [] yc v [] [] [] [l] 0) s else
  (kO L [69,88,73,84] s).bind λb s=>if b=true then .ok (agS 7) s else
  (kO L [82,69,84,85,82,78] s).bind λb s=>if b=true then .ok (agS 8) s else
  (zG L 1 s).bind λE s=>(kO L [40] s).bind λb s=>if b=true then F3 f E.text s else
  (isS L [91] s).bind λb s=>(if b=true then (yf L f s).bind λx s=>.ok (FZ 4 E.text [x] E.line) s else .ok (abA E) s).bind λto s=>
  (jl L [58,61] s).bind λ_ s=>(mh L f s).bind λv s=>.ok (.mk 1 [] to v [] [] [] [] 0) s
def sL:Nat->PS->PM Sm
 |0,_=>.out
 |f+1,s=>nz f [] [] s
def nz:Nat->List Ex->List (List Sm)->PS->PM Sm
 |0,_,_,_=>.out
 |f+1,c,l,s=>(mh L f s).bind λx s=>(jl L [84,72,69,78] s).bind λ_ s=>(oL f [[69,76,83,73,70],[69,76,83,69],[69,78,68,95,73,70]] s).bind λb s=>
  if c.length<100000/\l.length<100000 then (kO L [69,76,83,73,70] s).bind λm s=>if m=true then nz f (c++[x]) (l++[b]) s else
   (kO L [69,76,83,69] s).bind λm s=>(if m=true then (oL f [[69,78,68,95,73,70]] s).bind λz s=>.ok (l++[b]++[z]) s else .ok (l++[b]) s).bind λl s=>(jl L [69,78,68,95,73,70] s).bind λ_ s=>.ok (.mk 2 [] yc yc (c++[x]) [] [] l 0) s
  else .out
def BK:Nat->PS->PM Sm
 |0,_=>.out
 |f+1,s=>(mh L f s).bind λv s=>(jl L [79,70] s).bind λ_ s=>vg f v [] [] s
def vg:Nat->Ex->List (List Int)->List (List Sm)->PS->PM Sm
 |0,_,_,_,_=>.out
 |f+1,v,c,l,s=>(Io L s).bind λb s=>
  if b=true then (Oy L f [] s).bind λx s=>(zH f [] s).bind λb s=>if c.length<100000/\l.length<100000 then vg f v (c++[x]) (l++[b]) s else .out
  else (kO L [69,76,83,69] s).bind λm s=>(if m=true then (oL f [[69,78,68,95,67,65,83,69]] s).bind λz s=>if l.length<100000 then .ok (l++[z]) s else .out else .ok l s).bind λl s=>(jl L [69,78,68,95,67,65,83,69] s).bind λ_ s=>.ok (.mk 3 [] yc v [] c [] l 0) s
def zH:Nat->List Sm->PS->PM (List Sm)
 |0,_,_=>.out
 |f+1,l,s=>(Zw L s).bind λb s=>if b=true then .ok l s else (Cx f s).bind λx s=>if l.length<100000 then zH f (l++[x]) s else .out
def vd:Nat->PS->PM Sm
 |0,_=>.out
 |f+1,s=>(zG L 1 s).bind λE s=>(jl L [58,61] s).bind λ_ s=>(mh L f s).bind λa s=>(jl L [84,79] s).bind λ_ s=>(mh L f s).bind λb s=>
  (u7 L s).bind λt s=>(kO L [66,89] s).bind λm s=>(if m=true then mh L f s else .ok (.mk 1 1 [] [] [] t.line) s).bind λc s=>
  (jl L [68,79] s).bind λ_ s=>(oL f [[69,78,68,95,70,79,82]] s).bind λl s=>(jl L [69,78,68,95,70,79,82] s).bind λ_ s=>.ok (.mk 4 E.text yc yc [a,b,c] [] [] [l] 0) s
def F3:Nat->Tx->PS->PM Sm
 |0,_,_=>.out
 |f+1,E,s=>(kO L [41] s).bind λb s=>if b=true then .ok (.mk 9 E yc yc [] [] [] [] 0) s else zI f E [] [] s
def zI:Nat->Tx->List Tx->List Ex->PS->PM Sm
 |0,_,_,_,_=>.out
 |f+1,E,c,l,s=>(zG L 1 s).bind λt s=>(jl L [58,61] s).bind λ_ s=>(mh L f s).bind λx s=>
  if c.length<100000/\l.length<100000 then (kO L [44] s).bind λb s=>if b=true then zI f E (c++[t.text]) (l++[x]) s else (jl L [41] s).bind λ_ s=>.ok (.mk 9 E yc yc (l++[x]) [] (c++[t.text]) [] 0) s
  else .out
end
end
def b6:Ex->Int| .mk a _ _ _ _ _=>a
def iK:Ex->Int| .mk _ a _ _ _ _=>a
def dU:Ex->Tx| .mk _ _ a _ _ _=>a
def ga:Ex->Tx| .mk _ _ _ a _ _=>a
def de:Ex->List Ex| .mk _ _ _ _ a _=>a
def kB:Ex->Int| .mk _ _ _ _ _ a=>a
@[simp] theorem oM{a b c d e f}:b6 (.mk a b c d e f)=a:=rfl
@[simp] theorem yh{a b c d e f}:iK (.mk a b c d e f)=b:=rfl
@[simp] theorem BL{a b c d e f}:dU (.mk a b c d e f)=c:=rfl
@[simp] theorem Li{a b c d e f}:ga (.mk a b c d e f)=d:=rfl
@[simp] theorem qg{a b c d e f}:de (.mk a b c d e f)=e:=rfl
@[simp] theorem Wu{a b c d e f}:kB (.mk a b c d e f)=f:=rfl
theorem abB(x:Ex):x8 x=[.int .i64 (b6 x),.int .i64 (iK x),.str (dU x),.str (ga x),.list ((de x).map bU),.int .i64 (kB x)]:=by cases x;simp[x8,uf]
theorem aJ(x:Ex):bU x=.agg [.int .i64 (b6 x),.int .i64 (iK x),.str (dU x),.str (ga x),.list ((de x).map bU),.int .i64 (kB x)]:=by rw[Jl,abB]
def bK:Sm->Int| .mk a _ _ _ _ _ _ _ _=>a
def iB:Sm->Tx| .mk _ a _ _ _ _ _ _ _=>a
def fe:Sm->Ex| .mk _ _ a _ _ _ _ _ _=>a
def eh:Sm->Ex| .mk _ _ _ a _ _ _ _ _=>a
def cH:Sm->List Ex| .mk _ _ _ _ a _ _ _ _=>a
def eF:Sm->List (List Int)| .mk _ _ _ _ _ a _ _ _=>a
def eu:Sm->List Tx| .mk _ _ _ _ _ _ a _ _=>a
def bL:Sm->List (List Sm)| .mk _ _ _ _ _ _ _ a _=>a
def lL:Sm->Int| .mk _ _ _ _ _ _ _ _ a=>a
@[simp] theorem Wv{a b c d e f g h i}:bK (.mk a b c d e f g h i)=a:=rfl
@[simp] theorem agT{a b c d e f g h i}:iB (.mk a b c d e f g h i)=b:=rfl
@[simp] theorem axo{a b c d e f g h i}:fe (.mk a b c d e f g h i)=c:=rfl
@[simp] theorem axp{a b c d e f g h i}:eh (.mk a b c d e f g h i)=d:=rfl
@[simp] theorem Ww{a b c d e f g h i}:cH (.mk a b c d e f g h i)=e:=rfl
@[simp] theorem auM{a b c d e f g h i}:eF (.mk a b c d e f g h i)=f:=rfl
@[simp] theorem Wx{a b c d e f g h i}:eu (.mk a b c d e f g h i)=g:=rfl
@[simp] theorem agU{a b c d e f g h i}:bL (.mk a b c d e f g h i)=h:=rfl
@[simp] theorem axq{a b c d e f g h i}:lL (.mk a b c d e f g h i)=i:=rfl
def dz(l:List Sm):D:=.list (l.map cq)
theorem fj(x:Sm):cq x=.agg [.int .i64 (bK x),.str (iB x),
 .int .i64 (b6 (fe x)),.int .i64 (iK (fe x)),.str (dU (fe x)),.str (ga (fe x)),.list ((de (fe x)).map bU),.int .i64 (kB (fe x)),
 .int .i64 (b6 (eh x)),.int .i64 (iK (eh x)),.str (dU (eh x)),.str (ga (eh x)),.list ((de (eh x)).map bU),.int .i64 (kB (eh x)),
 .list ((cH x).map bU),.list ((eF x).map n8),.list ((eu x).map .str),.list ((bL x).map dz),.int .i64 (lL x)]:=by
 cases x;simp[cq,abB,uf,Cv,dz]
def Zx(c:UInt8):Bool:=(decide (65<=c.toNat)&&decide (c.toNat<=90))||(decide (97<=c.toNat)&&decide (c.toNat<=122))
def Zy(c:UInt8):Bool:=decide (48<=c.toNat)&&decide (c.toNat<=57)
def wh:List UInt8->Nat->Bool
 |[],_=>true
 |c::r,i=>(Zx c||(!decide (i=0)&&(decide (c=95)||Zy c)))&&wh r (i+1)
def dq(s:Tx):Bool:=decide (1<=s.length)&&(decide (s.length<=16)&&(!wg s&&wh s 0))
structure Pn where
 name:Tx
 ty:Int
 Oz:Bool
 deriving DecidableEq
def dj(p:Pn):D:=.agg [.str p.name,.int .i64 p.ty,.bool p.Oz]
def kP(ins outs:List (Tx×Bool))(n:Nat):List Pn:=ins.map (λx=>⟨x.1,if x.2 then 1 else 2,true⟩)++outs.map (λx=>⟨x.1,if x.2 then 1 else 2,false⟩)++List.replicate n ⟨[],1,false⟩
def Cy:List (Tx×Bool):=[([68,111,110,101],false),([66,117,115,121],false),([65,99,116,105,118,101],false),([67,111,109,109,97,110,100,65,98,111,114,116,101,100],false),([69,114,114,111,114],false)]
def Lj:List (Int×List Pn):=[
 (10,kP [([73,78],false),([80,84],true)] [([81],false),([69,84],true)] 0),
 (11,kP [([73,78],false),([80,84],true)] [([81],false),([69,84],true)] 0),
 (12,kP [([73,78],false),([80,84],true)] [([81],false),([69,84],true)] 2),
 (13,kP [([67,85],false),([82],false),([80,86],true)] [([81],false),([67,86],true)] 1),
 (14,kP [([67,68],false),([76,68],false),([80,86],true)] [([81],false),([67,86],true)] 1),
 (15,kP [([67,76,75],false)] [([81],false)] 1),
 (16,kP [([67,76,75],false)] [([81],false)] 1),
 (17,kP [([83,49],false),([82],false)] [([81,49],false)] 0),
 (18,kP [([83],false),([82,49],false)] [([81,49],false)] 0),
 (20,kP [([65,120,105,115],true),([69,110,97,98,108,101],false)] [([83,116,97,116,117,115],false),([69,114,114,111,114],false)] 0),
 (21,kP [([65,120,105,115],true),([69,120,101,99,117,116,101],false)] Cy 2),
 (22,kP [([65,120,105,115],true),([69,120,101,99,117,116,101],false)] Cy 2),
 (23,kP [([65,120,105,115],true),([69,120,101,99,117,116,101],false)] Cy 2),
 (24,kP [([65,120,105,115],true),([69,120,101,99,117,116,101],false),([80,111,115,105,116,105,111,110],true),([86,101,108,111,99,105,116,121],true),([66,117,102,102,101,114,77,111,100,101],true)] Cy 2),
 (25,kP [([65,120,105,115],true),([69,120,101,99,117,116,101],false),([68,105,115,116,97,110,99,101],true),([86,101,108,111,99,105,116,121],true),([66,117,102,102,101,114,77,111,100,101],true)] Cy 2),
 (26,kP [([65,120,105,115],true),([69,120,101,99,117,116,101],false),([68,105,115,116,97,110,99,101],true),([86,101,108,111,99,105,116,121],true),([66,117,102,102,101,114,77,111,100,101],true)] Cy 2),
 (27,kP [([65,120,105,115],true),([69,120,101,99,117,116,101],false),([86,101,108,111,99,105,116,121],true)] [([73,110,86,101,108,111,99,105,116,121],false),([66,117,115,121],false),([65,99,116,105,118,101],false),([67,111,109,109,97,110,100,65,98,111,114,116,101,100],false),([69,114,114,111,114],false)] 2),
 (28,kP [([65,120,105,115],true),([69,120,101,99,117,116,101],false),([77,97,115,116,101,114],true),([78,117,109,101,114,97,116,111,114],true),([68,101,110,111,109,105,110,97,116,111,114],true)] [([73,110,71,101,97,114],false),([66,117,115,121],false),([65,99,116,105,118,101],false),([67,111,109,109,97,110,100,65,98,111,114,116,101,100],false),([69,114,114,111,114],false)] 2),
 (29,kP [([65,120,105,115],true),([69,120,101,99,117,116,101],false)] [([68,111,110,101],false),([69,114,114,111,114],false)] 1),
 (30,kP [([65,120,105,115],true),([69,120,101,99,117,116,101],false),([80,111,115,105,116,105,111,110],true)] [([68,111,110,101],false),([69,114,114,111,114],false)] 1),
 (31,kP [([65,120,105,115],true),([69,110,97,98,108,101],false),([80,101,114,99,101,110,116],true)] [([69,110,97,98,108,101,100],false)] 0)]
def tV:List (Int×List Pn)->Int->List Pn
 |[],_=>[]
 |(a,l)::r,k=>if a=k then l else tV r k
def bJ(k:Int):List Pn:=tV Lj k
def zJ:List Pn->Tx->Option Pn
 |[],_=>none
 |p::r,s=>if p.name=s/\s≠[]then some p else zJ r s
def mi(k:Int)(s:Tx):Option Pn:=zJ (bJ k) s
def bq:List Vr->Tx->Option Vr
 |[],_=>none
 |v::r,s=>if v.name=s then some v else bq r s
def bV(v:Vr):Int:=if v.arr=true then v.hi-v.lo+1 else if 2<v.ty then (bJ v.ty).length else 1
structure Te where
 t:Int
 e:Int
 line:Int
 deriving DecidableEq
def fm(t:Int):Te:=⟨t,0,0⟩
def cL(e line:Int):Te:=⟨0,e,line⟩
def gL(op t:Int):Int:=if op=6\/(8<=op/\op<=12)\/(15<=op/\op<=18)then 1 else if op=13\/op=14 then t else 2
def ie(op:Int):Int:=if op=6\/(8<=op/\op<=12)then 1 else 2
def cv(op line:Int)(a b:Te):Te:=
 if a.e≠0 then ⟨0,a.e,a.line⟩else if b.e≠0 then ⟨0,b.e,b.line⟩else
 if a.t≠gL op a.t\/b.t≠gL op a.t then cL 10 line else fm (ie op)
theorem iE{op line:Int}{a b:Te}(h:(cv op line a b).e=0):a.e=0/\b.e=0/\a.t=gL op a.t/\b.t=gL op a.t/\cv op line a b=fm (ie op):=by
 unfold cv at h⊢;by_cases E:a.e≠0
 ·rw[abf E]at h;exact absurd h E
 ·rw[aa4 E]at h⊢;by_cases H:b.e≠0
  ·rw[abf H]at h;exact absurd h H
  ·rw[aa4 H]at h⊢;by_cases I:a.t≠gL op a.t\/b.t≠gL op a.t
   ·rw[abf I]at h;simp[cL]at h
   ·rw[aa4 I];simp only[ne_eq,anS,Decidable.not_not]at E H I;exact⟨E,H,I.1,I.2,rfl⟩
mutual
def aL(vs:List Vr):Ex->Te
 | .mk op _ name field sub line=>
  if op=1\/op=2 then fm op
  else if op=3\/op=4\/op=5 then
   match bq vs name with
   |none=>cL 9 line
   |some v=>
    if op=5 then (if v.ty<=2 then cL 10 line else match mi v.ty field with
     |none=>cL 9 line
     |some p=>fm p.ty)
    else if v.arr≠decide (op=4)\/2<v.ty then cL 10 line
    else if op=4 then yi vs v.ty sub
    else fm v.ty
  else tw vs op line sub
def yi(vs:List Vr)(t:Int):List Ex->Te
 |[]=>fm t
 |x::_=>if (aL vs x).e≠0 then cL (aL vs x).e (aL vs x).line else if (aL vs x).t≠1 then cL 10 (kB x)else fm t
def tw(vs:List Vr)(op line:Int):List Ex->Te
 |[]=>fm 0
 |[x]=>cv op line (aL vs x) (aL vs x)
 |x::y::_=>cv op line (aL vs x) (aL vs y)
end
def dG(vs:List Vr)(x:Ex)(t:Int):Int×Int:=if (aL vs x).e≠0 then ((aL vs x).e,(aL vs x).line)else if (aL vs x).t≠t then (10,kB x)else (0,0)
def abC(b:Int):Nat:=
 if b=10 then 4 else if b=11 then 4 else if b=12 then 6 else if b=13 then 6 else if b=14 then 6 else if b=15 then 3 else if b=16 then 3 else if b=17 then 3 else if b=18 then 3 else if b=20 then 4 else if b=21 then 9 else if b=22 then 9 else if b=23 then 9 else if b=24 then 12 else if b=25 then 12 else if b=26 then 12 else if b=27 then 10 else if b=28 then 12 else if b=29 then 5 else if b=30 then 6 else if b=31 then 4 else 0
def jy:List Int:=[10,11,12,13,14,15,16,17,18,20,21,22,23,24,25,26,27,28,29,30,31]
theorem tW{b:Int}(D:b∉jy):bJ b=[]:=by
 simp only[jy,abd,afI,an2,anS]at D;obtain⟨E,H,I,J,M,O,T,U,V,Y,Z,y,A',A0,A1,A2,A3,A4,A5,A6,A7⟩:=D;unfold bJ Lj;simp only[tV,aa4 (agB E),aa4 (agB H),aa4 (agB I),aa4 (agB J),aa4 (agB M),aa4 (agB O),aa4 (agB T),aa4 (agB U),aa4 (agB V),aa4 (agB Y),aa4 (agB Z),aa4 (agB y),aa4 (agB A'),aa4 (agB A0),aa4 (agB A1),aa4 (agB A2),aa4 (agB A3),aa4 (agB A4),aa4 (agB A5),aa4 (agB A6),aa4 (agB A7)]
theorem BM(b:Int):(bJ b).length<=20:=by
 by_cases D:b∈jy
 ·simp only[jy,abd,afI,an2]at D;rcases D with rfl|rfl|rfl|rfl|rfl|rfl|rfl|rfl|rfl|rfl|rfl|rfl|rfl|rfl|rfl|rfl|rfl|rfl|rfl|rfl|rfl<;>decide
 ·rw[tW D];decide
def abD(x:au)(n:Int):Bool:=decide (x.n<=n)&&decide (n<=x.m)
def Al(C:List Int)(k:Int):Int:=C[k.toNat]?.getD 0
def ak7(C:List Int)(x:au):Bool:=decide (0<=Al C (x.b+1)/\Al C x.a<=Al C x.b)||decide (Al C (x.b+1)<0/\Al C x.b<=Al C x.a)
structure Ms where
 cells:List Int
 Wz:List Int
 at_:Int
 fuel:Int
 fault:Int
def Ms.pop(s:Ms):Ms:={s with Wz:=s.Wz.dropLast}
def Ms.push(s:Ms)(n:Int):Ms:={s with Wz:=s.Wz++[n]}
def Ms.top(s:Ms):Int:=s.Wz.getLast?.getD 0
def agW(C:List Int)(k n:Int):List Int:=C.set k.toNat n
def ak8(x:au)(s:Ms):Option Ms:=
 if x.op=1 then some (s.push x.n)
 else if x.op=2 then some (s.push (Al s.cells x.a))
 else if x.op=3 then some (s.push (ei (decide (Al s.cells x.a≠0))))
 else if x.op=4\/x.op=5 then
  (if abD x s.top=true then some (s.pop.push (if x.op=4 then Al s.cells (x.a+(s.top-x.n))else ei (decide (Al s.cells (x.a+(s.top-x.n))≠0))))else some {s.pop with fault:=3})
 else if x.op=6 then some {s.pop with cells:=agW s.cells x.a s.top}
 else if x.op=7 then
  (if abD x s.pop.top=true then some {s.pop.pop with cells:=agW s.cells (x.a+(s.pop.top-x.n)) s.top} else some {s.pop.pop with fault:=3})
 else none
def doF(x:au)(s:Ms):Ms:=
 if x.b=6\/x.b=7 then
  (if (tv x.b s.top (decide (x.a=1))).2.2=0 then s.pop.push (tv x.b s.top (decide (x.a=1))).1 else {s.pop with fault:=(tv x.b s.top (decide (x.a=1))).2.2})
 else
  (if (xU x.b s.pop.top s.top (decide (x.a=1))).2.2=0 then s.pop.pop.push (xU x.b s.pop.top s.top (decide (x.a=1))).1 else {s.pop.pop with fault:=(xU x.b s.pop.top s.top (decide (x.a=1))).2.2})
def agX(x:au)(C:List Int):List Int:=C.take x.a.toNat++ak5 x.b ((C.drop x.a.toNat).take (abC x.b))++C.drop (x.a.toNat+abC x.b)
def ap2(x:au)(s:Ms):Ms:=
 if x.op=8 then doF x s
 else if x.op=9 then {s with at_:=x.a}
 else if x.op=10 then (if s.top=0 then {s.pop with at_:=x.a} else s.pop)
 else if x.op=11 then (if s.fuel=0 then {s with fault:=4} else {s with fuel:=s.fuel-1})
 else if x.op=12 then {s with cells:=agX x s.cells}
 else if x.op=13 then s.push (ei (ak7 s.cells x))
 else if x.op=14 then s.push (ei (decide (x.n<=Al s.cells x.a/\Al s.cells x.a<=x.m)))
 else s
def ak9(x:au)(s:Ms):Ms:=
 match ak8 x {s with at_:=s.at_+1} with
 |some t=>t
 |none=>ap2 x {s with at_:=s.at_+1}
inductive Jm(l:List au):Ms->Ms->Prop
 |fault (s:Ms) (h:s.fault≠0):Jm l s s
 |fin (s:Ms) (x:au) (A8:s.fault=0) (A9:l[s.at_.toNat]?=some x) (h:x.op=15):Jm l s s
 |step (s:Ms) (x:au) (t:Ms) (A8:s.fault=0) (A9:l[s.at_.toNat]?=some x) (h:x.op≠15) (AA:Jm l (ak9 x s) t):Jm l s t
end Go.Am
end
section
namespace Go.Am
open Go
open Go.Proofs
abbrev T2(t:Nat)(k:TK)(s:Nat):Prop:=tk Tryz.prog t=k/\fT Tryz.prog t=some s
abbrev T3(t:Nat)(k:TK)(s:Nat)(z:List AV):Prop:=T2 t k s/\vE Tryz.prog t=some z
abbrev T5(t:Nat)(k:TK)(s:Nat)(z:List AV)(b:Nat)(d:D):Prop:=T3 t k s z/\Ay Tryz.prog t=some b/\m8 Tryz.prog t=some d
abbrev FF(t i o y:Nat):Prop:=yE Tryz.prog t i=some o/\J2 Tryz.prog t i=some y
@[simp] theorem aA7:T2 1 (.func) 1:=by and_intros<;>kernel_rfl
@[simp] theorem aA8:T5 2 (.int .i64) 1 ([.d (.int .i64 0)]) 8 (.int .i64 0):=by and_intros<;>kernel_rfl
@[simp] theorem aA9:T5 3 (.int .i64) 1 ([.d (.int .i64 0)]) 8 (.int .i64 0):=by and_intros<;>kernel_rfl
@[simp] theorem aBa:T5 4 (.bool) 1 ([.d (.bool false)]) 1 (.bool false):=by and_intros<;>kernel_rfl
@[simp] theorem aBb:T5 5 (.int .u8) 1 ([.d (.int .u8 0)]) 1 (.int .u8 0):=by and_intros<;>kernel_rfl
@[simp] theorem aBc:T5 6 (.int .u8) 1 ([.d (.int .u8 0)]) 1 (.int .u8 0):=by and_intros<;>kernel_rfl
@[simp] theorem aBd:T5 7 (.struct) 4 ([.d (.int .i64 0),.d (.int .i64 0),.d (.bool false),.d (.int .u8 0)]) 24 (.agg ([.int .i64 0,.int .i64 0,.bool false,.int .u8 0])):=by and_intros<;>kernel_rfl
@[simp] theorem axw:FF 7 0 0 2:=by and_intros<;>kernel_rfl
@[simp] theorem axx:FF 7 1 1 3:=by and_intros<;>kernel_rfl
@[simp] theorem axy:FF 7 2 2 4:=by and_intros<;>kernel_rfl
@[simp] theorem axz:FF 7 3 3 6:=by and_intros<;>kernel_rfl
@[simp] theorem ap3:bF Tryz.prog 7=some [(0,1),(1,1),(2,1),(3,1)]:=by kernel_rfl
@[simp] theorem aBe:T5 8 (.struct) 4 ([.d (.int .i64 0),.d (.int .i64 0),.d (.bool false),.d (.int .u8 0)]) 24 (.agg ([.int .i64 0,.int .i64 0,.bool false,.int .u8 0])):=by and_intros<;>kernel_rfl
@[simp] theorem axA:FF 8 0 0 2:=by and_intros<;>kernel_rfl
@[simp] theorem axB:FF 8 1 1 3:=by and_intros<;>kernel_rfl
@[simp] theorem axC:FF 8 2 2 4:=by and_intros<;>kernel_rfl
@[simp] theorem axD:FF 8 3 3 6:=by and_intros<;>kernel_rfl
@[simp] theorem ap4:bF Tryz.prog 8=some [(0,1),(1,1),(2,1),(3,1)]:=by kernel_rfl
@[simp] theorem aBf:T5 9 (.str) 1 ([.d (.str [])]) 16 (.str []):=by and_intros<;>kernel_rfl
@[simp] theorem auN:fw Tryz.prog 9=true:=by kernel_rfl
@[simp] theorem azY:T5 10 (.str) 1 ([.d (.str [])]) 16 (.str []):=by and_intros<;>kernel_rfl
@[simp] theorem ap5:fw Tryz.prog 10=true:=by kernel_rfl
@[simp] theorem azZ:T5 11 (.str) 1 ([.d (.str [])]) 16 (.str []):=by and_intros<;>kernel_rfl
@[simp] theorem ap6:fw Tryz.prog 11=true:=by kernel_rfl
@[simp] theorem az0:T5 12 (.int .u64) 1 ([.d (.int .u64 0)]) 8 (.int .u64 0):=by and_intros<;>kernel_rfl
@[simp] theorem az1:T5 13 (.struct) 2 ([.d (.str []),.d (.int .u64 0)]) 24 (.agg ([.str [],.int .u64 0])):=by and_intros<;>kernel_rfl
@[simp] theorem auO:FF 13 0 0 9:=by and_intros<;>kernel_rfl
@[simp] theorem auP:FF 13 1 1 12:=by and_intros<;>kernel_rfl
@[simp] theorem aod:bF Tryz.prog 13=some [(0,1),(1,1)]:=by kernel_rfl
@[simp] theorem az2:T5 14 (.struct) 2 ([.d (.str []),.d (.int .u64 0)]) 24 (.agg ([.str [],.int .u64 0])):=by and_intros<;>kernel_rfl
@[simp] theorem auQ:FF 14 0 0 9:=by and_intros<;>kernel_rfl
@[simp] theorem auR:FF 14 1 1 12:=by and_intros<;>kernel_rfl
@[simp] theorem aoe:bF Tryz.prog 14=some [(0,1),(1,1)]:=by kernel_rfl
@[simp] theorem az3:T2 15 (.ptr 348) 1:=by and_intros<;>kernel_rfl
@[simp] theorem az4:T2 16 (.ptr 351) 1:=by and_intros<;>kernel_rfl
@[simp] theorem az5:T2 17 (.ptr 359) 1:=by and_intros<;>kernel_rfl
@[simp] theorem az6:T3 18 (.struct) 1 ([.lit (.pointer none)]):=by and_intros<;>kernel_rfl
@[simp] theorem auS:FF 18 0 0 17:=by and_intros<;>kernel_rfl
@[simp] theorem aof:bF Tryz.prog 18=some [(0,1)]:=by kernel_rfl
@[simp] theorem az7:T3 19 (.struct) 1 ([.lit (.pointer none)]):=by and_intros<;>kernel_rfl
@[simp] theorem auT:FF 19 0 0 17:=by and_intros<;>kernel_rfl
@[simp] theorem aog:bF Tryz.prog 19=some [(0,1)]:=by kernel_rfl
@[simp] theorem az8:T2 20 (.iface) 1:=by and_intros<;>kernel_rfl
@[simp] theorem az9:T5 21 (.int .i32) 1 ([.d (.int .i32 0)]) 4 (.int .i32 0):=by and_intros<;>kernel_rfl
@[simp] theorem aAa:T5 22 (.slice 64) 1 ([.lit (.slice none 0 0)]) 24 (.list []):=by and_intros<;>kernel_rfl
@[simp] theorem ap7:fw Tryz.prog 22=true:=by kernel_rfl
@[simp] theorem aAb:T5 23 (.slice 119) 1 ([.lit (.slice none 0 0)]) 24 (.list []):=by and_intros<;>kernel_rfl
@[simp] theorem ap8:fw Tryz.prog 23=true:=by kernel_rfl
@[simp] theorem aAc:T5 24 (.struct) 3 ([.d (.str []),.lit (.slice none 0 0),.lit (.slice none 0 0)]) 64 (.agg ([.str [],.list [],.list []])):=by and_intros<;>kernel_rfl
@[simp] theorem auU:FF 24 0 0 9:=by and_intros<;>kernel_rfl
@[simp] theorem auV:FF 24 1 1 22:=by and_intros<;>kernel_rfl
@[simp] theorem auW:FF 24 2 2 23:=by and_intros<;>kernel_rfl
@[simp] theorem aoh:bF Tryz.prog 24=some [(0,1),(1,1),(2,1)]:=by kernel_rfl
@[simp] theorem aAd:T5 25 (.struct) 3 ([.d (.str []),.lit (.slice none 0 0),.lit (.slice none 0 0)]) 64 (.agg ([.str [],.list [],.list []])):=by and_intros<;>kernel_rfl
@[simp] theorem auX:FF 25 0 0 9:=by and_intros<;>kernel_rfl
@[simp] theorem auY:FF 25 1 1 22:=by and_intros<;>kernel_rfl
@[simp] theorem auZ:FF 25 2 2 23:=by and_intros<;>kernel_rfl
@[simp] theorem aoi:bF Tryz.prog 25=some [(0,1),(1,1),(2,1)]:=by kernel_rfl
@[simp] theorem aAe:T5 26 (.slice 2) 1 ([.lit (.slice none 0 0)]) 24 (.list []):=by and_intros<;>kernel_rfl
@[simp] theorem ap9:fw Tryz.prog 26=true:=by kernel_rfl
@[simp] theorem aAf:T2 27 (.func) 1:=by and_intros<;>kernel_rfl
@[simp] theorem aAg:T2 28 (.func) 1:=by and_intros<;>kernel_rfl
@[simp] theorem aAh:T5 29 (.struct) 2 ([.d (.int .i64 0),.d (.int .i64 0)]) 16 (.agg ([.int .i64 0,.int .i64 0])):=by and_intros<;>kernel_rfl
@[simp] theorem au0:FF 29 0 0 3:=by and_intros<;>kernel_rfl
@[simp] theorem au1:FF 29 1 1 3:=by and_intros<;>kernel_rfl
@[simp] theorem aoj:bF Tryz.prog 29=some [(0,1),(1,1)]/\cB Tryz.prog 29=some [.int .i64,.int .i64]:=by and_intros<;>kernel_rfl
@[simp] theorem aAi:T5 30 (.struct) 2 ([.d (.int .i64 0),.d (.int .i64 0)]) 16 (.agg ([.int .i64 0,.int .i64 0])):=by and_intros<;>kernel_rfl
@[simp] theorem au2:FF 30 0 0 3:=by and_intros<;>kernel_rfl
@[simp] theorem au3:FF 30 1 1 3:=by and_intros<;>kernel_rfl
@[simp] theorem aok:bF Tryz.prog 30=some [(0,1),(1,1)]/\cB Tryz.prog 30=some [.int .i64,.int .i64]:=by and_intros<;>kernel_rfl
@[simp] theorem aAj:T2 31 (.func) 1:=by and_intros<;>kernel_rfl
@[simp] theorem aAk:T5 32 (.slice 49) 1 ([.lit (.slice none 0 0)]) 24 (.list []):=by and_intros<;>kernel_rfl
@[simp] theorem aqa:fw Tryz.prog 32=true:=by kernel_rfl
@[simp] theorem aAl:T5 33 (.struct) 3 ([.lit (.slice none 0 0),.d (.int .i64 0),.d (.int .i64 0)]) 40 (.agg ([.list [],.int .i64 0,.int .i64 0])):=by and_intros<;>kernel_rfl
@[simp] theorem au4:FF 33 0 0 32:=by and_intros<;>kernel_rfl
@[simp] theorem au5:FF 33 1 1 3:=by and_intros<;>kernel_rfl
@[simp] theorem au6:FF 33 2 2 3:=by and_intros<;>kernel_rfl
@[simp] theorem aol:bF Tryz.prog 33=some [(0,1),(1,1),(2,1)]:=by kernel_rfl
@[simp] theorem aAm:T5 34 (.struct) 3 ([.lit (.slice none 0 0),.d (.int .i64 0),.d (.int .i64 0)]) 40 (.agg ([.list [],.int .i64 0,.int .i64 0])):=by and_intros<;>kernel_rfl
@[simp] theorem au7:FF 34 0 0 32:=by and_intros<;>kernel_rfl
@[simp] theorem au8:FF 34 1 1 3:=by and_intros<;>kernel_rfl
@[simp] theorem au9:FF 34 2 2 3:=by and_intros<;>kernel_rfl
@[simp] theorem aom:bF Tryz.prog 34=some [(0,1),(1,1),(2,1)]:=by kernel_rfl
@[simp] theorem aAn:T5 35 (.int .i64) 1 ([.d (.int .i64 0)]) 8 (.int .i64 0):=by and_intros<;>kernel_rfl
@[simp] theorem aAo:T2 46 (.func) 1:=by and_intros<;>kernel_rfl
@[simp] theorem aAp:T5 48 (.struct) 5 ([.d (.int .i64 0),.d (.int .i64 0),.d (.int .i64 0),.d (.int .i64 0),.d (.int .i64 0)]) 40 (.agg ([.int .i64 0,.int .i64 0,.int .i64 0,.int .i64 0,.int .i64 0])):=by and_intros<;>kernel_rfl
@[simp] theorem ava:FF 48 0 0 3:=by and_intros<;>kernel_rfl
@[simp] theorem avb:FF 48 1 1 3:=by and_intros<;>kernel_rfl
@[simp] theorem avc:FF 48 2 2 3:=by and_intros<;>kernel_rfl
@[simp] theorem avd:FF 48 3 3 2:=by and_intros<;>kernel_rfl
@[simp] theorem ave:FF 48 4 4 2:=by and_intros<;>kernel_rfl
@[simp] theorem aon:bF Tryz.prog 48=some [(0,1),(1,1),(2,1),(3,1),(4,1)]/\cB Tryz.prog 48=some [.int .i64,.int .i64,.int .i64,.int .i64,.int .i64]:=by and_intros<;>kernel_rfl
@[simp] theorem aAq:T5 49 (.struct) 5 ([.d (.int .i64 0),.d (.int .i64 0),.d (.int .i64 0),.d (.int .i64 0),.d (.int .i64 0)]) 40 (.agg ([.int .i64 0,.int .i64 0,.int .i64 0,.int .i64 0,.int .i64 0])):=by and_intros<;>kernel_rfl
@[simp] theorem avf:FF 49 0 0 3:=by and_intros<;>kernel_rfl
@[simp] theorem avg:FF 49 1 1 3:=by and_intros<;>kernel_rfl
@[simp] theorem avh:FF 49 2 2 3:=by and_intros<;>kernel_rfl
@[simp] theorem avi:FF 49 3 3 2:=by and_intros<;>kernel_rfl
@[simp] theorem avj:FF 49 4 4 2:=by and_intros<;>kernel_rfl
@[simp] theorem aoo:bF Tryz.prog 49=some [(0,1),(1,1),(2,1),(3,1),(4,1)]/\cB Tryz.prog 49=some [.int .i64,.int .i64,.int .i64,.int .i64,.int .i64]:=by and_intros<;>kernel_rfl
@[simp] theorem aAr:T5 54 (.struct) 5 ([.d (.int .i64 0),.d (.str []),.d (.int .i64 0),.d (.int .i64 0),.d (.int .i64 0)]) 48 (.agg ([.int .i64 0,.str [],.int .i64 0,.int .i64 0,.int .i64 0])):=by and_intros<;>kernel_rfl
@[simp] theorem avk:FF 54 0 0 3:=by and_intros<;>kernel_rfl
@[simp] theorem avl:FF 54 1 1 9:=by and_intros<;>kernel_rfl
@[simp] theorem avm:FF 54 2 2 2:=by and_intros<;>kernel_rfl
@[simp] theorem avn:FF 54 3 3 3:=by and_intros<;>kernel_rfl
@[simp] theorem avo:FF 54 4 4 3:=by and_intros<;>kernel_rfl
@[simp] theorem aop:bF Tryz.prog 54=some [(0,1),(1,1),(2,1),(3,1),(4,1)]/\cB Tryz.prog 54=some [.int .i64,.str,.int .i64,.int .i64,.int .i64]:=by and_intros<;>kernel_rfl
@[simp] theorem aAs:T5 55 (.struct) 5 ([.d (.int .i64 0),.d (.str []),.d (.int .i64 0),.d (.int .i64 0),.d (.int .i64 0)]) 48 (.agg ([.int .i64 0,.str [],.int .i64 0,.int .i64 0,.int .i64 0])):=by and_intros<;>kernel_rfl
@[simp] theorem avp:FF 55 0 0 3:=by and_intros<;>kernel_rfl
@[simp] theorem avq:FF 55 1 1 9:=by and_intros<;>kernel_rfl
@[simp] theorem avr:FF 55 2 2 2:=by and_intros<;>kernel_rfl
@[simp] theorem avt:FF 55 3 3 3:=by and_intros<;>kernel_rfl
@[simp] theorem avu:FF 55 4 4 3:=by and_intros<;>kernel_rfl
@[simp] theorem aoq:bF Tryz.prog 55=some [(0,1),(1,1),(2,1),(3,1),(4,1)]/\cB Tryz.prog 55=some [.int .i64,.str,.int .i64,.int .i64,.int .i64]:=by and_intros<;>kernel_rfl
@[simp] theorem aAt:T2 57 (.func) 1:=by and_intros<;>kernel_rfl
@[simp] theorem aAu:T2 59 (.func) 1:=by and_intros<;>kernel_rfl
@[simp] theorem aAv:T5 63 (.struct) 8 ([.d (.str []),.d (.int .i64 0),.d (.int .i64 0),.d (.bool false),.d (.int .i64 0),.d (.int .i64 0),.d (.int .i64 0),.d (.int .i64 0)]) 72 (.agg ([.str [],.int .i64 0,.int .i64 0,.bool false,.int .i64 0,.int .i64 0,.int .i64 0,.int .i64 0])):=by and_intros<;>kernel_rfl
@[simp] theorem avv:FF 63 0 0 9:=by and_intros<;>kernel_rfl
@[simp] theorem avw:FF 63 1 1 3:=by and_intros<;>kernel_rfl
@[simp] theorem avx:FF 63 2 2 3:=by and_intros<;>kernel_rfl
@[simp] theorem avy:FF 63 3 3 4:=by and_intros<;>kernel_rfl
@[simp] theorem avz:FF 63 4 4 2:=by and_intros<;>kernel_rfl
@[simp] theorem avA:FF 63 5 5 2:=by and_intros<;>kernel_rfl
@[simp] theorem avB:FF 63 6 6 2:=by and_intros<;>kernel_rfl
@[simp] theorem avC:FF 63 7 7 3:=by and_intros<;>kernel_rfl
@[simp] theorem aor:bF Tryz.prog 63=some [(0,1),(1,1),(2,1),(3,1),(4,1),(5,1),(6,1),(7,1)]/\cB Tryz.prog 63=some [.str,.int .i64,.int .i64,.bool,.int .i64,.int .i64,.int .i64,.int .i64]:=by and_intros<;>kernel_rfl
@[simp] theorem aAw:T5 64 (.struct) 8 ([.d (.str []),.d (.int .i64 0),.d (.int .i64 0),.d (.bool false),.d (.int .i64 0),.d (.int .i64 0),.d (.int .i64 0),.d (.int .i64 0)]) 72 (.agg ([.str [],.int .i64 0,.int .i64 0,.bool false,.int .i64 0,.int .i64 0,.int .i64 0,.int .i64 0])):=by and_intros<;>kernel_rfl
@[simp] theorem avD:FF 64 0 0 9:=by and_intros<;>kernel_rfl
@[simp] theorem avE:FF 64 1 1 3:=by and_intros<;>kernel_rfl
@[simp] theorem avF:FF 64 2 2 3:=by and_intros<;>kernel_rfl
@[simp] theorem avG:FF 64 3 3 4:=by and_intros<;>kernel_rfl
@[simp] theorem avH:FF 64 4 4 2:=by and_intros<;>kernel_rfl
@[simp] theorem avI:FF 64 5 5 2:=by and_intros<;>kernel_rfl
@[simp] theorem avJ:FF 64 6 6 2:=by and_intros<;>kernel_rfl
@[simp] theorem avK:FF 64 7 7 3:=by and_intros<;>kernel_rfl
@[simp] theorem aos:bF Tryz.prog 64=some [(0,1),(1,1),(2,1),(3,1),(4,1),(5,1),(6,1),(7,1)]/\cB Tryz.prog 64=some [.str,.int .i64,.int .i64,.bool,.int .i64,.int .i64,.int .i64,.int .i64]:=by and_intros<;>kernel_rfl
@[simp] theorem aAx:T2 65 (.func) 1:=by and_intros<;>kernel_rfl
@[simp] theorem aAy:T5 70 (.slice 3) 1 ([.lit (.slice none 0 0)]) 24 (.list []):=by and_intros<;>kernel_rfl
@[simp] theorem aqb:fw Tryz.prog 70=true:=by kernel_rfl
@[simp] theorem aAz:T5 71 (.struct) 3 ([.lit (.slice none 0 0),.d (.int .i64 0),.lit (.slice none 0 0)]) 56 (.agg ([.list [],.int .i64 0,.list []])):=by and_intros<;>kernel_rfl
@[simp] theorem avL:FF 71 0 0 70:=by and_intros<;>kernel_rfl
@[simp] theorem avM:FF 71 1 1 3:=by and_intros<;>kernel_rfl
@[simp] theorem avN:FF 71 2 2 26:=by and_intros<;>kernel_rfl
@[simp] theorem aot:bF Tryz.prog 71=some [(0,1),(1,1),(2,1)]:=by kernel_rfl
@[simp] theorem aAA:T5 72 (.struct) 3 ([.lit (.slice none 0 0),.d (.int .i64 0),.lit (.slice none 0 0)]) 56 (.agg ([.list [],.int .i64 0,.list []])):=by and_intros<;>kernel_rfl
@[simp] theorem avO:FF 72 0 0 70:=by and_intros<;>kernel_rfl
@[simp] theorem avP:FF 72 1 1 3:=by and_intros<;>kernel_rfl
@[simp] theorem avQ:FF 72 2 2 26:=by and_intros<;>kernel_rfl
@[simp] theorem aou:bF Tryz.prog 72=some [(0,1),(1,1),(2,1)]:=by kernel_rfl
@[simp] theorem aAB:T2 73 (.func) 1:=by and_intros<;>kernel_rfl
@[simp] theorem aAC:T2 74 (.ptr 77) 1:=by and_intros<;>kernel_rfl
@[simp] theorem aAD:T5 75 (.slice 70) 1 ([.lit (.slice none 0 0)]) 24 (.list []):=by and_intros<;>kernel_rfl
@[simp] theorem aqc:fw Tryz.prog 75=true:=by kernel_rfl
@[simp] theorem aAE:T5 76 (.struct) 9 ([.d (.str []),.lit (.slice none 0 0),.lit (.slice none 0 0),.lit (.slice none 0 0),.d (.int .i64 0),.d (.int .i64 0),.d (.int .i64 0),.lit (.slice none 0 0),.lit (.slice none 0 0)]) 160 (.agg ([.str [],.list [],.list [],.list [],.int .i64 0,.int .i64 0,.int .i64 0,.list [],.list []])):=by and_intros<;>kernel_rfl
@[simp] theorem avR:FF 76 0 0 25:=by and_intros<;>kernel_rfl
@[simp] theorem avS:FF 76 1 3 32:=by and_intros<;>kernel_rfl
@[simp] theorem avT:FF 76 2 4 3:=by and_intros<;>kernel_rfl
@[simp] theorem avU:FF 76 3 5 3:=by and_intros<;>kernel_rfl
@[simp] theorem avV:FF 76 4 6 3:=by and_intros<;>kernel_rfl
@[simp] theorem avW:FF 76 5 7 75:=by and_intros<;>kernel_rfl
@[simp] theorem avX:FF 76 6 8 70:=by and_intros<;>kernel_rfl
@[simp] theorem aov:bF Tryz.prog 76=some [(0,3),(3,1),(4,1),(5,1),(6,1),(7,1),(8,1)]:=by kernel_rfl
@[simp] theorem aAF:T5 77 (.struct) 9 ([.d (.str []),.lit (.slice none 0 0),.lit (.slice none 0 0),.lit (.slice none 0 0),.d (.int .i64 0),.d (.int .i64 0),.d (.int .i64 0),.lit (.slice none 0 0),.lit (.slice none 0 0)]) 160 (.agg ([.str [],.list [],.list [],.list [],.int .i64 0,.int .i64 0,.int .i64 0,.list [],.list []])):=by and_intros<;>kernel_rfl
@[simp] theorem avY:FF 77 0 0 25:=by and_intros<;>kernel_rfl
@[simp] theorem avZ:FF 77 1 3 32:=by and_intros<;>kernel_rfl
@[simp] theorem av0:FF 77 2 4 3:=by and_intros<;>kernel_rfl
@[simp] theorem av1:FF 77 3 5 3:=by and_intros<;>kernel_rfl
@[simp] theorem av2:FF 77 4 6 3:=by and_intros<;>kernel_rfl
@[simp] theorem av3:FF 77 5 7 75:=by and_intros<;>kernel_rfl
@[simp] theorem av4:FF 77 6 8 70:=by and_intros<;>kernel_rfl
@[simp] theorem aow:bF Tryz.prog 77=some [(0,3),(3,1),(4,1),(5,1),(6,1),(7,1),(8,1)]:=by kernel_rfl
@[simp] theorem aAG:T2 90 (.func) 1:=by and_intros<;>kernel_rfl
@[simp] theorem aAH:T5 93 (.slice 96) 1 ([.lit (.slice none 0 0)]) 24 (.list []):=by and_intros<;>kernel_rfl
@[simp] theorem aqd:fw Tryz.prog 93=true:=by kernel_rfl
@[simp] theorem aAI:T5 94 (.struct) 10 ([.d (.str []),.lit (.slice none 0 0),.lit (.slice none 0 0),.lit (.slice none 0 0),.d (.int .i64 0),.lit (.slice none 0 0),.lit (.slice none 0 0),.lit (.slice none 0 0),.d (.int .i64 0),.d (.int .i64 0)]) 184 (.agg ([.str [],.list [],.list [],.list [],.int .i64 0,.list [],.list [],.list [],.int .i64 0,.int .i64 0])):=by and_intros<;>kernel_rfl
@[simp] theorem av5:FF 94 0 0 25:=by and_intros<;>kernel_rfl
@[simp] theorem av6:FF 94 1 3 72:=by and_intros<;>kernel_rfl
@[simp] theorem av7:FF 94 2 6 93:=by and_intros<;>kernel_rfl
@[simp] theorem av8:FF 94 3 7 26:=by and_intros<;>kernel_rfl
@[simp] theorem av9:FF 94 4 8 3:=by and_intros<;>kernel_rfl
@[simp] theorem awa:FF 94 5 9 3:=by and_intros<;>kernel_rfl
@[simp] theorem aoy:bF Tryz.prog 94=some [(0,3),(3,3),(6,1),(7,1),(8,1),(9,1)]:=by kernel_rfl
@[simp] theorem aAJ:T5 95 (.struct) 10 ([.d (.str []),.lit (.slice none 0 0),.lit (.slice none 0 0),.lit (.slice none 0 0),.d (.int .i64 0),.lit (.slice none 0 0),.lit (.slice none 0 0),.lit (.slice none 0 0),.d (.int .i64 0),.d (.int .i64 0)]) 184 (.agg ([.str [],.list [],.list [],.list [],.int .i64 0,.list [],.list [],.list [],.int .i64 0,.int .i64 0])):=by and_intros<;>kernel_rfl
@[simp] theorem awb:FF 95 0 0 25:=by and_intros<;>kernel_rfl
@[simp] theorem awc:FF 95 1 3 72:=by and_intros<;>kernel_rfl
@[simp] theorem awd:FF 95 2 6 93:=by and_intros<;>kernel_rfl
@[simp] theorem awe:FF 95 3 7 26:=by and_intros<;>kernel_rfl
@[simp] theorem awf:FF 95 4 8 3:=by and_intros<;>kernel_rfl
@[simp] theorem awg:FF 95 5 9 3:=by and_intros<;>kernel_rfl
@[simp] theorem aoz:bF Tryz.prog 95=some [(0,3),(3,3),(6,1),(7,1),(8,1),(9,1)]:=by kernel_rfl
@[simp] theorem aAK:T5 96 (.slice 150) 1 ([.lit (.slice none 0 0)]) 24 (.list []):=by and_intros<;>kernel_rfl
@[simp] theorem aqe:fw Tryz.prog 96=true:=by kernel_rfl
@[simp] theorem aAL:T2 97 (.func) 1:=by and_intros<;>kernel_rfl
@[simp] theorem aAM:T2 99 (.ptr 101) 1:=by and_intros<;>kernel_rfl
@[simp] theorem axE:T5 100 (.struct) 7 ([.d (.str []),.lit (.slice none 0 0),.lit (.slice none 0 0),.lit (.slice none 0 0),.lit (.slice none 0 0),.lit (.slice none 0 0),.d (.int .i64 0)]) 144 (.agg ([.str [],.list [],.list [],.list [],.list [],.list [],.int .i64 0])):=by and_intros<;>kernel_rfl
@[simp] theorem aqf:FF 100 0 0 25:=by and_intros<;>kernel_rfl
@[simp] theorem aqg:FF 100 1 3 70:=by and_intros<;>kernel_rfl
@[simp] theorem aqh:FF 100 2 4 93:=by and_intros<;>kernel_rfl
@[simp] theorem aqi:FF 100 3 5 26:=by and_intros<;>kernel_rfl
@[simp] theorem aqj:FF 100 4 6 3:=by and_intros<;>kernel_rfl
@[simp] theorem ala:bF Tryz.prog 100=some [(0,3),(3,1),(4,1),(5,1),(6,1)]:=by kernel_rfl
@[simp] theorem axF:T5 101 (.struct) 7 ([.d (.str []),.lit (.slice none 0 0),.lit (.slice none 0 0),.lit (.slice none 0 0),.lit (.slice none 0 0),.lit (.slice none 0 0),.d (.int .i64 0)]) 144 (.agg ([.str [],.list [],.list [],.list [],.list [],.list [],.int .i64 0])):=by and_intros<;>kernel_rfl
@[simp] theorem aqk:FF 101 0 0 25:=by and_intros<;>kernel_rfl
@[simp] theorem aql:FF 101 1 3 70:=by and_intros<;>kernel_rfl
@[simp] theorem aqm:FF 101 2 4 93:=by and_intros<;>kernel_rfl
@[simp] theorem aqn:FF 101 3 5 26:=by and_intros<;>kernel_rfl
@[simp] theorem aqo:FF 101 4 6 3:=by and_intros<;>kernel_rfl
@[simp] theorem alb:bF Tryz.prog 101=some [(0,3),(3,1),(4,1),(5,1),(6,1)]:=by kernel_rfl
@[simp] theorem axG:T2 111 (.func) 1:=by and_intros<;>kernel_rfl
@[simp] theorem axH:T5 112 (.slice 114) 1 ([.lit (.slice none 0 0)]) 24 (.list []):=by and_intros<;>kernel_rfl
@[simp] theorem aoA:fw Tryz.prog 112=true:=by kernel_rfl
@[simp] theorem axI:T5 113 (.struct) 6 ([.d (.int .i64 0),.d (.int .i64 0),.d (.str []),.d (.str []),.lit (.slice none 0 0),.d (.int .i64 0)]) 80 (.agg ([.int .i64 0,.int .i64 0,.str [],.str [],.list [],.int .i64 0])):=by and_intros<;>kernel_rfl
@[simp] theorem aqp:FF 113 0 0 3:=by and_intros<;>kernel_rfl
@[simp] theorem aqq:FF 113 1 1 2:=by and_intros<;>kernel_rfl
@[simp] theorem aqr:FF 113 2 2 9:=by and_intros<;>kernel_rfl
@[simp] theorem aqs:FF 113 3 3 9:=by and_intros<;>kernel_rfl
@[simp] theorem aqt:FF 113 4 4 112:=by and_intros<;>kernel_rfl
@[simp] theorem aqu:FF 113 5 5 3:=by and_intros<;>kernel_rfl
@[simp] theorem alc:bF Tryz.prog 113=some [(0,1),(1,1),(2,1),(3,1),(4,1),(5,1)]:=by kernel_rfl
@[simp] theorem axJ:T5 114 (.struct) 6 ([.d (.int .i64 0),.d (.int .i64 0),.d (.str []),.d (.str []),.lit (.slice none 0 0),.d (.int .i64 0)]) 80 (.agg ([.int .i64 0,.int .i64 0,.str [],.str [],.list [],.int .i64 0])):=by and_intros<;>kernel_rfl
@[simp] theorem aqv:FF 114 0 0 3:=by and_intros<;>kernel_rfl
@[simp] theorem aqw:FF 114 1 1 2:=by and_intros<;>kernel_rfl
@[simp] theorem aqx:FF 114 2 2 9:=by and_intros<;>kernel_rfl
@[simp] theorem aqy:FF 114 3 3 9:=by and_intros<;>kernel_rfl
@[simp] theorem aqz:FF 114 4 4 112:=by and_intros<;>kernel_rfl
@[simp] theorem aqA:FF 114 5 5 3:=by and_intros<;>kernel_rfl
@[simp] theorem ald:bF Tryz.prog 114=some [(0,1),(1,1),(2,1),(3,1),(4,1),(5,1)]:=by kernel_rfl
@[simp] theorem axK:T5 115 (.slice 26) 1 ([.lit (.slice none 0 0)]) 24 (.list []):=by and_intros<;>kernel_rfl
@[simp] theorem aoB:fw Tryz.prog 115=true:=by kernel_rfl
@[simp] theorem axL:T5 116 (.slice 9) 1 ([.lit (.slice none 0 0)]) 24 (.list []):=by and_intros<;>kernel_rfl
@[simp] theorem aoC:fw Tryz.prog 116=true:=by kernel_rfl
@[simp] theorem axM:T5 117 (.slice 23) 1 ([.lit (.slice none 0 0)]) 24 (.list []):=by and_intros<;>kernel_rfl
@[simp] theorem aoD:fw Tryz.prog 117=true:=by kernel_rfl
@[simp] theorem axN:T5 118 (.struct) 19 ([.d (.int .i64 0),.d (.str []),.d (.int .i64 0),.d (.int .i64 0),.d (.str []),.d (.str []),.lit (.slice none 0 0),.d (.int .i64 0),.d (.int .i64 0),.d (.int .i64 0),.d (.str []),.d (.str []),.lit (.slice none 0 0),.d (.int .i64 0),.lit (.slice none 0 0),.lit (.slice none 0 0),.lit (.slice none 0 0),.lit (.slice none 0 0),.d (.int .i64 0)]) 288 (.agg ([.int .i64 0,.str [],.int .i64 0,.int .i64 0,.str [],.str [],.list [],.int .i64 0,.int .i64 0,.int .i64 0,.str [],.str [],.list [],.int .i64 0,.list [],.list [],.list [],.list [],.int .i64 0])):=by and_intros<;>kernel_rfl
@[simp] theorem aqB:FF 118 0 0 3:=by and_intros<;>kernel_rfl
@[simp] theorem aqC:FF 118 1 1 9:=by and_intros<;>kernel_rfl
@[simp] theorem aqD:FF 118 2 2 114:=by and_intros<;>kernel_rfl
@[simp] theorem aqE:FF 118 3 8 114:=by and_intros<;>kernel_rfl
@[simp] theorem aqF:FF 118 4 14 112:=by and_intros<;>kernel_rfl
@[simp] theorem aqG:FF 118 5 15 115:=by and_intros<;>kernel_rfl
@[simp] theorem aqH:FF 118 6 16 116:=by and_intros<;>kernel_rfl
@[simp] theorem aqI:FF 118 7 17 117:=by and_intros<;>kernel_rfl
@[simp] theorem aqJ:FF 118 8 18 3:=by and_intros<;>kernel_rfl
@[simp] theorem ale:bF Tryz.prog 118=some [(0,1),(1,1),(2,6),(8,6),(14,1),(15,1),(16,1),(17,1),(18,1)]:=by kernel_rfl
@[simp] theorem axO:T5 119 (.struct) 19 ([.d (.int .i64 0),.d (.str []),.d (.int .i64 0),.d (.int .i64 0),.d (.str []),.d (.str []),.lit (.slice none 0 0),.d (.int .i64 0),.d (.int .i64 0),.d (.int .i64 0),.d (.str []),.d (.str []),.lit (.slice none 0 0),.d (.int .i64 0),.lit (.slice none 0 0),.lit (.slice none 0 0),.lit (.slice none 0 0),.lit (.slice none 0 0),.d (.int .i64 0)]) 288 (.agg ([.int .i64 0,.str [],.int .i64 0,.int .i64 0,.str [],.str [],.list [],.int .i64 0,.int .i64 0,.int .i64 0,.str [],.str [],.list [],.int .i64 0,.list [],.list [],.list [],.list [],.int .i64 0])):=by and_intros<;>kernel_rfl
@[simp] theorem aqK:FF 119 0 0 3:=by and_intros<;>kernel_rfl
@[simp] theorem aqL:FF 119 1 1 9:=by and_intros<;>kernel_rfl
@[simp] theorem aqM:FF 119 2 2 114:=by and_intros<;>kernel_rfl
@[simp] theorem aqN:FF 119 3 8 114:=by and_intros<;>kernel_rfl
@[simp] theorem aqO:FF 119 4 14 112:=by and_intros<;>kernel_rfl
@[simp] theorem aqP:FF 119 5 15 115:=by and_intros<;>kernel_rfl
@[simp] theorem aqQ:FF 119 6 16 116:=by and_intros<;>kernel_rfl
@[simp] theorem aqR:FF 119 7 17 117:=by and_intros<;>kernel_rfl
@[simp] theorem aqS:FF 119 8 18 3:=by and_intros<;>kernel_rfl
@[simp] theorem alf:bF Tryz.prog 119=some [(0,1),(1,1),(2,6),(8,6),(14,1),(15,1),(16,1),(17,1),(18,1)]:=by kernel_rfl
@[simp] theorem axP:T2 122 (.ptr 125) 1:=by and_intros<;>kernel_rfl
@[simp] theorem axQ:T5 123 (.slice 4) 1 ([.lit (.slice none 0 0)]) 24 (.list []):=by and_intros<;>kernel_rfl
@[simp] theorem aoE:fw Tryz.prog 123=true:=by kernel_rfl
@[simp] theorem axR:T5 124 (.struct) 5 ([.lit (.slice none 0 0),.d (.int .i64 0),.d (.int .i64 0),.lit (.slice none 0 0),.lit (.slice none 0 0)]) 88 (.agg ([.list [],.int .i64 0,.int .i64 0,.list [],.list []])):=by and_intros<;>kernel_rfl
@[simp] theorem aqT:FF 124 0 0 34:=by and_intros<;>kernel_rfl
@[simp] theorem aqU:FF 124 1 3 123:=by and_intros<;>kernel_rfl
@[simp] theorem aqV:FF 124 2 4 123:=by and_intros<;>kernel_rfl
@[simp] theorem alg:bF Tryz.prog 124=some [(0,3),(3,1),(4,1)]:=by kernel_rfl
@[simp] theorem axS:T5 125 (.struct) 5 ([.lit (.slice none 0 0),.d (.int .i64 0),.d (.int .i64 0),.lit (.slice none 0 0),.lit (.slice none 0 0)]) 88 (.agg ([.list [],.int .i64 0,.int .i64 0,.list [],.list []])):=by and_intros<;>kernel_rfl
@[simp] theorem aqW:FF 125 0 0 34:=by and_intros<;>kernel_rfl
@[simp] theorem aqX:FF 125 1 3 123:=by and_intros<;>kernel_rfl
@[simp] theorem aqY:FF 125 2 4 123:=by and_intros<;>kernel_rfl
@[simp] theorem alh:bF Tryz.prog 125=some [(0,3),(3,1),(4,1)]:=by kernel_rfl
@[simp] theorem axT:T5 127 (.slice 130) 1 ([.lit (.slice none 0 0)]) 24 (.list []):=by and_intros<;>kernel_rfl
@[simp] theorem aoF:fw Tryz.prog 127=true:=by kernel_rfl
@[simp] theorem axU:T2 128 (.func) 1:=by and_intros<;>kernel_rfl
@[simp] theorem axV:T5 129 (.struct) 4 ([.d (.int .i64 0),.d (.str []),.d (.str []),.lit (.slice none 0 0)]) 64 (.agg ([.int .i64 0,.str [],.str [],.list []])):=by and_intros<;>kernel_rfl
@[simp] theorem aqZ:FF 129 0 0 3:=by and_intros<;>kernel_rfl
@[simp] theorem aq0:FF 129 1 1 9:=by and_intros<;>kernel_rfl
@[simp] theorem aq1:FF 129 2 2 9:=by and_intros<;>kernel_rfl
@[simp] theorem aq2:FF 129 3 3 116:=by and_intros<;>kernel_rfl
@[simp] theorem ali:bF Tryz.prog 129=some [(0,1),(1,1),(2,1),(3,1)]:=by kernel_rfl
@[simp] theorem axW:T5 130 (.struct) 4 ([.d (.int .i64 0),.d (.str []),.d (.str []),.lit (.slice none 0 0)]) 64 (.agg ([.int .i64 0,.str [],.str [],.list []])):=by and_intros<;>kernel_rfl
@[simp] theorem aq3:FF 130 0 0 3:=by and_intros<;>kernel_rfl
@[simp] theorem aq4:FF 130 1 1 9:=by and_intros<;>kernel_rfl
@[simp] theorem aq5:FF 130 2 2 9:=by and_intros<;>kernel_rfl
@[simp] theorem aq6:FF 130 3 3 116:=by and_intros<;>kernel_rfl
@[simp] theorem alj:bF Tryz.prog 130=some [(0,1),(1,1),(2,1),(3,1)]:=by kernel_rfl
@[simp] theorem axX:T2 133 (.func) 1:=by and_intros<;>kernel_rfl
@[simp] theorem axY:T2 137 (.func) 1:=by and_intros<;>kernel_rfl
@[simp] theorem axZ:T5 149 (.struct) 3 ([.d (.str []),.d (.int .i64 0),.d (.bool false)]) 32 (.agg ([.str [],.int .i64 0,.bool false])):=by and_intros<;>kernel_rfl
@[simp] theorem aq7:FF 149 0 0 9:=by and_intros<;>kernel_rfl
@[simp] theorem aq8:FF 149 1 1 3:=by and_intros<;>kernel_rfl
@[simp] theorem aq9:FF 149 2 2 4:=by and_intros<;>kernel_rfl
@[simp] theorem alk:bF Tryz.prog 149=some [(0,1),(1,1),(2,1)]/\cB Tryz.prog 149=some [.str,.int .i64,.bool]:=by and_intros<;>kernel_rfl
@[simp] theorem ax0:T5 150 (.struct) 3 ([.d (.str []),.d (.int .i64 0),.d (.bool false)]) 32 (.agg ([.str [],.int .i64 0,.bool false])):=by and_intros<;>kernel_rfl
@[simp] theorem ara:FF 150 0 0 9:=by and_intros<;>kernel_rfl
@[simp] theorem arb:FF 150 1 1 3:=by and_intros<;>kernel_rfl
@[simp] theorem arc:FF 150 2 2 4:=by and_intros<;>kernel_rfl
@[simp] theorem alm:bF Tryz.prog 150=some [(0,1),(1,1),(2,1)]/\cB Tryz.prog 150=some [.str,.int .i64,.bool]:=by and_intros<;>kernel_rfl
@[simp] theorem ax1:T5 152 (.struct) 5 ([.d (.int .i64 0),.d (.str []),.d (.str []),.d (.str []),.d (.int .i64 0)]) 64 (.agg ([.int .i64 0,.str [],.str [],.str [],.int .i64 0])):=by and_intros<;>kernel_rfl
@[simp] theorem ard:FF 152 0 0 3:=by and_intros<;>kernel_rfl
@[simp] theorem are:FF 152 1 1 9:=by and_intros<;>kernel_rfl
@[simp] theorem arf:FF 152 2 2 9:=by and_intros<;>kernel_rfl
@[simp] theorem arh:FF 152 3 3 9:=by and_intros<;>kernel_rfl
@[simp] theorem ari:FF 152 4 4 3:=by and_intros<;>kernel_rfl
@[simp] theorem aln:bF Tryz.prog 152=some [(0,1),(1,1),(2,1),(3,1),(4,1)]/\cB Tryz.prog 152=some [.int .i64,.str,.str,.str,.int .i64]:=by and_intros<;>kernel_rfl
@[simp] theorem ax2:T5 153 (.struct) 5 ([.d (.int .i64 0),.d (.str []),.d (.str []),.d (.str []),.d (.int .i64 0)]) 64 (.agg ([.int .i64 0,.str [],.str [],.str [],.int .i64 0])):=by and_intros<;>kernel_rfl
@[simp] theorem arj:FF 153 0 0 3:=by and_intros<;>kernel_rfl
@[simp] theorem ark:FF 153 1 1 9:=by and_intros<;>kernel_rfl
@[simp] theorem arl:FF 153 2 2 9:=by and_intros<;>kernel_rfl
@[simp] theorem arn:FF 153 3 3 9:=by and_intros<;>kernel_rfl
@[simp] theorem aro:FF 153 4 4 3:=by and_intros<;>kernel_rfl
@[simp] theorem alo:bF Tryz.prog 153=some [(0,1),(1,1),(2,1),(3,1),(4,1)]/\cB Tryz.prog 153=some [.int .i64,.str,.str,.str,.int .i64]:=by and_intros<;>kernel_rfl
@[simp] theorem ax3:T5 157 (.slice 55) 1 ([.lit (.slice none 0 0)]) 24 (.list []):=by and_intros<;>kernel_rfl
@[simp] theorem aoG:fw Tryz.prog 157=true:=by kernel_rfl
@[simp] theorem ax4:T5 160 (.struct) 6 ([.d (.int .i64 0),.d (.int .i64 0),.d (.str []),.d (.int .i64 0),.d (.int .i64 0),.d (.int .i64 0)]) 56 (.agg ([.int .i64 0,.int .i64 0,.str [],.int .i64 0,.int .i64 0,.int .i64 0])):=by and_intros<;>kernel_rfl
@[simp] theorem arp:FF 160 0 0 35:=by and_intros<;>kernel_rfl
@[simp] theorem arq:FF 160 1 1 55:=by and_intros<;>kernel_rfl
@[simp] theorem alp:bF Tryz.prog 160=some [(0,1),(1,5)]/\cB Tryz.prog 160=some [.int .i64,.int .i64,.str,.int .i64,.int .i64,.int .i64]:=by and_intros<;>kernel_rfl
@[simp] theorem ax5:T5 161 (.struct) 6 ([.d (.int .i64 0),.d (.int .i64 0),.d (.str []),.d (.int .i64 0),.d (.int .i64 0),.d (.int .i64 0)]) 56 (.agg ([.int .i64 0,.int .i64 0,.str [],.int .i64 0,.int .i64 0,.int .i64 0])):=by and_intros<;>kernel_rfl
@[simp] theorem ars:FF 161 0 0 35:=by and_intros<;>kernel_rfl
@[simp] theorem art:FF 161 1 1 55:=by and_intros<;>kernel_rfl
@[simp] theorem alq:bF Tryz.prog 161=some [(0,1),(1,5)]/\cB Tryz.prog 161=some [.int .i64,.int .i64,.str,.int .i64,.int .i64,.int .i64]:=by and_intros<;>kernel_rfl
@[simp] theorem ax6:T2 163 (.ptr 165) 1:=by and_intros<;>kernel_rfl
@[simp] theorem ax7:T5 164 (.struct) 4 ([.lit (.slice none 0 0),.d (.int .i64 0),.d (.int .i64 0),.lit (.slice none 0 0)]) 64 (.agg ([.list [],.int .i64 0,.int .i64 0,.list []])):=by and_intros<;>kernel_rfl
@[simp] theorem aru:FF 164 0 0 157:=by and_intros<;>kernel_rfl
@[simp] theorem arv:FF 164 1 1 3:=by and_intros<;>kernel_rfl
@[simp] theorem arw:FF 164 2 2 3:=by and_intros<;>kernel_rfl
@[simp] theorem arx:FF 164 3 3 22:=by and_intros<;>kernel_rfl
@[simp] theorem alr:bF Tryz.prog 164=some [(0,1),(1,1),(2,1),(3,1)]:=by kernel_rfl
@[simp] theorem ax8:T5 165 (.struct) 4 ([.lit (.slice none 0 0),.d (.int .i64 0),.d (.int .i64 0),.lit (.slice none 0 0)]) 64 (.agg ([.list [],.int .i64 0,.int .i64 0,.list []])):=by and_intros<;>kernel_rfl
@[simp] theorem ary:FF 165 0 0 157:=by and_intros<;>kernel_rfl
@[simp] theorem arz:FF 165 1 1 3:=by and_intros<;>kernel_rfl
@[simp] theorem arA:FF 165 2 2 3:=by and_intros<;>kernel_rfl
@[simp] theorem arB:FF 165 3 3 22:=by and_intros<;>kernel_rfl
@[simp] theorem als:bF Tryz.prog 165=some [(0,1),(1,1),(2,1),(3,1)]:=by kernel_rfl
@[simp] theorem ax9:T5 181 (.slice 112) 1 ([.lit (.slice none 0 0)]) 24 (.list []):=by and_intros<;>kernel_rfl
@[simp] theorem aoH:fw Tryz.prog 181=true:=by kernel_rfl
@[simp] theorem aya:T5 202 (.slice 153) 1 ([.lit (.slice none 0 0)]) 24 (.list []):=by and_intros<;>kernel_rfl
@[simp] theorem aoI:fw Tryz.prog 202=true:=by kernel_rfl
@[simp] theorem ayb:T2 205 (.func) 1:=by and_intros<;>kernel_rfl
@[simp] theorem ayc:T2 209 (.ptr 211) 1:=by and_intros<;>kernel_rfl
@[simp] theorem ayd:T5 210 (.struct) 4 ([.d (.str []),.d (.int .i64 0),.d (.int .i64 0),.d (.int .i64 0)]) 40 (.agg ([.str [],.int .i64 0,.int .i64 0,.int .i64 0])):=by and_intros<;>kernel_rfl
@[simp] theorem arC:FF 210 0 0 9:=by and_intros<;>kernel_rfl
@[simp] theorem arD:FF 210 1 1 3:=by and_intros<;>kernel_rfl
@[simp] theorem arE:FF 210 2 2 3:=by and_intros<;>kernel_rfl
@[simp] theorem arF:FF 210 3 3 3:=by and_intros<;>kernel_rfl
@[simp] theorem alu:bF Tryz.prog 210=some [(0,1),(1,1),(2,1),(3,1)]/\cB Tryz.prog 210=some [.str,.int .i64,.int .i64,.int .i64]:=by and_intros<;>kernel_rfl
@[simp] theorem aye:T5 211 (.struct) 4 ([.d (.str []),.d (.int .i64 0),.d (.int .i64 0),.d (.int .i64 0)]) 40 (.agg ([.str [],.int .i64 0,.int .i64 0,.int .i64 0])):=by and_intros<;>kernel_rfl
@[simp] theorem arG:FF 211 0 0 9:=by and_intros<;>kernel_rfl
@[simp] theorem arH:FF 211 1 1 3:=by and_intros<;>kernel_rfl
@[simp] theorem arI:FF 211 2 2 3:=by and_intros<;>kernel_rfl
@[simp] theorem arJ:FF 211 3 3 3:=by and_intros<;>kernel_rfl
@[simp] theorem alv:bF Tryz.prog 211=some [(0,1),(1,1),(2,1),(3,1)]/\cB Tryz.prog 211=some [.str,.int .i64,.int .i64,.int .i64]:=by and_intros<;>kernel_rfl
@[simp] theorem ayf:T5 251 (.arr 256 5) 256 (List.replicate 256 (.d (.int .u8 0))) 256 (.agg (List.replicate 256 (.int .u8 0))):=by and_intros<;>kernel_rfl
@[simp] theorem alw:bF Tryz.prog 251=none:=by kernel_rfl
@[simp] theorem ayg:T2 253 (.func) 1:=by and_intros<;>kernel_rfl
@[simp] theorem ayh:T2 255 (.func) 1:=by and_intros<;>kernel_rfl
@[simp] theorem ayi:T2 256 (.func) 1:=by and_intros<;>kernel_rfl
@[simp] theorem ayj:T2 262 (.func) 1:=by and_intros<;>kernel_rfl
@[simp] theorem ayk:T2 279 (.func) 1:=by and_intros<;>kernel_rfl
@[simp] theorem ayl:T5 282 (.slice 284) 1 ([.lit (.slice none 0 0)]) 24 (.list []):=by and_intros<;>kernel_rfl
@[simp] theorem aoJ:fw Tryz.prog 282=true:=by kernel_rfl
@[simp] theorem aym:T5 283 (.struct) 2 ([.d (.int .i64 0),.d (.int .i64 0)]) 16 (.agg ([.int .i64 0,.int .i64 0])):=by and_intros<;>kernel_rfl
@[simp] theorem arK:FF 283 0 0 3:=by and_intros<;>kernel_rfl
@[simp] theorem arL:FF 283 1 1 3:=by and_intros<;>kernel_rfl
@[simp] theorem alx:bF Tryz.prog 283=some [(0,1),(1,1)]/\cB Tryz.prog 283=some [.int .i64,.int .i64]:=by and_intros<;>kernel_rfl
@[simp] theorem ayn:T5 284 (.struct) 2 ([.d (.int .i64 0),.d (.int .i64 0)]) 16 (.agg ([.int .i64 0,.int .i64 0])):=by and_intros<;>kernel_rfl
@[simp] theorem arM:FF 284 0 0 3:=by and_intros<;>kernel_rfl
@[simp] theorem arN:FF 284 1 1 3:=by and_intros<;>kernel_rfl
@[simp] theorem aly:bF Tryz.prog 284=some [(0,1),(1,1)]/\cB Tryz.prog 284=some [.int .i64,.int .i64]:=by and_intros<;>kernel_rfl
@[simp] theorem ayo:T5 285 (.int .u32) 1 ([.d (.int .u32 0)]) 4 (.int .u32 0):=by and_intros<;>kernel_rfl
@[simp] theorem ayp:T2 287 (.ptr 318) 1:=by and_intros<;>kernel_rfl
@[simp] theorem ayq:T5 289 (.struct) 2 ([.d (.str []),.d (.int .i64 0)]) 24 (.agg ([.str [],.int .i64 0])):=by and_intros<;>kernel_rfl
@[simp] theorem arO:FF 289 0 0 9:=by and_intros<;>kernel_rfl
@[simp] theorem arP:FF 289 1 1 2:=by and_intros<;>kernel_rfl
@[simp] theorem alz:bF Tryz.prog 289=some [(0,1),(1,1)]/\cB Tryz.prog 289=some [.str,.int .i64]:=by and_intros<;>kernel_rfl
@[simp] theorem ayr:T5 290 (.slice 289) 1 ([.lit (.slice none 0 0)]) 24 (.list []):=by and_intros<;>kernel_rfl
@[simp] theorem aoK:fw Tryz.prog 290=true:=by kernel_rfl
@[simp] theorem ays:T5 292 (.struct) 9 ([.d (.int .i64 0),.d (.str []),.d (.int .i64 0),.d (.int .i64 0),.d (.int .i64 0),.d (.int .i64 0),.d (.bool false),.d (.int .i64 0),.d (.int .i64 0)]) 80 (.agg ([.int .i64 0,.str [],.int .i64 0,.int .i64 0,.int .i64 0,.int .i64 0,.bool false,.int .i64 0,.int .i64 0])):=by and_intros<;>kernel_rfl
@[simp] theorem arQ:FF 292 0 0 55:=by and_intros<;>kernel_rfl
@[simp] theorem arR:FF 292 1 5 3:=by and_intros<;>kernel_rfl
@[simp] theorem arS:FF 292 2 6 4:=by and_intros<;>kernel_rfl
@[simp] theorem arT:FF 292 3 7 2:=by and_intros<;>kernel_rfl
@[simp] theorem arU:FF 292 4 8 2:=by and_intros<;>kernel_rfl
@[simp] theorem alA:bF Tryz.prog 292=some [(0,5),(5,1),(6,1),(7,1),(8,1)]/\cB Tryz.prog 292=some [.int .i64,.str,.int .i64,.int .i64,.int .i64,.int .i64,.bool,.int .i64,.int .i64]:=by and_intros<;>kernel_rfl
@[simp] theorem ayt:T5 293 (.struct) 9 ([.d (.int .i64 0),.d (.str []),.d (.int .i64 0),.d (.int .i64 0),.d (.int .i64 0),.d (.int .i64 0),.d (.bool false),.d (.int .i64 0),.d (.int .i64 0)]) 80 (.agg ([.int .i64 0,.str [],.int .i64 0,.int .i64 0,.int .i64 0,.int .i64 0,.bool false,.int .i64 0,.int .i64 0])):=by and_intros<;>kernel_rfl
@[simp] theorem arV:FF 293 0 0 55:=by and_intros<;>kernel_rfl
@[simp] theorem arW:FF 293 1 5 3:=by and_intros<;>kernel_rfl
@[simp] theorem arX:FF 293 2 6 4:=by and_intros<;>kernel_rfl
@[simp] theorem arY:FF 293 3 7 2:=by and_intros<;>kernel_rfl
@[simp] theorem arZ:FF 293 4 8 2:=by and_intros<;>kernel_rfl
@[simp] theorem alB:bF Tryz.prog 293=some [(0,5),(5,1),(6,1),(7,1),(8,1)]/\cB Tryz.prog 293=some [.int .i64,.str,.int .i64,.int .i64,.int .i64,.int .i64,.bool,.int .i64,.int .i64]:=by and_intros<;>kernel_rfl
@[simp] theorem ayu:T5 298 (.int .u64) 1 ([.d (.int .u64 0)]) 8 (.int .u64 0):=by and_intros<;>kernel_rfl
@[simp] theorem ayv:T5 315 (.slice 321) 1 ([.lit (.slice none 0 0)]) 24 (.list []):=by and_intros<;>kernel_rfl
@[simp] theorem aoL:fw Tryz.prog 315=true:=by kernel_rfl
@[simp] theorem ayw:T5 316 (.slice 324) 1 ([.lit (.slice none 0 0)]) 24 (.list []):=by and_intros<;>kernel_rfl
@[simp] theorem aoM:fw Tryz.prog 316=true:=by kernel_rfl
@[simp] theorem ayx:T5 317 (.struct) 3 ([.lit (.slice none 0 0),.lit (.slice none 0 0),.d (.int .i64 0)]) 56 (.agg ([.list [],.list [],.int .i64 0])):=by and_intros<;>kernel_rfl
@[simp] theorem ar0:FF 317 0 0 315:=by and_intros<;>kernel_rfl
@[simp] theorem ar1:FF 317 1 1 316:=by and_intros<;>kernel_rfl
@[simp] theorem ar2:FF 317 2 2 3:=by and_intros<;>kernel_rfl
@[simp] theorem alC:bF Tryz.prog 317=some [(0,1),(1,1),(2,1)]:=by kernel_rfl
@[simp] theorem ayy:T5 318 (.struct) 3 ([.lit (.slice none 0 0),.lit (.slice none 0 0),.d (.int .i64 0)]) 56 (.agg ([.list [],.list [],.int .i64 0])):=by and_intros<;>kernel_rfl
@[simp] theorem ar3:FF 318 0 0 315:=by and_intros<;>kernel_rfl
@[simp] theorem ar4:FF 318 1 1 316:=by and_intros<;>kernel_rfl
@[simp] theorem ar5:FF 318 2 2 3:=by and_intros<;>kernel_rfl
@[simp] theorem alD:bF Tryz.prog 318=some [(0,1),(1,1),(2,1)]:=by kernel_rfl
@[simp] theorem ayz:T5 319 (.int .u16) 1 ([.d (.int .u16 0)]) 2 (.int .u16 0):=by and_intros<;>kernel_rfl
@[simp] theorem ayA:T5 320 (.struct) 3 ([.d (.int .u16 0),.d (.int .u16 0),.d (.int .u16 0)]) 6 (.agg ([.int .u16 0,.int .u16 0,.int .u16 0])):=by and_intros<;>kernel_rfl
@[simp] theorem ar6:FF 320 0 0 319:=by and_intros<;>kernel_rfl
@[simp] theorem ar7:FF 320 1 1 319:=by and_intros<;>kernel_rfl
@[simp] theorem ar8:FF 320 2 2 319:=by and_intros<;>kernel_rfl
@[simp] theorem alE:bF Tryz.prog 320=some [(0,1),(1,1),(2,1)]/\cB Tryz.prog 320=some [.int .u16,.int .u16,.int .u16]:=by and_intros<;>kernel_rfl
@[simp] theorem ayB:T5 321 (.struct) 3 ([.d (.int .u16 0),.d (.int .u16 0),.d (.int .u16 0)]) 6 (.agg ([.int .u16 0,.int .u16 0,.int .u16 0])):=by and_intros<;>kernel_rfl
@[simp] theorem ar9:FF 321 0 0 319:=by and_intros<;>kernel_rfl
@[simp] theorem asa:FF 321 1 1 319:=by and_intros<;>kernel_rfl
@[simp] theorem asb:FF 321 2 2 319:=by and_intros<;>kernel_rfl
@[simp] theorem alF:bF Tryz.prog 321=some [(0,1),(1,1),(2,1)]/\cB Tryz.prog 321=some [.int .u16,.int .u16,.int .u16]:=by and_intros<;>kernel_rfl
@[simp] theorem ayC:T5 323 (.struct) 3 ([.d (.int .u32 0),.d (.int .u32 0),.d (.int .u32 0)]) 12 (.agg ([.int .u32 0,.int .u32 0,.int .u32 0])):=by and_intros<;>kernel_rfl
@[simp] theorem asc:FF 323 0 0 285:=by and_intros<;>kernel_rfl
@[simp] theorem asd:FF 323 1 1 285:=by and_intros<;>kernel_rfl
@[simp] theorem ase:FF 323 2 2 285:=by and_intros<;>kernel_rfl
@[simp] theorem alG:bF Tryz.prog 323=some [(0,1),(1,1),(2,1)]/\cB Tryz.prog 323=some [.int .u32,.int .u32,.int .u32]:=by and_intros<;>kernel_rfl
@[simp] theorem ayD:T5 324 (.struct) 3 ([.d (.int .u32 0),.d (.int .u32 0),.d (.int .u32 0)]) 12 (.agg ([.int .u32 0,.int .u32 0,.int .u32 0])):=by and_intros<;>kernel_rfl
@[simp] theorem asf:FF 324 0 0 285:=by and_intros<;>kernel_rfl
@[simp] theorem ash:FF 324 1 1 285:=by and_intros<;>kernel_rfl
@[simp] theorem asi:FF 324 2 2 285:=by and_intros<;>kernel_rfl
@[simp] theorem alH:bF Tryz.prog 324=some [(0,1),(1,1),(2,1)]/\cB Tryz.prog 324=some [.int .u32,.int .u32,.int .u32]:=by and_intros<;>kernel_rfl
@[simp] theorem ayE:T5 327 (.int .u64) 1 ([.d (.int .u64 0)]) 8 (.int .u64 0):=by and_intros<;>kernel_rfl
@[simp] theorem ayF:T2 336 (.ptr 321) 1:=by and_intros<;>kernel_rfl
@[simp] theorem ayG:T2 337 (.ptr 324) 1:=by and_intros<;>kernel_rfl
@[simp] theorem ayH:T5 344 (.slice 116) 1 ([.lit (.slice none 0 0)]) 24 (.list []):=by and_intros<;>kernel_rfl
@[simp] theorem aoN:fw Tryz.prog 344=true:=by kernel_rfl
@[simp] theorem ayI:T3 347 (.struct) 4 ([.lit (.pointer none),.lit (.pointer none),.lit (.pointer none),.d (.str [])]):=by and_intros<;>kernel_rfl
@[simp] theorem asj:FF 347 0 0 17:=by and_intros<;>kernel_rfl
@[simp] theorem asl:FF 347 1 1 17:=by and_intros<;>kernel_rfl
@[simp] theorem asm:FF 347 2 2 17:=by and_intros<;>kernel_rfl
@[simp] theorem asn:FF 347 3 3 9:=by and_intros<;>kernel_rfl
@[simp] theorem alI:bF Tryz.prog 347=some [(0,1),(1,1),(2,1),(3,1)]:=by kernel_rfl
@[simp] theorem ayJ:T3 348 (.struct) 4 ([.lit (.pointer none),.lit (.pointer none),.lit (.pointer none),.d (.str [])]):=by and_intros<;>kernel_rfl
@[simp] theorem aso:FF 348 0 0 17:=by and_intros<;>kernel_rfl
@[simp] theorem asp:FF 348 1 1 17:=by and_intros<;>kernel_rfl
@[simp] theorem asq:FF 348 2 2 17:=by and_intros<;>kernel_rfl
@[simp] theorem asr:FF 348 3 3 9:=by and_intros<;>kernel_rfl
@[simp] theorem alJ:bF Tryz.prog 348=some [(0,1),(1,1),(2,1),(3,1)]:=by kernel_rfl
@[simp] theorem ayK:T5 349 (.arr 0 16) 0 ([]) 0 (.agg ([])):=by and_intros<;>kernel_rfl
@[simp] theorem alK:bF Tryz.prog 349=none:=by kernel_rfl
@[simp] theorem ayL:T5 350 (.struct) 0 ([]) 0 (.agg ([])):=by and_intros<;>kernel_rfl
@[simp] theorem alL:bF Tryz.prog 350=some [(0,0)]:=by kernel_rfl
@[simp] theorem ayM:T5 351 (.struct) 0 ([]) 0 (.agg ([])):=by and_intros<;>kernel_rfl
@[simp] theorem alM:bF Tryz.prog 351=some [(0,0)]:=by kernel_rfl
@[simp] theorem ayN:T5 352 (.int .u8) 1 ([.d (.int .u8 0)]) 1 (.int .u8 0):=by and_intros<;>kernel_rfl
@[simp] theorem ayO:T5 353 (.int .u8) 1 ([.d (.int .u8 0)]) 1 (.int .u8 0):=by and_intros<;>kernel_rfl
@[simp] theorem ayP:T2 354 (.func) 1:=by and_intros<;>kernel_rfl
@[simp] theorem ayQ:T2 355 (.ptr 5) 1:=by and_intros<;>kernel_rfl
@[simp] theorem ayR:T5 356 (.int .i32) 1 ([.d (.int .i32 0)]) 4 (.int .i32 0):=by and_intros<;>kernel_rfl
@[simp] theorem ayS:T5 357 (.int .i32) 1 ([.d (.int .i32 0)]) 4 (.int .i32 0):=by and_intros<;>kernel_rfl
@[simp] theorem ayT:T3 358 (.struct) 11 ([.d (.int .u64 0),.d (.int .u64 0),.d (.int .u32 0),.d (.int .u8 0),.d (.int .u8 0),.d (.int .u8 0),.d (.int .u8 0),.lit .nilFunc,.lit (.pointer none),.d (.int .i32 0),.d (.int .i32 0)]):=by and_intros<;>kernel_rfl
@[simp] theorem ass:FF 358 0 0 12:=by and_intros<;>kernel_rfl
@[simp] theorem ast:FF 358 1 1 12:=by and_intros<;>kernel_rfl
@[simp] theorem asu:FF 358 2 2 285:=by and_intros<;>kernel_rfl
@[simp] theorem asv:FF 358 3 3 352:=by and_intros<;>kernel_rfl
@[simp] theorem asw:FF 358 4 4 5:=by and_intros<;>kernel_rfl
@[simp] theorem asx:FF 358 5 5 5:=by and_intros<;>kernel_rfl
@[simp] theorem asy:FF 358 6 6 353:=by and_intros<;>kernel_rfl
@[simp] theorem asz:FF 358 7 7 354:=by and_intros<;>kernel_rfl
@[simp] theorem asA:FF 358 8 8 355:=by and_intros<;>kernel_rfl
@[simp] theorem asB:FF 358 9 9 356:=by and_intros<;>kernel_rfl
@[simp] theorem aoO:FF 358 10 10 357:=by and_intros<;>kernel_rfl
@[simp] theorem alN:bF Tryz.prog 358=some [(0,1),(1,1),(2,1),(3,1),(4,1),(5,1),(6,1),(7,1),(8,1),(9,1),(10,1)]:=by kernel_rfl
@[simp] theorem ayU:T3 359 (.struct) 11 ([.d (.int .u64 0),.d (.int .u64 0),.d (.int .u32 0),.d (.int .u8 0),.d (.int .u8 0),.d (.int .u8 0),.d (.int .u8 0),.lit .nilFunc,.lit (.pointer none),.d (.int .i32 0),.d (.int .i32 0)]):=by and_intros<;>kernel_rfl
@[simp] theorem asC:FF 359 0 0 12:=by and_intros<;>kernel_rfl
@[simp] theorem asD:FF 359 1 1 12:=by and_intros<;>kernel_rfl
@[simp] theorem asF:FF 359 2 2 285:=by and_intros<;>kernel_rfl
@[simp] theorem asG:FF 359 3 3 352:=by and_intros<;>kernel_rfl
@[simp] theorem asH:FF 359 4 4 5:=by and_intros<;>kernel_rfl
@[simp] theorem asI:FF 359 5 5 5:=by and_intros<;>kernel_rfl
@[simp] theorem asJ:FF 359 6 6 353:=by and_intros<;>kernel_rfl
@[simp] theorem asK:FF 359 7 7 354:=by and_intros<;>kernel_rfl
@[simp] theorem asL:FF 359 8 8 355:=by and_intros<;>kernel_rfl
@[simp] theorem asM:FF 359 9 9 356:=by and_intros<;>kernel_rfl
@[simp] theorem aoP:FF 359 10 10 357:=by and_intros<;>kernel_rfl
@[simp] theorem alO:bF Tryz.prog 359=some [(0,1),(1,1),(2,1),(3,1),(4,1),(5,1),(6,1),(7,1),(8,1),(9,1),(10,1)]:=by kernel_rfl
end Go.Am
end
section
namespace Go.Am
open Go
def Lk:List D->Option D
 |[.str s,.str t]=>if s.length<4294967281 then some (.int .i64 (Go.Lib.index s t))else none
 |_=>none
def WA:List D->Option D
 |[.str s,.int .u8 c]=>some (.int .i64 (Go.Lib.indexByte s c.toNat.toUInt8))
 |_=>none
def WB:List D->Option D
 |[.str s,.str p]=>some (.bool (Go.Lib.hasPrefix s p))
 |_=>none
attribute [simp] Lk.eq_1 WA.eq_1 WB.eq_1
section
variable {X:Ctx} {Y:bE} {md:Bool} {all:List Oper} {S:St}
@[simp] theorem akz{d:Option Tmp}{op:Op}{ty:TypeId}{pos:String}{O:Array Edge}:eE X Y md all S ⟨d,op,ty,pos,O,none⟩=fi X Y S ⟨d,op,ty,pos,O,none⟩ (du X.P S ⟨d,op,ty,pos,O,none⟩):=rfl
@[simp] theorem asN{J:List Nat}{i:Nat}{E:List bf}:sX X md all J i [] S E=some (BB E []):=by rw[Cq,afy];rfl
theorem WC{J:List Nat}{i:Nat}{o:Oper}{r:List Oper}{E:List bf}:sX X md all J i (o::r) S E=if J.contains i=true then (match eE X (λ_ _ _=>none) md all S o with
 |some (S1,p)=>sX X md all J (i+1) r S1 (p::E)
 |none=>none)else sX X md all J (i+1) r (S.put o.dst false .bm) (⟨[],[],false,.bm⟩::E):=by
 simp only[sX];cases J.contains i<;>rfl
end
attribute [simp] WC fi.eq_1 fi.eq_2 fi.eq_3 Sl.eq_1 Sk.eq_1 Sk.eq_2 gD.eq_1 gD.eq_2 gB.eq_1 gB.eq_2 kp.eq_1 kp.eq_2 St.kill.eq_1 GO.eq_1 GO.eq_2 A6.eq_1 A6.eq_2
attribute [simp] agQ aep Zv Wr
section
variable {T M α:Type} {X:Ctx} {md:Bool} {U:Nat×List (List Nat)} {S:St} {d:Option Nat} {all q:List Oper} {E:List bf} {k:Kt} {r:PR T M α} {f:α->M->Option fM} {g:T->M->Option fM}
@[simp] theorem aoQ:qa X md U S d all q E k (r.el f g)=r.el (λa s=>qa X md U S d all q E k (f a s)) (λe s=>qa X md U S d all q E k (g e s)):=by cases r<;>rfl
@[simp] theorem awh:uR S (r.el f g)=r.el (λa s=>uR S (f a s)) (λe s=>uR S (g e s)):=by cases r<;>rfl
@[simp] theorem awi{p:aE}{V:Nat}{rs:List ResultVar}{f:α->M->Option St}{g:T->M->Option St}:DP X p V rs (r.el f g)=r.el (λa s=>DP X p V rs (f a s)) (λe s=>DP X p V rs (g e s)):=by cases r<;>rfl
end
attribute [simp] Wj SV Wk SW SX NN SY Wl Wm SZ
attribute [simp] FU.eq_1 G7.eq_1 Lf.eq_1 Jj.eq_1 Jj.eq_2 FV.eq_1 FV.eq_2 DP.eq_1 DP.eq_2 uR.eq_1 DO.eq_1 DO.eq_2 DO.eq_3 tO.eq_1 Wp Jk.eq_1 Jk.eq_2
section
variable {X:Ctx} {f:FuncId} {S:St} {H:List DF} {I:BG} {b:Code}
@[simp] theorem awj:FU X f b I .ret S H=I .ret S H:=rfl
@[simp] theorem awk{t:TypeId}{x:D}:FU X f b I (.panic t x) S H=I (.panic t x) S H:=rfl
@[simp] theorem awl{i:Nat}:FU X f b I (.exit i) S H=I (.exit i) S H:=rfl
@[simp] theorem aoR{id:Nat}{t:TypeId}{x:D}:G7 X f id I (.panic t x) S H=I (.panic t x) S H:=rfl
@[simp] theorem asO{md:Bool}{all r:List Oper}{t:TypeId}{x:D}:Lf X md all r H I (.panic t x) S=I (.panic t x) S H:=rfl
end
@[simp] theorem afl:mb none=[]:=rfl
@[simp] theorem afm(k v:Nat):mb (some ⟨k,v,.dead⟩)=[]:=rfl
@[simp] theorem agY(k v:Nat)(cs:List AV):mb (some ⟨k,v,.box cs⟩)=lD cs:=rfl
@[simp] theorem agZ(k v sz:Nat)(aj:List D):mb (some ⟨k,v,.vec sz aj⟩)=[]:=rfl
@[simp] theorem ag0(k v:Nat)(aj:List (List D)):mb (some ⟨k,v,.vv aj none⟩)=[]:=rfl
@[simp] theorem akA(k v:Nat)(aj:List (List D))(x:AV):mb (some ⟨k,v,.vv aj (some x)⟩)=jw x:=rfl
@[simp] theorem awm(m ρ bor nv aj y):wU m ρ bor nv (.vv aj y)=.vv aj (y.map (vw m ρ bor nv)):=rfl
@[simp] theorem aoS(aj y):mr (.vv aj y)=(aj.all mB&&(match y with|none=>true|some x=>dW x)):=rfl
@[simp] theorem ayV(ρ bs aj y):EY ρ bs (.vv aj y)=.vv aj (y.map (up ρ bs)):=rfl
@[simp] theorem awn(I aj y):qY I (.vv aj y)=.vv aj (y.map I):=rfl
@[simp] theorem asP{H:Nat}{b:Bool}{c:Prop}[Decidable c]{x y:Option (Out×List (Nat×aH))}:ri H b (if c then x else y)=if c then ri H b x else ri H b y:=by split<;>rfl
@[simp] theorem afn(P t E len ps):hY P t E len ps none=none:=by
 unfold hY;split<;>simp_all
@[simp] theorem alP(P t E len n x o):hY P t E len [(n,.d x)] o=none:=by
 unfold hY;split<;>simp_all
@[simp] theorem ag1(P t E len n x o):hY P t E len [(n,.agg x)] o=none:=by
 unfold hY;split<;>simp_all
@[simp] theorem ag2(P t E len o):hY P t E len [] o=none:=by
 unfold hY;split<;>simp_all
@[simp] theorem ag3(P t E len p q r o):hY P t E len (p::q::r) o=none:=by
 unfold hY;split<;>simp_all
@[simp] theorem ag4(P t E len k v c):hY P t E len [(0,.lit (.slice none 0 0))] (some ⟨k,v,c⟩)=(match tk P t with
 | .slice e=>match fT P e,m8 P e with
  |some sz,some _=>some (.dp (sz=1/\len=1) (.vec E (v+1) 0 1) ⟨E,v+1,.box [.lit (.slice none 0 0)]⟩)
  |_,_=>none
 |_=>none):=rfl
attribute [simp] rN.eq_1
attribute [simp] EJ.eq_1 yH.eq_1
attribute [simp] Gh.go St.eL.eq_1 St.cls.eq_1 St.shut.eq_1 St.sC.eq_1
end Go.Am
end
section
namespace Go.Am
open Go
open Go.Proofs
set_option maxRecDepth 10000
@[simp] def abE:Nat->List Nat
 |0=>[1]
 |1=>[1,9]
 |2=>[2]
 |3=>[1,12]
 |4=>[2]
 |5=>[3,4]
 |6=>[3,19]
 |7=>[2]
 |8=>[3,5]
 |9=>[3,5,49]
 |10=>[2]
 |11=>[3,5,6]
 |12=>[3,5,6,52]
 |13=>[3,5,6]
 |14=>[3,5,6,7]
 |15=>[3,5,6,7,61]
 |16=>[3,5,6,7,61,62]
 |17=>[3,5,6,7,61,62]
 |18=>[3,5,6,73]
 |19=>[2]
 |20=>[3,5,6,7,61,74]
 |21=>[3,5,6,79]
 |22=>[2]
 |23=>[3,5,6,7,61,80]
 |24=>[3,5,6,7,61,80]
 |25=>[3,5,6,7,61,80]
 |26=>[3,5,6,7,80]
 |27=>[3,5,6,94]
 |28=>[2]
 |29=>[2]
 |_=>[]
@[simp] def md6:Nat->Bool
 |9=>true
 |_=>false
@[simp] def fp6:aE:=⟨[],false,[150,250,450],[],false⟩
@[simp] def WD:Nat->List Nat
 |0=>[1]
 |1=>[1,3]
 |2=>[2]
 |_=>[]
@[simp] def Zz:aE:=⟨[],false,[150],[],false⟩
@[simp] def WE:Nat->List Nat
 |0=>[1]
 |1=>[1,14]
 |2=>[2]
 |3=>[1,3]
 |4=>[1,3,19]
 |5=>[1,3]
 |6=>[1,3,4]
 |7=>[1,3,4,40]
 |8=>[2]
 |9=>[1,3,4,54]
 |10=>[2]
 |11=>[1,3,4,93]
 |12=>[2]
 |13=>[1,3,125]
 |14=>[2]
 |15=>[2]
 |_=>[]
@[simp] def ag6:Nat->Bool
 |9=>true
 |11=>true
 |13=>true
 |_=>false
@[simp] def ZA:aE:=⟨[],false,[150,300],[],false⟩
@[simp] def WG:Nat->List Nat
 |0=>[1,2]
 |1=>[1,2,3]
 |2=>[1,2,3,4]
 |3=>[1,2,3,4,11]
 |4=>[1,2,3,4]
 |5=>[1,2,3,4,6]
 |6=>[1,2,3,4,28]
 |7=>[2]
 |8=>[1,2,3,4]
 |9=>[1,2,3,4,45]
 |10=>[2]
 |11=>[2]
 |_=>[]
@[simp] def ag7:Nat->List (List Nat)
 |5=>[[2,4,5,6,7,8,9,14],[2,4,5,6,7,8,9,14],[0,1,4,5,6,7,8,9,14],[4,5,6,7,8,9,14],[0,1,2,3,6,14],[0,1,2,3,6,14],[0,1,2,3,4,5,14],[0,1,2,3,14],[0,1,2,3,14],[0,1,2,3,14],[14],[14],[13,14],[12,14,15],[0,1,2,3,4,5,6,7,8,9,10,11,12,13],[13],[]]
 |_=>[]
@[simp] def ZB:aE:=⟨[],false,[150,200,350],[],false⟩
@[simp] def WH:Nat->List Nat
 |0=>[1,2]
 |1=>[1,2,4]
 |2=>[1,2,4,5]
 |3=>[2,4,5]
 |4=>[2,4,5]
 |5=>[2,4,5]
 |6=>[2,4,5,39]
 |7=>[2,3]
 |8=>[2,3]
 |_=>[]
@[simp] def ag8:Nat->List (List Nat)
 |8=>[[4,5,6,7,8],[4,5,6,7,8],[4,5,6,7,8],[4,5,6,7,8],[0,1,2,3,5,6,7,8],[0,1,2,3,4],[0,1,2,3,4],[0,1,2,3,4],[0,1,2,3,4],[],[],[]]
 |_=>[]
@[simp] def ag9:Nat->List Gh
 |2=>[.jZ 700 3 701 5,.sC 700 7 702,.jZ 700 8 703 1]
 |_=>[]
@[simp] def ZC:aE:=⟨[],false,[150,200,700,701,702,703],[],false⟩
@[simp] def WI:Nat->List Nat
 |0=>[]
 |1=>[1]
 |2=>[4,5]
 |3=>[0]
 |_=>[]
@[simp] def aha:Nat->Bool
 |3=>true
 |_=>false
@[simp] def ZD:aE:=⟨[],false,[150,250,300],[],false⟩
@[simp] def WJ:Nat->List Nat
 |0=>[1]
 |1=>[2]
 |_=>[]
@[simp] def ahb:Nat->Bool
 |1=>true
 |_=>false
@[simp] def ZE:aE:=⟨[],false,[150],[],false⟩
@[simp] def WK:Nat->List Nat
 |0=>[1,2]
 |1=>[1,2]
 |2=>[2]
 |_=>[]
@[simp] def ZF:aE:=⟨[],false,[150,200],[],false⟩
@[simp] def WL:Nat->List Nat
 |0=>[1,2]
 |1=>[2,6,7]
 |2=>[4,5]
 |_=>[]
@[simp] def ZG:aE:=⟨[],false,[200],[],false⟩
@[simp] def WM:Nat->List Nat
 |0=>[0]
 |1=>[0,17]
 |2=>[2]
 |3=>[0,3]
 |4=>[0,3,21]
 |5=>[0,3]
 |6=>[0,3,4]
 |7=>[0,3,4,5]
 |8=>[0,3,58]
 |9=>[2]
 |10=>[2]
 |_=>[]
@[simp] def ahc:Nat->Bool
 |1=>true
 |7=>true
 |8=>true
 |_=>false
@[simp] def ZH:aE:=⟨[],false,[],[],false⟩
@[simp] def WN:Nat->List Nat
 |0=>[0]
 |1=>[0,3]
 |2=>[0,3,4]
 |3=>[0,3,4,9]
 |4=>[0,3,4]
 |5=>[0,3,4,18]
 |6=>[2]
 |7=>[2]
 |_=>[]
@[simp] def ZI:aE:=⟨[],false,[],[],false⟩
@[simp] def WO:Nat->List Nat
 |0=>[0]
 |1=>[0,3]
 |2=>[0,3,20]
 |3=>[0,3]
 |4=>[0,3,4]
 |5=>[0,3,4,5,6,7]
 |6=>[0,3,4,6,7,59]
 |7=>[2]
 |8=>[0,3,4,7,89]
 |9=>[2]
 |10=>[0,3,4,118]
 |11=>[2]
 |12=>[0,3,4,8,9,10,11,12]
 |13=>[0,3,4,8,9,10,11,12,120]
 |14=>[0,3,4,8,9,10,11,12,120,121]
 |15=>[0,3,4,8,9,10,11,12]
 |16=>[0,3,4,8,9,10,11,12,120,131]
 |17=>[0,3,4,8,9,10,11,12]
 |18=>[0,3,4,8,9,10,11,12,120,139]
 |19=>[0,3,4,8,9,10,11,12]
 |20=>[0,3,4,8,9,10,11,12,120,141]
 |21=>[0,3,4,8,9,10,11,12,120,141]
 |22=>[0,3,4,8,9,10,11,12]
 |23=>[0,3,4,8,9,10,11,12,144]
 |24=>[0,3,4,8,9,10,11,12]
 |25=>[0,3,4,186]
 |26=>[2]
 |27=>[0,3,4,13]
 |28=>[0,3,4,13,191]
 |29=>[0,3,4,13]
 |30=>[0,3,4,13,200]
 |31=>[2]
 |32=>[0,3,4,14]
 |33=>[0,3,4,14,205]
 |34=>[0,3,4,14]
 |35=>[0,3,4,14,224]
 |36=>[2]
 |37=>[0,3,4,14,15]
 |38=>[0,3,4,14,15,232]
 |39=>[0,3,4,14,15]
 |40=>[0,3,4,14,15,243]
 |41=>[2]
 |42=>[0,3,4,16]
 |43=>[0,3,4,16,248]
 |44=>[0,3,4,16]
 |45=>[0,3,4,16,257]
 |46=>[2]
 |47=>[2]
 |_=>[]
@[simp] def ahd:Nat->Bool
 |6=>true
 |8=>true
 |10=>true
 |35=>true
 |_=>false
@[simp] def ahe:Nat->List (List Nat)
 |15=>[[4,5,6,7],[4,5,6,7],[4,5,6,7],[4,5,6,7],[0,1,2,3,8],[0,1,2,3,8],[0,1,2,3,8],[0,1,2,3,8],[4,5,6,7],[],[]]
 |17=>[[3,4,5],[3,4,5],[3,4,5],[0,1,2,6],[0,1,2,6],[0,1,2,6],[3,4,5],[],[]]
 |24=>[[3,4,5],[3,4,5],[3,4,5],[0,1,2,6],[0,1,2,6],[0,1,2,6],[3,4,5],[]]
 |_=>[]
@[simp] def ZJ:aE:=⟨[],false,[300],[],false⟩
@[simp] def WQ:Nat->List Nat
 |0=>[0,1,4]
 |1=>[0,1,4,6]
 |2=>[0,1,4,6,10]
 |3=>[0,1,4,6]
 |4=>[0,1,4,6,19]
 |5=>[4,5]
 |6=>[4,5]
 |_=>[]
@[simp] def ZK:aE:=⟨[],false,[300],[],false⟩
@[simp] def WR:Nat->List Nat
 |0=>[1]
 |1=>[1,4]
 |2=>[2]
 |3=>[1,13]
 |4=>[2]
 |5=>[2]
 |_=>[]
@[simp] def ZL:aE:=⟨[],false,[150],[],false⟩
@[simp] def WS:Nat->List Nat
 |0=>[0,1,2,6]
 |1=>[0,1,2,6,7]
 |2=>[0,1,2,6,7,12]
 |3=>[0,1,2,6,7]
 |4=>[0,1,2,6,7,8]
 |5=>[0,1,2,6,7,8,24]
 |6=>[6]
 |7=>[6]
 |_=>[]
@[simp] def ZM:aE:=⟨[],false,[400,500],[],false⟩
@[simp] def WT:Nat->List Nat
 |0=>[1,2]
 |1=>[1,2,3]
 |2=>[2,3,8,9,10]
 |3=>[2,3,8,9,10,11]
 |4=>[2,3,5,8,9,10]
 |5=>[2,3,5,8,9,10]
 |6=>[2,3,5,6,8,9,10]
 |7=>[2,3,5,6,8,9,10]
 |8=>[2,3,5,8,9,10]
 |9=>[2,3,5,8,9,10,40]
 |10=>[2,3,8,9,10]
 |11=>[2,3,8,9,10]
 |12=>[2]
 |_=>[]
@[simp] def ahf:Nat->List Gh
 |1=>[.jZ 250 0 251 1,.jZ 250 2 252 1]
 |_=>[]
@[simp] def ZN:aE:=⟨[],false,[150,200,250,251,252,350],[],false⟩
@[simp] def WU:Nat->List Nat
 |0=>[0,6,7,8]
 |1=>[0,6,7,8,9]
 |2=>[0,5,6,7,8]
 |3=>[0,6,7,8]
 |4=>[0,6,7,8]
 |_=>[]
@[simp] def ZO:aE:=⟨[1,2,3,4,5,6,7,8],false,[350],[],false⟩
@[simp] def WV:Nat->List Nat
 |0=>[0,6,7,8]
 |1=>[0,6,7,8,9]
 |2=>[0,5,6,7,8]
 |3=>[0,6,7,8]
 |4=>[0,6,7,8]
 |_=>[]
@[simp] def ZP:aE:=⟨[1,2,3,4,5,6,7,8],false,[],[1],false⟩
@[simp] def WW:Nat->List Nat
 |0=>[0,2,4]
 |1=>[0,2]
 |2=>[0]
 |3=>[0]
 |4=>[6]
 |_=>[]
@[simp] def ahg:Nat->List (List Nat)
 |1=>[[1,2,3,4,5,6,7],[0,5,6],[0,5,6],[0,5,6],[0,5,6],[0,1,2,3,4],[0,1,2,3,4],[0],[],[],[]]
 |3=>[[1,2,3,4,5,6,7,8,9],[0,5,6,7,8],[0,5,6,7,8],[0,5,6,7,8],[0,5,6,7,8],[0,1,2,3,4],[0,1,2,3,4],[0,1,2,3,4],[0,1,2,3,4],[0],[],[],[]]
 |_=>[]
@[simp] def ZQ:aE:=⟨[1,2,3,4,5,6,7,8],false,[300],[],false⟩
@[simp] def WX:Nat->List Nat
 |0=>[0]
 |1=>[0,14]
 |2=>[2]
 |3=>[0,3]
 |4=>[0,3,4]
 |5=>[0,3,4,19]
 |6=>[0,3,4]
 |7=>[0,3,4,28]
 |8=>[3,4,5]
 |9=>[3,4,5,6]
 |10=>[3,4,5,6,36]
 |11=>[3,4,5,6]
 |12=>[3,4,5,6,7]
 |13=>[3,4,5,6,7,8]
 |14=>[3,4,5,6,7,8,52]
 |15=>[3,4,5,6,7,8]
 |16=>[3,4,5,6,7,8,55]
 |17=>[3,4,5,6,7,8]
 |18=>[3,4,5,6,8]
 |19=>[3,4,5,6]
 |20=>[2]
 |21=>[2]
 |_=>[]
@[simp] def ZR:aE:=⟨[],false,[350,500],[],false⟩
@[simp] def WY:Nat->List Nat
 |0=>[0]
 |1=>[3,4]
 |2=>[3,12]
 |3=>[2]
 |4=>[3,5]
 |5=>[5,21,22]
 |6=>[5,21,22,23]
 |7=>[5,21,22]
 |8=>[5,21,22]
 |9=>[2]
 |_=>[]
@[simp] def ahh:Nat->List (List Nat)
 |4=>[[3,4],[3,4],[3,4],[0,1,2],[0,1,2],[],[],[]]
 |_=>[]
@[simp] def ZS:aE:=⟨[],false,[250,851],[],false⟩
@[simp] def WZ:Nat->List Nat
 |0=>[0,2,3,4]
 |1=>[2,3,4,5]
 |2=>[2,3,4,5,14]
 |3=>[2,3,4]
 |4=>[2,3,4,5]
 |5=>[2,3,4,6]
 |6=>[2,3,4]
 |_=>[]
@[simp] def ahi:Nat->List (List Nat)
 |3=>[[1,2],[0,2,3],[0,1,3,4],[1,2],[2],[]]
 |_=>[]
@[simp] def ahj:Nat->List Gh
 |5=>[.jZ 1150 3 1151 8]
 |_=>[]
@[simp] def Ll:aE:=⟨[],false,[200,250,300,1150,1151],[],false⟩
@[simp] def W0:Nat->List Nat
 |0=>[0]
 |1=>[0,3]
 |2=>[3,9,10,11]
 |3=>[3,9,10,11,12]
 |4=>[3,5,9,10,11]
 |5=>[3,5,9,10,11]
 |6=>[3,5,6,9,10,11]
 |7=>[3,5,6,9,10,11,28,29,30]
 |8=>[3,5,6,9,10,11,28,29,30,31]
 |9=>[3,5,6,8,9,10,11,28,29,30]
 |10=>[3,5,6,9,10,11,28,29,30]
 |11=>[3,5,6,9,10,11,28,29,30]
 |12=>[3,5,9,10,11]
 |13=>[3,9,10,11]
 |14=>[3,9,10,11]
 |15=>[2]
 |_=>[]
@[simp] def ahk:Nat->List (List Nat)
 |5=>[[3,4,6,7],[3,4,6,7],[3,4,6,7],[0,1,2,6,7],[0,1,2,6,7],[6,7,9],[0,1,2,3,4,5],[0,1,2,3,4,5],[9],[5,8],[],[],[],[],[]]
 |_=>[]
@[simp] def ahl:Nat->List Gh
 |1000002=>[.freeze 400]
 |_=>[]
@[simp] def ZT:aE:=⟨[],false,[250,350,400],[],false⟩
@[simp] def W1:Nat->List Nat
 |0=>[0,1]
 |1=>[0,1,6,7]
 |2=>[0,1,6,7,8]
 |3=>[0,1,6,7,8,26]
 |4=>[0,1,6,7,8]
 |5=>[0,1,6,7,8]
 |6=>[0,1,6,7,8,9]
 |7=>[0,1,6,7,8,9,42,43,44]
 |8=>[0,1,6,7,8,9,42,43,44,45]
 |9=>[0,1,6,7,8,9,11,42,43,44]
 |10=>[0,1,6,7,8,9,12,13,42,43,44]
 |11=>[0,1,6,7,8,9,13,42,43,44]
 |12=>[0,1,6,7,8,9,42,43,44]
 |13=>[0,1,6,7,8,9,42,43,44]
 |14=>[0,1,6,7,8,9]
 |15=>[0,1,6,7,8,9,14]
 |16=>[0,1,6,7,8,9,14,88]
 |17=>[0,1,6,7,8,9,14]
 |18=>[0,1,6,7,8,9,14]
 |19=>[0,1,6,7,8,9,15]
 |20=>[0,1,6,7,8,9,15,111]
 |21=>[0,1,6,7,8,9,15]
 |22=>[0,1,6,7,8,9,15,16,17]
 |23=>[0,1,6,7,8,9,15,17]
 |24=>[0,1,6,7,8,9,15]
 |25=>[4,5]
 |_=>[]
@[simp] def ZU:aE:=⟨[],false,[550],[],false⟩
@[simp] def W2:Nat->List Nat
 |0=>[0]
 |1=>[0,5,6,7]
 |2=>[0,5,6,7,8]
 |3=>[0,4,5,6,7]
 |4=>[0,5,6,7,13]
 |5=>[2]
 |6=>[0,5,6,7]
 |7=>[2]
 |_=>[]
@[simp] def ZV:aE:=⟨[],false,[],[],false⟩
@[simp] def W3:Nat->List Nat
 |0=>[]
 |1=>[0]
 |_=>[]
@[simp] def ahm:aE:=⟨[],false,[],[],false⟩
@[simp] def W4:Nat->List Nat
 |0=>[0]
 |1=>[2,3,4]
 |_=>[]
@[simp] def ZW:aE:=⟨[],false,[],[],false⟩
@[simp] def W5:Nat->List Nat
 |0=>[0]
 |1=>[0,3]
 |2=>[0,3,11]
 |3=>[0,3]
 |4=>[0,3,4]
 |5=>[0,3,4,5,6,7]
 |6=>[0,3,4,5,6,7,18]
 |7=>[0,3,4,5,6,7,18]
 |8=>[0,3,4,5,6,7,18]
 |9=>[0,3,4,5,6,7,18]
 |10=>[0,3,4,5,6,7,18]
 |11=>[2]
 |12=>[0,3,4,5,6,7,54]
 |13=>[0,3,4,5,6,7]
 |14=>[0,3,4,5,6,7,58]
 |15=>[0,3,4,5,6,7]
 |16=>[0,3,4,5,6,7,62]
 |17=>[0,3,4,5,6,7]
 |18=>[0,3,4,5,6,7,66]
 |19=>[0,3,4,5,6,7]
 |20=>[0,3,4,5,6,7,75]
 |21=>[0,3,4,5,6,7]
 |22=>[0,3,125]
 |23=>[2]
 |24=>[2]
 |_=>[]
@[simp] def ahn:Nat->Bool
 |7=>true
 |22=>true
 |_=>false
@[simp] def ZX:aE:=⟨[],false,[300],[],false⟩
@[simp] def W6:Nat->List Nat
 |0=>[1]
 |1=>[2]
 |_=>[]
@[simp] def ZY:aE:=⟨[],false,[150],[],false⟩
@[simp] def W7:Nat->List Nat
 |0=>[0,2,4,6]
 |1=>[0,2,4,6,25]
 |2=>[0,2,4,6,25,26]
 |3=>[0,4,6,7,8]
 |4=>[0,4,6,7,37]
 |5=>[6]
 |6=>[0,4,6,44]
 |7=>[6]
 |8=>[0,4,6,9,10]
 |9=>[0,4,6,9,10,58]
 |10=>[6]
 |11=>[4,6,9,10,11]
 |12=>[4,6,9,10,11,69]
 |13=>[6]
 |14=>[4,6,73]
 |15=>[6]
 |16=>[0,2,4,6,25,77]
 |17=>[0,2,4,6,12]
 |18=>[0,2,4,6,12,83]
 |19=>[0,2,4,6,12]
 |20=>[0,2,4,6,12,90]
 |21=>[0,2,4,6,12,13]
 |22=>[0,2,4,6,12,13,100]
 |23=>[6]
 |24=>[0,2,4,6,12,14]
 |25=>[0,2,4,6,12,14,112]
 |26=>[6]
 |27=>[0,2,4,6,25,114]
 |28=>[0,2,4,6,15]
 |29=>[0,2,4,6,15,122]
 |30=>[6]
 |31=>[0,2,4,6,16]
 |32=>[0,2,4,6,16,128]
 |33=>[0,2,4,6,16]
 |34=>[0,2,4,6,16,17]
 |35=>[0,2,4,6,16,17,141]
 |36=>[6]
 |37=>[0,2,4,6,25,143]
 |38=>[0,4,6,18,19]
 |39=>[0,4,6,18,153]
 |40=>[6]
 |41=>[0,4,6,18,159]
 |42=>[6]
 |43=>[0,4,6,169]
 |44=>[6]
 |45=>[0,4,6,20]
 |46=>[0,4,6,20,177]
 |47=>[0,4,6,20]
 |48=>[0,4,6,20,21]
 |49=>[0,4,6,20,21,189]
 |50=>[6]
 |51=>[6]
 |52=>[0,2,4,6,25,197]
 |53=>[0,4,6,22]
 |54=>[0,4,6,22,205]
 |55=>[6]
 |56=>[6]
 |57=>[0,2,4,6,25,213]
 |58=>[0,4,6,23]
 |59=>[0,4,6,23,223]
 |60=>[6]
 |61=>[6]
 |62=>[0,2,4,6,25,229]
 |63=>[4,6,232]
 |64=>[6]
 |65=>[0,4,6,236]
 |66=>[6]
 |67=>[6]
 |_=>[]
@[simp] def ZZ:aE:=⟨[],false,[300,400,450,600,750,800,850,950,1000,1150,1200,1250],[],false⟩
@[simp] def W8:Nat->List Nat
 |0=>[1]
 |1=>[1,3]
 |2=>[2]
 |3=>[1,12]
 |4=>[2]
 |5=>[2]
 |_=>[]
@[simp] def Z0:aE:=⟨[],false,[150],[],false⟩
@[simp] def W9:Nat->List Nat
 |0=>[2,3]
 |1=>[2,3]
 |2=>[2,3,8]
 |3=>[2,3,8,9]
 |4=>[]
 |5=>[2,3,8,14]
 |6=>[]
 |7=>[2,3,8,24]
 |8=>[]
 |9=>[2,3,8,29]
 |10=>[]
 |11=>[2,3,8,34]
 |12=>[2,3,8,34]
 |13=>[]
 |14=>[2,3,8,40]
 |15=>[2,4]
 |16=>[]
 |17=>[2,3,8,65]
 |18=>[]
 |19=>[2,3,78]
 |20=>[]
 |_=>[]
@[simp] def aho:Nat->List (List Nat)
 |16=>[[4,5,6,7,8,9,10,11,12,13,14,15],[4,5,6,7,8,9,10,11,12,13,14,15],[4,5,6,7,8,9,10,11,12,13,14,15],[4,5,6,7,8,9,10,11,12,13,14,15],[0,1,2,3,5,6,7,8,9,10,11,12,13,14,15],[0,1,2,3,4,9,12,13,14],[0,1,2,3,4,9,12,13,14],[0,1,2,3,4,9,12,13,14],[0,1,2,3,4,9,12,13,14],[0,1,2,3,4,5,6,7,8,12,13,14],[0,1,2,3,4,12,13,14],[0,1,2,3,4,12,13,14],[0,1,2,3,4,5,6,7,8,9,10,11],[0,1,2,3,4,5,6,7,8,9,10,11],[0,1,2,3,4,5,6,7,8,9,10,11],[0,1,2,3,4],[],[]]
 |18=>[[1,2,3,4,5,6,7,8],[0,5,6,7],[0,5,6,7],[0,5,6,7],[0,5,6,7],[0,1,2,3,4],[0,1,2,3,4],[0,1,2,3,4],[0],[],[],[]]
 |_=>[]
@[simp] def ahp:Nat->List Gh
 |15=>[.eL 2 101]
 |16=>[.cls 2 101]
 |_=>[]
@[simp] def ahq:Nat->List (Nat×Nat)
 |16=>[(0,7),(2,0)]
 |18=>[(0,8)]
 |_=>[]
@[simp] def Z1:aE:=⟨[1,2,3,4,5,6,7,8],false,[101,200,250],[],false⟩
@[simp] def Xa:Nat->List Nat
 |0=>[]
 |_=>[]
@[simp] def ahr:Nat->List (List Nat)
 |0=>[[4,5,6],[4,5,6],[4,5,6],[4,5,6],[0,1,2,3,5,6],[0,1,2,3,4],[0,1,2,3,4],[],[],[]]
 |_=>[]
@[simp] def ahs:Nat->List (Nat×Nat)
 |0=>[(0,3)]
 |_=>[]
@[simp] def Z2:aE:=⟨[1,2,3,4,5,6,7,8],false,[],[],false⟩
@[simp] def Xb:Nat->List Nat
 |0=>[1,2]
 |1=>[1,2,4]
 |2=>[2,4,5]
 |3=>[2,4,5,11]
 |4=>[2,3]
 |5=>[2,3]
 |_=>[]
@[simp] def Z3:aE:=⟨[],false,[150,200],[],false⟩
@[simp] def Xc:Nat->List Nat
 |0=>[0,1]
 |1=>[0,1,5]
 |2=>[1,5,12,13,14]
 |3=>[1,5,12,13,14,15]
 |4=>[1,5,7,12,13,14]
 |5=>[1,5,7,8,12,13,14]
 |6=>[1,5,8,9,10,12,13,14]
 |7=>[1,5,8,9,12,13,14,26]
 |8=>[1,5,8,12,13,14]
 |9=>[1,5,12,13,14]
 |10=>[1,5,12,13,14]
 |11=>[4]
 |_=>[]
@[simp] def aht:aE:=⟨[],true,[300,350,500],[],false⟩
@[simp] def Xd:Nat->List Nat
 |0=>[0,4]
 |1=>[0,4,13]
 |2=>[2,3,4]
 |3=>[4,5]
 |4=>[4,5,6]
 |5=>[4,5,6,7]
 |6=>[4,5,6,7,8]
 |7=>[4,5,6,8,29]
 |8=>[2,3,4]
 |9=>[4,5,6,8,33]
 |10=>[2,3,4]
 |11=>[4,5,6,8,9,10]
 |12=>[4,5,6,8,9,10,50]
 |13=>[2,3,4]
 |14=>[4,5,6,9]
 |15=>[4,5,6]
 |_=>[]
@[simp] def ahu:Nat->List (List Nat)
 |6=>[[4,5,6,7,9],[4,5,6,7,9],[4,5,6,7,9],[4,5,6,7,9],[0,1,2,3,9],[0,1,2,3,9],[0,1,2,3,9],[0,1,2,3,9],[9],[0,1,2,3,4,5,6,7,8],[]]
 |8=>[[1,2],[0],[0],[]]
 |11=>[[2,7],[2,7],[0,1,7],[7],[7],[6,7],[5,7,8],[0,1,2,3,4,5,6],[6],[]]
 |13=>[[1,2],[0,2,3],[0,1],[1],[]]
 |_=>[]
@[simp] def S7:aE:=⟨[],false,[200,300,400,500,550,950],[],false⟩
@[simp] def Xe:Nat->List Nat
 |0=>[0,1,2,3]
 |1=>[0,1,2,3,8]
 |2=>[0,1,2,3,4,5]
 |3=>[0,1,2,3,4,15]
 |4=>[0,1,2,4]
 |5=>[]
 |_=>[]
@[simp] def ahv:Nat->List (List Nat)
 |5=>[[1,2,3,4],[0,3,4,5],[0,3,4,5],[0,1,2,5,6],[0,1,2,5,6],[1,2,3,4],[3,4],[]]
 |_=>[]
@[simp] def Lm:aE:=⟨[],false,[300],[],false⟩
@[simp] def Xf:Nat->List Nat
 |0=>[0,2]
 |1=>[0,2]
 |2=>[0,2,3]
 |3=>[0,2,3]
 |4=>[0,2,3]
 |5=>[0,2,3]
 |6=>[0,2,3]
 |7=>[2,3]
 |8=>[2]
 |_=>[]
@[simp] def ahw:aE:=⟨[],false,[200,250],[],false⟩
@[simp] def Xg:Nat->List Nat
 |0=>[1,2]
 |1=>[1,2,3]
 |2=>[1,2,3,20,21,22]
 |3=>[1,2,3,20,21,22,23]
 |4=>[1,2,3,5,20,21,22]
 |5=>[1,2,3,20,21,22]
 |6=>[1,2,3,20,21,22]
 |7=>[1,2,3]
 |8=>[1,2,3,36]
 |9=>[2]
 |10=>[1,2,3,8]
 |11=>[1,2,3,44]
 |12=>[2]
 |13=>[1,2,3,9]
 |14=>[1,2,3,9,10]
 |15=>[1,2,9,10,46,47,48]
 |16=>[1,2,9,10,46,47,48,49]
 |17=>[1,2,9,10,12,46,47,48]
 |18=>[1,2,9,10,13,14,15,46,47,48]
 |19=>[1,2,9,10,13,14,46,47,48,59]
 |20=>[2]
 |21=>[1,2,9,10,14,46,47,48]
 |22=>[1,2,9,10,46,47,48]
 |23=>[1,2,9,10,46,47,48]
 |24=>[1,2,9,10,77]
 |25=>[2]
 |26=>[1,2,16,17,18]
 |27=>[1,2,16,17,98]
 |28=>[2]
 |29=>[2]
 |_=>[]
@[simp] def ahx:Nat->Bool
 |27=>true
 |_=>false
@[simp] def Z4:aE:=⟨[],false,[150,200,250,350,550,700],[],false⟩
@[simp] def OA:Nat->List Nat
 |0=>[0]
 |1=>[0,3]
 |2=>[3,6,7,8]
 |3=>[3,6,7,8,9]
 |4=>[3,5,6,7,8]
 |5=>[3,6,7,8]
 |6=>[3,6,7,8]
 |7=>[2]
 |_=>[]
@[simp] def S8:aE:=⟨[],false,[250,350],[],false⟩
@[simp] def OB:Nat->List Nat
 |0=>[0,1]
 |1=>[0,1,6,7]
 |2=>[0,1,6,7,8]
 |3=>[0,1,6,7,8,19]
 |4=>[0,1,6,7,8]
 |5=>[0,1,6,7,8,9,10]
 |6=>[0,1,6,7,8,10]
 |7=>[0,1,6,7,8]
 |8=>[4,5]
 |_=>[]
@[simp] def S9:aE:=⟨[],false,[],[],false⟩
@[simp] def OC:Nat->List Nat
 |0=>[0,3,5]
 |1=>[0,3,5,6]
 |2=>[0,3,5,6,21]
 |3=>[0,3,5,6,21,22]
 |4=>[0,3,5,6,21,22]
 |5=>[4,5]
 |6=>[0,3,5,6,21,28]
 |7=>[0,3,5,6,21,28]
 |8=>[0,3,5,6,28]
 |9=>[0,3,5,6,7,8]
 |10=>[0,3,5,6,7,40]
 |11=>[4,5]
 |12=>[0,3,5,6,7,46]
 |13=>[3,5,6,7,49]
 |14=>[4,5]
 |15=>[3,5,9,10]
 |16=>[3,5,9,60]
 |17=>[4,5]
 |18=>[4,5]
 |19=>[0,3,5,6,7,77]
 |20=>[4,5]
 |21=>[0,3,5,7,81]
 |22=>[5,7,11]
 |23=>[5,7,11,90]
 |24=>[4,5]
 |25=>[4,5]
 |26=>[0,3,5,6,12,13]
 |27=>[0,3,5,6,12,13,106]
 |28=>[4,5]
 |29=>[0,3,5,6,12,13,14]
 |30=>[0,3,5,6,12,13,14,112]
 |31=>[3,5,6,12,13,14]
 |32=>[3,5,6,12,13,14,124]
 |33=>[4,5]
 |34=>[3,5,6,12,14,15]
 |35=>[3,5,6,12,14,15,16]
 |36=>[5,6,12,14,15,16,127]
 |37=>[5,6,12,14,15,16,127,128]
 |38=>[5,6,12,14,15,16,127,128]
 |39=>[5,6,12,14,15,16,127,128]
 |40=>[5,6,12,14,15,16,127,128]
 |41=>[5,6,12,14,15,16,127,128]
 |42=>[5,6,12,14,15,16,127,128]
 |43=>[5,6,12,14,15,16]
 |44=>[5,6,12,14,15,16,127,135]
 |45=>[5,6,12,14,15,16,127,135]
 |46=>[5,6,12,14,15,16]
 |47=>[5,6,12,14,15,16,127,139]
 |48=>[5,6,12,14,15,16,127,139]
 |49=>[5,6,12,14,15,16,127,139]
 |50=>[5,6,12,14,15,16,139]
 |51=>[5,6,12,14,15,16]
 |52=>[5,6,16,151]
 |53=>[4,5]
 |54=>[4,5]
 |_=>[]
@[simp] def abF:Nat->List (List Nat)
 |11=>[[3],[3],[3],[0,1,2],[]]
 |14=>[[1],[0],[]]
 |17=>[[3],[3],[3],[0,1,2],[]]
 |20=>[[1],[0],[]]
 |24=>[[1],[0],[]]
 |28=>[[1],[0],[]]
 |33=>[[1],[0],[]]
 |53=>[[1],[0],[]]
 |_=>[]
@[simp] def Ta:aE:=⟨[],false,[250,350,400,450,550,650,750],[],false⟩
@[simp] def OD:Nat->List Nat
 |0=>[0,2,4,6]
 |1=>[2,4,6,7,8]
 |2=>[4,6,8,22]
 |3=>[6]
 |4=>[6]
 |_=>[]
@[simp] def Tb:aE:=⟨[],false,[300,400,500],[],false⟩
@[simp] def OE:Nat->List Nat
 |0=>[0,3,4]
 |1=>[0,3,4,5,6]
 |2=>[0,3,4,5,20]
 |3=>[4]
 |4=>[0,3,4,5,26]
 |5=>[4]
 |6=>[0,3,4,5,7]
 |7=>[0,3,4,5,7,34]
 |8=>[0,3,4,5,7]
 |9=>[0,3,4,5,7,8,9]
 |10=>[0,3,4,5,7,8,54]
 |11=>[4]
 |12=>[0,3,4,5,7,8,10]
 |13=>[0,3,4,5,7,8,10,60]
 |14=>[0,3,4,5,7,8,10]
 |15=>[0,3,4,5,7,8,10,73]
 |16=>[4]
 |17=>[0,3,4,5,7,11]
 |18=>[0,3,4,5,7,11,88]
 |19=>[4]
 |20=>[4]
 |_=>[]
@[simp] def abG:Nat->List (List Nat)
 |9=>[[2,3,4,5,6,11],[2,3,4,5,6,11],[0,1,4,11],[0,1,4,11],[0,1,2,3,11],[0,1,11],[0,1,11],[11],[11],[10,11],[9,11,12],[0,1,2,3,4,5,6,7,8,9,10],[10],[]]
 |15=>[[2,5,6,7,8,9],[2,5,6,7,8,9],[0,1,5,6,7,8,9],[5,6,7,8,9],[5,6,7,8,9],[0,1,2,3,4,7],[0,1,2,3,4,7],[0,1,2,3,4,5,6],[0,1,2,3,4],[0,1,2,3,4],[]]
 |17=>[[1,2,3,4,5,6,7,9],[0,3,6,7,9],[0,3,6,7,9],[0,1,2,6,7,9],[0,6,7,9],[0,6,7,9],[0,1,2,3,4,5,9],[0,1,2,3,4,5,9],[9],[0,1,2,3,4,5,6,7,8],[]]
 |_=>[]
@[simp] def Tc:aE:=⟨[],false,[250,300,350,500,650],[],false⟩
@[simp] def OF:Nat->List Nat
 |0=>[]
 |_=>[]
@[simp] def Td:aE:=⟨[1,2,3,4,5,6,7,8],false,[],[],false⟩
@[simp] def OG:Nat->List Nat
 |0=>[0,3]
 |1=>[0,3,4,5]
 |2=>[0,3,4,5,22]
 |3=>[0,4]
 |4=>[]
 |5=>[0,3,4,5]
 |6=>[0,4,5]
 |7=>[]
 |_=>[]
@[simp] def abH:Nat->List (List Nat)
 |1=>[[4,5,6,12],[4,5,6,12],[4,5,6,12],[4,5,6,12],[0,1,2,3,12],[0,1,2,3,12],[0,1,2,3,12],[12],[12],[10,11,12],[9,11,12,13],[9,10,12,13,14],[0,1,2,3,4,5,6,7,8,9,10,11],[10,11],[11],[]]
 |_=>[]
@[simp] def Tf:aE:=⟨[1,2,3,4,5,6,7,8],false,[250,350],[],false⟩
@[simp] def OH:Nat->List Nat
 |0=>[0,1,2,3,8]
 |1=>[0,1,2,3,8,12,13,14]
 |2=>[0,1,2,3,8,12,13,14,15]
 |3=>[0,1,2,3,8,9,10,12,13,14]
 |4=>[0,1,2,3,8,9,10,11,12,13,14]
 |5=>[0,1,2,3,8,9,10,11,12,13,14,21]
 |6=>[0,1,2,3,8,9,10,12,13,14]
 |7=>[0,1,2,3,8,9,10,11,12,13,14]
 |8=>[0,1,2,3,8,9,11,12,13,14]
 |9=>[0,1,2,3,8,11,12,13,14,34]
 |10=>[0,1,2,3,8,11,12,13,14]
 |11=>[0,1,2,3,8,11,12,13,14,41]
 |12=>[0,1,2,3,8,12,13,14]
 |13=>[0,1,2,3,8,12,13,14]
 |14=>[]
 |_=>[]
@[simp] def Tg:aE:=⟨[1,2,3,4,5,6,7,8],false,[500],[],false⟩
@[simp] def OI:Nat->List Nat
 |0=>[]
 |_=>[]
@[simp] def abI:Nat->List (List Nat)
 |0=>[[1,2,3,4,5],[0,3],[0,3],[0,1,2],[0],[0],[]]
 |_=>[]
@[simp] def Th:aE:=⟨[1,2,3,4,5,6,7,8],false,[],[],false⟩
@[simp] def OJ:Nat->List Nat
 |0=>[0,3]
 |1=>[0,3,20]
 |2=>[0,3,20,21]
 |3=>[0,3,20,21]
 |4=>[3]
 |5=>[4]
 |6=>[0,3,20,32]
 |7=>[0,5,6]
 |8=>[6]
 |9=>[4]
 |10=>[0,3,20,53]
 |11=>[0,3,8,9]
 |12=>[0,8,9]
 |13=>[0,8,9,11]
 |14=>[0,8,9,11,74]
 |15=>[0,8,9,11]
 |16=>[9]
 |17=>[4]
 |18=>[0,3,87]
 |19=>[0,12,13]
 |20=>[13]
 |21=>[4]
 |22=>[0,3,15]
 |23=>[0,3,15,111,112,113]
 |24=>[0,3,15,111,112,113,114]
 |25=>[0,3,17,111,112,113]
 |26=>[0,3,15,111,112,113]
 |27=>[0,3,15,111,112,113]
 |28=>[0,3,15,18]
 |29=>[0,3,18,124]
 |30=>[0,3,18]
 |31=>[3]
 |32=>[4]
 |_=>[]
@[simp] def abJ:Nat->List (List Nat)
 |7=>[[4,5,11],[4,5,11],[4,5,11],[4,5,11],[0,1,2,3,11],[0,1,2,3,11],[11],[11],[9,10,11],[8,10,11,12],[8,9,11,12,13],[0,1,2,3,4,5,6,7,8,9,10],[9,10],[10],[]]
 |11=>[[4,5,11],[4,5,11],[4,5,11],[4,5,11],[0,1,2,3,11],[0,1,2,3,11],[11],[11],[9,10,11],[8,10,11,12],[8,9,11,12,13],[0,1,2,3,4,5,6,7,8,9,10],[9,10],[10],[]]
 |19=>[[4,5,6,7,13],[4,5,6,7,13],[4,5,6,7,13],[4,5,6,7,13],[0,1,2,3,6,7,13],[0,1,2,3,6,7,13],[0,1,2,3,4,5,13],[0,1,2,3,4,5,13],[13],[13],[11,12,13],[10,12,13,14],[10,11,13,14,15],[0,1,2,3,4,5,6,7,8,9,10,11,12],[11,12],[12],[]]
 |_=>[]
@[simp] def Ti:aE:=⟨[1,2,3,4,5,6,7,8],false,[250,400,550,750,950,1000],[],false⟩
@[simp] def OK:Nat->List Nat
 |0=>[2,3]
 |1=>[2,3,4]
 |2=>[2,3,4]
 |3=>[2,3,4]
 |4=>[]
 |_=>[]
@[simp] def Tj:aE:=⟨[1,2,3,4,5,6,7,8],false,[200,250,300],[],false⟩
@[simp] def OL:Nat->List Nat
 |0=>[2,3]
 |1=>[2,3,4]
 |2=>[2,3,4,5]
 |3=>[2,3,4,5,24,25,26]
 |4=>[2,3,4,5,24,25,26,27]
 |5=>[2,3,4,5,9,24,25,26]
 |6=>[2,3,4,5,24,25,26]
 |7=>[2,3,4,5,24,25,26]
 |8=>[2,3,4,5]
 |9=>[2,3,4,5]
 |10=>[2,3,4,5]
 |11=>[]
 |_=>[]
@[simp] def abK:Nat->List (List Nat)
 |2=>[[4,5,11,12],[4,5,11,12],[4,5,11,12],[4,5,11,12],[0,1,2,3,11,12],[0,1,2,3,11,12],[11,12],[11,12],[9,10,11,12],[8,10,11,12,13],[8,9,11,12,13,14],[0,1,2,3,4,5,6,7,8,9,10,12],[0,1,2,3,4,5,6,7,8,9,10,11],[9,10],[10],[]]
 |_=>[]
@[simp] def Tk:aE:=⟨[1,2,3,4,5,6,7,8],false,[200,250,300,350,400,550],[],false⟩
@[simp] def OM:Nat->List Nat
 |0=>[2,3]
 |1=>[]
 |_=>[]
@[simp] def Tl:aE:=⟨[1,2,3,4,5,6,7,8],false,[200,250],[],false⟩
@[simp] def ON:Nat->List Nat
 |0=>[0,1]
 |1=>[4]
 |_=>[]
@[simp] def Tm:aE:=⟨[1,2,3,4,5,6,7,8],false,[],[],false⟩
@[simp] def OO:Nat->List Nat
 |0=>[0,3]
 |1=>[0,3,4,5]
 |2=>[0,3,4,5,24,25,26]
 |3=>[0,3,4,5,24,25,26,27]
 |4=>[0,3,4,5,7,8,24,25,26]
 |5=>[0,3,4,5,7,9,24,25,26]
 |6=>[0,3,4,5,9,24,25,26]
 |7=>[0,3,4,5,24,25,26]
 |8=>[0,3,4,5,24,25,26]
 |9=>[]
 |_=>[]
@[simp] def abL:Nat->List (List Nat)
 |1=>[[4,5,11],[4,5,11],[4,5,11],[4,5,11],[0,1,2,3,11],[0,1,2,3,11],[11],[11],[9,10,11],[8,10,11,12],[8,9,11,12,13],[0,1,2,3,4,5,6,7,8,9,10],[9,10],[10],[]]
 |5=>[[4,5,6,12],[4,5,6,12],[4,5,6,12],[4,5,6,12],[0,1,2,3,6,12],[0,1,2,3,6,12],[0,1,2,3,4,5,12],[12],[12],[10,11,12],[9,11,12,13],[9,10,12,13,14],[0,1,2,3,4,5,6,7,8,9,10,11],[10,11],[11],[]]
 |_=>[]
@[simp] def Tn:aE:=⟨[1,2,3,4,5,6,7,8],false,[250,350,600],[],false⟩
@[simp] def OP:Nat->List Nat
 |0=>[0]
 |1=>[2]
 |_=>[]
@[simp] def To:aE:=⟨[1,2,3,4,5,6,7,8],false,[],[],false⟩
@[simp] def OQ:Nat->List Nat
 |0=>[0,1,2]
 |1=>[0,1,2,11,12,13]
 |2=>[0,1,2,11,12,13,14]
 |3=>[0,1,2,10,11,12,13]
 |4=>[0,1,2,11,12,13,25]
 |5=>[6,7,8]
 |6=>[0,1,2,11,12,13]
 |7=>[0,1,2,27]
 |8=>[6,7,8]
 |9=>[0,1,2,40]
 |10=>[6,7,8]
 |11=>[0,1,44]
 |12=>[6,7,8]
 |13=>[0,1,57]
 |14=>[6,7,8]
 |15=>[0,1,75]
 |16=>[6,7,8]
 |17=>[6,7,8]
 |_=>[]
@[simp] def abM:Nat->List (List Nat)
 |12=>[[1,2,3,4,5,6],[0,4,5,6],[0,4,5,6],[0,4,5,6],[0,1,2,3],[0,1,2,3],[0,1,2,3],[],[9,10],[8,10],[8,9],[],[],[]]
 |14=>[[1,2,3,4,5,6],[0,4,5,6],[0,4,5,6],[0,4,5,6],[0,1,2,3],[0,1,2,3],[0,1,2,3],[],[9,10],[8,10],[8,9],[],[],[]]
 |16=>[[1,2,3,4,5,6],[0,4,5,6],[0,4,5,6],[0,4,5,6],[0,1,2,3],[0,1,2,3],[0,1,2,3],[],[9,10],[8,10],[8,9],[],[],[]]
 |_=>[]
@[simp] def Tp:aE:=⟨[],false,[],[],false⟩
@[simp] def OR:Nat->List Nat
 |0=>[]
 |1=>[0]
 |_=>[]
@[simp] def abN:aE:=⟨[],false,[],[],false⟩
@[simp] def OS:Nat->List Nat
 |0=>[0,1]
 |1=>[0,1,7,8]
 |2=>[0,1,7,8,9]
 |3=>[0,1,5,7,8]
 |4=>[0,1,5,7,8,16]
 |5=>[4]
 |6=>[0,1,7,8]
 |7=>[4]
 |_=>[]
@[simp] def Tq:aE:=⟨[],false,[],[],false⟩
@[simp] def OT:Nat->List Nat
 |0=>[1,2]
 |1=>[3]
 |_=>[]
@[simp] def Ts:aE:=⟨[],false,[200],[],false⟩
@[simp] def OU:Nat->List Nat
 |0=>[0]
 |1=>[0,3]
 |2=>[0,3,4]
 |3=>[0,3,4,5]
 |4=>[0,3,4,5,6]
 |5=>[0,3,4,5,6,16]
 |6=>[0,3,4,5,6]
 |7=>[0,3,4,5,6,7]
 |8=>[0,3,4,5,6,7]
 |9=>[0,3,4,5,6,8]
 |10=>[0,3,5,6,8]
 |11=>[0,3,4,5,6]
 |12=>[0,3,37]
 |13=>[2]
 |14=>[0,9]
 |15=>[0,9,10]
 |16=>[0,9,10]
 |17=>[0,9,10,12]
 |18=>[0,9,10,12,53]
 |19=>[0,9,10,12]
 |20=>[0,9,10,11,12]
 |21=>[0,9,10,11,12,60]
 |22=>[0,9,10,11,12,66]
 |23=>[0,9,10,11,12]
 |24=>[0,9,10,12]
 |25=>[0,9,10,12]
 |26=>[0,9,10,12]
 |27=>[0,9,10,12,91]
 |28=>[0,9,10,12]
 |29=>[0,9,10,11,12]
 |30=>[0,9,10,11,98]
 |31=>[9]
 |32=>[2]
 |_=>[]
@[simp] def abO:Nat->Bool
 |18=>true
 |27=>true
 |_=>false
@[simp] def abP:aE:=⟨[],false,[2150],[],false⟩
@[simp] def OV:Nat->List Nat
 |0=>[0,1]
 |1=>[4,5]
 |_=>[]
@[simp] def abQ:aE:=⟨[],false,[],[],false⟩
@[simp] def OW:Nat->List Nat
 |0=>[0]
 |1=>[0,3]
 |2=>[2]
 |3=>[0,3,8]
 |4=>[2]
 |5=>[0,3,11]
 |6=>[0]
 |7=>[0,3,27]
 |8=>[0,3,4]
 |9=>[0,3,4,33]
 |10=>[0,4]
 |11=>[0]
 |12=>[0,3,39]
 |13=>[0,5]
 |14=>[0,5,46]
 |15=>[2]
 |16=>[0]
 |_=>[]
@[simp] def abR:Nat->Bool
 |5=>true
 |_=>false
@[simp] def Tt:aE:=⟨[],false,[],[],false⟩
@[simp] def OX:Nat->List Nat
 |0=>[0]
 |1=>[2]
 |_=>[]
@[simp] def abS:Nat->List (List Nat)
 |1=>[[4,5,6,7],[4,5,6,7],[4,5,6,7],[4,5,6,7],[0,1,2,3],[0,1,2,3],[0,1,2,3],[0,1,2,3],[],[]]
 |_=>[]
@[simp] def Tu:aE:=⟨[],false,[],[],false⟩
@[simp] def OY:Nat->List Nat
 |0=>[0,3,4]
 |1=>[0,3,4]
 |2=>[0,3,4,6]
 |3=>[0,3,4,6,13]
 |4=>[4,5]
 |5=>[0,3,4,6]
 |6=>[0,3,4,16]
 |7=>[0,3,4,6]
 |8=>[0,3,4,6]
 |9=>[0,3,4,6,26]
 |10=>[0,3,4,6]
 |11=>[0,3,4,6,29]
 |12=>[4,5]
 |13=>[0,3,4,31]
 |14=>[0,3,4,7,8,9]
 |15=>[0,3,4,7,8,9,42]
 |16=>[4,5]
 |17=>[0,3,4,6,8]
 |18=>[0,3,4,6]
 |19=>[3,4]
 |20=>[4,5]
 |_=>[]
@[simp] def Tv:aE:=⟨[],false,[250,300],[],false⟩
@[simp] def OZ:Nat->List Nat
 |0=>[0,4,5]
 |1=>[0,4,5,6]
 |2=>[0,4,5]
 |3=>[0,4,5,23]
 |4=>[0,4,5]
 |5=>[0,4,5]
 |6=>[0,4,5]
 |7=>[0,4,5]
 |_=>[]
@[simp] def abT:Nat->List (List Nat)
 |3=>[[4,5,6,7],[4,5,6,7],[4,5,6,7],[4,5,6,7],[0,1,2,3],[0,1,2,3],[0,1,2,3],[0,1,2,3],[],[]]
 |_=>[]
@[simp] def Tw:aE:=⟨[],false,[],[],false⟩
@[simp] def O0:Nat->List Nat
 |0=>[0,7]
 |1=>[]
 |_=>[]
@[simp] def abU:aE:=⟨[1],false,[],[],false⟩
@[simp] def O1:Nat->List Nat
 |0=>[0,1,4]
 |1=>[0,4,9]
 |2=>[0,4]
 |3=>[4]
 |_=>[]
@[simp] def abV:aE:=⟨[1],false,[300],[],false⟩
@[simp] def O2:Nat->List Nat
 |0=>[0,2]
 |1=>[0,2,3]
 |2=>[0,6]
 |3=>[0,2]
 |4=>[0,9]
 |5=>[0,2]
 |6=>[0,2,14]
 |7=>[0,2]
 |_=>[]
@[simp] def abW:aE:=⟨[],false,[],[],false⟩
@[simp] def O3:Nat->List Nat
 |0=>[0,1]
 |1=>[0,1,5]
 |2=>[0,1,5,10]
 |3=>[0,1,5]
 |4=>[4]
 |_=>[]
@[simp] def abX:aE:=⟨[1],false,[350],[],false⟩
@[simp] def O4:Nat->List Nat
 |0=>[1]
 |1=>[1,5]
 |2=>[2,3,4]
 |3=>[1,11]
 |4=>[2,3,4]
 |5=>[1,17]
 |6=>[2,3,4]
 |7=>[2,3,4]
 |_=>[]
@[simp] def abY:Nat->Bool
 |5=>true
 |_=>false
@[simp] def Ty:aE:=⟨[],false,[150],[],false⟩
@[simp] def O5:Nat->List Nat
 |0=>[0]
 |1=>[3]
 |2=>[2]
 |3=>[2]
 |_=>[]
@[simp] def Tz:aE:=⟨[],false,[],[],false⟩
@[simp] def O6:Nat->List Nat
 |0=>[0,1,2,6]
 |1=>[0,2,6,7]
 |2=>[6]
 |3=>[0,2,6,12]
 |4=>[6]
 |5=>[6]
 |_=>[]
@[simp] def TB:aE:=⟨[],false,[400],[],false⟩
@[simp] def O7:Nat->List Nat
 |0=>[0,1,4]
 |1=>[1,4,6]
 |2=>[1,4,6,7]
 |3=>[1,4,6,7,13]
 |4=>[1,4,6,7]
 |5=>[1,4,6,7,26]
 |6=>[4,5]
 |7=>[4,5]
 |_=>[]
@[simp] def abZ:Nat->Bool
 |5=>true
 |_=>false
@[simp] def TC:aE:=⟨[],false,[300],[],false⟩
@[simp] def O8:Nat->List Nat
 |0=>[0,3,4]
 |1=>[3,4,5,6]
 |2=>[3,4,6,19]
 |3=>[4]
 |4=>[4]
 |_=>[]
@[simp] def TD:aE:=⟨[],false,[250,300,400],[],false⟩
@[simp] def O9:Nat->List Nat
 |0=>[1,2,5]
 |1=>[1,2,5,7]
 |2=>[1,5,7,11,12,13]
 |3=>[1,5,7,11,12,13,14]
 |4=>[1,5,7,9,11,12,13]
 |5=>[1,5,7,9,11,12,13,20]
 |6=>[4,5,6]
 |7=>[1,5,7,11,12,13]
 |8=>[1,5,7,11,12,13]
 |9=>[4,5,6]
 |_=>[]
@[simp] def ab0:Nat->List (List Nat)
 |6=>[[1],[0,2],[1],[],[]]
 |_=>[]
@[simp] def TE:aE:=⟨[],false,[200,350,550],[],false⟩
@[simp] def Pa:Nat->List Nat
 |0=>[]
 |_=>[]
@[simp] def TF:aE:=⟨[1,2,3,4,5,6,7,8],false,[],[],false⟩
@[simp] def Pb:Nat->List Nat
 |0=>[0,1]
 |1=>[4]
 |_=>[]
@[simp] def TG:aE:=⟨[1,2,3,4,5,6,7,8],false,[],[],false⟩
@[simp] def Pc:Nat->List Nat
 |0=>[0,1,2,6]
 |1=>[0,1,6,8]
 |2=>[0,1,6]
 |3=>[]
 |_=>[]
@[simp] def TH:aE:=⟨[1,2,3,4,5,6,7,8],false,[],[],false⟩
@[simp] def Pd:Nat->List Nat
 |0=>[1,3,5,7]
 |1=>[5,7,9,10,11]
 |2=>[5,7,9,10,31]
 |3=>[6,7,8]
 |4=>[5,7,9,12]
 |5=>[7,9,12,13]
 |6=>[7,9,12,13,40]
 |7=>[6,7,8]
 |8=>[6,7,8]
 |_=>[]
@[simp] def ab1:Nat->List (List Nat)
 |8=>[[1,3,4,5,6],[0,3,4,5,6],[3,4,5,6],[0,1,2,4,7],[0,1,2,3,7],[0,1,2,7],[0,1,2,7],[3,4,5,6],[],[]]
 |_=>[]
@[simp] def TI:aE:=⟨[],false,[250,350,450,600],[],false⟩
@[simp] def Pe:Nat->List Nat
 |0=>[0,1]
 |1=>[0,1,5]
 |2=>[5]
 |3=>[4]
 |_=>[]
@[simp] def TJ:aE:=⟨[1,2,3,4,5,6,7,8],false,[],[],false⟩
@[simp] def Pf:Nat->List Nat
 |0=>[0,1,2,3]
 |1=>[1,3,5]
 |2=>[1,3,5,6]
 |3=>[1,3,5,6,19]
 |4=>[1,3,5,6]
 |5=>[1,3,5,6]
 |6=>[1,3,5,6]
 |_=>[]
@[simp] def ab2:Nat->List (List Nat)
 |5=>[[1,2,3,4,5,6,7,8,9,10,11],[0,2,3,4,5,6,7,8,9,10],[0,1,3,6,7,8,9,10],[0,1,2,6,7,8,9,10],[0,1,6,7,8,9,10],[0,1,6,7,8,9,10],[0,1,2,3,4,5,7,8],[0,1,2,3,4,5,6],[0,1,2,3,4,5,6],[0,1,2,3,4,5],[0,1,2,3,4,5],[0],[]]
 |_=>[]
@[simp] def TL:aE:=⟨[1,2,3,4,5,6,7,8],false,[],[],false⟩
@[simp] def Ph:Nat->List Nat
 |0=>[0,1]
 |1=>[0]
 |2=>[0,4]
 |3=>[0,4,5]
 |4=>[0,5]
 |5=>[]
 |_=>[]
@[simp] def ab3:Nat->List Gh
 |2=>[.eL 4 101,.eL 6 101]
 |4=>[.shut 4,.shut 6]
 |_=>[]
@[simp] def TM:aE:=⟨[1,2,3,4,5,6,7,8],false,[101,650],[],false⟩
@[simp] def Pj:Nat->List Nat
 |0=>[0,1,2,3,4]
 |1=>[0,1,2,3,4]
 |2=>[0,1,2,3,4]
 |3=>[0,1,2,3,4,5]
 |4=>[0,1,2,4,5]
 |5=>[0,1,2,4,5]
 |6=>[0,1,4,5]
 |7=>[0,1,4,5]
 |8=>[0,4,5]
 |9=>[0,5]
 |10=>[]
 |_=>[]
@[simp] def ab4:Nat->List (List Nat)
 |4=>[[1,2,3,4],[0],[0],[0],[0],[]]
 |_=>[]
@[simp] def TN:aE:=⟨[1,2,3,4,5,6,7,8],false,[],[],false⟩
@[simp] def Pk:Nat->List Nat
 |0=>[0,1,2]
 |1=>[0,1,2,8]
 |2=>[0,1,2]
 |3=>[0,1,2]
 |4=>[0,2]
 |5=>[]
 |6=>[0,1,2]
 |7=>[0,1,2]
 |8=>[0,1,2,3]
 |9=>[0,2,3]
 |10=>[0,3]
 |11=>[]
 |_=>[]
@[simp] def ab5:Nat->List (List Nat)
 |2=>[[1,2,3,4],[0],[0],[0],[0],[]]
 |9=>[[1,2,3,4],[0],[0],[0],[0],[]]
 |_=>[]
@[simp] def TO:aE:=⟨[1,2,3,4,5,6,7,8],false,[],[],false⟩
@[simp] def Pm:Nat->List Nat
 |0=>[0,1,2]
 |1=>[0,1,2,11]
 |2=>[9,10]
 |3=>[9,24]
 |4=>[6,7,8]
 |5=>[6,7,8]
 |6=>[1,26]
 |7=>[6,7,8]
 |8=>[6,7,8]
 |_=>[]
@[simp] def TP:aE:=⟨[],false,[],[],false⟩
@[simp] def Po:Nat->List Nat
 |0=>[0,1,2]
 |1=>[1,2,9]
 |2=>[1,2,9,10]
 |3=>[6,7,8]
 |4=>[1,2,9,16]
 |5=>[1,2,9,16]
 |6=>[6,7,8]
 |7=>[1,2,9,23]
 |8=>[6,7,8]
 |9=>[1,2,28]
 |10=>[6,7,8]
 |11=>[6,7,8]
 |_=>[]
@[simp] def TQ:aE:=⟨[],false,[],[],false⟩
@[simp] def Pp:Nat->List Nat
 |0=>[0,1,2]
 |1=>[0,1,2,9]
 |2=>[0,1,2,9,10]
 |3=>[0,1,2,9,10,11]
 |4=>[1,2,9,10,11,12]
 |5=>[1,2,9,10,11,12,13]
 |6=>[9,10,11]
 |7=>[1,2,9,10,11,12,21]
 |8=>[9,10,11]
 |9=>[1,2,9,10,11,12,29]
 |10=>[9,10,11]
 |11=>[1,2,9,10,11,12,37]
 |12=>[9,10,11]
 |13=>[1,2,9,10,11,45]
 |14=>[9,10,11]
 |15=>[9,10,11,53]
 |16=>[6,7,8]
 |17=>[9,56]
 |18=>[6,7,8]
 |19=>[6,7,8]
 |_=>[]
@[simp] def TR:aE:=⟨[],false,[],[],false⟩
@[simp] def Pq:Nat->List Nat
 |0=>[0,1,2]
 |1=>[0,1,2,9]
 |2=>[1,2,9,10]
 |3=>[1,2,9,10,11]
 |4=>[9]
 |5=>[1,2,9,10,16]
 |6=>[9]
 |7=>[1,2,9,10,21]
 |8=>[9]
 |9=>[1,2,9,10,26]
 |10=>[9]
 |11=>[1,2,9,10,31]
 |12=>[9]
 |13=>[1,2,9,36]
 |14=>[9]
 |15=>[6,7,8]
 |_=>[]
@[simp] def TS:aE:=⟨[],false,[],[],false⟩
@[simp] def Pr:Nat->List Nat
 |0=>[0,1]
 |1=>[0,1,5]
 |2=>[0,1,5,6]
 |3=>[0,1,5,6,14]
 |4=>[0,1,5,6,14,15,16]
 |5=>[0,1,5,6,7,8,14]
 |6=>[0,1,5,6,7,14,21]
 |7=>[0,1,5,6,7,14,23]
 |8=>[0,1,5,6,14]
 |9=>[0,1,5,6,14]
 |10=>[0,1,5,6,7,14,33]
 |11=>[0,1,5,6,14]
 |12=>[0,5,6,36]
 |13=>[0,5]
 |14=>[0,5,9]
 |15=>[0,9,47,48,49]
 |16=>[0,9,47,48,49,50]
 |17=>[0,9,10,11,47,48,49]
 |18=>[0,9,47,48,49]
 |19=>[0,9,47,48,49]
 |20=>[4]
 |_=>[]
@[simp] def ab6:aE:=⟨[],false,[650,700,2400],[],false⟩
@[simp] def Ps:Nat->List Nat
 |0=>[0]
 |1=>[0,5]
 |2=>[6]
 |3=>[6,7]
 |4=>[6,7]
 |5=>[6,7]
 |6=>[6,7]
 |7=>[6,7]
 |8=>[6,7]
 |9=>[6,7]
 |10=>[7]
 |11=>[2]
 |12=>[2]
 |13=>[2]
 |_=>[]
@[simp] def ab7:aE:=⟨[],false,[],[],false⟩
@[simp] def Pt:Nat->List Nat
 |0=>[0,1]
 |1=>[0,1,9]
 |2=>[4,5]
 |3=>[4,5]
 |_=>[]
@[simp] def ab8:aE:=⟨[],false,[],[],false⟩
@[simp] def Pu:Nat->List Nat
 |0=>[0,1]
 |1=>[4]
 |_=>[]
@[simp] def ab9:aE:=⟨[],false,[],[],false⟩
@[simp] def Pv:Nat->List Nat
 |0=>[0,1]
 |1=>[4]
 |_=>[]
@[simp] def TU:aE:=⟨[],false,[],[],false⟩
@[simp] def Pw:Nat->List Nat
 |0=>[0,1]
 |1=>[4]
 |_=>[]
@[simp] def aca:aE:=⟨[],false,[],[],false⟩
@[simp] def Px:Nat->List Nat
 |0=>[0]
 |1=>[2]
 |_=>[]
@[simp] def acb:Nat->Bool
 |1=>true
 |_=>false
@[simp] def TV:aE:=⟨[],false,[],[],false⟩
@[simp] def Py:Nat->List Nat
 |0=>[0,1]
 |1=>[0,1,5]
 |2=>[0,1,5,16]
 |3=>[0,1,5]
 |4=>[4]
 |_=>[]
@[simp] def acd:Nat->Bool
 |2=>true
 |_=>false
@[simp] def TW:aE:=⟨[],false,[],[],false⟩
@[simp] def Pz:Nat->List Nat
 |0=>[0]
 |1=>[2]
 |_=>[]
@[simp] def ace:Nat->Bool
 |1=>true
 |_=>false
@[simp] def TX:aE:=⟨[],false,[],[],false⟩
@[simp] def PA:Nat->List Nat
 |0=>[0]
 |1=>[2]
 |_=>[]
@[simp] def TY:aE:=⟨[],false,[],[],false⟩
@[simp] def PB:Nat->List Nat
 |0=>[0]
 |1=>[2]
 |_=>[]
@[simp] def TZ:aE:=⟨[],false,[],[],false⟩
@[simp] def PC:Nat->List Nat
 |0=>[0]
 |1=>[0,5,6]
 |2=>[0,5,6,16,17,18]
 |3=>[0,5,6,16,17,18,19]
 |4=>[0,5,6,8,16,17,18]
 |5=>[0,5,6,8,16,17,18,25]
 |6=>[0,5,6,16,17,18]
 |7=>[0,5,6,16,17,18]
 |8=>[0,5,6,9]
 |9=>[0,5,6,9,59]
 |10=>[2,3,4]
 |11=>[0,5,6,9,10]
 |12=>[0,5,9,10,11]
 |13=>[0,5,9,10,11,63]
 |14=>[0,5,9,10,11]
 |15=>[0,5,9,10,11,12]
 |16=>[0,5,9,10,11,12,75]
 |17=>[2,3,4]
 |18=>[0,5,9,10,11]
 |19=>[2,3,4]
 |_=>[]
@[simp] def acf:Nat->Bool
 |9=>true
 |_=>false
@[simp] def acg:Nat->List (List Nat)
 |6=>[[2,3,4],[2,3,4],[0,1,5],[0,1,5],[0,1,5],[2,3,4],[]]
 |_=>[]
@[simp] def T0:aE:=⟨[],false,[350,500],[],false⟩
@[simp] def PD:Nat->List Nat
 |0=>[0]
 |1=>[0,5,6,7]
 |2=>[0,5,6,7,8]
 |3=>[0,4,5,6,7]
 |4=>[0,5,6,7,13]
 |5=>[2]
 |6=>[0,5,6,7]
 |7=>[18]
 |8=>[2]
 |9=>[2]
 |_=>[]
@[simp] def T1:aE:=⟨[],false,[],[],false⟩
@[simp] def PE:Nat->List Nat
 |0=>[0,1]
 |1=>[0,8]
 |2=>[4]
 |3=>[]
 |4=>[4]
 |_=>[]
@[simp] def ach:aE:=⟨[1],false,[],[],false⟩
@[simp] def PF:Nat->List Nat
 |0=>[0,3]
 |1=>[]
 |_=>[]
@[simp] def aci:aE:=⟨[],false,[250],[],false⟩
@[simp] def PG:Nat->List Nat
 |0=>[0,2]
 |1=>[2]
 |_=>[]
@[simp] def acj:Nat->List (List Nat)
 |1=>[[4,5,6,7],[4,5,6,7],[4,5,6,7],[4,5,6,7],[0,1,2,3],[0,1,2,3],[0,1,2,3],[0,1,2,3],[],[],[]]
 |_=>[]
@[simp] def ack:aE:=⟨[1],false,[200],[],false⟩
@[simp] def PH:Nat->List Nat
 |0=>[0,2]
 |1=>[0,2,3]
 |2=>[0,2,3,8]
 |3=>[2,3]
 |4=>[2]
 |_=>[]
@[simp] def acm:aE:=⟨[1],false,[200,250],[],false⟩
@[simp] def PI:Nat->List Nat
 |0=>[0,1,4]
 |1=>[0,1,4,5]
 |2=>[0,1,4,5]
 |3=>[0,1,4,5,26]
 |4=>[0,1,4]
 |5=>[0,1,4,31]
 |6=>[0,1,4]
 |7=>[0,1,4,6]
 |8=>[0,1,4,6,7]
 |9=>[0,1,4,6,7,37]
 |10=>[0,1,4,6,8,9]
 |11=>[0,1,4,6,8,56]
 |12=>[0,1,4,6,8]
 |13=>[0,1,4,6,7]
 |14=>[0,1,4,6,7]
 |15=>[0,1,6,7,63,64,65]
 |16=>[0,1,6,7,63,64,65,66]
 |17=>[0,1,6,7,11,63,64,65]
 |18=>[0,1,6,7,63,64,65]
 |19=>[0,1,6,7,63,64,65]
 |_=>[]
@[simp] def acn:Nat->List (List Nat)
 |18=>[[1,2,3,4,5,6,7,8,9,10,11,12,13,14,15,16,17,18,19,20,21],[0,5,6,7,8,9,10,11,12,13,14,15,16,17,18,19,20],[0,5,6,7,8,9,10,11,12,13,14,15,16,17,18,19,20],[0,5,6,7,8,9,10,11,12,13,14,15,16,17,18,19,20],[0,5,6,7,8,9,10,11,12,13,14,15,16,17,18,19,20],[0,1,2,3,4,7,8,9,10,11,12,13,14,15,16,17,18],[0,1,2,3,4,7,8,9,10,11,12,13,14,15,16,17,18],[0,1,2,3,4,5,6,9,10,11,12,13,14,15,16,17,18],[0,1,2,3,4,5,6,9,10,11,12,13,14,15,16,17,18],[0,1,2,3,4,5,6,7,8,10,11,12,13,14,15,16,17,18],[0,1,2,3,4,5,6,7,8,9,12,13,14,15,16,17,18],[0,1,2,3,4,5,6,7,8,9,12,13,14,15,16,17,18],[0,1,2,3,4,5,6,7,8,9,10,11,14,15,16,17,18],[0,1,2,3,4,5,6,7,8,9,10,11,14,15,16,17,18],[0,1,2,3,4,5,6,7,8,9,10,11,12,13,16,17,18],[0,1,2,3,4,5,6,7,8,9,10,11,12,13,16,17,18],[0,1,2,3,4,5,6,7,8,9,10,11,12,13,14,15,17,18],[0,1,2,3,4,5,6,7,8,9,10,11,12,13,14,15,16],[0,1,2,3,4,5,6,7,8,9,10,11,12,13,14,15,16],[0,1,2,3,4],[0,1,2,3,4],[0],[],[],[]]
 |_=>[]
@[simp] def aco:aE:=⟨[],false,[300,350,400,650],[],false⟩
@[simp] def PJ:Nat->List Nat
 |0=>[0,1]
 |1=>[4]
 |_=>[]
@[simp] def acp:aE:=⟨[1],false,[],[],false⟩
@[simp] def PK:Nat->List Nat
 |0=>[0,1]
 |1=>[1,5]
 |2=>[4]
 |_=>[]
@[simp] def acq:aE:=⟨[1],false,[350],[],false⟩
@[simp] def PL:Nat->List Nat
 |0=>[0,2]
 |1=>[0,2,3]
 |2=>[0,2,3]
 |3=>[0,2,3,4]
 |4=>[0,2,3,4]
 |5=>[2,3,4]
 |6=>[2,4]
 |7=>[2]
 |_=>[]
@[simp] def acr:aE:=⟨[1],false,[200,250,300],[],false⟩
@[simp] def PN:Nat->List Nat
 |0=>[0,1]
 |1=>[0,1,7,8]
 |2=>[0,1,7,8,9]
 |3=>[0,1,5,7,8]
 |4=>[0,1,5,7,8,16]
 |5=>[4]
 |6=>[0,1,7,8]
 |7=>[4]
 |_=>[]
@[simp] def T4:aE:=⟨[],false,[],[],false⟩
@[simp] def PO:Nat->List Nat
 |0=>[1,2]
 |1=>[3]
 |_=>[]
@[simp] def T6:aE:=⟨[],false,[200],[],false⟩
@[simp] def PQ:Nat->List Nat
 |0=>[0,1]
 |1=>[0,1,6]
 |2=>[6,21]
 |3=>[4,5]
 |4=>[4,5]
 |_=>[]
@[simp] def T7:aE:=⟨[],false,[],[],false⟩
@[simp] def PT:Nat->List Nat
 |0=>[0,1]
 |1=>[0,1,6]
 |2=>[6,21]
 |3=>[4,5]
 |4=>[4,5]
 |_=>[]
@[simp] def T8:aE:=⟨[],false,[],[],false⟩
@[simp] def PU:Nat->List Nat
 |0=>[0,1]
 |1=>[0,1,6,7]
 |2=>[0,1,7,17]
 |3=>[4,5]
 |4=>[4,5]
 |_=>[]
@[simp] def T9:aE:=⟨[],false,[],[],false⟩
@[simp] def PV:Nat->List Nat
 |0=>[0,1]
 |1=>[0,1,6]
 |2=>[4,5]
 |3=>[0,1,9]
 |4=>[4,5]
 |5=>[4,5]
 |_=>[]
@[simp] def Ua:aE:=⟨[],false,[],[],false⟩
@[simp] def PW:Nat->List Nat
 |0=>[0,1]
 |1=>[0,1,6]
 |2=>[0,1,6,7]
 |3=>[4,5]
 |4=>[0,1,9]
 |5=>[4,5]
 |6=>[4,5]
 |_=>[]
@[simp] def Ub:aE:=⟨[],false,[],[],false⟩
@[simp] def PX:Nat->List Nat
 |0=>[0,1]
 |1=>[0,1,5]
 |2=>[0,1,5,6]
 |3=>[0,1,5,6,32]
 |4=>[4]
 |5=>[1,7]
 |6=>[1,7,54]
 |7=>[4]
 |8=>[4]
 |_=>[]
@[simp] def acs:Nat->Bool
 |3=>true
 |6=>true
 |_=>false
@[simp] def acu:aE:=⟨[],false,[],[],false⟩
@[simp] def PY:Nat->List Nat
 |0=>[0,1]
 |1=>[4]
 |_=>[]
@[simp] def acv:Nat->Bool
 |1=>true
 |_=>false
@[simp] def acw:aE:=⟨[],false,[],[],false⟩
@[simp] def PZ:Nat->List Nat
 |0=>[0,1]
 |1=>[4]
 |_=>[]
@[simp] def acx:Nat->Bool
 |1=>true
 |_=>false
@[simp] def acy:aE:=⟨[],false,[],[],false⟩
@[simp] def P0:Nat->List Nat
 |0=>[0,1]
 |1=>[4]
 |_=>[]
@[simp] def acz:aE:=⟨[],false,[],[],false⟩
@[simp] def P1:Nat->List Nat
 |0=>[0,1]
 |1=>[0,1,5]
 |2=>[0,1,5,16]
 |3=>[4]
 |4=>[0,1,5,24]
 |5=>[4]
 |6=>[0,1,5,31]
 |7=>[4]
 |8=>[0,1,5,36]
 |9=>[4]
 |10=>[0,1,5,6]
 |11=>[0,1,5,6,7]
 |12=>[0,1,5,6,7,8]
 |13=>[0,1,5,6,7,8,9]
 |14=>[0,1,5,6,7,8,9,10]
 |15=>[0,1,5,6,7,8,9,10,59]
 |16=>[0,1,5,6,7,8,9,10,64]
 |17=>[0,1,5,6,7,8,9,10,11]
 |18=>[0,1,5,6,7,8,9,10,11,73]
 |19=>[4]
 |20=>[0,1,5,6,7,8,9,10]
 |21=>[0,1,5,6,7,8,9,10,93]
 |22=>[4]
 |23=>[0,1,5,6,7,8,9,10]
 |24=>[0,1,5,6,7,8,9,10]
 |25=>[0,1,5,6,7,8,9,10,107]
 |26=>[8,12]
 |27=>[8,12,114]
 |28=>[4]
 |29=>[4]
 |30=>[0,1,5,6,7,8,9,10,132]
 |31=>[8,13]
 |32=>[8,13,139]
 |33=>[4]
 |34=>[4]
 |35=>[4]
 |_=>[]
@[simp] def acA:Nat->Bool
 |21=>true
 |25=>true
 |_=>false
@[simp] def acB:aE:=⟨[],false,[],[],false⟩
@[simp] def P2:Nat->List Nat
 |0=>[0,1]
 |1=>[4]
 |_=>[]
@[simp] def Uc:aE:=⟨[],false,[],[],false⟩
@[simp] def P3:Nat->List Nat
 |0=>[0,1]
 |1=>[3]
 |_=>[]
@[simp] def acC:Nat->List (List Nat)
 |1=>[[2],[2],[0,1],[],[]]
 |_=>[]
@[simp] def Ud:aE:=⟨[],false,[],[],false⟩
@[simp] def P4:Nat->List Nat
 |0=>[0]
 |1=>[0,3]
 |2=>[2]
 |3=>[0,9]
 |4=>[2]
 |5=>[2]
 |_=>[]
@[simp] def Ue:aE:=⟨[],false,[],[],false⟩
@[simp] def P5:Nat->List Nat
 |0=>[0,2]
 |1=>[0,2,3]
 |2=>[0,2,3,4,5]
 |3=>[0,2,3,4,15]
 |4=>[2,3]
 |5=>[2]
 |6=>[0,2,3,20]
 |7=>[2]
 |8=>[2,3,6]
 |9=>[2,3,6]
 |10=>[2,3,6,32]
 |11=>[2,3]
 |12=>[2]
 |_=>[]
@[simp] def acD:aE:=⟨[1],false,[200,250,400],[],false⟩
@[simp] def P6:Nat->List Nat
 |0=>[0]
 |1=>[0,4]
 |2=>[2,3]
 |3=>[0,7]
 |4=>[2,3]
 |5=>[2,3]
 |_=>[]
@[simp] def acE:aE:=⟨[1],false,[],[],false⟩
@[simp] def P7:Nat->List Nat
 |0=>[0,1]
 |1=>[0,1,7,8]
 |2=>[0,1,7,8,9]
 |3=>[0,1,5,7,8]
 |4=>[0,1,5,7,8,16]
 |5=>[4]
 |6=>[0,1,7,8]
 |7=>[4]
 |_=>[]
@[simp] def acF:aE:=⟨[1],false,[],[],false⟩
@[simp] def P8:Nat->List Nat
 |0=>[0]
 |1=>[0,13]
 |2=>[]
 |_=>[]
@[simp] def acG:aE:=⟨[1],false,[],[],false⟩
@[simp] def P9:Nat->List Nat
 |0=>[0,2]
 |1=>[0,2,7]
 |2=>[2]
 |3=>[0,2,12]
 |4=>[2]
 |5=>[0,2,17]
 |6=>[2]
 |7=>[0,2,22]
 |8=>[0,2,3]
 |9=>[0,2,3]
 |10=>[0,2,3]
 |11=>[2,3]
 |12=>[2]
 |13=>[0,2,38]
 |14=>[0,2,4]
 |15=>[0,2,4]
 |16=>[0,2,4]
 |17=>[2,4]
 |18=>[2]
 |19=>[0,2,54]
 |20=>[2]
 |21=>[0,2,58]
 |22=>[2]
 |23=>[0,2,5]
 |24=>[0,2,5,65]
 |25=>[2]
 |26=>[0,2,5,6]
 |27=>[0,2,5,6,76]
 |28=>[0,2,6]
 |29=>[0,2,6]
 |30=>[2]
 |_=>[]
@[simp] def acH:Nat->List (List Nat)
 |28=>[[2,3,4,5,6],[2,3,4,5,6],[0,1,5,6],[0,1,5,6],[0,1,5,6],[0,1,2,3,4],[0,1,2,3,4],[],[]]
 |30=>[[1,2],[0],[0],[],[]]
 |_=>[]
@[simp] def acI:aE:=⟨[1],false,[200,250,300,350,400],[],false⟩
@[simp] def Qa:Nat->List Nat
 |0=>[]
 |_=>[]
@[simp] def acJ:aE:=⟨[1],false,[],[],false⟩
@[simp] def Qb:Nat->List Nat
 |0=>[0,1]
 |1=>[0,1,6]
 |2=>[0,1,6,7]
 |3=>[0,1,6,7,8]
 |4=>[0,1,6,7,8,9]
 |5=>[0,1,6,7,8,9,10]
 |6=>[0,1,6,7,9,11]
 |7=>[0,1,6,7,9,11,12]
 |8=>[0,1,6,7,9,12,13]
 |9=>[0,1,7,9,12,13]
 |10=>[0,1,4]
 |11=>[4,5]
 |_=>[]
@[simp] def Uf:aE:=⟨[],false,[],[],false⟩
@[simp] def Qc:Nat->List Nat
 |0=>[0]
 |1=>[0,4]
 |2=>[2]
 |3=>[2]
 |_=>[]
@[simp] def Ug:aE:=⟨[],false,[],[],false⟩
@[simp] def Qd:Nat->List Nat
 |0=>[0,1]
 |1=>[0,1,6]
 |2=>[4,5]
 |3=>[0,15]
 |4=>[4,5]
 |5=>[4,5]
 |_=>[]
@[simp] def Uh:aE:=⟨[],false,[],[],false⟩
@[simp] def Qe:Nat->List Nat
 |0=>[0,1]
 |1=>[0,1,17]
 |2=>[0,1,19,20]
 |3=>[0,1,19,20,21]
 |4=>[0,1,5,19,20]
 |5=>[0,1,6,19,20]
 |6=>[0,1,6,19,20,31]
 |7=>[4]
 |8=>[0,1,6,19,20,37]
 |9=>[4]
 |10=>[0,1,19,20]
 |11=>[4]
 |12=>[0,1,7]
 |13=>[0,1,7,8]
 |14=>[0,1,7,8,62]
 |15=>[0,1,7,8,9]
 |16=>[0,1,7,8,9,10]
 |17=>[0,1,7,8,9,10,85]
 |18=>[4]
 |19=>[0,1,7,8,9,110]
 |20=>[0,1,7,8]
 |21=>[0,1,7,8]
 |22=>[4]
 |_=>[]
@[simp] def acK:Nat->List (List Nat)
 |9=>[[],[],[],[],[],[],[7,8,9,10,12,13,14,15],[6,12,13,14,15],[6,12,13,14,15],[6,12,13,14,15],[6,12,13,14,15],[12,13,14,15],[6,7,8,9,10,11],[6,7,8,9,10,11],[6,7,8,9,10,11],[6,7,8,9,10,11],[],[],[],[]]
 |18=>[[],[],[],[],[],[],[7,8,9,10,12,13,14,15],[6,12,13,14,15],[6,12,13,14,15],[6,12,13,14,15],[6,12,13,14,15],[12,13,14,15],[6,7,8,9,10,11],[6,7,8,9,10,11],[6,7,8,9,10,11],[6,7,8,9,10,11],[],[],[],[]]
 |_=>[]
@[simp] def acL:aE:=⟨[],false,[],[],false⟩
@[simp] def Qf:Nat->List Nat
 |0=>[0,1]
 |1=>[0,1,13]
 |2=>[0,1,15,16]
 |3=>[0,1,15,16,17]
 |4=>[0,1,5,15,16]
 |5=>[0,1,6,15,16]
 |6=>[0,1,6,15,16,27]
 |7=>[4]
 |8=>[0,1,6,15,16,33]
 |9=>[4]
 |10=>[0,1,15,16]
 |11=>[4]
 |12=>[0,1,7]
 |13=>[0,1,7,8]
 |14=>[0,1,7,8,58]
 |15=>[0,1,7,8,9]
 |16=>[0,1,7,8,9,10]
 |17=>[0,1,7,8,9,10,78]
 |18=>[4]
 |19=>[0,1,7,8,9,95]
 |20=>[0,1,7,8]
 |21=>[0,1,7,8]
 |22=>[4]
 |_=>[]
@[simp] def acM:Nat->List (List Nat)
 |9=>[[],[],[],[],[],[],[7,8,9,10,12,13,14,15],[6,12,13,14,15],[6,12,13,14,15],[6,12,13,14,15],[6,12,13,14,15],[12,13,14,15],[6,7,8,9,10,11],[6,7,8,9,10,11],[6,7,8,9,10,11],[6,7,8,9,10,11],[],[],[],[]]
 |_=>[]
@[simp] def acN:aE:=⟨[],false,[600],[],false⟩
@[simp] def Qg:Nat->List Nat
 |0=>[0]
 |1=>[2]
 |_=>[]
@[simp] def acO:aE:=⟨[],false,[],[],false⟩
@[simp] def Qh:Nat->List Nat
 |0=>[0,1]
 |1=>[0,1,5,6]
 |2=>[0,1,5,6,7]
 |3=>[0,1,5,6,7,8]
 |4=>[0,1,5,6,7,8,9]
 |5=>[0,1,5,6,7,8,9,20]
 |6=>[0,1,5,6,7,8,9]
 |7=>[0,1,5,6,7,8,9]
 |8=>[0,1,5,6,7,8,39]
 |9=>[4]
 |10=>[0,1,5,6,7,8,10]
 |11=>[0,1,5,6,7,8,10,44]
 |12=>[0,1,5,6,7,8,10]
 |13=>[0,1,5,6,7,8,10]
 |14=>[0,1,5,6,7,8,10]
 |15=>[0,1,5,6,7,8,10]
 |16=>[0,1,5,6,7,8,10,77]
 |17=>[4]
 |18=>[4]
 |_=>[]
@[simp] def acP:Nat->Bool
 |8=>true
 |16=>true
 |_=>false
@[simp] def acQ:aE:=⟨[],false,[],[],false⟩
@[simp] def Qi:Nat->List Nat
 |0=>[0,1]
 |1=>[0,1,7,8]
 |2=>[0,1,7,8,9]
 |3=>[0,1,5,7,8]
 |4=>[0,1,5,7,8,16]
 |5=>[4]
 |6=>[0,1,7,8]
 |7=>[4]
 |_=>[]
@[simp] def Ui:aE:=⟨[],false,[],[],false⟩
@[simp] def Qj:Nat->List Nat
 |0=>[0]
 |1=>[0,4]
 |2=>[2,3]
 |3=>[7]
 |4=>[2,3]
 |5=>[2,3]
 |_=>[]
@[simp] def acR:aE:=⟨[1],false,[],[],false⟩
@[simp] def Qk:Nat->List Nat
 |0=>[0,3,4]
 |1=>[0,3,4]
 |2=>[0,3,4]
 |3=>[0,3,4]
 |4=>[0,3,4,5]
 |5=>[0,3,4,5,27]
 |6=>[0,3,4,5]
 |7=>[0,3,4]
 |8=>[0,3,4]
 |9=>[0,3,4]
 |10=>[0,3,4,6,7]
 |11=>[0,3,4,6,44]
 |12=>[3,4,6]
 |13=>[3,4]
 |14=>[4]
 |_=>[]
@[simp] def acS:Nat->List (List Nat)
 |7=>[[2,3],[2,3],[0,1],[0,1],[],[]]
 |_=>[]
@[simp] def acT:aE:=⟨[1],false,[250,300,350],[],false⟩
@[simp] def Ql:Nat->List Nat
 |0=>[1]
 |1=>[1,3]
 |2=>[3,4]
 |3=>[3,4,10]
 |4=>[2]
 |5=>[2]
 |_=>[]
@[simp] def acU:aE:=⟨[],false,[150],[],false⟩
@[simp] def Qm:Nat->List Nat
 |0=>[0]
 |1=>[0,4]
 |2=>[2]
 |3=>[2]
 |_=>[]
@[simp] def acV:aE:=⟨[1],false,[],[],false⟩
@[simp] def Qn:Nat->List Nat
 |0=>[0,2]
 |1=>[0,2,3]
 |2=>[0,2,3]
 |3=>[0,2,3]
 |4=>[0,2,3]
 |5=>[0,2,3,24]
 |6=>[0,2,3,26]
 |7=>[0,2,3]
 |8=>[2,3]
 |9=>[2]
 |_=>[]
@[simp] def acW:Nat->List (List Nat)
 |2=>[[2,3,4],[2,3,4],[0,1],[0,1],[0,1],[],[],[]]
 |4=>[[2,3,4,5],[2,3,4,5],[0,1,3],[0,1,2],[0,1],[0,1],[],[],[]]
 |7=>[[2,3,4,5],[2,3,4,5],[0,1,3],[0,1,2],[0,1],[0,1],[],[],[]]
 |_=>[]
@[simp] def acX:Nat->List Gh
 |1=>[.jZ 250 14 251 6,.jZ 250 17 252 1]
 |_=>[]
@[simp] def acY:aE:=⟨[1],false,[200,250,251,252],[],false⟩
@[simp] def Qo:Nat->List Nat
 |0=>[0,2]
 |1=>[0,2,3]
 |2=>[0,2,3]
 |3=>[0,2,3,11]
 |4=>[0,2,3]
 |5=>[0,2,3,4]
 |6=>[0,2,3,4,31]
 |7=>[0,2,3,4]
 |8=>[0,2,3]
 |9=>[0,2,3,44]
 |10=>[0,2,3]
 |11=>[2,3]
 |12=>[2]
 |_=>[]
@[simp] def acZ:Nat->Bool
 |6=>true
 |_=>false
@[simp] def ac0:Nat->List (List Nat)
 |4=>[[2,3,4],[2,3,4],[0,1],[0,1],[0,1],[],[],[]]
 |10=>[[2,3,4,5],[2,3,4,5],[0,1,3],[0,1,2],[0,1],[0,1],[],[],[]]
 |_=>[]
@[simp] def ac1:Nat->List Gh
 |1=>[.jZ 250 15 251 1,.jZ 250 17 252 1]
 |1000002=>[.freeze 300]
 |_=>[]
@[simp] def ac2:aE:=⟨[1],false,[200,250,251,252,300],[],false⟩
@[simp] def Qp:Nat->List Nat
 |0=>[0,2]
 |1=>[0,2,3]
 |2=>[0,2,3]
 |3=>[0,2,3,4]
 |4=>[0,2,3,4]
 |5=>[0,2,3]
 |6=>[0,2,3,5]
 |7=>[0,2,3,5,26]
 |8=>[0,2,3,5]
 |9=>[0,2,3]
 |10=>[0,2,3]
 |11=>[0,2,3]
 |12=>[2,3]
 |13=>[2]
 |_=>[]
@[simp] def ac3:Nat->List (List Nat)
 |5=>[[1,2],[0],[0],[],[],[]]
 |_=>[]
@[simp] def ac4:aE:=⟨[1],false,[200,250,300,350,1050],[],false⟩
@[simp] def Qq:Nat->List Nat
 |0=>[0,2]
 |1=>[2]
 |_=>[]
@[simp] def ac5:aE:=⟨[1],false,[200],[],false⟩
@[simp] def Qr:Nat->List Nat
 |0=>[0,1,4]
 |1=>[0,4,5]
 |2=>[0,4,5,9]
 |3=>[4]
 |4=>[0,4,5]
 |5=>[0,4,5]
 |6=>[0,4,5]
 |7=>[0,4,5,30]
 |8=>[4,5]
 |9=>[4]
 |_=>[]
@[simp] def ac6:Nat->List (List Nat)
 |4=>[[2,3,4,5],[2,3,4,5],[0,1],[0,1],[0,1],[0,1],[],[],[]]
 |6=>[[2,3,4],[2,3,4],[0,1],[0,1],[0,1],[],[],[]]
 |_=>[]
@[simp] def ac7:Nat->List Gh
 |1=>[.jZ 350 14 351 6,.jZ 350 16 352 1]
 |_=>[]
@[simp] def ac8:aE:=⟨[1],false,[300,350,351,352],[],false⟩
@[simp] def Qs:Nat->List Nat
 |0=>[0,2]
 |1=>[0,2]
 |2=>[0,2]
 |3=>[0,2,3]
 |4=>[0,2,3]
 |5=>[2,3]
 |6=>[2]
 |_=>[]
@[simp] def ac9:aE:=⟨[1],false,[200,250],[],false⟩
@[simp] def Qt:Nat->List Nat
 |0=>[0]
 |1=>[0,4]
 |2=>[0,4,5]
 |3=>[0,4,5,12]
 |4=>[0,4,5]
 |5=>[0,4,5]
 |6=>[0,4,6,7]
 |7=>[4,6,7,8]
 |8=>[4,6,7,8,25]
 |9=>[4,6,7,8]
 |10=>[4,6,7,8,30]
 |11=>[4,6,7,8]
 |12=>[4,6,7,8]
 |13=>[2,3]
 |_=>[]
@[simp] def ada:aE:=⟨[],false,[],[],false⟩
@[simp] def Qu:Nat->List Nat
 |0=>[1,2]
 |1=>[3]
 |_=>[]
@[simp] def adb:aE:=⟨[],false,[200],[],false⟩
@[simp] def Qv:Nat->List Nat
 |0=>[0]
 |1=>[2]
 |_=>[]
@[simp] def ade:Nat->Bool
 |1=>true
 |_=>false
@[simp] def adf:aE:=⟨[1],false,[],[],false⟩
@[simp] def Qw:Nat->List Nat
 |0=>[0]
 |1=>[0,3]
 |2=>[0,3,4]
 |3=>[0,3,4,5]
 |4=>[0,3,4,5,10]
 |5=>[0,3,4,5]
 |6=>[0,3]
 |7=>[0,3,20]
 |8=>[3]
 |9=>[2]
 |_=>[]
@[simp] def adg:aE:=⟨[1],false,[250],[],false⟩
@[simp] def Qx:Nat->List Nat
 |0=>[0,1,4]
 |1=>[0,1,4,5]
 |2=>[0,1,4,5,12]
 |3=>[4]
 |4=>[0,1,4,5,6]
 |5=>[0,1,4,5,6,25]
 |6=>[0,1,4,5,6,7]
 |7=>[0,1,4,5,6]
 |8=>[0,1,4,5,6,41]
 |9=>[4]
 |_=>[]
@[simp] def adh:Nat->List (List Nat)
 |7=>[[3,4,5,6,9,10],[3,4,5,6,9,10],[3,4,5,6,9,10],[0,1,2,4,5,6,7,9,10],[0,1,2,3,5,6,9,10],[0,1,2,3,4,9,10],[0,1,2,3,4,9,10],[3,9,10],[9,10],[0,1,2,3,4,5,6,7,8],[0,1,2,3,4,5,6,7,8],[],[]]
 |_=>[]
@[simp] def adi:aE:=⟨[1],false,[300,400,450],[],false⟩
@[simp] def Qy:Nat->List Nat
 |0=>[]
 |1=>[0]
 |_=>[]
@[simp] def adj:aE:=⟨[],false,[],[],false⟩
@[simp] def Qz:Nat->List Nat
 |0=>[0,2]
 |1=>[0,2,3]
 |2=>[0,2,3]
 |3=>[2]
 |4=>[0,2,3,10]
 |5=>[0,2,3,4]
 |6=>[0,2,3,13]
 |7=>[0,2,3,4]
 |8=>[0,2,3,4]
 |9=>[0,2,3,4]
 |10=>[0,2,5]
 |11=>[2,5]
 |12=>[2]
 |_=>[]
@[simp] def adk:Nat->List (List Nat)
 |10=>[[1,2,3,4,5,7],[0,4,5,7],[0,4,5,7],[0,4,5,7],[0,1,2,3,7],[0,1,2,3,7],[7],[0,1,2,3,4,5,6],[]]
 |_=>[]
@[simp] def adl:aE:=⟨[1],false,[200,250,350],[],false⟩
@[simp] def QA:Nat->List Nat
 |0=>[0]
 |1=>[0,3]
 |2=>[2]
 |_=>[]
@[simp] def adm:aE:=⟨[],false,[],[],false⟩
@[simp] def QB:Nat->List Nat
 |0=>[0,2]
 |1=>[0,2,3]
 |2=>[0,2,3,7]
 |3=>[2]
 |4=>[0,2,3,17]
 |5=>[2]
 |6=>[0,2,3,23]
 |7=>[2]
 |8=>[0,2,3,29]
 |9=>[0,2]
 |10=>[0,2]
 |11=>[0,2,4]
 |12=>[0,2,4]
 |13=>[2,4]
 |14=>[2]
 |15=>[0,2,3]
 |16=>[0,2,3,45]
 |17=>[2]
 |18=>[0,2,3,56]
 |19=>[2]
 |20=>[2]
 |_=>[]
@[simp] def adn:Nat->List (List Nat)
 |3=>[[3,4],[3,4],[3,4],[0,1,2],[0,1,2],[],[]]
 |17=>[[2,3,4,5,6],[2,3,4,5,6],[0,1,5,6],[0,1,5,6],[0,1,5,6],[0,1,2,3,4],[0,1,2,3,4],[],[]]
 |19=>[[2,3,4,5,6],[2,3,4,5,6],[0,1,5,6],[0,1,5,6],[0,1,5,6],[0,1,2,3,4],[0,1,2,3,4],[],[]]
 |_=>[]
@[simp] def ado:aE:=⟨[1],false,[200,250,300],[],false⟩
def od3:Nat->List (List Nat)
 |9=>[[],[],[],[4,5,7,8,9],[3,5,7,8,9],[3,4,7,8,9],[7,8,9],[3,4,5,6,8,9],[3,4,5,6,7,9],[3,4,5,6,7,8],[],[],[],[]]
 |_=>[]
def od4:Nat->List (List Nat)
 |6=>[[],[],[],[4,5,7,8,9],[3,5,7,8,9],[3,4,7,8,9],[7,8,9],[3,4,5,6,8,9],[3,4,5,6,7,9],[3,4,5,6,7,8],[],[],[],[]]
 |_=>[]
def od7:Nat->List (List Nat)
 |5=>[[1,2,4,5,6,7,8,10,11],[0,2,4,5,6,7,8,10,11],[0,1,4,5,6,7,8,10,11],[4,5,6,7,8,10,11],[0,1,2,3,5,6,7,8,10,11],[0,1,2,3,4,6,7,8,10,11],[0,1,2,3,4,5,7,10,11],[0,1,2,3,4,5,6,10,11],[0,1,2,3,4,5,10,11],[10,11],[0,1,2,3,4,5,6,7,8,9,11],[0,1,2,3,4,5,6,7,8,9,10],[],[]]
 |_=>[]
def od8:Nat->List (List Nat)
 |5=>[[1,2,3],[0,2,3,4],[0,1,3],[0,1,2],[1],[]]
 |6=>[[2,4,5,6,7],[2,4,5,6,7],[0,1,4,5,6,7],[4,5,6,7],[0,1,2,3,6,8,9],[0,1,2,3,6,8,9],[0,1,2,3,4,5,8,9],[0,1,2,3,8,9],[4,5,6,7],[4,5,6,7],[],[]]
 |7=>[[1,2,4,5,6,8,9],[0,2,4,5,6,8,9],[0,1,4,5,6,8,9],[4,5,6,8,9],[0,1,2,3,5,6,8,9],[0,1,2,3,4,6,8,9],[0,1,2,3,4,5,8,9],[8,9],[0,1,2,3,4,5,6,7,9],[0,1,2,3,4,5,6,7,8],[],[]]
 |10=>[[1,2,3,4,5,6],[0,2,3,4,5],[0,1,4,5],[0,1,4,5],[0,1,2,3],[0,1,2,3],[0],[],[]]
 |_=>[]
def od9:Nat->List (List Nat)
 |5=>[[1,2,4,6,7],[0,2,4,6,7],[0,1,4,6,7],[4,6,7],[0,1,2,3,6,7],[6,7],[0,1,2,3,4,5,7],[0,1,2,3,4,5,6],[],[],[]]
 |_=>[]
def asQ:Nat->List (List Nat)
 |9=>[[1,2,4,5,6],[0,2,4,5,6],[0,1,4,5,6],[4,5,6],[0,1,2,3,5,6],[0,1,2,3,4,6],[0,1,2,3,4,5],[],[],[]]
 |_=>[]
def asR:Nat->List (List Nat)
 |3=>[[1,2,3,4,5,6,7,8,9],[0,3,4,5,6,7,9],[0,3,4,5,6,7,9],[0,1,2,5,6,9],[0,1,2,5,6,9],[0,1,2,3,4,9],[0,1,2,3,4,9],[0,1,2,9],[0,9],[0,1,2,3,4,5,6,7,8],[],[],[]]
 |5=>[[2,3,4,5,8],[2,3,4,5,8],[0,1,8],[0,1,8],[0,1,8],[0,1,8],[8],[8],[0,1,2,3,4,5,6,7],[]]
 |10=>[[4,5,8,9,10,11,12,13,14,15],[4,5,8,9,10,11,12,13,14,15],[4,5,8,9,10,11,12,13,14,15],[4,5,8,9,10,11,12,13,14,15],[0,1,2,3,8,9,10,11,12,13,14,15],[0,1,2,3,8,9,10,11,12,13,14,15],[8,9,10,11,12,13,14,15],[8,9,10,11,12,13,14,15],[0,1,2,3,4,5,6,7,12,13,14,15],[0,1,2,3,4,5,6,7,12,13,14,15],[0,1,2,3,4,5,6,7,12,13,14,15],[0,1,2,3,4,5,6,7,12,13,14,15],[0,1,2,3,4,5,6,7,8,9,10,11],[0,1,2,3,4,5,6,7,8,9,10,11],[0,1,2,3,4,5,6,7,8,9,10,11],[0,1,2,3,4,5,6,7,8,9,10,11],[],[]]
 |_=>[]
def asS:Nat->List (List Nat)
 |1=>[[1,2,3,4,5,6],[0,3,4,6],[0,3,4,6],[0,1,2,4,6],[0,1,2,3,6],[0,6],[0,1,2,3,4,5],[],[],[]]
 |5=>[[1,2,3,4,5,6,7,8,9,10,11,12,13],[0,5,6,7,8,9,10,11,12],[0,5,6,7,8,9,10,11,12],[0,5,6,7,8,9,10,11,12],[0,5,6,7,8,9,10,11,12],[0,1,2,3,4,7],[0,1,2,3,4,7],[0,1,2,3,4,5,6],[0,1,2,3,4],[0,1,2,3,4],[0,1,2,3,4],[0,1,2,3,4],[0,1,2,3,4],[0],[],[],[]]
 |7=>[[4,5,6,7,8,9,10,11],[4,5,6,7,8,9,10,11],[4,5,6,7,8,9,10,11],[4,5,6,7,8,9,10,11],[0,1,2,3,8,9,10,11],[0,1,2,3,8,9,10,11],[0,1,2,3,8,9,10,11],[0,1,2,3,8,9,10,11],[0,1,2,3,4,5,6,7],[0,1,2,3,4,5,6,7],[0,1,2,3,4,5,6,7],[0,1,2,3,4,5,6,7],[],[]]
 |_=>[]
def asT:Nat->List (List Nat)
 |2=>[[1,2,3,4,5,8],[0,3,4,5,8],[0,3,4,5,8],[0,1,2,5,8],[0,1,2,5,8],[0,1,2,3,4,8],[8],[8],[0,1,2,3,4,5,6,7],[]]
 |8=>[[1,2,3,4,5,6,7,8,9],[0,5,6,7,8],[0,5,6,7,8],[0,5,6,7,8],[0,5,6,7,8],[0,1,2,3,4],[0,1,2,3,4],[0,1,2,3,4],[0,1,2,3,4],[0],[],[],[]]
 |12=>[[4,5,6,7],[4,5,6,7],[4,5,6,7],[4,5,6,7],[0,1,2,3],[0,1,2,3],[0,1,2,3],[0,1,2,3],[],[]]
 |_=>[]
def asU:Nat->List (List Nat)
 |6=>[[2,5,6,7,8,9],[2,5,6,7,8,9],[0,1,5,6,7,8,9],[5,6,7,8,9],[5,6,7,8,9],[0,1,2,3,4,7],[0,1,2,3,4,7],[0,1,2,3,4,5,6],[0,1,2,3,4],[0,1,2,3,4],[]]
 |_=>[]
def asV:Nat->List (List Nat)
 |3=>[[1,2,3],[0,2,3,4],[0,1,3,4,5],[0,1,2,4,5,6],[1,2,3],[2,3],[3],[]]
 |10=>[[1,2],[0,2,3],[0,1,3,4,5],[1,2],[2],[2],[]]
 |_=>[]
def asW:Nat->List (List Nat)
 |1=>[[1,2,3,4],[0],[0],[0],[0],[],[],[]]
 |_=>[]
def asX:Nat->List (List Nat)
 |6=>[[1,4,5,6,7],[0,4,5,6,7],[4,5,6,7],[4,5,6,7],[0,1,2,3,5],[0,1,2,3,4],[0,1,2,3],[0,1,2,3],[]]
 |_=>[]
def asY:Nat->List (List Nat)
 |6=>[[1,2,3,4,5,6,7,8],[0,5,6],[0,5,6],[0,5,6],[0,5,6],[0,1,2,3,4],[0,1,2,3,4],[0],[0],[]]
 |8=>[[1,2,3,4,5,6,7,8,9,10],[0,5,6],[0,5,6],[0,5,6],[0,5,6],[0,1,2,3,4],[0,1,2,3,4],[0],[0],[0],[0],[]]
 |11=>[[1,2,3],[0,2,3],[0,1],[0,1],[],[],[7],[6,8],[7],[]]
 |18=>[[4,5,6],[4,5,6],[4,5,6],[4,5,6],[0,1,2,3,6],[0,1,2,3,6],[0,1,2,3,4,5],[],[]]
 |21=>[[1,2,3],[0,2,3],[0,1],[0,1],[],[],[7],[6,8],[7],[]]
 |_=>[]
def asZ:Nat->List (List Nat)
 |15=>[[4,5,7,8,9,10,11,12,13,14,15,16,17,18,19,20],[4,5,7,8,9,10,11,12,13,14,15,16,17,18,19,20],[4,5,7,8,9,10,11,12,13,14,15,16,17,18,19,20],[4,5,7,8,9,10,11,12,13,14,15,16,17,18,19,20],[0,1,2,3,7,8,9,10,11,12,13,14,15,16,17,18,19,20],[0,1,2,3,7,8,9,10,11,12,13,14,15,16,17,18,19,20],[7,8,9,10,11,12,13,14,15,16,17,18,19,20],[0,1,2,3,4,5,6,9,10,11,12,13,14,15,16,17,18,19],[0,1,2,3,4,5,6,9,10,11,12,13,14,15,16,17,18,19],[0,1,2,3,4,5,6,7,8,13,14,15,16,17,18],[0,1,2,3,4,5,6,7,8,13,14,15,16,17,18],[0,1,2,3,4,5,6,7,8,13,14,15,16,17,18],[0,1,2,3,4,5,6,7,8,13,14,15,16,17,18],[0,1,2,3,4,5,6,7,8,9,10,11,12,15,16,17,18],[0,1,2,3,4,5,6,7,8,9,10,11,12,15,16,17,18],[0,1,2,3,4,5,6,7,8,9,10,11,12,13,14,17],[0,1,2,3,4,5,6,7,8,9,10,11,12,13,14,17],[0,1,2,3,4,5,6,7,8,9,10,11,12,13,14,15,16],[0,1,2,3,4,5,6,7,8,9,10,11,12,13,14],[0,1,2,3,4,5,6,7,8],[0,1,2,3,4,5,6],[]]
 |19=>[[4,5],[4,5],[4,5],[4,5],[0,1,2,3],[0,1,2,3],[],[],[]]
 |_=>[]
def as0:Nat->List (List Nat)
 |5=>[[4,5,6,7,8,9],[4,5,6,7,8,9],[4,5,6,7,8,9],[4,5,6,7,8,9],[0,1,2,3,6,7,8,9],[0,1,2,3,6,7,8,9],[0,1,2,3,4,5],[0,1,2,3,4,5],[0,1,2,3,4,5],[0,1,2,3,4,5],[],[]]
 |_=>[]
def as1:Nat->List (List Nat)
 |5=>[[1,2,3,4,5,6,7,8],[0,3,4,5,6,7],[0,3,4,5,6,7],[0,1,2,4,5,6,7],[0,1,2,3,5],[0,1,2,3,4],[0,1,2,3],[0,1,2,3],[0],[],[],[]]
 |_=>[]
def as2:Nat->List (List Nat)
 |12=>[[2,3,4,5,6,7,8,9,10,11],[2,3,4,5,6,7,8,9,10,11],[0,1,3,7],[0,1,2,7],[0,1,7],[0,1,7],[0,1,7],[0,1,2,3,4,5,6],[0,1],[0,1],[0,1],[0,1],[],[],[]]
 |17=>[[2,3,4,5,6,7,8,9,10,11],[2,3,4,5,6,7,8,9,10,11],[0,1,3,7],[0,1,2,7],[0,1,7],[0,1,7],[0,1,7],[0,1,2,3,4,5,6],[0,1],[0,1],[0,1],[0,1],[],[],[]]
 |_=>[]
def as3:Nat->List (List Nat)
 |5=>[[4,5],[4,5],[4,5],[4,5],[0,1,2,3],[0,1,2,3],[],[]]
 |_=>[]
def as4:Nat->List (List Nat)
 |5=>[[1],[0],[],[],[],[],[7,8,9,10,11],[6,8],[6,7],[6],[6],[6],[],[],[],[],[],[],[19,23,24,25,26,27,28,29,30,31],[18,23,24,25,26,27,28,29,30,31],[23,24,25,26,27,28,29,30,31],[23,24,25,26,27,28,29,30,31],[23,24,25,26,27,28,29,30,31],[18,19,20,21,22,24,25,26,27,28],[18,19,20,21,22,23,25],[18,19,20,21,22,23,24],[18,19,20,21,22,23],[18,19,20,21,22,23],[18,19,20,21,22,23],[18,19,20,21,22],[18,19,20,21,22],[18,19,20,21,22],[],[]]
 |_=>[]
def as5:Nat->List (List Nat)
 |0=>[[1,2,3,4,5],[0,5,6,7],[0,5,6,7],[0,5,6,7],[0,5,6,7],[0,1,2,3,4,6,7],[1,2,3,4,5],[1,2,3,4,5],[],[]]
 |_=>[]
def as6:Nat->List (List Nat)
 |2=>[[1,2,3,4],[0,5,6],[0,5,6],[0,5,6],[0,5,6],[1,2,3,4],[1,2,3,4],[],[],[]]
 |_=>[]
def as7:Nat->List (List Nat)
 |4=>[[3,4,5,6,7,8,9,10,11,12],[3,4,5,6,7,8,9,10,11,12],[3,4,5,6,7,8,9,10,11,12],[0,1,2,7,9,10,11,12],[0,1,2,7,9,10,11,12],[0,1,2,7,9,10,11,12],[0,1,2,7,9,10,11,12],[0,1,2,3,4,5,6,9,10,11,12],[0,1,2,9,10,11,12],[0,1,2,3,4,5,6,7,8],[0,1,2,3,4,5,6,7,8],[0,1,2,3,4,5,6,7,8],[0,1,2,3,4,5,6,7,8],[],[],[]]
 |_=>[]
def as8:Nat->List (List Nat)
 |1=>[[4,5,8,9,10,11,12,13,14,15,16,17,18,19,20,21,22,23,24],[4,5,8,9,10,11,12,13,14,15,16,17,18,19,20,21,22,23,24],[4,5,8,9,10,11,12,13,14,15,16,17,18,19,20,21,22,23,24],[4,5,8,9,10,11,12,13,14,15,16,17,18,19,20,21,22,23,24],[0,1,2,3,8,9,10,11,12,13,14,15,16,17,18,19,20,21,22,23,24],[0,1,2,3,8,9,10,11,12,13,14,15,16,17,18,19,20,21,22,23,24],[8,9,10,11,12,13,14,15,16,17,18,19,20,21,22,23,24],[8,9,10,11,12,13,14,15,16,17,18,19,20,21,22,23,24],[0,1,2,3,4,5,6,7,12,13,16,17,18,19,20,21,22,23,24,25],[0,1,2,3,4,5,6,7,12,13,16,17,18,19,20,21,22,23,24,25],[0,1,2,3,4,5,6,7,12,13,16,17,18,19,20,21,22,23,24,25],[0,1,2,3,4,5,6,7,12,13,16,17,18,19,20,21,22,23,24,25],[0,1,2,3,4,5,6,7,8,9,10,11,16,17,18,19,20,21,22,23,24,25],[0,1,2,3,4,5,6,7,8,9,10,11,16,17,18,19,20,21,22,23,24,25],[0,1,2,3,4,5,6,7,16,17,18,19,20,21,22,23,24,25],[0,1,2,3,4,5,6,7,16,17,18,19,20,21,22,23,24,25],[0,1,2,3,4,5,6,7,8,9,10,11,12,13,14,15,20,21,22,25,26],[0,1,2,3,4,5,6,7,8,9,10,11,12,13,14,15,20,21,22,25,26],[0,1,2,3,4,5,6,7,8,9,10,11,12,13,14,15,20,21,22,25,26],[0,1,2,3,4,5,6,7,8,9,10,11,12,13,14,15,20,21,22,25,26],[0,1,2,3,4,5,6,7,8,9,10,11,12,13,14,15,16,17,18,19,25,26],[0,1,2,3,4,5,6,7,8,9,10,11,12,13,14,15,16,17,18,19,25,26],[0,1,2,3,4,5,6,7,8,9,10,11,12,13,14,15,16,17,18,19,25,26],[0,1,2,3,4,5,6,7,8,9,10,11,12,13,14,15,25,26],[0,1,2,3,4,5,6,7,8,9,10,11,12,13,14,15,25,26],[8,9,10,11,12,13,14,15,16,17,18,19,20,21,22,23,24],[16,17,18,19,20,21,22,23,24],[]]
 |_=>[]
def as9:Nat->List (List Nat)
 |64=>[[1,2,3,4,5,6,7],[0,3,4,5,6,7],[0,3,4,5,6,7],[0,1,2,5],[0,1,2,5],[0,1,2,3,4],[0,1,2],[0,1,2],[],[],[11],[10,12],[11],[]]
 |67=>[[2,3,4,5,6,7,8,9,10,11,12],[2,3,4,5,6,7,8,9,10,11,12],[0,1,3,4,5,6,7,8,9,10,11],[0,1,2,7,8,9,10],[0,1,2,7,8,9,10],[0,1,2,7,8,9,10],[0,1,2,7,8,9,10],[0,1,2,3,4,5,6,8,9,10],[0,1,2,3,4,5,6,7,9],[0,1,2,3,4,5,6,7,8],[0,1,2,3,4,5,6,7],[0,1,2],[0,1],[],[]]
 |71=>[[4,5,6,7,8,9,10],[4,5,6,7,8,9,10],[4,5,6,7,8,9,10],[4,5,6,7,8,9,10],[0,1,2,3,5,7,8,9,10],[0,1,2,3,4,7,8,9,10],[0,1,2,3,7,8,9,10],[0,1,2,3,4,5,6,8],[0,1,2,3,4,5,6,7],[0,1,2,3,4,5,6],[0,1,2,3,4,5,6],[],[]]
 |_=>[]
def ata:Nat->List (List Nat)
 |1=>[[4,5,11],[4,5,11],[4,5,11],[4,5,11],[0,1,2,3,11],[0,1,2,3,11],[11],[11],[9,10,11],[8,10,11,12],[8,9,11,12,13],[0,1,2,3,4,5,6,7,8,9,10],[9,10],[10],[]]
 |4=>[[4,5,6],[4,5,6],[4,5,6],[4,5,6],[0,1,2,3],[0,1,2,3],[0,1,2,3],[],[],[10,11],[9,11,12],[9,10,12,13],[10,11],[11]]
 |8=>[[1,2,3,4,5,6,7,8,9,10,11],[0,2,3,5,6,7,8,9,10],[0,1,5,6,7,8,9,10],[0,1,5,6,7,8,9,10],[0,5,6,7,8,9,10],[0,1,2,3,4,6,7,8,9],[0,1,2,3,4,5,8,9],[0,1,2,3,4,5,8,9],[0,1,2,3,4,5,6,7],[0,1,2,3,4,5,6,7],[0,1,2,3,4],[0],[],[],[]]
 |32=>[[1,2,3,4,5,6,7,8,9,10,11,12,13,14,15,16,17,18,19,20,21],[0,2,3,4,5,6,7,8,9,10,11,12,13,14,15,16,17,18,20],[0,1,4,7,10,11,12,13,14,15,16,17,18,20],[0,1,4,7,10,11,12,13,14,15,16,17,18,20],[0,1,2,3,7,10,11,12,13,14,15,16,17,18,20],[0,1,7,10,11,12,13,14,15,16,17,18,20],[0,1,7,10,11,12,13,14,15,16,17,18,20],[0,1,2,3,4,5,6,10,11,12,13,14,15,16,17,18,20],[0,1,10,11,12,13,14,15,16,17,18,20],[0,1,10,11,12,13,14,15,16,17,18,20],[0,1,2,3,4,5,6,7,8,9,12,15,16,20],[0,1,2,3,4,5,6,7,8,9,12,15,16,20],[0,1,2,3,4,5,6,7,8,9,10,11,15,16,20],[0,1,2,3,4,5,6,7,8,9,15,16,20],[0,1,2,3,4,5,6,7,8,9,15,16,20],[0,1,2,3,4,5,6,7,8,9,10,11,12,13,14,20],[0,1,2,3,4,5,6,7,8,9,10,11,12,13,14,20],[0,1,2,3,4,5,6,7,8,9,20],[0,1,2,3,4,5,6,7,8,9,20],[0,20],[0,1,2,3,4,5,6,7,8,9,10,11,12,13,14,15,16,17,18,19],[0],[],[]]
 |39=>[[1,2,3,4,6,7,8,9,10,12,13,14,15,16,18,19,20,21,22,23,24,25],[0,6,7,8,9,10,12,13,14,15,16,18,19,20,21,22,23,24,25],[0,6,7,8,9,10,12,13,14,15,16,18,19,20,21,22,23,24,25],[0,6,7,8,9,10,12,13,14,15,16,18,19,20,21,22,23,24,25],[0,6,7,8,9,10,12,13,14,15,16,18,19,20,21,22,23,24,25],[6,7,8,9,10,12,13,14,15,16,18,19,20,21,22,23,24,25],[0,1,2,3,4,5,7,8,9,10,12,13,14,15,16,18,19,20,21,22,23,24,25],[0,1,2,3,4,5,6,12,13,14,15,16,18,19,20,21,22,23,24,25],[0,1,2,3,4,5,6,12,13,14,15,16,18,19,20,21,22,23,24,25],[0,1,2,3,4,5,6,12,13,14,15,16,18,19,20,21,22,23,24,25],[0,1,2,3,4,5,6,12,13,14,15,16,18,19,20,21,22,23,24,25],[12,13,14,15,16,18,19,20,21,22,23,24,25],[0,1,2,3,4,5,6,7,8,9,10,11,13,14,15,16,18,19,20,21,22,23,24,25],[0,1,2,3,4,5,6,7,8,9,10,11,12,18,19,20,21,22,23,24,25],[0,1,2,3,4,5,6,7,8,9,10,11,12,18,19,20,21,22,23,24,25],[0,1,2,3,4,5,6,7,8,9,10,11,12,18,19,20,21,22,23,24,25],[0,1,2,3,4,5,6,7,8,9,10,11,12,18,19,20,21,22,23,24,25],[18,19,20,21,22,23,24,25],[0,1,2,3,4,5,6,7,8,9,10,11,12,13,14,15,16,17,21,22,23,24],[0,1,2,3,4,5,6,7,8,9,10,11,12,13,14,15,16,17,21,22,23,24],[0,1,2,3,4,5,6,7,8,9,10,11,12,13,14,15,16,17,21,22,23,24],[0,1,2,3,4,5,6,7,8,9,10,11,12,13,14,15,16,17,18,19,20,23,24],[0,1,2,3,4,5,6,7,8,9,10,11,12,13,14,15,16,17,18,19,20,23,24],[0,1,2,3,4,5,6,7,8,9,10,11,12,13,14,15,16,17,18,19,20,21,22],[0,1,2,3,4,5,6,7,8,9,10,11,12,13,14,15,16,17,18,19,20,21,22],[0,1,2,3,4,5,6,7,8,9,10,11,12,13,14,15,16,17],[],[],[]]
 |47=>[[2,3,4,6],[2,3,4,6],[0,1,3,4,6],[0,1,2,6],[0,1,2,6],[6],[0,1,2,3,4,5],[],[],[],[]]
 |53=>[[1,2,3,4,5,6,9,10],[0,3,4,5,9,10],[0,3,4,5,9,10],[0,1,2,4,5,9,10],[0,1,2,3,9,10],[0,1,2,3,9,10],[0,9,10],[9,10],[9,10],[0,1,2,3,4,5,6,7,8],[0,1,2,3,4,5,6,7,8],[],[]]
 |63=>[[4,5,6,7,8,9,10,16],[4,5,6,7,8,9,10,16],[4,5,6,7,8,9,10,16],[4,5,6,7,8,9,10,16],[0,1,2,3,6,7,8,9,10,16],[0,1,2,3,6,7,8,9,10,16],[0,1,2,3,4,5,8,16],[0,1,2,3,4,5,8,16],[0,1,2,3,4,5,6,7,16],[0,1,2,3,4,5,16],[0,1,2,3,4,5,16],[16],[16],[14,15,16],[13,15,16,17],[13,14,16,17,18],[0,1,2,3,4,5,6,7,8,9,10,11,12,13,14,15],[14,15],[15],[]]
 |_=>[]
def atb:Nat->List (List Nat)
 |6=>[[2,3,4,5,6,7,8],[2,3,4,5,6,7,8],[0,1,4],[0,1,4],[0,1,2,3],[0,1],[0,1],[0,1],[0,1],[],[],[]]
 |_=>[]
def alQ:Nat->List (List Nat)
 |5=>[[1,2,3,4,5],[0,2,3,4,5,6,7],[0,1,4,5],[0,1,4,5],[0,1,2,3,6,7],[0,1,2,3,6,7],[1,4,5],[1,4,5],[],[]]
 |_=>[]
def alR:Nat->List (List Nat)
 |4=>[[4,7,8],[4,7,8],[4,7,8],[4,7,8],[0,1,2,3,7,8],[7,8],[7,8],[0,1,2,3,4,5,6],[0,1,2,3,4,5,6],[]]
 |7=>[[1,2,3,4,5,6,7],[0,5,6],[0,5,6],[0,5,6],[0,5,6],[0,1,2,3,4],[0,1,2,3,4],[0],[],[],[]]
 |_=>[]
def alS:Nat->List (List Nat)
 |5=>[[1],[0,2,3],[1],[1],[],[]]
 |7=>[[1,2,3,4,5,6,7,8],[0,4,5,6],[0,4,5,6],[0,4,5,6],[0,1,2,3],[0,1,2,3],[0,1,2,3],[0],[0],[],[]]
 |10=>[[1],[0,2,3],[1],[1],[],[]]
 |13=>[[1,2,3,4,5,6,7,8],[0,4,5,6],[0,4,5,6],[0,4,5,6],[0,1,2,3],[0,1,2,3],[0,1,2,3],[0],[0],[],[]]
 |16=>[[1],[0,2,3],[1],[1],[],[]]
 |18=>[[1,2,3,4,5,6,7,8],[0,4,5,6],[0,4,5,6],[0,4,5,6],[0,1,2,3],[0,1,2,3],[0,1,2,3],[0],[0],[],[]]
 |19=>[[1,2,3],[0],[0],[0],[],[]]
 |21=>[[1,2,3,4,5],[0],[0],[0],[0],[0],[],[]]
 |_=>[]
def alT:Nat->List (List Nat)
 |6=>[[1,2,3,4,5,6,7,8],[0,4,5,6],[0,4,5,6],[0,4,5,6],[0,1,2,3],[0,1,2,3],[0,1,2,3],[0],[0],[],[]]
 |_=>[]
def alU:Nat->List (List Nat)
 |5=>[[5,8,9,10,11,12,13,14,15],[5,8,9,10,11,12,13,14,15],[5,8,9,10,11,12,13,14,15],[5,8,9,10,11,12,13,14,15],[5,8,9,10,11,12,13,14,15],[0,1,2,3,4,8,9,10,11,12,13,14,15],[8,9,10,11,12,13,14,15],[8,9,10,11,12,13,14,15],[0,1,2,3,4,5,6,7,13,16],[0,1,2,3,4,5,6,7,13,16],[0,1,2,3,4,5,6,7,13,16],[0,1,2,3,4,5,6,7,13,16],[0,1,2,3,4,5,6,7,13,16],[0,1,2,3,4,5,6,7,8,9,10,11,12,16],[0,1,2,3,4,5,6,7,16],[0,1,2,3,4,5,6,7,16],[8,9,10,11,12,13,14,15],[]]
 |_=>[]
def alV:Nat->List (List Nat)
 |4=>[[2,3,4],[2,3,4],[0,1,5],[0,1,5],[0,1,5],[2,3,4],[]]
 |_=>[]
def alW:Nat->List (List Nat)
 |10=>[[4,5,6,7],[4,5,6,7],[4,5,6,7],[4,5,6,7],[0,1,2,3,5,6,7],[0,1,2,3,4],[0,1,2,3,4],[0,1,2,3,4],[],[]]
 |18=>[[4,7,8,9],[4,7,8,9],[4,7,8,9],[4,7,8,9],[0,1,2,3,7,8,9],[7,8,9],[7,8,9],[0,1,2,3,4,5,6],[0,1,2,3,4,5,6],[0,1,2,3,4,5,6],[],[],[],[14,15],[13,15,16],[13,14,16,17],[14,15],[15],[]]
 |_=>[]
def alX:Nat->List (List Nat)
 |9=>[[5,8,10,11,12,13,14,15,16,17,18,19,20],[5,8,10,11,12,13,14,15,16,17,18,19,20],[5,8,10,11,12,13,14,15,16,17,18,19,20],[5,8,10,11,12,13,14,15,16,17,18,19,20],[5,8,10,11,12,13,14,15,16,17,18,19,20],[0,1,2,3,4,8,10,11,12,13,14,15,16,17,18,19,20],[8,10,11,12,13,14,15,16,17,18,19,20],[8,10,11,12,13,14,15,16,17,18,19,20],[0,1,2,3,4,5,6,7,10,11,12,13,14,15,16,17,18,19,20],[10,11,12,13,14,15,16,17,18,19,20],[0,1,2,3,4,5,6,7,8,9,14,17,21],[0,1,2,3,4,5,6,7,8,9,14,17,21],[0,1,2,3,4,5,6,7,8,9,14,17,21],[0,1,2,3,4,5,6,7,8,9,14,17,21],[0,1,2,3,4,5,6,7,8,9,10,11,12,13,17,21],[0,1,2,3,4,5,6,7,8,9,17,21],[0,1,2,3,4,5,6,7,8,9,17,21],[0,1,2,3,4,5,6,7,8,9,10,11,12,13,14,15,16,21],[0,1,2,3,4,5,6,7,8,9,21],[0,1,2,3,4,5,6,7,8,9,21],[0,1,2,3,4,5,6,7,8,9,21],[10,11,12,13,14,15,16,17,18,19,20],[]]
 |_=>[]
def alY:Nat->List (List Nat)
 |6=>[[3,4,5],[3,4,5],[3,4,5],[0,1,2],[0,1,2],[0,1,2],[],[]]
 |7=>[[3,4,5],[3,4,5],[3,4,5],[0,1,2],[0,1,2],[0,1,2],[],[]]
 |8=>[[3,4,5,6,7,8,9,10,11,12],[3,4,5,6,7,8,9,10,11,12],[3,4,5,6,7,8,9,10,11,12],[0,1,2,6,7,8,9,10,11,12],[0,1,2,6,7,8,9,10,11,12],[0,1,2,6,7,8,9,10,11,12],[0,1,2,3,4,5,7,8,9,12],[0,1,2,3,4,5,6,12],[0,1,2,3,4,5,6,12],[0,1,2,3,4,5,6,12],[0,1,2,3,4,5,12],[0,1,2,3,4,5,12],[0,1,2,3,4,5,6,7,8,9,10,11],[],[]]
 |11=>[[3,4,5],[3,4,5],[3,4,5],[0,1,2],[0,1,2],[0,1,2],[],[]]
 |14=>[[3,4,5],[3,4,5],[3,4,5],[0,1,2],[0,1,2],[0,1,2],[],[]]
 |15=>[[3,4,5,6,7,8,9,10,11,12],[3,4,5,6,7,8,9,10,11,12],[3,4,5,6,7,8,9,10,11,12],[0,1,2,6,7,8,9,10,11,12],[0,1,2,6,7,8,9,10,11,12],[0,1,2,6,7,8,9,10,11,12],[0,1,2,3,4,5,7,8,9,12],[0,1,2,3,4,5,6,12],[0,1,2,3,4,5,6,12],[0,1,2,3,4,5,6,12],[0,1,2,3,4,5,12],[0,1,2,3,4,5,12],[0,1,2,3,4,5,6,7,8,9,10,11],[],[]]
 |17=>[[3,4,5,6,7,8],[3,4,5,6,7,8],[3,4,5,6,7,8],[0,1,2,6,7,8,9],[0,1,2,6,7,8,9],[0,1,2,6,7,8,9],[0,1,2,3,4,5,9,10],[0,1,2,3,4,5,9,10],[0,1,2,3,4,5,9,10],[3,4,5,6,7,8],[6,7,8],[]]
 |24=>[[3,4,5,6,7,8,9,10,11,12,13],[3,4,5,6,7,8,9,10,11,12,13],[3,4,5,6,7,8,9,10,11,12,13],[0,1,2,6,7,8,9,10,11,12,13],[0,1,2,6,7,8,9,10,11,12,13],[0,1,2,6,7,8,9,10,11,12,13],[0,1,2,3,4,5,7,8,9,10,11,12,13],[0,1,2,3,4,5,6,8,9,10,11,12,13],[0,1,2,3,4,5,6,7,13],[0,1,2,3,4,5,6,7,13],[0,1,2,3,4,5,6,7,13],[0,1,2,3,4,5,6,7,13],[0,1,2,3,4,5,6,7,13],[0,1,2,3,4,5,6,7,8,9,10,11,12],[],[]]
 |31=>[[3,4,5,6,7,8,9,10,11,12,13,14,15,16,17,18,19,20],[3,4,5,6,7,8,9,10,11,12,13,14,15,16,17,18,19,20],[3,4,5,6,7,8,9,10,11,12,13,14,15,16,17,18,19,20],[0,1,2,6,7,8,9,10,11,12,13,14,15,16,17,18,19,20],[0,1,2,6,7,8,9,10,11,12,13,14,15,16,17,18,19,20],[0,1,2,6,7,8,9,10,11,12,13,14,15,16,17,18,19,20],[0,1,2,3,4,5,9,10,11,12,13,14,15,16,17,18,19,20],[0,1,2,3,4,5,9,10,11,12,13,14,15,16,17,18,19,20],[0,1,2,3,4,5,9,10,11,12,13,14,15,16,17,18,19,20],[0,1,2,3,4,5,6,7,8,10,11,12,15,16,17,18,19],[0,1,2,3,4,5,6,7,8,9,15,16,17,18,19],[0,1,2,3,4,5,6,7,8,9,15,16,17,18,19],[0,1,2,3,4,5,6,7,8,9,15,16,17,18,19],[0,1,2,3,4,5,6,7,8,15,16,17,18,19],[0,1,2,3,4,5,6,7,8,15,16,17,18,19],[0,1,2,3,4,5,6,7,8,9,10,11,12,13,14,16,17,18,19,20],[0,1,2,3,4,5,6,7,8,9,10,11,12,13,14,15],[0,1,2,3,4,5,6,7,8,9,10,11,12,13,14,15],[0,1,2,3,4,5,6,7,8,9,10,11,12,13,14,15],[0,1,2,3,4,5,6,7,8,9,10,11,12,13,14,15],[0,1,2,3,4,5,6,7,8,15],[],[]]
 |38=>[[3,4,5,6,7,8,9,10,11,12,13,14,15,16,17],[3,4,5,6,7,8,9,10,11,12,13,14,15,16,17],[3,4,5,6,7,8,9,10,11,12,13,14,15,16,17],[0,1,2,6,7,8,9,10,11,12,13,14,15,16,17],[0,1,2,6,7,8,9,10,11,12,13,14,15,16,17],[0,1,2,6,7,8,9,10,11,12,13,14,15,16,17],[0,1,2,3,4,5,9,10,11,12,13,14,15,16,17],[0,1,2,3,4,5,9,10,11,12,13,14,15,16,17],[0,1,2,3,4,5,9,10,11,12,13,14,15,16,17],[0,1,2,3,4,5,6,7,8,12,13,14,15,16],[0,1,2,3,4,5,6,7,8,12,13,14,15,16],[0,1,2,3,4,5,6,7,8,12,13,14,15,16],[0,1,2,3,4,5,6,7,8,9,10,11,13,14,15,16,17],[0,1,2,3,4,5,6,7,8,9,10,11,12],[0,1,2,3,4,5,6,7,8,9,10,11,12],[0,1,2,3,4,5,6,7,8,9,10,11,12],[0,1,2,3,4,5,6,7,8,9,10,11,12],[0,1,2,3,4,5,6,7,8,12],[],[]]
 |40=>[[3,4,5,6,7,8,9,10,11,12,13,14,15,16,17,18],[3,4,5,6,7,8,9,10,11,12,13,14,15,16,17,18],[3,4,5,6,7,8,9,10,11,12,13,14,15,16,17,18],[0,1,2,14,15,16,17],[0,1,2,14,15,16,17],[0,1,2,14,15,16,17],[0,1,2,14,15,16,17],[0,1,2,14,15,16,17],[0,1,2,14,15,16,17],[0,1,2,14,15,16,17],[0,1,2,14,15,16,17],[0,1,2,14,15,16,17],[0,1,2,14,15,16,17],[0,1,2,14,15,16,17],[0,1,2,3,4,5,6,7,8,9,10,11,12,13],[0,1,2,3,4,5,6,7,8,9,10,11,12,13],[0,1,2,3,4,5,6,7,8,9,10,11,12,13],[0,1,2,3,4,5,6,7,8,9,10,11,12,13],[0,1,2],[],[]]
 |42=>[[3,4,5,6,7,8,9,10,11,12,13,14,15,16,17,18],[3,4,5,6,7,8,9,10,11,12,13,14,15,16,17,18],[3,4,5,6,7,8,9,10,11,12,13,14,15,16,17,18],[0,1,2,14,15,16,17],[0,1,2,14,15,16,17],[0,1,2,14,15,16,17],[0,1,2,14,15,16,17],[0,1,2,14,15,16,17],[0,1,2,14,15,16,17],[0,1,2,14,15,16,17],[0,1,2,14,15,16,17],[0,1,2,14,15,16,17],[0,1,2,14,15,16,17],[0,1,2,14,15,16,17],[0,1,2,3,4,5,6,7,8,9,10,11,12,13],[0,1,2,3,4,5,6,7,8,9,10,11,12,13],[0,1,2,3,4,5,6,7,8,9,10,11,12,13],[0,1,2,3,4,5,6,7,8,9,10,11,12,13],[0,1,2],[],[]]
 |44=>[[3,4,5,6,7,8,9,10,11,12,13,14,15,16,17,18,19,20,21,22],[3,4,5,6,7,8,9,10,11,12,13,14,15,16,17,18,19,20,21,22],[3,4,5,6,7,8,9,10,11,12,13,14,15,16,17,18,19,20,21,22],[0,1,2,6,7,8,9,10,11,12,13,14,15,16,17,18,19,20,21,22],[0,1,2,6,7,8,9,10,11,12,13,14,15,16,17,18,19,20,21,22],[0,1,2,6,7,8,9,10,11,12,13,14,15,16,17,18,19,20,21,22],[0,1,2,3,4,5],[0,1,2,3,4,5],[0,1,2,3,4,5],[0,1,2,3,4,5],[0,1,2,3,4,5],[0,1,2,3,4,5],[0,1,2,3,4,5],[0,1,2,3,4,5],[0,1,2,3,4,5],[0,1,2,3,4,5],[0,1,2,3,4,5],[0,1,2,3,4,5],[0,1,2,3,4,5],[0,1,2,3,4,5],[0,1,2,3,4,5],[0,1,2,3,4,5],[0,1,2,3,4,5],[],[]]
 |46=>[[3,4,5,6,7,8,9,10,11,12,13,14,15,16,17,18,19,20,21,22],[3,4,5,6,7,8,9,10,11,12,13,14,15,16,17,18,19,20,21,22],[3,4,5,6,7,8,9,10,11,12,13,14,15,16,17,18,19,20,21,22],[0,1,2,6,7,8,9,10,11,12,13,14,15,16,17,18,19,20,21,22],[0,1,2,6,7,8,9,10,11,12,13,14,15,16,17,18,19,20,21,22],[0,1,2,6,7,8,9,10,11,12,13,14,15,16,17,18,19,20,21,22],[0,1,2,3,4,5],[0,1,2,3,4,5],[0,1,2,3,4,5],[0,1,2,3,4,5],[0,1,2,3,4,5],[0,1,2,3,4,5],[0,1,2,3,4,5],[0,1,2,3,4,5],[0,1,2,3,4,5],[0,1,2,3,4,5],[0,1,2,3,4,5],[0,1,2,3,4,5],[0,1,2,3,4,5],[0,1,2,3,4,5],[0,1,2,3,4,5],[0,1,2,3,4,5],[0,1,2,3,4,5],[],[]]
 |_=>[]
def alZ:Nat->List (List Nat)
 |3=>[[4,5,6,7,8],[4,5,6,7,8],[4,5,6,7,8],[4,5,6,7,8],[0,1,2,3,5,6,7,8],[0,1,2,3,4,6,7],[0,1,2,3,4,5],[0,1,2,3,4,5],[0,1,2,3,4],[],[]]
 |6=>[[4,5,6,7,8],[4,5,6,7,8],[4,5,6,7,8],[4,5,6,7,8],[0,1,2,3,5,6,8],[0,1,2,3,4,6,8],[0,1,2,3,4,5,8],[0,1,2,3,8],[0,1,2,3,4,5,6,7],[],[]]
 |_=>[]
def al0:Nat->List (List Nat)
 |6=>[[4,5,6,7,8,9,10,11],[4,5,6,7,8,9,10,11],[4,5,6,7,8,9,10,11],[4,5,6,7,8,9,10,11],[0,1,2,3,5,6,7,8,9,10,11],[0,1,2,3,4,6,7,8,9,10],[0,1,2,3,4,5,8],[0,1,2,3,4,5,8],[0,1,2,3,4,5,6,7],[0,1,2,3,4,5],[0,1,2,3,4,5],[0,1,2,3,4],[],[]]
 |9=>[[4,6,7,8,9,10,11,12,13,14,15,16,17],[4,6,7,8,9,10,11,12,13,14,15,16,17],[4,6,7,8,9,10,11,12,13,14,15,16,17],[4,6,7,8,9,10,11,12,13,14,15,16,17],[0,1,2,3,6,7,8,9,10,11,12,13,14,15,16,17],[6,7,8,9,10,11,12,13,14,15,16,17],[0,1,2,3,4,5,8,9,10,11,12,13,14,15,16],[0,1,2,3,4,5,8,9,10,11,12,13,14,15,16],[0,1,2,3,4,5,6,7,12,13,14,15],[0,1,2,3,4,5,6,7,12,13,14,15],[0,1,2,3,4,5,6,7,12,13,14,15],[0,1,2,3,4,5,6,7,12,13,14,15],[0,1,2,3,4,5,6,7,8,9,10,11,13,14,15],[0,1,2,3,4,5,6,7,8,9,10,11,12,14],[0,1,2,3,4,5,6,7,8,9,10,11,12,13],[0,1,2,3,4,5,6,7,8,9,10,11,12],[0,1,2,3,4,5,6,7],[0,1,2,3,4,5],[]]
 |_=>[]
def al1:Nat->List (List Nat)
 |6=>[[2,5,6,7,8,9],[2,5,6,7,8,9],[0,1,5,6,7,8,9],[5,6,7,8,9],[5,6,7,8,9],[0,1,2,3,4,7,10],[0,1,2,3,4,7,10],[0,1,2,3,4,5,6,10],[0,1,2,3,4,10],[0,1,2,3,4,10],[5,6,7,8,9],[],[]]
 |_=>[]
def al2:Nat->List (List Nat)
 |10=>[[1,4,5,6],[0,4,5,6],[4,5,6],[4,5,6],[0,1,2,3,6],[0,1,2,3,6],[0,1,2,3,4,5],[],[],[]]
 |_=>[]
def al3:Nat->List (List Nat)
 |9=>[[1,3,4,5,6],[0,3,4,5,6],[3,4,5,6],[0,1,2,4,7],[0,1,2,3,7],[0,1,2,7],[0,1,2,7],[3,4,5,6],[],[]]
 |_=>[]
def al4:Nat->List (List Nat)
 |2=>[[2,3],[2,3],[0,1,4],[0,1,4],[2,3],[]]
 |_=>[]
def al5:Nat->List (List Nat)
 |17=>[[3,4,5],[3,4,5],[3,4,5],[0,1,2,6],[0,1,2,6],[0,1,2,6],[3,4,5],[]]
 |_=>[]
def al6:Nat->List (List Nat)
 |18=>[[5,6],[5,6],[5,6],[5,6],[5,6],[0,1,2,3,4],[0,1,2,3,4],[]]
 |_=>[]
def al7:Nat->List (List Nat)
 |3=>[[4,5,6,7,8,9,10,13],[4,5,6,7,8,9,10,13],[4,5,6,7,8,9,10,13],[4,5,6,7,8,9,10,13],[0,1,2,3,9,13],[0,1,2,3,9,13],[0,1,2,3,9,13],[0,1,2,3,9,13],[0,1,2,3,9,13],[0,1,2,3,4,5,6,7,8,13],[0,1,2,3,13],[13],[13],[0,1,2,3,4,5,6,7,8,9,10,11,12]]
 |9=>[[1,2,3,4,5,6,7,8,9,10,11,12],[0,5,6,7,8,9,10,11],[0,5,6,7,8,9,10,11],[0,5,6,7,8,9,10,11],[0,5,6,7,8,9,10,11],[0,1,2,3,4,10],[0,1,2,3,4,10],[0,1,2,3,4,10],[0,1,2,3,4,10],[0,1,2,3,4,10],[0,1,2,3,4,5,6,7,8,9],[0,1,2,3,4],[0],[],[],[]]
 |_=>[]
def al8:Nat->List (List Nat)
 |0=>[[3,4,5],[3,4,5],[3,4,5],[0,1,2],[0,1,2],[0,1,2],[]]
 |_=>[]
def al9:Nat->List (List Nat)
 |2=>[[4,7,8,9,10,11,12,13,14],[4,7,8,9,10,11,12,13,14],[4,7,8,9,10,11,12,13,14],[4,7,8,9,10,11,12,13,14],[0,1,2,3,7,8,9,10,11,12,13,14],[7,8,9,10,11,12,13,14],[7,8,9,10,11,12,13,14],[0,1,2,3,4,5,6,12,15],[0,1,2,3,4,5,6,12,15],[0,1,2,3,4,5,6,12,15],[0,1,2,3,4,5,6,12,15],[0,1,2,3,4,5,6,12,15],[0,1,2,3,4,5,6,7,8,9,10,11,15],[0,1,2,3,4,5,6,15],[0,1,2,3,4,5,6,15],[7,8,9,10,11,12,13,14],[]]
 |_=>[]
def ama:Nat->List (List Nat)
 |3=>[[4,7,9,10,11,12,13,14,15,16,17,18],[4,7,9,10,11,12,13,14,15,16,17,18],[4,7,9,10,11,12,13,14,15,16,17,18],[4,7,9,10,11,12,13,14,15,16,17,18],[0,1,2,3,7,9,10,11,12,13,14,15,16,17,18],[7,9,10,11,12,13,14,15,16,17,18],[7,9,10,11,12,13,14,15,16,17,18],[0,1,2,3,4,5,6,9,10,11,12,13,14,15,16,17,18],[9,10,11,12,13,14,15,16,17,18],[0,1,2,3,4,5,6,7,8,13,16,19],[0,1,2,3,4,5,6,7,8,13,16,19],[0,1,2,3,4,5,6,7,8,13,16,19],[0,1,2,3,4,5,6,7,8,13,16,19],[0,1,2,3,4,5,6,7,8,9,10,11,12,16,19],[0,1,2,3,4,5,6,7,8,16,19],[0,1,2,3,4,5,6,7,8,16,19],[0,1,2,3,4,5,6,7,8,9,10,11,12,13,14,15,19],[0,1,2,3,4,5,6,7,8,19],[0,1,2,3,4,5,6,7,8,19],[9,10,11,12,13,14,15,16,17,18],[]]
 |_=>[]
def amb:Nat->List (List Nat)
 |5=>[[4,5,6],[4,5,6],[4,5,6],[4,5,6],[0,1,2,3,7],[0,1,2,3,7],[0,1,2,3,7],[4,5,6],[]]
 |8=>[[4,5,11],[4,5,11],[4,5,11],[4,5,11],[0,1,2,3,11],[0,1,2,3,11],[11],[11],[9,10,11],[8,10,11,12],[8,9,11,12,13],[0,1,2,3,4,5,6,7,8,9,10],[9,10],[10],[]]
 |11=>[[4,5,6,7,13],[4,5,6,7,13],[4,5,6,7,13],[4,5,6,7,13],[0,1,2,3,6,7,13],[0,1,2,3,6,7,13],[0,1,2,3,4,5,13],[0,1,2,3,4,5,13],[13],[13],[11,12,13],[10,12,13,14],[10,11,13,14,15],[0,1,2,3,4,5,6,7,8,9,10,11,12],[11,12],[12],[]]
 |12=>[[1,2],[0,3],[0,3],[1,2],[]]
 |15=>[[4,5,11],[4,5,11],[4,5,11],[4,5,11],[0,1,2,3,11],[0,1,2,3,11],[11],[11],[9,10,11],[8,10,11,12],[8,9,11,12,13],[0,1,2,3,4,5,6,7,8,9,10],[9,10],[10],[]]
 |17=>[[1,2,3,4,5,6,7,8,9,10,13,14,15],[0,4,5,6,7,8,13,14,15],[0,4,5,6,7,8,13,14,15],[0,4,5,6,7,8,13,14,15],[0,1,2,3,5,6,7,8,13,14,15],[0,1,2,3,4,7,8,13,14,15],[0,1,2,3,4,7,8,13,14,15],[0,1,2,3,4,5,6,13,14,15],[0,1,2,3,4,5,6,13,14,15],[0,13,14,15],[0,13,14,15],[13,14,15],[13,14,15],[0,1,2,3,4,5,6,7,8,9,10,11,12,16],[0,1,2,3,4,5,6,7,8,9,10,11,12,16],[0,1,2,3,4,5,6,7,8,9,10,11,12,16],[13,14,15],[]]
 |29=>[[1,2,5,6,7],[0,5,6,7],[0,5,6,7],[5,6,7],[5,6,7],[0,1,2,3,4],[0,1,2,3,4],[0,1,2,3,4],[],[13],[13],[13],[13],[9,10,11,12],[]]
 |_=>[]
def amc:Nat->List (List Nat)
 |4=>[[1,2,7,8],[0,7,8],[0,7,8],[7,8],[7,8],[6,7,8],[5,7,8,9],[0,1,2,3,4,5,6,8],[0,1,2,3,4,5,6,7],[6],[]]
 |_=>[]
def amd:Nat->List (List Nat)
 |4=>[[1,2,4,6,7],[0,4,6,7],[0,4,6,7],[4,6,7],[0,1,2,3,6,7],[6,7],[0,1,2,3,4,5],[0,1,2,3,4,5],[]]
 |_=>[]
def ame:Nat->List (List Nat)
 |1=>[[1,4,5],[0,4,5],[4,5],[4,5],[0,1,2,3],[0,1,2,3],[]]
 |_=>[]
def amf:Nat->List (List Nat)
 |1=>[[1,4,5],[0,4,5],[4,5],[4,5],[0,1,2,3],[0,1,2,3],[]]
 |_=>[]
def amg:Nat->List (List Nat)
 |2=>[[2,3],[2,3],[0,1],[0,1],[]]
 |8=>[[2,4,7,8],[2,4,7,8],[0,1,4,7,8],[4,7,8],[0,1,2,3,7,8],[7,8],[7,8],[0,1,2,3,4,5,6],[0,1,2,3,4,5,6],[]]
 |9=>[[1,2,3,4,5,7,8,10,11,12,13,14,15],[0,3,7,8,10,11,12,13,14,15],[0,3,7,8,10,11,12,13,14,15],[0,1,2,7,8,10,11,12,13,14,15],[0,7,8,10,11,12,13,14,15],[0,7,8,10,11,12,13,14,15],[7,8,10,11,12,13,14,15],[0,1,2,3,4,5,6,10,11,12,13,14,15],[0,1,2,3,4,5,6,10,11,12,13,14,15],[10,11,12,13,14,15],[0,1,2,3,4,5,6,7,8,9,12],[0,1,2,3,4,5,6,7,8,9,12],[0,1,2,3,4,5,6,7,8,9,10,11],[0,1,2,3,4,5,6,7,8,9],[0,1,2,3,4,5,6,7,8,9],[0,1,2,3,4,5,6,7,8,9],[]]
 |_=>[]
def amh:Nat->List (List Nat)
 |8=>[[1,2,3,5,6,7],[0,2,3,5,6,7],[0,1,5,6,7],[0,1,5,6,7],[5,6,7],[0,1,2,3,4,8],[0,1,2,3,4,8],[0,1,2,3,4,8],[5,6,7],[]]
 |12=>[[1,2,3,4,5,6,8,9,10],[0,2,3,5,6,8,9,10],[0,1,3,5,6,8,9,10],[0,1,2,5,6,8,9,10],[0,5,6,8,9,10],[0,1,2,3,4,8,9,10],[0,1,2,3,4,8,9,10],[8,9,10],[0,1,2,3,4,5,6,7,11],[0,1,2,3,4,5,6,7,11],[0,1,2,3,4,5,6,7,11],[8,9,10],[]]
 |15=>[[1,2,3,5,6,7],[0,2,3,5,6,7],[0,1,5,6,7],[0,1,5,6,7],[5,6,7],[0,1,2,3,4,8],[0,1,2,3,4,8],[0,1,2,3,4,8],[5,6,7],[]]
 |_=>[]
def ami:Nat->List (List Nat)
 |8=>[[1,4,5,6,7],[0,4,5,6,7],[4,5,6,7],[4,5,6,7],[0,1,2,3,5],[0,1,2,3,4],[0,1,2,3],[0,1,2,3],[],[]]
 |_=>[]
def amj:Nat->List (List Nat)
 |13=>[[1],[0,2],[1],[]]
 |_=>[]
def amk:Nat->List (List Nat)
 |5=>[[8,9],[8,9],[8,9],[8,9],[8,9],[8,9],[8,9],[8,9],[0,1,2,3,4,5,6,7],[0,1,2,3,4,5,6,7],[]]
 |_=>[]
def aml:Nat->List (List Nat)
 |6=>[[1,2,3,4,5,6,7],[0,2,3,4,5,7],[0,1,4,5,7],[0,1,4,5,7],[0,1,2,3,7],[0,1,2,3,7],[0,7],[0,1,2,3,4,5,6],[],[]]
 |10=>[[2,3],[2,3],[0,1],[0,1],[]]
 |12=>[[2,3],[2,3],[0,1],[0,1],[]]
 |15=>[[1,2,3,5,6],[0,5,6],[0,5,6],[0,5,6],[5,6],[0,1,2,3,4],[0,1,2,3,4],[]]
 |17=>[[2,3],[2,3],[0,1],[0,1],[]]
 |_=>[]
def amm:Nat->List (List Nat)
 |5=>[[1,4,5,6,7,9],[0,4,5,6,7,9],[4,5,6,7,9],[4,5,6,7,9],[0,1,2,3,5,9],[0,1,2,3,4,9],[0,1,2,3,9],[0,1,2,3,9],[9],[0,1,2,3,4,5,6,7,8],[],[]]
 |_=>[]
def amn:Nat->List (List Nat)
 |4=>[[1,4,5,6,7],[0,4,5,6,7],[4,5,6,7],[4,5,6,7],[0,1,2,3,5],[0,1,2,3,4],[0,1,2,3],[0,1,2,3],[]]
 |6=>[[1,4,5,6,7],[0,4,5,6,7],[4,5,6,7],[4,5,6,7],[0,1,2,3,5],[0,1,2,3,4],[0,1,2,3],[0,1,2,3],[]]
 |_=>[]
def amo:Nat->List (List Nat)
 |5=>[[1,5,6,7,8,10],[0,5,6,7,8,10],[5,6,7,8,10],[5,6,7,8,10],[5,6,7,8,10],[0,1,2,3,4,6,10],[0,1,2,3,4,5,10],[0,1,2,3,4,10],[0,1,2,3,4,10],[10],[0,1,2,3,4,5,6,7,8,9],[],[]]
 |_=>[]
def amp:Nat->List (List Nat)
 |2=>[[2,3],[2,3],[0,1],[0,1],[]]
 |_=>[]
end Go.Am
end
section
namespace Go.Am
open Go Go.Proofs.Tryz
open Go.Proofs
set_option maxRecDepth 10000
abbrev zk:Nat->List Nat:=λ_=>[]
abbrev zg:Nat->List Gh:=λ_=>[]
abbrev zm:Nat->Bool:=λ_=>false
abbrev zf:aE:=⟨[],false,[],[],false⟩
abbrev zo:Nat->List (List Nat):=λ_=>[]
abbrev zl:Nat->List (Nat×Nat):=λ_=>[]
noncomputable def amq:List (Nat->List Nat):=[zk,zk,zk,zk,zk,zk,abE,zk,zk,zk,zk,zk,zk,WD,WE,WG,WH,zk,zk,zk,zk,zk,zk,WI,WJ,zk,zk,zk,zk,zk,WK,zk,zk,zk,WL,WM,WN,WO,WQ,WR,WS,WT,WU,WV,WW,zk,zk,zk,zk,zk,zk,zk,WX,zk,WY,zk,zk,WZ,zk,zk,W0,zk,zk,zk,zk,W1,W2,W3,W4,W5,W6,W7,W8,W9,Xa,zk,zk,zk,zk,zk,zk,zk,zk,zk,zk,zk,zk,zk,zk,Xb,Xc,zk,Xd,Xe,Xf,zk,zk,zk,zk,Xg,OA,zk,zk,zk,zk,zk,zk,zk,OB,OC,OD,OE,OF,OG,OH,OI,OJ,OK,OL,OM,ON,OO,OP,zk,zk,OQ,zk,zk,zk,zk,zk,zk,zk,zk,zk,zk,zk,OR,OS,OT,OU,OV,zk,zk,zk,zk,zk,zk,zk,zk,OW,OX,OY,OZ,O0,O1,O2,O3,zk,zk,zk,zk,zk,zk,zk,zk,O4,O5,O6,zk,zk,zk,zk,zk,zk,zk,zk,zk,zk,O7,O8,O9,Pa,Pb,Pc,Pd,Pe,Pf,Ph,Pj,Pk,Pm,Po,Pp,Pq,zk,zk,zk,zk,Pr,Ps,Pt,zk,zk,zk,zk,zk,Pu,Pv,Pw,Px,Py,Pz,PA,PB,PC,PD,PE,PF,PG,PH,PI,PJ,PK,PL,zk,zk,zk,zk,zk,zk,zk,zk,zk,zk,zk,zk,zk,zk,zk,zk,PN,PO,PQ,PT,PU,PV,PW,PX,PY,zk,zk,zk,PZ,P0,P1,P2,P3,P4,P5,P6,P7,P8,P9,Qa,zk,zk,zk,zk,zk,zk,zk,zk,zk,zk,zk,Qb,Qc,Qd,Qe,Qf,zk,zk,zk,zk,Qg,Qh,Qi,Qj,Qk,Ql,Qm,Qn,Qo,Qp,Qq,Qr,Qs,zk,zk,zk,zk,zk,zk,zk,zk,zk,Qt,Qu,Qv,Qw,Qx,zk,zk,Qy,Qz,QA,zk,QB,zk,zk,zk,zk,zk,zk,zk,zk,zk,zk,zk,zk,zk,zk,zk,zk,zk,zk,zk,zk,zk,zk,zk,zk]
noncomputable def ghL:List (Nat->List Gh):=[zg,zg,zg,zg,zg,zg,zg,zg,zg,zg,zg,zg,zg,zg,zg,zg,ag9,zg,zg,zg,zg,zg,zg,zg,zg,zg,zg,zg,zg,zg,zg,zg,zg,zg,zg,zg,zg,zg,zg,zg,zg,ahf,zg,zg,zg,zg,zg,zg,zg,zg,zg,zg,zg,zg,zg,zg,zg,ahj,zg,zg,ahl,zg,zg,zg,zg,zg,zg,zg,zg,zg,zg,zg,zg,ahp,zg,zg,zg,zg,zg,zg,zg,zg,zg,zg,zg,zg,zg,zg,zg,zg,zg,zg,zg,zg,zg,zg,zg,zg,zg,zg,zg,zg,zg,zg,zg,zg,zg,zg,zg,zg,zg,zg,zg,zg,zg,zg,zg,zg,zg,zg,zg,zg,zg,zg,zg,zg,zg,zg,zg,zg,zg,zg,zg,zg,zg,zg,zg,zg,zg,zg,zg,zg,zg,zg,zg,zg,zg,zg,zg,zg,zg,zg,zg,zg,zg,zg,zg,zg,zg,zg,zg,zg,zg,zg,zg,zg,zg,zg,zg,zg,zg,zg,zg,zg,zg,zg,zg,zg,zg,zg,zg,zg,zg,zg,zg,zg,zg,zg,ab3,zg,zg,zg,zg,zg,zg,zg,zg,zg,zg,zg,zg,zg,zg,zg,zg,zg,zg,zg,zg,zg,zg,zg,zg,zg,zg,zg,zg,zg,zg,zg,zg,zg,zg,zg,zg,zg,zg,zg,zg,zg,zg,zg,zg,zg,zg,zg,zg,zg,zg,zg,zg,zg,zg,zg,zg,zg,zg,zg,zg,zg,zg,zg,zg,zg,zg,zg,zg,zg,zg,zg,zg,zg,zg,zg,zg,zg,zg,zg,zg,zg,zg,zg,zg,zg,zg,zg,zg,zg,zg,zg,zg,zg,zg,zg,zg,zg,zg,zg,zg,zg,zg,zg,acX,ac1,zg,zg,ac7,zg,zg,zg,zg,zg,zg,zg,zg,zg,zg,zg,zg,zg,zg,zg,zg,zg,zg,zg,zg,zg,zg,zg,zg,zg,zg,zg,zg,zg,zg,zg,zg,zg,zg,zg,zg,zg,zg,zg,zg,zg,zg,zg,zg,zg,zg]
noncomputable def mdL:List (Nat->Bool):=[zm,zm,zm,zm,zm,zm,md6,zm,zm,zm,zm,zm,zm,zm,ag6,zm,zm,zm,zm,zm,zm,zm,zm,aha,ahb,zm,zm,zm,zm,zm,zm,zm,zm,zm,zm,ahc,zm,ahd,zm,zm,zm,zm,zm,zm,zm,zm,zm,zm,zm,zm,zm,zm,zm,zm,zm,zm,zm,zm,zm,zm,zm,zm,zm,zm,zm,zm,zm,zm,zm,ahn,zm,zm,zm,zm,zm,zm,zm,zm,zm,zm,zm,zm,zm,zm,zm,zm,zm,zm,zm,zm,zm,zm,zm,zm,zm,zm,zm,zm,zm,ahx,zm,zm,zm,zm,zm,zm,zm,zm,zm,zm,zm,zm,zm,zm,zm,zm,zm,zm,zm,zm,zm,zm,zm,zm,zm,zm,zm,zm,zm,zm,zm,zm,zm,zm,zm,zm,zm,zm,zm,zm,abO,zm,zm,zm,zm,zm,zm,zm,zm,zm,abR,zm,zm,zm,zm,zm,zm,zm,zm,zm,zm,zm,zm,zm,zm,zm,abY,zm,zm,zm,zm,zm,zm,zm,zm,zm,zm,zm,zm,abZ,zm,zm,zm,zm,zm,zm,zm,zm,zm,zm,zm,zm,zm,zm,zm,zm,zm,zm,zm,zm,zm,zm,zm,zm,zm,zm,zm,zm,zm,zm,acb,acd,ace,zm,zm,acf,zm,zm,zm,zm,zm,zm,zm,zm,zm,zm,zm,zm,zm,zm,zm,zm,zm,zm,zm,zm,zm,zm,zm,zm,zm,zm,zm,zm,zm,zm,zm,zm,acs,acv,zm,zm,zm,acx,zm,acA,zm,zm,zm,zm,zm,zm,zm,zm,zm,zm,zm,zm,zm,zm,zm,zm,zm,zm,zm,zm,zm,zm,zm,zm,zm,zm,zm,zm,zm,zm,acP,zm,zm,zm,zm,zm,zm,acZ,zm,zm,zm,zm,zm,zm,zm,zm,zm,zm,zm,zm,zm,zm,zm,ade,zm,zm,zm,zm,zm,zm,zm,zm,zm,zm,zm,zm,zm,zm,zm,zm,zm,zm,zm,zm,zm,zm,zm,zm,zm,zm,zm,zm,zm,zm,zm,zm,zm]
noncomputable def fpL:List (aE):=[zf,zf,zf,zf,zf,zf,fp6,zf,zf,zf,zf,zf,zf,Zz,ZA,ZB,ZC,zf,zf,zf,zf,zf,zf,ZD,ZE,zf,zf,zf,zf,zf,ZF,zf,zf,zf,ZG,ZH,ZI,ZJ,ZK,ZL,ZM,ZN,ZO,ZP,ZQ,zf,zf,zf,zf,zf,zf,zf,ZR,zf,ZS,zf,zf,Ll,zf,zf,ZT,zf,zf,zf,zf,ZU,ZV,ahm,ZW,ZX,ZY,ZZ,Z0,Z1,Z2,zf,zf,zf,zf,zf,zf,zf,zf,zf,zf,zf,zf,zf,zf,Z3,aht,zf,S7,Lm,ahw,zf,zf,zf,zf,Z4,S8,zf,zf,zf,zf,zf,zf,zf,S9,Ta,Tb,Tc,Td,Tf,Tg,Th,Ti,Tj,Tk,Tl,Tm,Tn,To,zf,zf,Tp,zf,zf,zf,zf,zf,zf,zf,zf,zf,zf,zf,abN,Tq,Ts,abP,abQ,zf,zf,zf,zf,zf,zf,zf,zf,Tt,Tu,Tv,Tw,abU,abV,abW,abX,zf,zf,zf,zf,zf,zf,zf,zf,Ty,Tz,TB,zf,zf,zf,zf,zf,zf,zf,zf,zf,zf,TC,TD,TE,TF,TG,TH,TI,TJ,TL,TM,TN,TO,TP,TQ,TR,TS,zf,zf,zf,zf,ab6,ab7,ab8,zf,zf,zf,zf,zf,ab9,TU,aca,TV,TW,TX,TY,TZ,T0,T1,ach,aci,ack,acm,aco,acp,acq,acr,zf,zf,zf,zf,zf,zf,zf,zf,zf,zf,zf,zf,zf,zf,zf,zf,T4,T6,T7,T8,T9,Ua,Ub,acu,acw,zf,zf,zf,acy,acz,acB,Uc,Ud,Ue,acD,acE,acF,acG,acI,acJ,zf,zf,zf,zf,zf,zf,zf,zf,zf,zf,zf,Uf,Ug,Uh,acL,acN,zf,zf,zf,zf,acO,acQ,Ui,acR,acT,acU,acV,acY,ac2,ac4,ac5,ac8,ac9,zf,zf,zf,zf,zf,zf,zf,zf,zf,ada,adb,adf,adg,adi,zf,zf,adj,adl,adm,zf,ado,zf,zf,zf,zf,zf,zf,zf,zf,zf,zf,zf,zf,zf,zf,zf,zf,zf,zf,zf,zf,zf,zf,zf,zf]
noncomputable def odL:List (Nat->List (List Nat)):=[zo,zo,zo,od3,od4,zo,zo,od7,od8,od9,zo,asQ,zo,zo,zo,ag7,ag8,zo,zo,asR,asS,zo,asT,zo,zo,zo,asU,zo,zo,zo,zo,zo,asV,asW,zo,zo,zo,ahe,zo,zo,zo,zo,zo,zo,ahg,zo,zo,asX,zo,asY,asZ,zo,zo,zo,ahh,as0,zo,ahi,as1,as2,ahk,zo,zo,as3,zo,zo,zo,zo,zo,zo,zo,zo,zo,aho,ahr,as4,zo,zo,zo,zo,as5,zo,zo,as6,as7,zo,as8,zo,as9,zo,zo,zo,ahu,ahv,zo,zo,zo,ata,atb,zo,zo,alQ,alR,zo,zo,zo,zo,zo,zo,abF,zo,abG,zo,abH,zo,abI,abJ,zo,abK,zo,zo,abL,zo,zo,zo,abM,alS,alT,zo,alU,alV,zo,zo,alW,zo,alX,alY,zo,zo,zo,zo,zo,zo,alZ,zo,zo,zo,zo,zo,al0,zo,abS,zo,abT,zo,zo,zo,zo,zo,al1,zo,al2,zo,al3,al4,al5,zo,zo,zo,zo,zo,zo,al6,zo,zo,zo,zo,al7,zo,zo,zo,ab0,zo,zo,zo,ab1,zo,ab2,zo,ab4,ab5,zo,zo,zo,zo,al8,zo,zo,zo,zo,zo,zo,al9,zo,zo,zo,ama,zo,zo,zo,zo,zo,zo,zo,zo,acg,zo,zo,zo,acj,zo,acn,zo,zo,zo,amb,zo,zo,zo,zo,zo,amc,zo,zo,amd,zo,ame,zo,amf,zo,amg,zo,zo,zo,zo,zo,zo,zo,zo,zo,zo,amh,zo,zo,zo,zo,zo,acC,zo,zo,zo,zo,zo,acH,zo,zo,zo,zo,zo,ami,amj,zo,amk,aml,zo,zo,zo,zo,zo,acK,acM,zo,zo,zo,zo,zo,zo,zo,zo,acS,zo,zo,acW,ac0,ac3,zo,ac6,zo,amm,amn,amo,zo,amp,zo,zo,zo,zo,zo,zo,zo,zo,adh,zo,zo,zo,adk,zo,zo,adn,zo,zo,zo,zo,zo,zo,zo,zo,zo,zo,zo,zo,zo,zo,zo,zo,zo,zo,zo,zo,zo,zo,zo,zo]
noncomputable def flL:List (Nat->List (Nat×Nat)):=[zl,zl,zl,zl,zl,zl,zl,zl,zl,zl,zl,zl,zl,zl,zl,zl,zl,zl,zl,zl,zl,zl,zl,zl,zl,zl,zl,zl,zl,zl,zl,zl,zl,zl,zl,zl,zl,zl,zl,zl,zl,zl,zl,zl,zl,zl,zl,zl,zl,zl,zl,zl,zl,zl,zl,zl,zl,zl,zl,zl,zl,zl,zl,zl,zl,zl,zl,zl,zl,zl,zl,zl,zl,ahq,ahs,zl,zl,zl,zl,zl,zl,zl,zl,zl,zl,zl,zl,zl,zl,zl,zl,zl,zl,zl,zl,zl,zl,zl,zl,zl,zl,zl,zl,zl,zl,zl,zl,zl,zl,zl,zl,zl,zl,zl,zl,zl,zl,zl,zl,zl,zl,zl,zl,zl,zl,zl,zl,zl,zl,zl,zl,zl,zl,zl,zl,zl,zl,zl,zl,zl,zl,zl,zl,zl,zl,zl,zl,zl,zl,zl,zl,zl,zl,zl,zl,zl,zl,zl,zl,zl,zl,zl,zl,zl,zl,zl,zl,zl,zl,zl,zl,zl,zl,zl,zl,zl,zl,zl,zl,zl,zl,zl,zl,zl,zl,zl,zl,zl,zl,zl,zl,zl,zl,zl,zl,zl,zl,zl,zl,zl,zl,zl,zl,zl,zl,zl,zl,zl,zl,zl,zl,zl,zl,zl,zl,zl,zl,zl,zl,zl,zl,zl,zl,zl,zl,zl,zl,zl,zl,zl,zl,zl,zl,zl,zl,zl,zl,zl,zl,zl,zl,zl,zl,zl,zl,zl,zl,zl,zl,zl,zl,zl,zl,zl,zl,zl,zl,zl,zl,zl,zl,zl,zl,zl,zl,zl,zl,zl,zl,zl,zl,zl,zl,zl,zl,zl,zl,zl,zl,zl,zl,zl,zl,zl,zl,zl,zl,zl,zl,zl,zl,zl,zl,zl,zl,zl,zl,zl,zl,zl,zl,zl,zl,zl,zl,zl,zl,zl,zl,zl,zl,zl,zl,zl,zl,zl,zl,zl,zl,zl,zl,zl,zl,zl,zl,zl,zl,zl,zl,zl,zl,zl,zl,zl,zl,zl,zl,zl,zl,zl,zl,zl,zl]
def b7:Type:=Int
variable [Inhabited b7]
def Ha:List Int:=[0,0,0,0,0,0,0,0,0,1,1,1,1,1,0,0,0,0,0,0,0,0,0,0,0,0,0,0,0,0,0,0,1,0,0,0,0,0,0,0,0,0,0,0,0,0,0,0,0,0,0,0,0,0,0,0,0,0,0,0,0,0,0,0,0,0,0,0,0,0,0,0,0,0,0,0,0,0,0,0,0,0,0,0,0,0,0,0,0,0,0,0,0,0,0,0,0,0,0,0,0,0,0,0,0,0,0,0,0,0,0,0,0,0,0,0,0,0,0,0,0,0,0,0,0,0,0,0,0,0,0,0,0,0,0,0,0,0,0,0,0,0,0,0,0,0,0,0,0,0,0,0,0,0,0,0,0,0,0,0,0,0,0,0,0,0,0,0,0,0,0,0,0,0,0,0,0,0,0,0,0,0,0,0,0,0,0,0,0,0,0,0,0,0,0,0,0,0,0,0,0,0,0,0,0,0,0,0,0,0,0,0,0,0,0,0,0,0,0,0,0,0,0,0,0,0,0,0,0,0,0,0,0,0,0,0,0,0,0,0,0,0,0,0,0,0,0,0,0,0,0,0,0,0,0,0]
def aI:List (Nat×D):=[(0,.agg (Ha.map λz=>.int .u8 z)),(2,.int .i64 (id (α:=Int) (default:b7)))]
@[simp] theorem aAN:Hy aI 0=some (.agg (Ha.map λz=>.int .u8 z)):=rfl
def Z5:FuncId->Option (List AV->Option AV)
 |207=>some (oX WB)
 |209=>some (oX Lk)
 |254=>some (oX WA)
 |_=>none
noncomputable def ctx:Ctx:=⟨Tryz.prog,aI,λf=>amq.getD f (λ_=>[]),λf=>ghL.getD f (λ_=>[]),λf=>mdL.getD f (λ_=>false),λf=>fpL.getD f ⟨[],false,[],[],false⟩,λf=>odL.getD f (λ_=>[]),Z5,λf=>flL.getD f (λ_=>[]),none⟩
@[simp] theorem aAO:ctx.P=Tryz.prog:=rfl
@[simp] theorem ay6:ctx.gl=aI:=rfl
@[simp] def bk(fn:Func):Code:=fn.body.getD .skip
abbrev EF(n:Nat)(k:Nat->List Nat)(g:Nat->List Gh)(m:Nat->Bool)(p:aE)(l:Nat->List (Nat×Nat))(o:Nat->List (List Nat)):Prop:=ctx.qV n=k/\ctx.gh n=g/\ctx.md n=m/\ctx.fp n=p/\ctx.fl n=l/\ctx.od n=o
abbrev RF(n c:Nat)(p:aE)(fn:Func)(rs:List ResultVar):Prop:=∀{args:List AV}{cs:List aH},oK c p args cs=true->ai ctx n args cs=aO ctx n (bk fn) (entry c aI args cs p.sites) (D5 Tryz.prog p cs.length rs)
@[simp] theorem E6:EF 6 abE zg md6 fp6 zl zo:=⟨rfl,rfl,rfl,rfl,rfl,rfl⟩
theorem atc:RF 6 95 fp6 f6 [.tmp 2]:=aB rfl rfl Tryz.func6 rfl (by kernel_rfl) Tryz.ntmps6 (by rw[Tryz.results6]) rfl rfl
@[simp] theorem E13:EF 13 WD zg zm Zz zl zo:=⟨rfl,rfl,rfl,rfl,rfl,rfl⟩
theorem amr:RF 13 18 Zz f13 [.tmp 2]:=aB rfl rfl Tryz.func13 rfl (by kernel_rfl) Tryz.ntmps13 (by rw[Tryz.results13]) rfl rfl
@[simp] theorem E14:EF 14 WE zg ag6 ZA zl zo:=⟨rfl,rfl,rfl,rfl,rfl,rfl⟩
theorem ams:RF 14 129 ZA f14 [.tmp 2]:=aB rfl rfl Tryz.func14 rfl (by kernel_rfl) Tryz.ntmps14 (by rw[Tryz.results14]) rfl rfl
@[simp] theorem E15:EF 15 WG zg zm ZB zl ag7:=⟨rfl,rfl,rfl,rfl,rfl,rfl⟩
theorem amt:RF 15 58 ZB f15 [.cell 2 30]:=aB rfl rfl Tryz.func15 rfl (by kernel_rfl) Tryz.ntmps15 (by rw[Tryz.results15]) rfl rfl
@[simp] theorem E16:EF 16 WH ag9 zm ZC zl ag8:=⟨rfl,rfl,rfl,rfl,rfl,rfl⟩
theorem amu:RF 16 51 ZC f16 [.cell 2 34,.tmp 3]:=aB rfl rfl Tryz.func16 rfl (by kernel_rfl) Tryz.ntmps16 (by rw[Tryz.results16]) rfl rfl
@[simp] theorem E23:EF 23 WI zg aha ZD zl zo:=⟨rfl,rfl,rfl,rfl,rfl,rfl⟩
theorem amv:RF 23 45 ZD f23 [.tmp 0]:=aB rfl rfl Tryz.func23 rfl (by kernel_rfl) Tryz.ntmps23 (by rw[Tryz.results23]) rfl rfl
@[simp] theorem E24:EF 24 WJ zg ahb ZE zl zo:=⟨rfl,rfl,rfl,rfl,rfl,rfl⟩
theorem Uj:RF 24 15 ZE f24 [.tmp 2]:=aB rfl rfl Tryz.func24 rfl (by kernel_rfl) Tryz.ntmps24 (by rw[Tryz.results24]) rfl rfl
@[simp] theorem E30:EF 30 WK zg zm ZF zl zo:=⟨rfl,rfl,rfl,rfl,rfl,rfl⟩
theorem amw:RF 30 8 ZF f30 [.cell 2 25]:=aB rfl rfl Tryz.func30 rfl (by kernel_rfl) Tryz.ntmps30 (by rw[Tryz.results30]) rfl rfl
@[simp] theorem E34:EF 34 WL zg zm ZG zl zo:=⟨rfl,rfl,rfl,rfl,rfl,rfl⟩
theorem amx:RF 34 21 ZG f34 [.tmp 4,.tmp 5]:=aB rfl rfl Tryz.func34 rfl (by kernel_rfl) Tryz.ntmps34 (by rw[Tryz.results34]) rfl rfl
@[simp] theorem E35:EF 35 WM zg ahc ZH zl zo:=⟨rfl,rfl,rfl,rfl,rfl,rfl⟩
theorem amy:RF 35 59 ZH f35 [.tmp 2]:=aB rfl rfl Tryz.func35 rfl (by kernel_rfl) Tryz.ntmps35 (by rw[Tryz.results35]) rfl rfl
@[simp] theorem E36:EF 36 WN zg zm ZI zl zo:=⟨rfl,rfl,rfl,rfl,rfl,rfl⟩
theorem amz:RF 36 24 ZI f36 [.tmp 2]:=aB rfl rfl Tryz.func36 rfl (by kernel_rfl) Tryz.ntmps36 (by rw[Tryz.results36]) rfl rfl
@[simp] theorem E37:EF 37 WO zg ahd ZJ zl ahe:=⟨rfl,rfl,rfl,rfl,rfl,rfl⟩
theorem amA:RF 37 258 ZJ f37 [.tmp 2]:=aB rfl rfl Tryz.func37 rfl (by kernel_rfl) Tryz.ntmps37 (by rw[Tryz.results37]) rfl rfl
@[simp] theorem E38:EF 38 WQ zg zm ZK zl zo:=⟨rfl,rfl,rfl,rfl,rfl,rfl⟩
theorem amB:RF 38 25 ZK f38 [.cell 4 64,.tmp 5]:=aB rfl rfl Tryz.func38 rfl (by kernel_rfl) Tryz.ntmps38 (by rw[Tryz.results38]) rfl rfl
@[simp] theorem E39:EF 39 WR zg zm ZL zl zo:=⟨rfl,rfl,rfl,rfl,rfl,rfl⟩
theorem amC:RF 39 18 ZL f39 [.tmp 2]:=aB rfl rfl Tryz.func39 rfl (by kernel_rfl) Tryz.ntmps39 (by rw[Tryz.results39]) rfl rfl
@[simp] theorem E40:EF 40 WS zg zm ZM zl zo:=⟨rfl,rfl,rfl,rfl,rfl,rfl⟩
theorem amD:RF 40 27 ZM f40 [.cell 6 30]:=aB rfl rfl Tryz.func40 rfl (by kernel_rfl) Tryz.ntmps40 (by rw[Tryz.results40]) rfl rfl
@[simp] theorem E41:EF 41 WT ahf zm ZN zl zo:=⟨rfl,rfl,rfl,rfl,rfl,rfl⟩
theorem amE:RF 41 51 ZN f41 [.cell 2 72]:=aB rfl rfl Tryz.func41 rfl (by kernel_rfl) Tryz.ntmps41 (by rw[Tryz.results41]) rfl rfl
@[simp] theorem E42:EF 42 WU zg zm ZO zl zo:=⟨rfl,rfl,rfl,rfl,rfl,rfl⟩
theorem amF:RF 42 16 ZO f42 []:=aB rfl rfl Tryz.func42 rfl (by kernel_rfl) Tryz.ntmps42 (by rw[Tryz.results42]) rfl rfl
@[simp] theorem E43:EF 43 WV zg zm ZP zl zo:=⟨rfl,rfl,rfl,rfl,rfl,rfl⟩
theorem adp:RF 43 16 ZP f43 []:=aB rfl rfl Tryz.func43 rfl (by kernel_rfl) Tryz.ntmps43 (by rw[Tryz.results43]) rfl rfl
@[simp] theorem E44:EF 44 WW zg zm ZQ zl ahg:=⟨rfl,rfl,rfl,rfl,rfl,rfl⟩
theorem Uk:RF 44 43 ZQ f44 [.tmp 6]:=aB rfl rfl Tryz.func44 rfl (by kernel_rfl) Tryz.ntmps44 (by rw[Tryz.results44]) rfl rfl
@[simp] theorem E52:EF 52 WX zg zm ZR zl zo:=⟨rfl,rfl,rfl,rfl,rfl,rfl⟩
theorem amG:RF 52 77 ZR f52 [.tmp 2]:=aB rfl rfl Tryz.func52 rfl (by kernel_rfl) Tryz.ntmps52 (by rw[Tryz.results52]) rfl rfl
@[simp] theorem E54:EF 54 WY zg zm ZS zl ahh:=⟨rfl,rfl,rfl,rfl,rfl,rfl⟩
theorem amH:RF 54 30 ZS f54 [.tmp 2]:=aB rfl rfl Tryz.func54 rfl (by kernel_rfl) Tryz.ntmps54 (by rw[Tryz.results54]) rfl rfl
@[simp] theorem E57:EF 57 WZ ahj zm Ll zl ahi:=⟨rfl,rfl,rfl,rfl,rfl,rfl⟩
theorem amI{args:List AV}{cs:List aH}(h:oK 25 Ll args cs=true):ai ctx 57 args cs=ky ctx 57 (bk f57) (entry 25 aI args cs Ll.sites) [] (FV ctx Ll cs.length [.cell 2 25,.cell 3 35,.cell 4 55]):=
 Wo rfl rfl Tryz.func57 rfl (by kernel_rfl) Tryz.ntmps57 (by rw[Tryz.results57]) rfl h
@[simp] theorem E60:EF 60 W0 ahl zm ZT zl ahk:=⟨rfl,rfl,rfl,rfl,rfl,rfl⟩
theorem amJ:RF 60 48 ZT f60 [.tmp 2]:=aB rfl rfl Tryz.func60 rfl (by kernel_rfl) Tryz.ntmps60 (by rw[Tryz.results60]) rfl rfl
@[simp] theorem E65:EF 65 W1 zg zm ZU zl zo:=⟨rfl,rfl,rfl,rfl,rfl,rfl⟩
theorem amK:RF 65 136 ZU f65 [.tmp 4,.tmp 5]:=aB rfl rfl Tryz.func65 rfl (by kernel_rfl) Tryz.ntmps65 (by rw[Tryz.results65]) rfl rfl
@[simp] theorem E66:EF 66 W2 zg zm ZV zl zo:=⟨rfl,rfl,rfl,rfl,rfl,rfl⟩
theorem amL:RF 66 15 ZV f66 [.tmp 2]:=aB rfl rfl Tryz.func66 rfl (by kernel_rfl) Tryz.ntmps66 (by rw[Tryz.results66]) rfl rfl
@[simp] theorem E67:EF 67 W3 zg zm ahm zl zo:=⟨rfl,rfl,rfl,rfl,rfl,rfl⟩
@[simp] theorem E68:EF 68 W4 zg zm ZW zl zo:=⟨rfl,rfl,rfl,rfl,rfl,rfl⟩
theorem amM:RF 68 27 ZW f68 [.tmp 2,.tmp 3,.tmp 4]:=aB rfl rfl Tryz.func68 rfl (by kernel_rfl) Tryz.ntmps68 (by rw[Tryz.results68]) rfl rfl
@[simp] theorem E69:EF 69 W5 zg ahn ZX zl zo:=⟨rfl,rfl,rfl,rfl,rfl,rfl⟩
theorem amN:RF 69 126 ZX f69 [.tmp 2]:=aB rfl rfl Tryz.func69 rfl (by kernel_rfl) Tryz.ntmps69 (by rw[Tryz.results69]) rfl rfl
@[simp] theorem E70:EF 70 W6 zg zm ZY zl zo:=⟨rfl,rfl,rfl,rfl,rfl,rfl⟩
theorem amO:RF 70 25 ZY f70 [.tmp 2]:=aB rfl rfl Tryz.func70 rfl (by kernel_rfl) Tryz.ntmps70 (by rw[Tryz.results70]) rfl rfl
@[simp] theorem E71:EF 71 W7 zg zm ZZ zl zo:=⟨rfl,rfl,rfl,rfl,rfl,rfl⟩
theorem nS:RF 71 242 ZZ f71 [.cell 6 30]:=aB rfl rfl Tryz.func71 rfl (by kernel_rfl) Tryz.ntmps71 (by rw[Tryz.results71]) rfl rfl
@[simp] theorem E72:EF 72 W8 zg zm Z0 zl zo:=⟨rfl,rfl,rfl,rfl,rfl,rfl⟩
theorem amP:RF 72 20 Z0 f72 [.tmp 2]:=aB rfl rfl Tryz.func72 rfl (by kernel_rfl) Tryz.ntmps72 (by rw[Tryz.results72]) rfl rfl
@[simp] theorem E73:EF 73 W9 ahp zm Z1 ahq aho:=⟨rfl,rfl,rfl,rfl,rfl,rfl⟩
theorem wi:RF 73 83 Z1 f73 []:=aB rfl rfl Tryz.func73 rfl (by kernel_rfl) Tryz.ntmps73 (by rw[Tryz.results73]) rfl rfl
@[simp] theorem E74:EF 74 Xa zg zm Z2 ahs ahr:=⟨rfl,rfl,rfl,rfl,rfl,rfl⟩
theorem amQ:RF 74 13 Z2 f74 []:=aB rfl rfl Tryz.func74 rfl (by kernel_rfl) Tryz.ntmps74 (by rw[Tryz.results74]) rfl rfl
@[simp] theorem E89:EF 89 Xb zg zm Z3 zl zo:=⟨rfl,rfl,rfl,rfl,rfl,rfl⟩
theorem amR:RF 89 17 Z3 f89 [.cell 2 153,.tmp 3]:=aB rfl rfl Tryz.func89 rfl (by kernel_rfl) Tryz.ntmps89 (by rw[Tryz.results89]) rfl rfl
@[simp] theorem E90:EF 90 Xc zg zm aht zl zo:=⟨rfl,rfl,rfl,rfl,rfl,rfl⟩
@[simp] theorem E92:EF 92 Xd zg zm S7 zl ahu:=⟨rfl,rfl,rfl,rfl,rfl,rfl⟩
theorem amS:RF 92 62 S7 f92 [.tmp 2,.tmp 3,.cell 4 55]:=aB rfl rfl Tryz.func92 rfl (by kernel_rfl) Tryz.ntmps92 (by rw[Tryz.results92]) rfl rfl
@[simp] theorem E93:EF 93 Xe zg zm Lm zl ahv:=⟨rfl,rfl,rfl,rfl,rfl,rfl⟩
theorem amT{args E:List AV}{H:AV}{cs:List aH}(I:args.getLast?=some H)(J:args.dropLast=E)(h:oK 22 Lm E cs=true):G6 ctx 93 args cs=we ctx 93 H (bk f93) (entry 22 aI E cs Lm.sites) (Jk Tryz.prog Lm cs.length []):=
 aeo Tryz.func93 rfl Tryz.ntmps93 (by rw[Tryz.results93]) rfl I J h
@[simp] theorem E94:EF 94 Xf zg zm ahw zl zo:=⟨rfl,rfl,rfl,rfl,rfl,rfl⟩
@[simp] theorem E99:EF 99 Xg zg ahx Z4 zl zo:=⟨rfl,rfl,rfl,rfl,rfl,rfl⟩
theorem amU:RF 99 105 Z4 f99 [.cell 2 114]:=aB rfl rfl Tryz.func99 rfl (by kernel_rfl) Tryz.ntmps99 (by rw[Tryz.results99]) rfl rfl
@[simp] theorem aBg:EF 100 OA zg zm S8 zl zo:=⟨rfl,rfl,rfl,rfl,rfl,rfl⟩
theorem ahy:RF 100 19 S8 f100 [.tmp 2]:=aB rfl rfl Tryz.func100 rfl (by kernel_rfl) Tryz.ntmps100 (by rw[Tryz.results100]) rfl rfl
@[simp] theorem aBh:EF 108 OB zg zm S9 zl zo:=⟨rfl,rfl,rfl,rfl,rfl,rfl⟩
theorem ahz:RF 108 44 S9 f108 [.tmp 4,.tmp 5]:=aB rfl rfl Tryz.func108 rfl (by kernel_rfl) Tryz.ntmps108 (by rw[Tryz.results108]) rfl rfl
@[simp] theorem aBi:EF 109 OC zg zm Ta zl abF:=⟨rfl,rfl,rfl,rfl,rfl,rfl⟩
theorem eW:RF 109 155 Ta f109 [.tmp 4,.cell 5 30]:=aB rfl rfl Tryz.func109 rfl (by kernel_rfl) Tryz.ntmps109 (by rw[Tryz.results109]) rfl rfl
@[simp] theorem aBj:EF 110 OD zg zm Tb zl zo:=⟨rfl,rfl,rfl,rfl,rfl,rfl⟩
theorem ahA:RF 110 27 Tb f110 [.cell 6 30]:=aB rfl rfl Tryz.func110 rfl (by kernel_rfl) Tryz.ntmps110 (by rw[Tryz.results110]) rfl rfl
@[simp] theorem aBk:EF 111 OE zg zm Tc zl abG:=⟨rfl,rfl,rfl,rfl,rfl,rfl⟩
theorem ahB:RF 111 91 Tc f111 [.cell 4 30]:=aB rfl rfl Tryz.func111 rfl (by kernel_rfl) Tryz.ntmps111 (by rw[Tryz.results111]) rfl rfl
@[simp] theorem aBl:EF 112 OF zg zm Td zl zo:=⟨rfl,rfl,rfl,rfl,rfl,rfl⟩
theorem ahC:RF 112 5 Td f112 []:=aB rfl rfl Tryz.func112 rfl (by kernel_rfl) Tryz.ntmps112 (by rw[Tryz.results112]) rfl rfl
@[simp] theorem aBm:EF 113 OG zg zm Tf zl abH:=⟨rfl,rfl,rfl,rfl,rfl,rfl⟩
theorem Xh:RF 113 49 Tf f113 []:=aB rfl rfl Tryz.func113 rfl (by kernel_rfl) Tryz.ntmps113 (by rw[Tryz.results113]) rfl rfl
@[simp] theorem aBn:EF 114 OH zg zm Tg zl zo:=⟨rfl,rfl,rfl,rfl,rfl,rfl⟩
theorem Xi:RF 114 49 Tg f114 []:=aB rfl rfl Tryz.func114 rfl (by kernel_rfl) Tryz.ntmps114 (by rw[Tryz.results114]) rfl rfl
@[simp] theorem aBo:EF 115 OI zg zm Th zl abI:=⟨rfl,rfl,rfl,rfl,rfl,rfl⟩
theorem ahD:RF 115 11 Th f115 []:=aB rfl rfl Tryz.func115 rfl (by kernel_rfl) Tryz.ntmps115 (by rw[Tryz.results115]) rfl rfl
@[simp] theorem aBp:EF 116 OJ zg zm Ti zl abJ:=⟨rfl,rfl,rfl,rfl,rfl,rfl⟩
theorem vh:RF 116 141 Ti f116 [.tmp 4]:=aB rfl rfl Tryz.func116 rfl (by kernel_rfl) Tryz.ntmps116 (by rw[Tryz.results116]) rfl rfl
@[simp] theorem aBq:EF 117 OK zg zm Tj zl zo:=⟨rfl,rfl,rfl,rfl,rfl,rfl⟩
theorem ahE:RF 117 22 Tj f117 []:=aB rfl rfl Tryz.func117 rfl (by kernel_rfl) Tryz.ntmps117 (by rw[Tryz.results117]) rfl rfl
@[simp] theorem aBr:EF 118 OL zg zm Tk zl abK:=⟨rfl,rfl,rfl,rfl,rfl,rfl⟩
theorem ahF:RF 118 47 Tk f118 []:=aB rfl rfl Tryz.func118 rfl (by kernel_rfl) Tryz.ntmps118 (by rw[Tryz.results118]) rfl rfl
@[simp] theorem aBs:EF 119 OM zg zm Tl zl zo:=⟨rfl,rfl,rfl,rfl,rfl,rfl⟩
theorem Xj:RF 119 7 Tl f119 []:=aB rfl rfl Tryz.func119 rfl (by kernel_rfl) Tryz.ntmps119 (by rw[Tryz.results119]) rfl rfl
@[simp] theorem aBt:EF 120 ON zg zm Tm zl zo:=⟨rfl,rfl,rfl,rfl,rfl,rfl⟩
theorem Ln:RF 120 9 Tm f120 [.tmp 4]:=aB rfl rfl Tryz.func120 rfl (by kernel_rfl) Tryz.ntmps120 (by rw[Tryz.results120]) rfl rfl
@[simp] theorem aBu:EF 121 OO zg zm Tn zl abL:=⟨rfl,rfl,rfl,rfl,rfl,rfl⟩
theorem ahG:RF 121 60 Tn f121 []:=aB rfl rfl Tryz.func121 rfl (by kernel_rfl) Tryz.ntmps121 (by rw[Tryz.results121]) rfl rfl
@[simp] theorem aBv:EF 122 OP zg zm To zl zo:=⟨rfl,rfl,rfl,rfl,rfl,rfl⟩
theorem ahH:RF 122 8 To f122 [.tmp 2]:=aB rfl rfl Tryz.func122 rfl (by kernel_rfl) Tryz.ntmps122 (by rw[Tryz.results122]) rfl rfl
@[simp] theorem aBw:EF 125 OQ zg zm Tp zl abM:=⟨rfl,rfl,rfl,rfl,rfl,rfl⟩
theorem Xk:RF 125 93 Tp f125 [.tmp 6,.tmp 7,.tmp 8]:=aB rfl rfl Tryz.func125 rfl (by kernel_rfl) Tryz.ntmps125 (by rw[Tryz.results125]) rfl rfl
@[simp] theorem aBx:EF 137 OR zg zm abN zl zo:=⟨rfl,rfl,rfl,rfl,rfl,rfl⟩
@[simp] theorem aBy:EF 138 OS zg zm Tq zl zo:=⟨rfl,rfl,rfl,rfl,rfl,rfl⟩
theorem ahI:RF 138 19 Tq f138 [.tmp 4]:=aB rfl rfl Tryz.func138 rfl (by kernel_rfl) Tryz.ntmps138 (by rw[Tryz.results138]) rfl rfl
@[simp] theorem aBz:EF 139 OT zg zm Ts zl zo:=⟨rfl,rfl,rfl,rfl,rfl,rfl⟩
theorem ahJ:RF 139 8 Ts f139 [.tmp 3]:=aB rfl rfl Tryz.func139 rfl (by kernel_rfl) Tryz.ntmps139 (by rw[Tryz.results139]) rfl rfl
@[simp] theorem aBA:EF 140 OU zg abO abP zl zo:=⟨rfl,rfl,rfl,rfl,rfl,rfl⟩
@[simp] theorem aBB:EF 141 OV zg zm abQ zl zo:=⟨rfl,rfl,rfl,rfl,rfl,rfl⟩
@[simp] theorem aBC:EF 150 OW zg abR Tt zl zo:=⟨rfl,rfl,rfl,rfl,rfl,rfl⟩
theorem ahK:RF 150 51 Tt f150 [.tmp 2]:=aB rfl rfl Tryz.func150 rfl (by kernel_rfl) Tryz.ntmps150 (by rw[Tryz.results150]) rfl rfl
@[simp] theorem aBD:EF 151 OX zg zm Tu zl abS:=⟨rfl,rfl,rfl,rfl,rfl,rfl⟩
theorem ahL:RF 151 12 Tu f151 [.tmp 2]:=aB rfl rfl Tryz.func151 rfl (by kernel_rfl) Tryz.ntmps151 (by rw[Tryz.results151]) rfl rfl
@[simp] theorem aBE:EF 152 OY zg zm Tv zl zo:=⟨rfl,rfl,rfl,rfl,rfl,rfl⟩
theorem ahM:RF 152 54 Tv f152 [.cell 4 55,.tmp 5]:=aB rfl rfl Tryz.func152 rfl (by kernel_rfl) Tryz.ntmps152 (by rw[Tryz.results152]) rfl rfl
@[simp] theorem aBF:EF 153 OZ zg zm Tw zl abT:=⟨rfl,rfl,rfl,rfl,rfl,rfl⟩
theorem ahN:RF 153 42 Tw f153 []:=aB rfl rfl Tryz.func153 rfl (by kernel_rfl) Tryz.ntmps153 (by rw[Tryz.results153]) rfl rfl
@[simp] theorem aBG:EF 154 O0 zg zm abU zl zo:=⟨rfl,rfl,rfl,rfl,rfl,rfl⟩
@[simp] theorem aBH:EF 155 O1 zg zm abV zl zo:=⟨rfl,rfl,rfl,rfl,rfl,rfl⟩
@[simp] theorem aBI:EF 156 O2 zg zm abW zl zo:=⟨rfl,rfl,rfl,rfl,rfl,rfl⟩
@[simp] theorem aBJ:EF 157 O3 zg zm abX zl zo:=⟨rfl,rfl,rfl,rfl,rfl,rfl⟩
@[simp] theorem aBK:EF 166 O4 zg abY Ty zl zo:=⟨rfl,rfl,rfl,rfl,rfl,rfl⟩
theorem ahO:RF 166 41 Ty f166 [.tmp 2,.tmp 3,.tmp 4]:=aB rfl rfl Tryz.func166 rfl (by kernel_rfl) Tryz.ntmps166 (by rw[Tryz.results166]) rfl rfl
@[simp] theorem aBL:EF 167 O5 zg zm Tz zl zo:=⟨rfl,rfl,rfl,rfl,rfl,rfl⟩
theorem ahP:RF 167 4 Tz f167 [.tmp 2]:=aB rfl rfl Tryz.func167 rfl (by kernel_rfl) Tryz.ntmps167 (by rw[Tryz.results167]) rfl rfl
@[simp] theorem aBM:EF 168 O6 zg zm TB zl zo:=⟨rfl,rfl,rfl,rfl,rfl,rfl⟩
theorem ahQ:RF 168 25 TB f168 [.cell 6 114]:=aB rfl rfl Tryz.func168 rfl (by kernel_rfl) Tryz.ntmps168 (by rw[Tryz.results168]) rfl rfl
@[simp] theorem aBN:EF 179 O7 zg abZ TC zl zo:=⟨rfl,rfl,rfl,rfl,rfl,rfl⟩
theorem ahR:RF 179 32 TC f179 [.cell 4 150,.tmp 5]:=aB rfl rfl Tryz.func179 rfl (by kernel_rfl) Tryz.ntmps179 (by rw[Tryz.results179]) rfl rfl
@[simp] theorem aBO:EF 180 O8 zg zm TD zl zo:=⟨rfl,rfl,rfl,rfl,rfl,rfl⟩
theorem ahS:RF 180 24 TD f180 [.cell 4 30]:=aB rfl rfl Tryz.func180 rfl (by kernel_rfl) Tryz.ntmps180 (by rw[Tryz.results180]) rfl rfl
@[simp] theorem aBP:EF 181 O9 zg zm TE zl ab0:=⟨rfl,rfl,rfl,rfl,rfl,rfl⟩
theorem ahT:RF 181 29 TE f181 [.tmp 4,.cell 5 64,.tmp 6]:=aB rfl rfl Tryz.func181 rfl (by kernel_rfl) Tryz.ntmps181 (by rw[Tryz.results181]) rfl rfl
@[simp] theorem aBQ:EF 182 Pa zg zm TF zl zo:=⟨rfl,rfl,rfl,rfl,rfl,rfl⟩
theorem ahU:RF 182 8 TF f182 []:=aB rfl rfl Tryz.func182 rfl (by kernel_rfl) Tryz.ntmps182 (by rw[Tryz.results182]) rfl rfl
@[simp] theorem aBR:EF 183 Pb zg zm TG zl zo:=⟨rfl,rfl,rfl,rfl,rfl,rfl⟩
theorem ahV:RF 183 9 TG f183 [.tmp 4]:=aB rfl rfl Tryz.func183 rfl (by kernel_rfl) Tryz.ntmps183 (by rw[Tryz.results183]) rfl rfl
@[simp] theorem aBS:EF 184 Pc zg zm TH zl zo:=⟨rfl,rfl,rfl,rfl,rfl,rfl⟩
theorem ahW:RF 184 14 TH f184 []:=aB rfl rfl Tryz.func184 rfl (by kernel_rfl) Tryz.ntmps184 (by rw[Tryz.results184]) rfl rfl
@[simp] theorem aBT:EF 185 Pd zg zm TI zl ab1:=⟨rfl,rfl,rfl,rfl,rfl,rfl⟩
theorem ahX:RF 185 49 TI f185 [.tmp 6,.cell 7 150,.tmp 8]:=aB rfl rfl Tryz.func185 rfl (by kernel_rfl) Tryz.ntmps185 (by rw[Tryz.results185]) rfl rfl
@[simp] theorem aBU:EF 186 Pe zg zm TJ zl zo:=⟨rfl,rfl,rfl,rfl,rfl,rfl⟩
theorem ahY:RF 186 19 TJ f186 [.tmp 4]:=aB rfl rfl Tryz.func186 rfl (by kernel_rfl) Tryz.ntmps186 (by rw[Tryz.results186]) rfl rfl
@[simp] theorem aBV:EF 187 Pf zg zm TL zl ab2:=⟨rfl,rfl,rfl,rfl,rfl,rfl⟩
theorem ahZ:RF 187 38 TL f187 []:=aB rfl rfl Tryz.func187 rfl (by kernel_rfl) Tryz.ntmps187 (by rw[Tryz.results187]) rfl rfl
@[simp] theorem aBW:EF 188 Ph ab3 zm TM zl zo:=⟨rfl,rfl,rfl,rfl,rfl,rfl⟩
theorem Xl:RF 188 42 TM f188 []:=aB rfl rfl Tryz.func188 rfl (by kernel_rfl) Tryz.ntmps188 (by rw[Tryz.results188]) rfl rfl
@[simp] theorem aBX:EF 189 Pj zg zm TN zl ab4:=⟨rfl,rfl,rfl,rfl,rfl,rfl⟩
theorem ah0:RF 189 42 TN f189 []:=aB rfl rfl Tryz.func189 rfl (by kernel_rfl) Tryz.ntmps189 (by rw[Tryz.results189]) rfl rfl
@[simp] theorem aBY:EF 190 Pk zg zm TO zl ab5:=⟨rfl,rfl,rfl,rfl,rfl,rfl⟩
theorem Xm:RF 190 44 TO f190 []:=aB rfl rfl Tryz.func190 rfl (by kernel_rfl) Tryz.ntmps190 (by rw[Tryz.results190]) rfl rfl
@[simp] theorem aBZ:EF 191 Pm zg zm TP zl zo:=⟨rfl,rfl,rfl,rfl,rfl,rfl⟩
theorem ah1:RF 191 34 TP f191 [.tmp 6,.tmp 7,.tmp 8]:=aB rfl rfl Tryz.func191 rfl (by kernel_rfl) Tryz.ntmps191 (by rw[Tryz.results191]) rfl rfl
@[simp] theorem aB0:EF 192 Po zg zm TQ zl zo:=⟨rfl,rfl,rfl,rfl,rfl,rfl⟩
theorem ah2:RF 192 33 TQ f192 [.tmp 6,.tmp 7,.tmp 8]:=aB rfl rfl Tryz.func192 rfl (by kernel_rfl) Tryz.ntmps192 (by rw[Tryz.results192]) rfl rfl
@[simp] theorem aB1:EF 193 Pp zg zm TR zl zo:=⟨rfl,rfl,rfl,rfl,rfl,rfl⟩
theorem ah3:RF 193 64 TR f193 [.tmp 6,.tmp 7,.tmp 8]:=aB rfl rfl Tryz.func193 rfl (by kernel_rfl) Tryz.ntmps193 (by rw[Tryz.results193]) rfl rfl
@[simp] theorem aB2:EF 194 Pq zg zm TS zl zo:=⟨rfl,rfl,rfl,rfl,rfl,rfl⟩
theorem ah4:RF 194 43 TS f194 [.tmp 6,.tmp 7,.tmp 8]:=aB rfl rfl Tryz.func194 rfl (by kernel_rfl) Tryz.ntmps194 (by rw[Tryz.results194]) rfl rfl
@[simp] theorem aB3:EF 199 Pr zg zm ab6 zl zo:=⟨rfl,rfl,rfl,rfl,rfl,rfl⟩
@[simp] theorem aB4:EF 200 Ps zg zm ab7 zl zo:=⟨rfl,rfl,rfl,rfl,rfl,rfl⟩
@[simp] theorem aB5:EF 201 Pt zg zm ab8 zl zo:=⟨rfl,rfl,rfl,rfl,rfl,rfl⟩
@[simp] theorem aB6:EF 207 Pu zg zm ab9 zl zo:=⟨rfl,rfl,rfl,rfl,rfl,rfl⟩
@[simp] theorem amV{args:List AV}{cs:List aH}:ai ctx 207 args cs=nr (oX WB) args cs:=Bv rfl rfl
@[simp] theorem aB7:EF 208 Pv zg zm TU zl zo:=⟨rfl,rfl,rfl,rfl,rfl,rfl⟩
theorem ah5:RF 208 8 TU f208 [.tmp 4]:=aB rfl rfl Tryz.func208 rfl (by kernel_rfl) Tryz.ntmps208 (by rw[Tryz.results208]) rfl rfl
@[simp] theorem aB8:EF 209 Pw zg zm aca zl zo:=⟨rfl,rfl,rfl,rfl,rfl,rfl⟩
@[simp] theorem amW{args:List AV}{cs:List aH}:ai ctx 209 args cs=nr (oX Lk) args cs:=Bv rfl rfl
@[simp] theorem aB9:EF 210 Px zg acb TV zl zo:=⟨rfl,rfl,rfl,rfl,rfl,rfl⟩
theorem ah6:RF 210 17 TV f210 [.tmp 2]:=aB rfl rfl Tryz.func210 rfl (by kernel_rfl) Tryz.ntmps210 (by rw[Tryz.results210]) rfl rfl
@[simp] theorem aCa:EF 211 Py zg acd TW zl zo:=⟨rfl,rfl,rfl,rfl,rfl,rfl⟩
theorem Xn:RF 211 20 TW f211 [.tmp 4]:=aB rfl rfl Tryz.func211 rfl (by kernel_rfl) Tryz.ntmps211 (by rw[Tryz.results211]) rfl rfl
@[simp] theorem aCb:EF 212 Pz zg ace TX zl zo:=⟨rfl,rfl,rfl,rfl,rfl,rfl⟩
theorem ah7:RF 212 13 TX f212 [.tmp 2]:=aB rfl rfl Tryz.func212 rfl (by kernel_rfl) Tryz.ntmps212 (by rw[Tryz.results212]) rfl rfl
@[simp] theorem aCc:EF 213 PA zg zm TY zl zo:=⟨rfl,rfl,rfl,rfl,rfl,rfl⟩
theorem ah8:RF 213 6 TY f213 [.tmp 2]:=aB rfl rfl Tryz.func213 rfl (by kernel_rfl) Tryz.ntmps213 (by rw[Tryz.results213]) rfl rfl
@[simp] theorem aCd:EF 214 PB zg zm TZ zl zo:=⟨rfl,rfl,rfl,rfl,rfl,rfl⟩
theorem ah9:RF 214 9 TZ f214 [.tmp 2]:=aB rfl rfl Tryz.func214 rfl (by kernel_rfl) Tryz.ntmps214 (by rw[Tryz.results214]) rfl rfl
@[simp] theorem aCe:EF 215 PC zg acf T0 zl acg:=⟨rfl,rfl,rfl,rfl,rfl,rfl⟩
theorem aia:RF 215 83 T0 f215 [.tmp 2,.tmp 3,.tmp 4]:=aB rfl rfl Tryz.func215 rfl (by kernel_rfl) Tryz.ntmps215 (by rw[Tryz.results215]) rfl rfl
@[simp] theorem aCf:EF 216 PD zg zm T1 zl zo:=⟨rfl,rfl,rfl,rfl,rfl,rfl⟩
theorem aib:RF 216 19 T1 f216 [.tmp 2]:=aB rfl rfl Tryz.func216 rfl (by kernel_rfl) Tryz.ntmps216 (by rw[Tryz.results216]) rfl rfl
@[simp] theorem aCg:EF 217 PE zg zm ach zl zo:=⟨rfl,rfl,rfl,rfl,rfl,rfl⟩
@[simp] theorem aCh:EF 218 PF zg zm aci zl zo:=⟨rfl,rfl,rfl,rfl,rfl,rfl⟩
@[simp] theorem aCi:EF 219 PG zg zm ack zl acj:=⟨rfl,rfl,rfl,rfl,rfl,rfl⟩
@[simp] theorem aCj:EF 220 PH zg zm acm zl zo:=⟨rfl,rfl,rfl,rfl,rfl,rfl⟩
@[simp] theorem aCk:EF 221 PI zg zm aco zl acn:=⟨rfl,rfl,rfl,rfl,rfl,rfl⟩
@[simp] theorem aCl:EF 222 PJ zg zm acp zl zo:=⟨rfl,rfl,rfl,rfl,rfl,rfl⟩
@[simp] theorem aCm:EF 223 PK zg zm acq zl zo:=⟨rfl,rfl,rfl,rfl,rfl,rfl⟩
@[simp] theorem aCn:EF 224 PL zg zm acr zl zo:=⟨rfl,rfl,rfl,rfl,rfl,rfl⟩
@[simp] theorem aCo:EF 241 PN zg zm T4 zl zo:=⟨rfl,rfl,rfl,rfl,rfl,rfl⟩
theorem aic:RF 241 19 T4 f241 [.tmp 4]:=aB rfl rfl Tryz.func241 rfl (by kernel_rfl) Tryz.ntmps241 (by rw[Tryz.results241]) rfl rfl
@[simp] theorem aCp:EF 242 PO zg zm T6 zl zo:=⟨rfl,rfl,rfl,rfl,rfl,rfl⟩
theorem aid:RF 242 8 T6 f242 [.tmp 3]:=aB rfl rfl Tryz.func242 rfl (by kernel_rfl) Tryz.ntmps242 (by rw[Tryz.results242]) rfl rfl
@[simp] theorem aCq:EF 243 PQ zg zm T7 zl zo:=⟨rfl,rfl,rfl,rfl,rfl,rfl⟩
theorem aie:RF 243 23 T7 f243 [.tmp 4,.tmp 5]:=aB rfl rfl Tryz.func243 rfl (by kernel_rfl) Tryz.ntmps243 (by rw[Tryz.results243]) rfl rfl
@[simp] theorem aCr:EF 244 PT zg zm T8 zl zo:=⟨rfl,rfl,rfl,rfl,rfl,rfl⟩
theorem aif:RF 244 23 T8 f244 [.tmp 4,.tmp 5]:=aB rfl rfl Tryz.func244 rfl (by kernel_rfl) Tryz.ntmps244 (by rw[Tryz.results244]) rfl rfl
@[simp] theorem aCs:EF 245 PU zg zm T9 zl zo:=⟨rfl,rfl,rfl,rfl,rfl,rfl⟩
theorem aih:RF 245 27 T9 f245 [.tmp 4,.tmp 5]:=aB rfl rfl Tryz.func245 rfl (by kernel_rfl) Tryz.ntmps245 (by rw[Tryz.results245]) rfl rfl
@[simp] theorem aCt:EF 246 PV zg zm Ua zl zo:=⟨rfl,rfl,rfl,rfl,rfl,rfl⟩
theorem aii:RF 246 19 Ua f246 [.tmp 4,.tmp 5]:=aB rfl rfl Tryz.func246 rfl (by kernel_rfl) Tryz.ntmps246 (by rw[Tryz.results246]) rfl rfl
@[simp] theorem aCu:EF 247 PW zg zm Ub zl zo:=⟨rfl,rfl,rfl,rfl,rfl,rfl⟩
theorem aij:RF 247 14 Ub f247 [.tmp 4,.tmp 5]:=aB rfl rfl Tryz.func247 rfl (by kernel_rfl) Tryz.ntmps247 (by rw[Tryz.results247]) rfl rfl
@[simp] theorem aCv:EF 248 PX zg acs acu zl zo:=⟨rfl,rfl,rfl,rfl,rfl,rfl⟩
@[simp] theorem aCw:EF 249 PY zg acv acw zl zo:=⟨rfl,rfl,rfl,rfl,rfl,rfl⟩
@[simp] theorem aCx:EF 253 PZ zg acx acy zl zo:=⟨rfl,rfl,rfl,rfl,rfl,rfl⟩
@[simp] theorem aCy:EF 254 P0 zg zm acz zl zo:=⟨rfl,rfl,rfl,rfl,rfl,rfl⟩
@[simp] theorem amX{args:List AV}{cs:List aH}:ai ctx 254 args cs=nr (oX WA) args cs:=Bv rfl rfl
@[simp] theorem aCz:EF 255 P1 zg acA acB zl zo:=⟨rfl,rfl,rfl,rfl,rfl,rfl⟩
@[simp] theorem aCA:EF 256 P2 zg zm Uc zl zo:=⟨rfl,rfl,rfl,rfl,rfl,rfl⟩
theorem aik:RF 256 9 Uc f256 [.tmp 4]:=aB rfl rfl Tryz.func256 rfl (by kernel_rfl) Tryz.ntmps256 (by rw[Tryz.results256]) rfl rfl
@[simp] theorem aCB:EF 257 P3 zg zm Ud zl acC:=⟨rfl,rfl,rfl,rfl,rfl,rfl⟩
theorem ail:RF 257 8 Ud f257 [.tmp 3]:=aB rfl rfl Tryz.func257 rfl (by kernel_rfl) Tryz.ntmps257 (by rw[Tryz.results257]) rfl rfl
@[simp] theorem aCC:EF 258 P4 zg zm Ue zl zo:=⟨rfl,rfl,rfl,rfl,rfl,rfl⟩
theorem aim:RF 258 20 Ue f258 [.tmp 2]:=aB rfl rfl Tryz.func258 rfl (by kernel_rfl) Tryz.ntmps258 (by rw[Tryz.results258]) rfl rfl
@[simp] theorem aCD:EF 259 P5 zg zm acD zl zo:=⟨rfl,rfl,rfl,rfl,rfl,rfl⟩
@[simp] theorem aCE:EF 260 P6 zg zm acE zl zo:=⟨rfl,rfl,rfl,rfl,rfl,rfl⟩
@[simp] theorem aCF:EF 261 P7 zg zm acF zl zo:=⟨rfl,rfl,rfl,rfl,rfl,rfl⟩
@[simp] theorem aCG:EF 262 P8 zg zm acG zl zo:=⟨rfl,rfl,rfl,rfl,rfl,rfl⟩
@[simp] theorem aCH:EF 263 P9 zg zm acI zl acH:=⟨rfl,rfl,rfl,rfl,rfl,rfl⟩
@[simp] theorem aCI:EF 264 Qa zg zm acJ zl zo:=⟨rfl,rfl,rfl,rfl,rfl,rfl⟩
@[simp] theorem aCJ:EF 276 Qb zg zm Uf zl zo:=⟨rfl,rfl,rfl,rfl,rfl,rfl⟩
theorem ain:RF 276 51 Uf f276 [.tmp 4,.tmp 5]:=aB rfl rfl Tryz.func276 rfl (by kernel_rfl) Tryz.ntmps276 (by rw[Tryz.results276]) rfl rfl
@[simp] theorem aCK:EF 277 Qc zg zm Ug zl zo:=⟨rfl,rfl,rfl,rfl,rfl,rfl⟩
theorem aio:RF 277 10 Ug f277 [.tmp 2]:=aB rfl rfl Tryz.func277 rfl (by kernel_rfl) Tryz.ntmps277 (by rw[Tryz.results277]) rfl rfl
@[simp] theorem aCL:EF 278 Qd zg zm Uh zl zo:=⟨rfl,rfl,rfl,rfl,rfl,rfl⟩
theorem aip:RF 278 24 Uh f278 [.tmp 4,.tmp 5]:=aB rfl rfl Tryz.func278 rfl (by kernel_rfl) Tryz.ntmps278 (by rw[Tryz.results278]) rfl rfl
@[simp] theorem aCM:EF 279 Qe zg zm acL zl acK:=⟨rfl,rfl,rfl,rfl,rfl,rfl⟩
@[simp] theorem aCN:EF 280 Qf zg zm acN zl acM:=⟨rfl,rfl,rfl,rfl,rfl,rfl⟩
@[simp] theorem aCO:EF 285 Qg zg zm acO zl zo:=⟨rfl,rfl,rfl,rfl,rfl,rfl⟩
@[simp] theorem aCP:EF 286 Qh zg acP acQ zl zo:=⟨rfl,rfl,rfl,rfl,rfl,rfl⟩
@[simp] theorem aCQ:EF 287 Qi zg zm Ui zl zo:=⟨rfl,rfl,rfl,rfl,rfl,rfl⟩
theorem aiq:RF 287 19 Ui f287 [.tmp 4]:=aB rfl rfl Tryz.func287 rfl (by kernel_rfl) Tryz.ntmps287 (by rw[Tryz.results287]) rfl rfl
@[simp] theorem aCR:EF 288 Qj zg zm acR zl zo:=⟨rfl,rfl,rfl,rfl,rfl,rfl⟩
@[simp] theorem aCS:EF 289 Qk zg zm acT zl acS:=⟨rfl,rfl,rfl,rfl,rfl,rfl⟩
@[simp] theorem aCT:EF 290 Ql zg zm acU zl zo:=⟨rfl,rfl,rfl,rfl,rfl,rfl⟩
@[simp] theorem aCU:EF 291 Qm zg zm acV zl zo:=⟨rfl,rfl,rfl,rfl,rfl,rfl⟩
@[simp] theorem aCV:EF 292 Qn acX zm acY zl acW:=⟨rfl,rfl,rfl,rfl,rfl,rfl⟩
@[simp] theorem aCW:EF 293 Qo ac1 acZ ac2 zl ac0:=⟨rfl,rfl,rfl,rfl,rfl,rfl⟩
@[simp] theorem aCX:EF 294 Qp zg zm ac4 zl ac3:=⟨rfl,rfl,rfl,rfl,rfl,rfl⟩
@[simp] theorem aCY:EF 295 Qq zg zm ac5 zl zo:=⟨rfl,rfl,rfl,rfl,rfl,rfl⟩
@[simp] theorem aCZ:EF 296 Qr ac7 zm ac8 zl ac6:=⟨rfl,rfl,rfl,rfl,rfl,rfl⟩
@[simp] theorem aC0:EF 297 Qs zg zm ac9 zl zo:=⟨rfl,rfl,rfl,rfl,rfl,rfl⟩
@[simp] theorem aC1:EF 307 Qt zg zm ada zl zo:=⟨rfl,rfl,rfl,rfl,rfl,rfl⟩
@[simp] theorem aC2:EF 308 Qu zg zm adb zl zo:=⟨rfl,rfl,rfl,rfl,rfl,rfl⟩
@[simp] theorem aC3:EF 309 Qv zg ade adf zl zo:=⟨rfl,rfl,rfl,rfl,rfl,rfl⟩
@[simp] theorem aC4:EF 310 Qw zg zm adg zl zo:=⟨rfl,rfl,rfl,rfl,rfl,rfl⟩
@[simp] theorem aC5:EF 311 Qx zg zm adi zl adh:=⟨rfl,rfl,rfl,rfl,rfl,rfl⟩
@[simp] theorem aC6:EF 314 Qy zg zm adj zl zo:=⟨rfl,rfl,rfl,rfl,rfl,rfl⟩
@[simp] theorem aC7:EF 315 Qz zg zm adl zl adk:=⟨rfl,rfl,rfl,rfl,rfl,rfl⟩
@[simp] theorem aC8:EF 316 QA zg zm adm zl zo:=⟨rfl,rfl,rfl,rfl,rfl,rfl⟩
@[simp] theorem aC9:EF 318 QB zg zm ado zl adn:=⟨rfl,rfl,rfl,rfl,rfl,rfl⟩
end Go.Am
end
section
namespace Go.Am
@[simp] def rr(t:fR):D:=.agg [.int .i64 t.kind,.str t.text,.int .i64 t.n,.int .i64 t.line,.int .i64 t.FY]
end Go.Am
end
section
namespace Go.Am
open Go
def dY(op:Int):Nat:=if op=4\/op=6\/op=7 then 1 else if 7<op then 2 else 0
mutual
def bz:Ex->Bool
 | .mk op n name field sub _=>
  !decide ((op=1/\n<0)\/(op=2/\(n<0\/1<n))\/(2<op/\n≠0)\/op<1\/21<op)&&
  (decide (sub.length=dY op)&&((if op=3\/op=4\/op=5 then dq name else decide (name=[]))&&((if op=5 then dq field else decide (field=[]))&&bO sub)))
def bO:List Ex->Bool
 |[]=>true
 |x::r=>bz x&&bO r
end
theorem jH:∀l:List Ex,bO l=true↔∀x∈l,bz x=true
 |[]=>by simp[bO]
 |x::r=>by simp[bO,jH r]
def dZ(x:Ex):Bool:=decide (b6 x=0)&&(decide (iK x=0)&&decide ((dU x).length+(ga x).length+(de x).length=0))
def ru(l:List Int):Bool:=!decide (l.length=0)&&(decide (l.length%2=0)&&l.all λn=>decide (n≠ -9223372036854775808))
def cF(op:Int)(conds E fields blocks:Nat):Bool:=
 if op=2 then decide (conds=max 1 conds)&&(decide (E=0)&&(decide (fields=0)&&(decide (max 1 conds<=blocks)&&decide (blocks<=max 1 conds+1))))
 else if op=3 then decide (conds=0)&&(decide (fields=0)&&(decide (E<=blocks)&&decide (blocks<=E+1)))
 else if op=4 then decide (conds=3)&&(decide (E=0)&&(decide (fields=0)&&decide (blocks=1)))
 else if op=5\/op=6 then decide (conds=0)&&(decide (E=0)&&(decide (fields=0)&&decide (blocks=1)))
 else if op=9 then decide (conds=fields)&&(decide (E=0)&&decide (blocks=0))
 else decide (conds=0)&&(decide (E=0)&&(decide (fields=0)&&decide (blocks=0)))
mutual
def jU:Sm->Bool
 | .mk op name to val conds E fields blocks _=>
  decide (1<=op/\op<=9)&&((if op=4\/op=9 then dq name else decide (name=[]))&&
  ((if op=1 then decide (b6 to=3\/b6 to=4)&&bz to else dZ to)&&
  ((if op=1\/op=3\/op=5\/op=6 then !dZ val&&bz val else dZ val)&&
  (bO conds&&(cF op conds.length E.length fields.length blocks.length&&
  (fields.all dq&&(E.all ru&&cW blocks)))))))
def eR:List Sm->Bool
 |[]=>true
 |x::r=>jU x&&eR r
def cW:List (List Sm)->Bool
 |[]=>true
 |b::r=>eR b&&cW r
end
def qh(k:Int):Bool:=(bJ k).length≠0
def dM(v:Vr):Bool:=
 dq v.name&&(decide (0<=v.sec/\v.sec<=2)&&(decide (v.ty=1\/v.ty=2)||qh v.ty)&&
 ((if v.arr=true then decide (v.ty<=2/\0<=v.lo/\v.lo<=v.hi/\v.hi<=255)else decide (v.lo=0/\v.hi=0))&&
 !decide (((v.arr=true\/2<v.ty)/\v.init≠0)\/(v.ty=2/\(v.init<0\/1<v.init))\/v.init= -9223372036854775808)))
def qi(p:Pg):Bool:=dq p.name&&(decide (p.vars.length<=64)&&(p.vars.all dM&&eR p.body))
abbrev EL:=Int×Int
def fJ(a b:EL):EL:=if a.1≠0 then a else b
def Iq(a:Te):EL:=(a.e,a.line)
def F5(vs:List Vr)(to val:Ex)(line:Int):EL:=
 match bq vs (dU to)with
 |none=>(9,kB to)
 |some v=>if v.sec=1 then (1,kB to)else fJ (Iq (aL vs to)) (fJ (Iq (aL vs val)) (if (aL vs val).t≠(aL vs to).t then (10,line)else (0,0)))
def lM(vs:List Vr)(t:Int):List Ex->EL
 |[]=>(0,0)
 |x::r=>fJ (dG vs x t) (lM vs t r)
def jm(vs:List Vr)(k line:Int):List Tx->List Ex->List Tx->EL
 |f::H,x::xs,p=>match mi k f with
  |none=>(9,line)
  |some q=>if q.Oz=false then (9,line)else if f∈p then (11,line)else fJ (dG vs x q.ty) (jm vs k line H xs (p++[f]))
 |_,_,_=>(0,0)
mutual
def kU(vs:List Vr)(D:Bool):Sm->EL
 | .mk op name to val conds _ fields blocks line=>
  if op=1 then F5 vs to val line
  else if op=2 then gf vs D conds blocks
  else if op=3 then fJ (dG vs val 1) (gf vs D [] blocks)
  else if op=4 then (match bq vs name with
   |none=>(9,line)
   |some v=>if v.sec=1 then (1,line)else if v.arr=true\/v.ty≠1 then (10,line)else fJ (lM vs 1 conds) (wj vs blocks))
  else if op=5 then fJ (dG vs val 2) (wj vs blocks)
  else if op=6 then fJ (wj vs blocks) (dG vs val 2)
  else if op=7 then (if D=true then (0,0)else (14,line))
  else if op=9 then (match bq vs name with
   |none=>(9,line)
   |some v=>if v.ty<=2 then (10,line)else jm vs v.ty line fields conds [])
  else (0,0)
def eX(vs:List Vr)(D:Bool):List Sm->EL
 |[]=>(0,0)
 |x::r=>fJ (kU vs D x) (eX vs D r)
def gf(vs:List Vr)(D:Bool):List Ex->List (List Sm)->EL
 |_,[]=>(0,0)
 |[],b::r=>fJ (eX vs D b) (gf vs D [] r)
 |c::cs,b::r=>fJ (dG vs c 2) (fJ (eX vs D b) (gf vs D cs r))
def wj(vs:List Vr):List (List Sm)->EL
 |[]=>(0,0)
 |b::_=>eX vs true b
end
def Ir:List Vr->List Vr->Int->EL
 |[],_,_=>(0,0)
 |v::r,p,n=>if (bq p v.name).isSome then (11,v.line)else if 1024<n+bV v then (13,v.line)else Ir r (p++[v]) (n+bV v)
def qj(p:Pg):EL:=fJ (Ir p.vars [] 0) (eX p.vars false p.body)
def qk{α:Type}(p:α->Bool):List α->Nat->Int
 |[],_=> -1
 |x::r,i=>if p x=true then i else qk p r (i+1)
theorem F6{α:Type}(p:α->Bool):∀(l:List α)(i:Nat),qk p l i= -1\/(i<=qk p l i/\qk p l i<i+l.length)
 |[],i=>.inl rfl
 |x::r,i=>by
  unfold qk;split
  ·right;simp;omega
  ·rcases F6 p r (i+1)with h|h
   ·exact .inl h
   ·right;simp only[abb];omega
end Go.Am
end
section
namespace Go.Am
open Go Go.Proofs
variable [Inhabited b7]
set_option maxRecDepth 20000
@[simp] theorem awo(a b:Tx):(a == b)=decide (a=b):=by by_cases h:a=b<;>simp[h]
end Go.Am
end
section
namespace Go.Am
open Go Go.Proofs Go.Proofs.Tryz
variable [Inhabited b7]
set_option maxRecDepth 20000
theorem atd:ai ctx 54 [.d (.int .i64 10)] []=some (.ret (.d (.list ((bJ 10).map dj))),[]):=bI 120 (by kernel_rfl)
theorem ate:ai ctx 54 [.d (.int .i64 11)] []=some (.ret (.d (.list ((bJ 11).map dj))),[]):=bI 120 (by kernel_rfl)
theorem atf:ai ctx 54 [.d (.int .i64 12)] []=some (.ret (.d (.list ((bJ 12).map dj))),[]):=bI 120 (by kernel_rfl)
theorem atg:ai ctx 54 [.d (.int .i64 13)] []=some (.ret (.d (.list ((bJ 13).map dj))),[]):=bI 120 (by kernel_rfl)
theorem ath:ai ctx 54 [.d (.int .i64 14)] []=some (.ret (.d (.list ((bJ 14).map dj))),[]):=bI 120 (by kernel_rfl)
theorem ati:ai ctx 54 [.d (.int .i64 15)] []=some (.ret (.d (.list ((bJ 15).map dj))),[]):=bI 120 (by kernel_rfl)
theorem atj:ai ctx 54 [.d (.int .i64 16)] []=some (.ret (.d (.list ((bJ 16).map dj))),[]):=bI 120 (by kernel_rfl)
theorem atk:ai ctx 54 [.d (.int .i64 17)] []=some (.ret (.d (.list ((bJ 17).map dj))),[]):=bI 120 (by kernel_rfl)
theorem atl:ai ctx 54 [.d (.int .i64 18)] []=some (.ret (.d (.list ((bJ 18).map dj))),[]):=bI 120 (by kernel_rfl)
theorem atm:ai ctx 54 [.d (.int .i64 20)] []=some (.ret (.d (.list ((bJ 20).map dj))),[]):=bI 120 (by kernel_rfl)
theorem atn:ai ctx 54 [.d (.int .i64 21)] []=some (.ret (.d (.list ((bJ 21).map dj))),[]):=bI 120 (by kernel_rfl)
theorem ato:ai ctx 54 [.d (.int .i64 22)] []=some (.ret (.d (.list ((bJ 22).map dj))),[]):=bI 120 (by kernel_rfl)
theorem atp:ai ctx 54 [.d (.int .i64 23)] []=some (.ret (.d (.list ((bJ 23).map dj))),[]):=bI 120 (by kernel_rfl)
theorem atq:ai ctx 54 [.d (.int .i64 24)] []=some (.ret (.d (.list ((bJ 24).map dj))),[]):=bI 120 (by kernel_rfl)
theorem atr:ai ctx 54 [.d (.int .i64 25)] []=some (.ret (.d (.list ((bJ 25).map dj))),[]):=bI 120 (by kernel_rfl)
theorem ats:ai ctx 54 [.d (.int .i64 26)] []=some (.ret (.d (.list ((bJ 26).map dj))),[]):=bI 120 (by kernel_rfl)
theorem att:ai ctx 54 [.d (.int .i64 27)] []=some (.ret (.d (.list ((bJ 27).map dj))),[]):=bI 120 (by kernel_rfl)
theorem atu:ai ctx 54 [.d (.int .i64 28)] []=some (.ret (.d (.list ((bJ 28).map dj))),[]):=bI 120 (by kernel_rfl)
theorem atv:ai ctx 54 [.d (.int .i64 29)] []=some (.ret (.d (.list ((bJ 29).map dj))),[]):=bI 120 (by kernel_rfl)
theorem atw:ai ctx 54 [.d (.int .i64 30)] []=some (.ret (.d (.list ((bJ 30).map dj))),[]):=bI 120 (by kernel_rfl)
theorem atx:ai ctx 54 [.d (.int .i64 31)] []=some (.ret (.d (.list ((bJ 31).map dj))),[]):=bI 120 (by kernel_rfl)
def ql:D->Option Int
 | .agg [.int .i64 k,.str _,.str _,.str _,.int .i64 _]=>some k
 |_=>none
theorem Dj{d:D}{k:Int}(h:ql d=some k):∃a b c n,d=.agg [.int .i64 k,.str a,.str b,.str c,.int .i64 n]:=by
 unfold ql at h;split at h
 ·rename_i A2 a b c n;cases h;exact⟨a,b,c,n,rfl⟩
 ·cases h
def QC:Option (Out×List (Nat×aH))->Option (List (Option Int))
 |some (.ret (.d (.list l)),[])=>some (l.map ql)
 |_=>none
theorem air:QC (aZ ctx 120 137 [] [])=some (jy.map some):=by kernel_rfl
theorem Z6:∃l:List D,ai ctx 137 [] []=some (.ret (.d (.list l)),[])/\l.map ql=jy.map some:=by
 have h:=air;generalize V:aZ ctx 120 137 [] []=r at h;unfold QC at h;split at h
 ·rename_i l;exact⟨l,bI 120 V,by simpa using h⟩
 ·cases h
theorem Z7(d:D)(k b:Int)(H:ql d=some k):ai ctx 139 [.d d,.ptr 0 0 0] [.box [.d (.int .i64 b)]]=some (.ret (.d (.bool (decide (k=b)))),[(0,.box [.d (.int .i64 b)])]):=by
 obtain⟨a,e,c,n,rfl⟩:=Dj H;rw[ahJ (by simp)];simp[f139]
theorem Dk(b:Int):∀(rest pre:List D),(∀d∈rest,∃k,ql d=some k/\k≠b)->(pre++rest).length<1000->∀k:Kt,
 aO ctx 138 (.loop (Code.at (bk f138) [1,0,1,0,0])) ⟨19,aI,[(0,true,.d (.list (pre++rest))),(1,true,.fn 139 [.ptr 0 0 0]),(7,true,.d (.int .i64 (pre++rest).length)),(8,true,.d (.int .i64 pre.length))],[⟨0,0,.box [.d (.int .i64 b)]⟩]⟩ k=
  k (.exit 0) ⟨19,aI,[(0,true,.d (.list (pre++rest))),(1,true,.fn 139 [.ptr 0 0 0]),(7,true,.d (.int .i64 (pre++rest).length)),(8,true,.d (.int .i64 (pre++rest).length)),(9,true,.d (.bool false))],[⟨0,0,.box [.d (.int .i64 b)]⟩]⟩
 |[],pre,h,I,k=>by
  rw[ah];simp[f138]
 |d::rest,pre,h,I,k=>by
  obtain⟨O,J,Y⟩:=h d (by simp);have T:=Z7 d O b J;obtain⟨Z,a2,a3,a4,rfl⟩:=Dj J;have ih:=Dk b rest (pre++[.agg [.int .i64 O,.str Z,.str a2,.str a3,.int .i64 a4]]) (λd H=>h d (by simp[H])) (by simpa using I) k;have M:(pre.length:Int)<pre.length+(rest.length+1):=by omega
  have y:IntKind.i64.wrap ((pre.length:Int)+1)=pre.length+1:=az (by unfold bj;simp at I;omega);simp[Y]at T;rw[ah];simp[f138]at ih⊢;simp[M,y,T,ih]
theorem Ul(b:Int)(E:b∉jy):ai ctx 54 [.d (.int .i64 b)] []=some (.ret (.d (.list [])),[]):=by
 obtain⟨l,I,hm⟩:=Z6;have A3:l.length=21:=by have:=agt List.length hm;simpa [jy]using this
 have A':∀d∈l,∃k,ql d=some k/\k≠b:=by
  intro d H;have M:ql d∈l.map ql:=adD H;rw[hm]at M;obtain⟨k,J,he⟩:=abz.1 M;exact⟨k,he.symm,λh=>E (h▸J)⟩
 have U:=Dk b l [] A' (by simp;omega);have A0:ai ctx 138 [.d (.list l),.fn 139 [.ptr 0 0 0]] [.box [.d (.int .i64 b)]]=some (.ret (.d (.int .i64 (-1))),[(0,.box [.d (.int .i64 b)])]):=by
  rw[ahI (by simp)];simp[f138]at U⊢;simp[U]
 have A1:ai ctx 89 [.d (.int .i64 b)] []=some (.ret (.bg [.d (.agg [.int .i64 0,.str [],.str [],.str [],.int .i64 0]),.d (.bool false)]),[]):=by
  rw[amR (by simp)];simp[f89,I,A0]
 rw[amH (by simp)];simp[f54,A1]
theorem QD(b:Int):ai ctx 54 [.d (.int .i64 b)] []=some (.ret (.d (.list ((bJ b).map dj))),[]):=by
 by_cases E:b∈jy
 ·simp only[jy,abd,afI,an2]at E;rcases E with rfl|rfl|rfl|rfl|rfl|rfl|rfl|rfl|rfl|rfl|rfl|rfl|rfl|rfl|rfl|rfl|rfl|rfl|rfl|rfl|rfl
  ·exact atd
  ·exact ate
  ·exact atf
  ·exact atg
  ·exact ath
  ·exact ati
  ·exact atj
  ·exact atk
  ·exact atl
  ·exact atm
  ·exact atn
  ·exact ato
  ·exact atp
  ·exact atq
  ·exact atr
  ·exact ats
  ·exact att
  ·exact atu
  ·exact atv
  ·exact atw
  ·exact atx
 ·rw[tW E];exact Ul b E
end Go.Am
end
section
namespace Go.Am
open Go Go.Proofs
variable [Inhabited b7]
set_option maxRecDepth 20000
def tA:Vr:=⟨[],0,0,false,0,0,0,0⟩
def fV(vs:List Vr)(s:Tx):Vr:=(bq vs s).getD tA
def wm:Pn:=⟨[],0,false⟩
def fP(k:Int)(s:Tx):Pn:=(mi k s).getD wm
end Go.Am
end
section
namespace Go.Am
open Go Go.Proofs Go.Proofs.Tryz
variable [Inhabited b7]
set_option maxRecDepth 20000
@[simp] def Um(t:Tx):D:=.str t
theorem F8(s:Tx)(l:List Tx)(A':l.length<=1000)(k:Kt)(R1 R2:bZ)
 (H:k .ret ⟨15,aI,[(2,true,.d (.bool true))],[]⟩=R1)
 (E:∀Y:Env,k (.exit 0) ⟨15,aI,Y,[]⟩=R2):∀(rest:List Tx)(j:Nat),l.drop j=rest->j+rest.length=l.length->
 aO ctx 66 (.loop (Code.at (bk f66) [1,0,1,0,0])) ⟨15,aI,[(0,true,.d (.str s)),(5,true,.d (.list (l.map Um))),(6,true,.d (.int .i64 l.length)),(7,true,.d (.int .i64 j))],[]⟩ k=if s∈rest then R1 else R2
 |[],j,J,I=>by
  have I:j=l.length:=by simpa using I
  subst I;rw[ah];simp[f66,E]
 |x::rest,j,J,I=>by
  have O:j<l.length:=by simp at I;omega
  have Z:l[j]=x:=by
   have:=agt (·[0]?) J;simp at this;simpa [O]using this
  have ih:=F8 s l A' k R1 R2 H E rest (j+1) (by rw[<-List.tail_drop,J];rfl) (by simp at I;omega);have T:IntKind.i64.wrap ((j:Int)+1)=(j:Int)+1:=az (by unfold bj;omega);rw[ah];by_cases A0:x=s
  ·simp[f66];simp[O,Z,A0,H]
  ·have A5:¬s=x:=λh=>A0 h.symm;simp[f66]at ih⊢;simp[O,Z,A0,A5,T,ih]
theorem Xo(s:Tx):ai ctx 66 [.d (.str s)] []=some (.ret (.d (.bool (wg s))),[]):=by
 have U:=λk R1 R2 H E=>F8 s kA (by decide) k R1 R2 H E kA 0 rfl (by decide);have e:List.map Um kA=kA.map Um:=rfl;have A9:kA.length=36:=rfl;have A6:List.range' 0 36=[0,1,2,3,4,5,6,7,8,9,10,11,12,13,14,15,16,17,18,19,20,21,22,23,24,25,26,27,28,29,30,31,32,33,34,35]:=rfl;rw[amL (by simp)];unfold wg;generalize A1:decide (s∈kA)=B;simp[f66,kA]at U;simp[f66,A6];rw[U _ (some (.ret (.d (.bool true)),[])) (some (.ret (.d (.bool false)),[])) (by simp) (by simp)];subst A1;by_cases hm:s∈kA
 ·rw[af7 hm];simp only[kA,abd,afI,an2]at hm;rw[abf hm]
 ·rw[decide_eq_false hm];simp only[kA,abd,afI,an2]at hm;rw[aa4 hm]
theorem F9(s:Tx)(A':s.length<=16)(k:Kt)(R1 R2:bZ)
 (H:k .ret ⟨59,aI,[(2,true,.d (.bool false))],[]⟩=R1)
 (E:∀Y:Env,k (.exit 0) ⟨59,aI,Y,[]⟩=R2):∀(rest:Tx)(j:Nat),s.drop j=rest->j+rest.length=s.length->
 aO ctx 35 (.loop (Code.at (bk f35) [1,1,0,1,0,0])) ⟨59,aI,[(0,true,.d (.str s)),(3,true,.d (.int .i64 j))],[]⟩ k=if wh rest j=true then R2 else R1
 |[],j,J,I=>by
  have I:j=s.length:=by simpa using I
  subst I;rw[ah];simp[f35,E,wh]
 |c::rest,j,J,I=>by
  have O:j<s.length:=by simp at I;omega
  have Z:jA s j=c:=by
   have:=agt (·[0]?) J;simp at this;simp[jA,this]
  have ih:=F9 s A' k R1 R2 H E rest (j+1) (by rw[<-List.tail_drop,J];rfl) (by simp at I;omega);have T:IntKind.i64.wrap ((j:Int)+1)=(j:Int)+1:=az (by unfold bj;omega);have key:wh (c::rest) j=((Zx c||(!decide (j=0)&&(decide (c=95)||Zy c)))&&wh rest (j+1)):=rfl;have A7:decide (c=95)=decide (c.toNat=95):=by
   rw[agx];exact⟨λh=>by rw[h];rfl,λh=>UInt8.toNat_inj.1 (by rw[h];rfl)⟩
  rw[key,A7];generalize wh rest (j+1)=B at*;rw[ah];simp[f35]at ih⊢;simp[O,Z,T,H,ih];unfold Zx Zy;grind
theorem fh(s:Tx):ai ctx 35 [.d (.str s)] []=some (.ret (.d (.bool (dq s))),[]):=by
 have hw:=Xo s;unfold dq;rw[amy (by simp)];by_cases H:s.length<1
 ·have E:¬1<=s.length:=by omega
  have M:(s.length:Int)<1:=by omega
  simp[f35,E,M]
 ·by_cases A2:16<s.length
  ·have E:1<=s.length:=by omega
   have M:¬(s.length:Int)<1:=by omega
   have V:¬s.length<=16:=by omega
   have y:(16:Int)<s.length:=by omega
   simp[f35,E,M,V,A2,y]
  ·have E:1<=s.length:=by omega
   have M:¬(s.length:Int)<1:=by omega
   have V:s.length<=16:=by omega
   have y:¬(16:Int)<s.length:=by omega
   cases A4:wg s with
   |true=>
    rw[A4]at hw;simp[f35,E,M,V,A2,y,hw]
   |false=>
    rw[A4]at hw;have U:=λk R1 R2 H E=>F9 s V k R1 R2 H E s 0 rfl (by simp);simp[f35]at U;simp[f35,E,M,V,A2,y,hw];rw[U _ (some (.ret (.d (.bool false)),[])) (some (.ret (.d (.bool true)),[])) (by simp) (by simp)];cases wh s 0<;>simp
theorem QE{x:Ex}(h:(dU x).length<100000000/\(ga x).length<100000000/\(de x).length<100000000):ai ctx 70 [.d (.agg [.int .i64 (b6 x),.int .i64 (iK x),.str (dU x),.str (ga x),.list ((de x).map bU),.int .i64 (kB x)])] []=some (.ret (.d (.bool (dZ x))),[]):=by
 have T:IntKind.i64.wrap ((dU x).length+(ga x).length:Int)=(dU x).length+(ga x).length:=az (by unfold bj;omega);have A8:IntKind.i64.wrap ((dU x).length+(ga x).length+(de x).length:Int)=(dU x).length+(ga x).length+(de x).length:=az (by unfold bj;omega);unfold dZ;generalize A1:decide ((dU x).length+(ga x).length+(de x).length=0)=B;rw[amO (by simp)];by_cases A3:b6 x=0
 ·by_cases H:iK x=0
  ·simp[f70,A3,H];rw[T,A8,<-A1,agx];omega
  ·simp[f70,A3,H]
 ·simp[f70,A3]
theorem Z8(op:Int):ai ctx 68 [.d (.int .i64 op)] []=some (.ret (.bg [.d (.bool (decide (op=4\/op=9))),.d (.bool (decide (op=1))),.d (.bool (decide (op=1\/op=3\/op=5\/op=6)))]),[]):=by
 rw[amM (by simp)];simp[f68];grind
end Go.Am
end
