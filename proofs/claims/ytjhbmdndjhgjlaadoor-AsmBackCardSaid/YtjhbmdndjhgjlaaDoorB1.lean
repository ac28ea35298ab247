/-
  Texts of one proof, one behind the other.
-/
import Derived.WalkKit
import Derived.Laws.Rows
import Derived.Laws.CopyRow
import Derived.Laws.StructEq
set_option linter.all false
namespace Go.Am
open Go
def Ds:=@Nat.le_refl
def D1:=@List.getElem?_eq_some_iff
def Xj:=@Option.map_eq_some_iff
def Xk:=@List.mem_of_getElem?
def Xl:=@Bool.and_eq_true
def Xm:=@List.mem_cons
def Xn:=@Option.some.injEq
def Xo:=@Nat.mul_le_mul_right
def Xp:=@List.getElem?_take
def Xq:=@if_neg
def Xr:=@List.getElem?_append_left
def Xs:=@Array.length_toList
def Xt:=@List.mem_map
def Xu:=@List.getElem?_append_right
def Xv:=@Array.getElem?_eq_some_iff
def Xw:=@List.mem_map_of_mem
def Xx:=@List.length_append
def Xy:=@List.mem_of_mem_drop
def Xz:=@if_pos
def XA:=@List.getElem?_map
def XB:=@Prod.mk.injEq
def XC:=@Nat.add_assoc
def XF:=@List.mem_of_mem_take
def XG:=@Array.getD_eq_getD_getElem?
def XH:=@List.eq_nil_of_length_eq_zero
def XI:=@List.mem_range
def XJ:=@List.getElem?_drop
def XK:=@decide_eq_true_eq
def XL:=@List.mem_append
def XM:=@List.getElem?_eq_getElem
def XN:=@List.all_eq_true
def XO:=@Nat.add_mul
def XP:=@Classical.axiomOfChoice
def XQ:=@List.getElem_mem
def XR:=@congrArg
def XS:=@List.size_toArray
def XT:=@List.mem_cons_of_mem
def XU:=@List.map_cons
def XV:=@List.mem_filter
def XW:=@of_decide_eq_true
def XX:=@List.getElem?_toArray
def XY:=@Array.getElem?_append_left
def XZ:=@Nat.add_zero
def X0:=@List.length_singleton
def X1:=@Array.getElem?_toList
def X2:=@List.append_nil
def X3:=@if_false
def X4:=@Option.bind_some
def X5:=@Option.bind_eq_some_iff
def X6:=@List.length_take
def X7:=@Ne.symm
def X8:=@Nat.zero_add
def X9:=@Nat.succ_mul
def Ya:=@List.filter_eq_nil_iff
def Yb:=@List.append_assoc
def Yc:=@Option.map_some
def Yd:=@List.getElem?_eq_none
def Ye:=@Option.getD_some
def Yf:=@Nat.lt_of_lt_of_le
def Yg:=@List.not_mem_nil
def Yh:=@if_true
def Yi:=@Option.some.inj
def Yj:=@List.range'_succ
def Yk:=@List.length_cons
def Yl:=@List.filter_filter
def Ym:=@List.filter_append
def Yn:=@List.take_append_drop
def Yo:=@Array.getElem?_eq_getElem
def Yp:=@Nat.min_eq_left
def Yq:=@Nat.le_add_left
def Yr:=@List.length_nil
def Ys:=@List.mem_iff_getElem
def Yt:=@Option.isSome_iff_exists
def Yu:=@List.length_drop
def Yv:=@Nat.mul_one
def Yw:=@List.take_of_length_le
def Yx:=@UInt8.toNat_inj
def Yy:=@List.nil_append
def Yz:=@List.dropLast_concat_getLast
def YA:=@Array.getElem?_modify
def YB:=@List.filter_congr
def YC:=@List.length_filter_lt_length_iff_exists
def YD:=@List.getD_eq_getElem?_getD
def YE:=@decide_eq_false_iff_not
def YF:=@Nat.le_succ
def YG:=@List.filter_cons_of_neg
def YH:=@Nat.le_trans
def YI:=@List.foldl_nil
def YJ:=@List.countP_cons
def YK:=@List.cons_append
def YL:=@List.all_cons
def YM:=@List.mem_append_left
def YN:=@List.getElem?_of_mem
def YO:=@Array.toArray_toList
end Go.Am
section
namespace Go.Am
open Go
set_option maxRecDepth 20000
set_option maxHeartbeats 4000000
inductive Ends(succ:Nat->List Nat):Nat->Prop
 |mk (i:Nat) (h:∀j∈succ i,Ends succ j):Ends succ i
inductive Way(succ:Nat->List Nat):Nat->Nat->Prop
 |one {i j} (h:j∈succ i):Way succ i j
 |more {i j k} (h:Way succ i j) (M:k∈succ j):Way succ i k
def Way.trans{succ:Nat->List Nat}{i j k:Nat}(h:Way succ i j)(M:Way succ j k):Way succ i k:=by
 induction M with
 |one N=>exact .more h N
 |more _ N ih=>exact .more ih N
mutual
def jc(succ:Nat->List Nat):Nat->Nat->List Nat->Bool×List Nat
 |0,_,A=>(true,A)
 |f+1,at_,A=>if A.getD at_ 0≠0 then (A.getD at_ 0 == 1,A)else
  match gQ succ f (succ at_) (A.set at_ 1)with
  |(true,s)=>(true,s)
  |(false,s)=>(false,s.set at_ 2)
def gQ(succ:Nat->List Nat):Nat->List Nat->List Nat->Bool×List Nat
 |_,[],A=>(false,A)
 |f,n::r,A=>match jc succ f n A with
  |(true,s)=>(true,s)
  |(false,s)=>gQ succ f r s
end
def fresh(A:List Nat):Nat:=A.countP (·== 0)
structure tu(succ:Nat->List Nat)(A H:List Nat):Prop where
 len:H.length=A.length
 KA:∀i,H.getD i 0=1↔A.getD i 0=1
 black:∀i,A.getD i 0=2->H.getD i 0=2
 KB:(∀i,A.getD i 0<=2)->∀i,H.getD i 0<=2
 ends:(∀i,A.getD i 0=2->Ends succ i)->∀i,H.getD i 0=2->Ends succ i
 fresh:fresh H<=fresh A
def tu.refl(succ:Nat->List Nat)(s:List Nat):tu succ s s:=⟨rfl,λ_=>Iff.rfl,λ_ h=>h,λh=>h,λh=>h,Ds _⟩
def tu.trans{succ:Nat->List Nat}{a b c:List Nat}(h:tu succ a b)(k:tu succ b c):tu succ a c:=
 ⟨by rw[k.len,h.len],λi=>(k.KA i).trans (h.KA i),λi hi=>k.black i (h.black i hi),λI=>k.KB (h.KB I),λhe=>k.ends (h.ends he),YH k.fresh h.fresh⟩
def ED{l:List Nat}{i v:Nat}(h:l.getD i 0=0)(hi:i<l.length)(I:v≠0):fresh (l.set i v)+1=fresh l:=by
 induction l generalizing i with
 |nil=>simp at hi
 |cons x r ih=>
  cases i with
  |zero=>
   simp at h;subst h;simp[fresh,I]
  |succ i=>
   have D:=ih (i:=i) (by simpa using h) (by simpa using hi);unfold fresh at D⊢;simp only[List.set_cons_succ,YJ];omega
def rK{l:List Nat}{i v:Nat}(I:v≠0):fresh (l.set i v)<=fresh l:=by
 induction l generalizing i with
 |nil=>simp
 |cons x r ih=>
  cases i with
  |zero=>
   simp only[fresh,List.set_cons_zero,YJ];simp[I]
  |succ i=>
   have D:=ih (i:=i);unfold fresh at D⊢;simp only[List.set_cons_succ,YJ];omega
def rounds(succ:Nat->List Nat)(f:Nat):List Nat->List Nat->Bool
 |[],_=>false
 |n::r,A=>match jc succ f n A with
  |(true,_)=>true
  |(false,s)=>rounds succ f r s
def left(g:List Bool):Nat:=g.countP (·== false)
structure pR(succ:Nat->List Nat)(s E:List Bool×Bool):Prop where
 len:E.1.length=s.1.length
 ends:(∀i<s.1.length,s.1.getD i true=true->Ends succ i)->∀i<s.1.length,E.1.getD i true=true->Ends succ i
 less:E.2=true->s.2=false->left E.1<left s.1
 le:left E.1<=left s.1
 more:s.2=true->E.2=true
 same:E.2=false->E=s
def pR.trans{succ:Nat->List Nat}{a b c:List Bool×Bool}(h:pR succ a b)(k:pR succ b c):pR succ a c:=
 ⟨by
  rw[k.len,h.len],λhe=>by have:=k.ends;rw[h.len]at this;exact this (h.ends he),λD M=>by
  cases J:b.2 with
  |true=>exact Nat.lt_of_le_of_lt k.le (h.less J M)
  |false=>exact Yf (k.less D J) h.le,YH k.le h.le,λD=>k.more (h.more D),λD=>by
  cases J:b.2 with
  |true=>rw[k.more J]at D;cases D
  |false=>rw[k.same D,h.same J]⟩
structure Ins where
 op:Int
 a:Int
 b:Int
 n:Int
 m:Int
def eD(cells at_ n:Int):Bool:=decide (0<=at_)&&decide (0<=n)&&decide (n<=cells)&&decide (at_<=cells-n)
def vt(x:Ins):Bool:=
 if x.a=0 then decide (x.b=6)||decide (8<=x.b)&&decide (x.b<=18)
 else if x.a=1 then decide (x.b=7)||decide (x.b=13)||decide (x.b=14)||decide (19<=x.b)&&decide (x.b<=21)
 else false
def jY(cells:Int)(x:Ins):Bool:=decide (0<=x.n)&&decide (x.n<=x.m)&&decide (x.m<=255)&&eD cells x.a (x.m-x.n+1)
def cV(A:Int->Nat)(cells last at_:Int)(x:Ins):Bool:=
 if x.op=1\/x.op=11 then true
 else if x.op=2\/x.op=3\/x.op=6\/x.op=14 then eD cells x.a 1
 else if x.op=13 then eD cells x.a 1&&eD cells x.b 2
 else if x.op=4\/x.op=5\/x.op=7 then jY cells x
 else if x.op=8 then vt x
 else if x.op=9\/x.op=10 then decide (0<=x.a)&&decide (x.a<=last)
 else if x.op=12 then decide (0<A x.b)&&eD cells x.a (A x.b)
 else if x.op=15 then decide (at_=last)
 else false
def lG(A:Int->Nat)(cells last:Int):Nat->List Ins->Bool
 |_,[]=>true
 |i,x::r=>cV A cells last i x&&lG A cells last (i+1) r
def hY(n:Nat)(t:Bool)(S:List Bool):Option (List Bool):=
 if S.length<n then none else if t&&(S.drop (S.length-n)).any (λb=>!b)then none else some (S.take (S.length-n))
def cE(t:Bool)(S:List Bool):Option (List Bool):=if S.length<64 then some (S++[t])else none
def lH(S:List Bool):Option (List Bool):=if S=[]then some []else none
def lI(x:Ins)(S:List Bool):Option (List Bool):=
 if x.op=1 then cE (decide (x.n=0)||decide (x.n=1)) S
 else if x.op=2 then cE false S
 else if x.op=3\/x.op=13\/x.op=14 then cE true S
 else if x.op=4 then (hY 1 false S).bind (cE false)
 else if x.op=5 then (hY 1 false S).bind (cE true)
 else if x.op=6 then hY 1 false S
 else if x.op=7 then hY 2 false S
 else if x.op=8 then (hY (if x.b=6\/x.b=7 then 1 else 2) (decide (x.a=1)) S).bind (cE (decide (x.b=7)||decide (13<=x.b)))
 else if x.op=10 then (hY 1 true S).bind lH
 else lH S
def dp(E:List Bool):Nat->List Ins->List Bool->Bool
 |_,[],_=>true
 |i,x::r,S=>if E.getD i false&&!S.isEmpty then false else match lI x S with
  |none=>false
  |some H=>dp E (i+1) r H
def ll(ins:List Ins):List Bool:=ins.foldl (λl x=>if x.op=9\/x.op=10 then l.set x.a.toNat true else l) (List.replicate ins.length false)
def IE(ins:List Ins)(i:Nat):List Nat:=
 match ins[i]? with
 |none=>[]
 |some x=>if x.op=9 then [x.a.toNat]else if x.op=10 then [i+1,x.a.toNat]else if x.op=15 then []else [i+1]
def eQ(ins:List Ins)(i:Nat):Bool:=
 match ins[i]? with
 |none=>false
 |some x=>decide (x.op=11)
def IF(ins:List Ins)(i:Nat):List Nat:=if eQ ins i=true then []else IE ins i
def dq(ins:List Ins)(i:Nat):List Nat:=(IF ins i).filter λj=>!eQ ins j
def vu(n vars cells:Int)(pe:Int):Bool:=decide (1<=n)&&decide (n<=4096)&&decide (0<=cells)&&decide (cells<=8192)&&decide (0<=vars)&&decide (vars<=cells)&&decide (pe=15)
def pe(ins:List Ins):Int:=(ins.getLast?.map (·.op)).getD 0
def iJ(A:Int->Nat)(ins:List Ins)(vars cells:Int):Bool:=vu ins.length vars cells (pe ins)&&lG A cells ((ins.length:Int)-1) 0 ins
def fx(A:Int->Nat)(ins:List Ins)(vars cells:Int):Bool:=
 iJ A ins vars cells&&dp (ll ins) 0 ins []&&!(rounds (dq ins) (ins.length+1) (List.range ins.length) (List.replicate ins.length 0))
def rL{A:Int->Nat}{cells last:Int}:∀{ins:List Ins}{i0:Nat},lG A cells last i0 ins=true->∀i x,ins[i]?=some x->cV A cells last ((i0+i:Nat):Int) x=true
 |y::r,i0,h,i,x,D=>by
  simp only[lG,Xl]at h;cases i with
  |zero=>simp at D;subst D;exact h.1
  |succ i=>
   have:=rL h.2 i x (by simpa using D);rw[show i0+(i+1)=i0+1+i by omega];exact this
inductive D where
 |int (k:IntKind) (n:Int)
 |bool (b:Bool)
 |str (s:List UInt8)
 |list (xs:List D)
 |agg (cs:List D)
 |jd
def D.size:D->Nat
 | .agg cs=>cs.length
 |_=>1
def D.flat:D->Bool
 | .agg _=>false
 |_=>true
def ba:Value->Bool
 | .agg _=>false
 | .tuple _=>false
 |_=>true
def bX{v:Value}(h:ba v=true):v.cells=#[v]:=by cases v<;>simp_all [ba,Value.cells]
inductive aq(w:World)(F:Nat->Prop):D->Value->Prop
 |int (k n):aq w F (.int k n) (.int k n)
 |bool (b):aq w F (.bool b) (.bool b)
 |jd (v:Value) (h:v=.nilIface\/∃t p,v=.iface t p):aq w F .jd v
 |str (b:ByteArray) (s:List UInt8) (h:b.data.toList=s):aq w F (.str s) (.string b)
 |agg (cs:List D) (a:Array Value) (E:cs.length=a.size)
  (W:∀d∈cs,d.flat=true) (I:∀(i:Nat)(d:D)(v:Value),cs[i]?=some d->a[i]?=some v->aq w F d v):aq w F (.agg cs) (.agg a)
 |nil (a:Option Addr) (cap:Nat) (A1:a=none->cap=0):aq w F (.list []) (.slice a 0 cap)
 |list (xs:List D) (b off cap sz:Nat) (vs:Nat->Value) (A2:xs.length<=cap) (O:b<w.heap.size) (M:¬F b) (A3:∀d∈xs,d.size=sz)
  (N:∀(i:Nat)(d:D),xs[i]?=some d->aq w F d (vs i))
  (I:∀(i j:Nat)(c:Value),i<xs.length->(vs i).cells[j]?=some c->w.cell? ⟨b,off+i*sz+j,none⟩=some c):
  aq w F (.list xs) (.slice (some ⟨b,off,none⟩) xs.length cap)
def aq.size{w F d v}(h:aq w F d v):v.cells.size=d.size:=by
 cases h
 case jd h=>rcases h with rfl|⟨t,p,rfl⟩<;>rfl
 all_goals simp_all [D.size,Value.cells]
def aq.one{w F d v}(h:aq w F d v)(W:d.flat=true):ba v=true:=by
 cases h
 case jd h=>rcases h with rfl|⟨t,p,rfl⟩<;>rfl
 all_goals simp_all [D.flat,Am.ba]
def fK{w w':World}{b o:Nat}(h:w'.heap[b]?=w.heap[b]?):w'.cell? ⟨b,o,none⟩=w.cell? ⟨b,o,none⟩:=by
 simp[World.cell?,h]
def aq.mono{w w':World}{F F':Nat->Prop}{d v}(h:aq w F d v)
 (Y:∀b,b<w.heap.size->¬F b->w'.heap[b]?=w.heap[b]?) (q:w.heap.size<=w'.heap.size) (M:∀b,b<w.heap.size->F' b->F b):aq w' F' d v:=by
 induction h with
 |int k n=>exact .int k n
 |bool b=>exact .bool b
 |jd v h=>exact .jd v h
 |str b s h=>exact .str b s h
 |agg cs a E W _ ih=>exact .agg cs a E W ih
 |nil a cap A1=>exact .nil a cap A1
 |list xs b off cap sz vs A2 O Z A3 _ I ih=>
  exact .list xs b off cap sz vs A2 (by omega) (λh=>Z (M b O h)) A3 ih (λi j c hi A8=>by
   rw[fK (Y b O Z)];exact I i j c hi A8)
def my:Nat:=1000000
inductive AV where
 |aA
 |d (x:D)
 |agg (cs:List AV)
 |ptr (k U off:Nat)
 |tn (k U:Nat) (t:TypeId)
 |vec (k U off len:Nat)
 |bb (k U i j:Nat)
 |bR (x:D) (j:Nat)
 |fn (f:FuncId) (cap:List AV)
 |bc (vs:List AV)
 |dF (t:TypeId) (x:D)
 |lit (v:Value)
 |nn
 |err
structure Loc where
 U:Nat
 a7:Nat
 sz:Nat
 cap:Nat
 base:Nat
 bJ:List (Option Nat):=[]
 ty:Option TypeId:=none
abbrev aQ:=Nat->Option Loc
inductive ai(φ:aQ)(w:World)(F:Nat->Prop):AV->Value->Prop
 |aA (v):ai φ w F .aA v
 |d (x v) (h:aq w F x v):ai φ w F (.d x) v
 |agg (cs:List AV) (a:Array Value) (E:cs.length=a.size) (A:∀v∈a,ba v=true) (I:∀(i:Nat)(c:AV)(v:Value),cs[i]?=some c->a[i]?=some v->ai φ w F c v):ai φ w F (.agg cs) (.agg a)
 |ptr (k U off:Nat) (v:Value) (L:Loc) (H:φ k=some L) (N:U<=L.U) (h:U=L.U->v=.pointer (some ⟨L.a7,off,none⟩)) (A:ba v=true):ai φ w F (.ptr k U off) v
 |tn (k U:Nat) (t:TypeId) (L:Loc) (H:φ k=some L) (N:U<=L.U) (h:U=L.U->L.ty=some t):ai φ w F (.tn k U t) (.pointer none)
 |vec (k U off len:Nat) (v:Value) (L:Loc) (H:φ k=some L) (N:U<=L.U)
  (h:U=L.U->∃a cap,v=.slice a len cap/\len<=cap/\(cap>0->a=some ⟨L.a7,L.base+off*L.sz,none⟩/\off+cap<=L.cap)) (A:ba v=true):ai φ w F (.vec k U off len) v
 |bb (k U i j:Nat) (v:Value) (L:Loc) (H:φ k=some L) (N:U<=L.U) (h:U=L.U->v=.pointer (some ⟨L.a7,L.base+i*L.sz+j,none⟩)) (A:ba v=true):ai φ w F (.bb k U i j) v
 |bR (x:D) (j:Nat) (b off:Nat) (y:Value) (O:b<w.heap.size) (M:¬F b) (A4:aq w F x y)
  (I:∀(i:Nat)(c:Value),y.cells[i]?=some c->w.cell? ⟨b,off+i,none⟩=some c):ai φ w F (.bR x j) (.pointer (some ⟨b,off+j,none⟩))
 |fn (f:FuncId) (cap:List AV) (a:Array Value) (W:f<my) (E:cap.length=a.size) (I:∀(i:Nat)(c:AV)(v:Value),cap[i]?=some c->a[i]?=some v->ai φ w F c v):ai φ w F (.fn f cap) (.func (.func f) #[] a)
 |lJ (f:FuncId) (cap:List AV) (a:Array Value) (E:cap.length=a.size) (I:∀(i:Nat)(c:AV)(v:Value),cap[i]?=some c->a[i]?=some v->ai φ w F c v):ai φ w F (.fn (f+my) cap) (.func (.func f) a #[])
 |bc (vs:List AV) (a:Array Value) (E:vs.length=a.size) (I:∀(i:Nat)(c:AV)(v:Value),vs[i]?=some c->a[i]?=some v->ai φ w F c v):ai φ w F (.bc vs) (.tuple a)
 |dF (t:TypeId) (x:D) (v:Value) (h:aq w F x v):ai φ w F (.dF t x) (.iface t v)
 |lit (v) (A:ba v=true):ai φ w F (.lit v) v
 |nn (a:Addr) (cap:Nat):ai φ w F .nn (.slice (some a) 0 cap)
 |err (t:TypeId) (v:Value):ai φ w F .err (.iface t v)
def aQ.le(φ φ':aQ):Prop:=∀k L,φ k=some L->∃L',φ' k=some L'/\L.U<=L'.U/\(L'.U=L.U->L'={L with bJ:=L'.bJ})
def aQ.le_refl(φ:aQ):φ.le φ:=λ_ L h=>⟨L,h,Ds _,λ_=>rfl⟩
def aQ.le_trans{φ φ' A5:aQ}(h:φ.le φ')(A9:φ'.le A5):φ.le A5:=by
 intro k L H;obtain⟨A6,A,AD,AA⟩:=h k L H;obtain⟨AB,AC,AE,A7⟩:=A9 k A6 A;refine⟨AB,AC,by omega,λe=>?_⟩;have J:A6.U=L.U:=by omega
 have T:=AA J;rw[T]at A7;exact A7 (by rw[e])
def ai.mono{φ φ':aQ}{w w':World}{F F':Nat->Prop}{x v}(h:ai φ w F x v)(A':φ.le φ')
 (Y:∀b,b<w.heap.size->¬F b->w'.heap[b]?=w.heap[b]?) (q:w.heap.size<=w'.heap.size) (M:∀b,b<w.heap.size->F' b->F b):ai φ' w' F' x v:=by
 induction h with
 |aA v=>exact .aA v
 |d x v h=>exact .d x v (h.mono Y q M)
 |agg cs a E A _ ih=>exact .agg cs a E A ih
 |ptr k U off v L H N h A=>
  obtain⟨L',V,A0,he⟩:=A' k L H;exact .ptr k U off v L' V (by omega) (λe=>by
   have J:L'.U=L.U:=by omega
   have T:=he J;rw[T];exact h (by rw[e,J])) A
 |tn k U t L H N h=>
  obtain⟨L',V,A0,he⟩:=A' k L H;exact .tn k U t L' V (by omega) (λe=>(XR Loc.ty (he (by omega))).trans (h (by omega)))
 |vec k U off len v L H N h A=>
  obtain⟨L',V,A0,he⟩:=A' k L H;exact .vec k U off len v L' V (by omega) (λe=>by
   have J:L'.U=L.U:=by omega
   have T:=he J;rw[T];exact h (by rw[e,J])) A
 |bb k U i j v L H N h A=>
  obtain⟨L',V,A0,he⟩:=A' k L H;exact .bb k U i j v L' V (by omega) (λe=>by
   have J:L'.U=L.U:=by omega
   have T:=he J;rw[T];exact h (by rw[e,J])) A
 |bR x j b off y O Z A4 I=>
  exact .bR x j b off y (by omega) (λh=>Z (M b O h)) (A4.mono Y q M) (λi c hi=>by rw[fK (Y b O Z)];exact I i c hi)
 |fn f cap a W E _ ih=>exact .fn f cap a W E ih
 |lJ f cap a E _ ih=>exact .lJ f cap a E ih
 |bc vs a E _ ih=>exact .bc vs a E ih
 |dF t x v h=>exact .dF t x v (h.mono Y q M)
 |lit v A=>exact .lit v A
 |nn a cap=>exact .nn a cap
 |err t v=>exact .err t v
inductive ay where
 |dead
 |box (cs:List AV)
 |vec (sz:Nat) (rows:List D)
 |vv (rows:List (List D)) (y:Option AV)
 |buf (t:TypeId) (AB:List UInt8)
 |ej (s:List UInt8) (pos:Nat)
structure bk where
 key:Nat
 U:Nat
 cont:ay
abbrev Mem:=List bk
def Mem.get:Mem->Nat->Option bk
 |[],_=>none
 |e::r,k=>if e.key=k then some e else Mem.get r k
def Mem.set:Mem->bk->Mem
 |[],_=>[]
 |e::r,x=>if e.key=x.key then x::r else e::Mem.set r x
def Mem.get_mem{m:Mem}{k e}(h:Mem.get m k=some e):e∈m/\e.key=k:=by
 induction m with
 |nil=>simp[Mem.get]at h
 |cons x r ih=>
  simp only[Mem.get]at h;split at h
  .simp_all
  .have:=ih h;simp_all
def Mem.get_of_mem{m:Mem}{e}(J:(m.map (·.key)).Nodup)(h:e∈m):Mem.get m e.key=some e:=by
 induction m with
 |nil=>simp at h
 |cons x r ih=>
  simp only[XU,List.nodup_cons]at J;simp only[Mem.get];rcases Xm.1 h with rfl|h
  .simp
  .have:x.key≠e.key:=λhe=>J.1 (by rw[he];exact Xw h);simp[this,ih J.2 h]
def Mem.dr(m:Mem)(x:bk):(Mem.set m x).map (·.key)=m.map (·.key):=by
 induction m with
 |nil=>rfl
 |cons e r ih=>
  simp only[Mem.set];split
  .simp_all
  .simp[ih]
def Mem.mem_set{m:Mem}{x e:bk}(J:(m.map (·.key)).Nodup):e∈Mem.set m x↔(e=x/\x.key∈m.map (·.key))\/(e∈m/\e.key≠x.key):=by
 induction m with
 |nil=>simp[Mem.set]
 |cons y r ih=>
  simp only[XU,List.nodup_cons]at J;simp only[Mem.set];split
  .rename_i N;constructor
   .intro h;rcases Xm.1 h with rfl|h
    .left;simp[N]
    .right;refine⟨by simp[h],λhe=>J.1 ?_⟩;rw[N,<-he];exact Xw h
   .rintro (⟨rfl,_⟩|⟨h,Y⟩)
    .simp
    .rcases Xm.1 h with rfl|h
     .exact absurd N Y
     .simp[h]
  .rename_i N;simp only[Xm,ih J.2,XU];constructor
   .rintro (rfl|⟨rfl,h⟩|⟨h,Y⟩)
    .right;exact⟨.inl rfl,N⟩
    .left;exact⟨rfl,.inr h⟩
    .right;exact⟨.inr h,Y⟩
   .rintro (⟨rfl,h⟩|⟨h,Y⟩)
    .rcases h with h|h
     .exact absurd h.symm N
     .right;left;exact⟨rfl,h⟩
    .rcases h with rfl|h
     .left;rfl
     .right;right;exact⟨h,Y⟩
def Mem.get_set_same{m:Mem}{x:bk}(h:x.key∈m.map (·.key)):Mem.get (Mem.set m x) x.key=some x:=by
 induction m with
 |nil=>simp at h
 |cons y r ih=>
  simp only[Mem.set];split
  .simp[Mem.get]
  .rename_i N;simp only[Mem.get,N,X3];exact ih (by simp only[XU,Xm]at h;rcases h with h|h;exact absurd h.symm N;exact h)
def Mem.j3{m:Mem}{x:bk}{k:Nat}(h:x.key≠k):Mem.get (Mem.set m x) k=Mem.get m k:=by
 induction m with
 |nil=>rfl
 |cons y r ih=>
  simp only[Mem.set];split
  .rename_i N;have:y.key≠k:=by rw[N];exact h
   simp[Mem.get,h,this]
  .simp only[Mem.get,ih]
def ay.bg(L:Loc):ay->Nat->Prop
 | .dead,_=>False
 | .box _,b=>L.a7=b
 | .vec _ _,b=>0<L.cap/\L.a7=b
 | .vv _ _,b=>(0<L.cap/\L.a7=b)\/some b∈L.bJ
 | .buf _ _,b=>0<L.cap/\L.a7=b
 | .ej _ _,b=>L.a7=b
def ek(φ:aQ)(m:Mem)(b:Nat):Prop:=∃e∈m,∃L,φ e.key=some L/\e.cont.bg L b
structure Fr where
 g:Nat->Prop
 dv:List Deferred
instance:CoeFun Fr (λ_=>Nat->Prop):=⟨Fr.g⟩
def Fo(G:Fr)(φ:aQ)(m:Mem)(b:Nat):Prop:=G b\/ek φ m b
def cy(w:World)(b:Nat)(arr:Array Value)(elem:TypeId):Prop:=∃fr:Nat×Nat,w.heap[b]?=some (.cells arr elem fr)/\(fr=(0,0)\/arr.size<=fr.1)
def cy.same{w w':World}{b:Nat}{arr:Array Value}{elem:TypeId}(h:cy w b arr elem)(O:w'.heap[b]?=w.heap[b]?):cy w' b arr elem:=by
 obtain⟨fr,T,Z⟩:=h;exact⟨fr,by rw[O];exact T,Z⟩
def cy.lt{w:World}{b:Nat}{arr:Array Value}{elem:TypeId}(h:cy w b arr elem):b<w.heap.size:=by
 obtain⟨fr,T,Z⟩:=h;exact (Xv.1 T).1
def cy.new{w:World}{b:Nat}{arr:Array Value}{elem:TypeId}(h:w.heap[b]?=some (.cells arr elem (0,0))):cy w b arr elem:=⟨(0,0),h,.inl rfl⟩
def rM(w:World)(F:Nat->Prop)(v:Option Value)(xs:List D)(o:Option Nat):Prop:=
 match o with
 |none=>xs=[]/\∃a,v=some (.slice a 0 0)
 |some b=>∃(row:Array Value)(AG:TypeId)(off cap:Nat),v=some (.slice (some ⟨b,off,none⟩) xs.length cap)/\0<cap/\xs.length<=cap/\off+cap<=row.size/\cy w b row AG/\(∀u∈row,ba u=true)/\
  ∀(i:Nat)(d:D),xs[i]?=some d->d.size=1/\∃u,aq w F d u/\∀(j:Nat)(c:Value),u.cells[j]?=some c->row[off+i*1+j]?=some c
def rM.mono{w w':World}{F F':Nat->Prop}{v xs o}(h:rM w F v xs o)(A':∀d u,d∈xs->aq w F d u->aq w' F' d u)
 (W:∀b,o=some b->w'.heap[b]?=w.heap[b]?):rM w' F' v xs o:=by
 cases o with
 |none=>exact h
 |some b=>
  obtain⟨row,AG,off,cap,T,Z,A3,A8,AL,Af,Ag⟩:=h;exact⟨row,AG,off,cap,T,Z,A3,A8,AL.same (W b rfl),Af,λj d AH=>let ⟨g1,u,g2,g3⟩:=Ag j d AH;⟨g1,u,A' d u (Xk AH) g2,g3⟩⟩
def fW(φ:aQ)(w:World)(F:Nat->Prop)(L:Loc)(rows:List (List D))(y:Option AV):Prop:=
 (L.sz=1/\rows.length+y.toList.length<=L.cap/\L.bJ.length=rows.length)/\
  (∀(i j:Nat)(b:Nat),L.bJ[i]?=some (some b)->L.bJ[j]?=some (some b)->i=j)/\(∀b,some b∈L.bJ->0<L.cap/\b≠L.a7)/\
  (0<L.cap->∃(arr:Array Value)(elem:TypeId),cy w L.a7 arr elem/\arr.size=L.base+L.cap/\(∀v∈arr,ba v=true)/\
   (∀(i:Nat)(xs:List D)(o:Option Nat),rows[i]?=some xs->L.bJ[i]?=some o->rM w F arr[L.base+i]? xs o)/\
   ∀x,y=some x->∃v,arr[L.base+rows.length]?=some v/\ai φ w F x v)
def fW.mono{φ φ':aQ}{w w':World}{F F':Nat->Prop}{L rows y}(f:AV->AV)(h:fW φ w F L rows y)
 (A':∀xs∈rows,∀d∈xs,∀u,aq w F d u->aq w' F' d u) (AM:∀x,y=some x->∀v,ai φ w F x v->ai φ' w' F' (f x) v)
 (W:∀b,((0<L.cap/\L.a7=b)\/some b∈L.bJ)->w'.heap[b]?=w.heap[b]?):fW φ' w' F' L rows (y.map f):=by
 obtain⟨q,T,Z,h⟩:=h;refine⟨by cases y<;>exact q,T,Z,λH=>?_⟩;obtain⟨arr,elem,g1,g2,g3,g4,g5⟩:=h H;refine⟨arr,elem,g1.same (W _ (.inl ⟨H,rfl⟩)),g2,g3,λi xs o hi E=>(g4 i xs o hi E).mono (λd u hm=>A' xs (Xk hi) d hm u) (λb e=>W b (.inr (by subst e;exact Xk E))),λx I=>?_⟩;cases y with
 |none=>cases I
 |some z=>
  cases I;obtain⟨v,q1,q2⟩:=g5 z rfl;exact⟨v,q1,AM z rfl v q2⟩
def fW.NH{φ φ':aQ}{w w':World}{F F':Nat->Prop}{L rows y}(h:fW φ w F L rows y)
 (A':∀xs∈rows,∀d∈xs,∀u,aq w F d u->aq w' F' d u) (AM:∀x,y=some x->∀v,ai φ w F x v->ai φ' w' F' x v)
 (W:∀b,((0<L.cap/\L.a7=b)\/some b∈L.bJ)->w'.heap[b]?=w.heap[b]?):fW φ' w' F' L rows y:=by
 have:=h.mono id A' AM W;cases y<;>exact this
def fW.U{φ w F L rows y}(h:fW φ w F L rows y)(v:Nat):fW φ w F {L with U:=v} rows y:=h
def eR(w:World)(F:Nat->Prop)(L:Loc)(sz:Nat)(rows:List D):Prop:=
 L.sz=sz/\rows.length<=L.cap/\(∀d∈rows,d.size=L.sz)/\(0<L.cap->∃(arr:Array Value)(elem:TypeId),cy w L.a7 arr (L.ty.getD elem)/\
  arr.size=L.base+L.cap*L.sz/\(∀v∈arr,ba v=true)/\
  ∀(i:Nat)(d:D),rows[i]?=some d->∃v,aq w F d v/\∀(j:Nat)(c:Value),v.cells[j]?=some c->arr[L.base+i*L.sz+j]?=some c)
def eR.CW{w w':World}{F F':Nat->Prop}{L sz rows}(h:eR w F L sz rows)(A':∀x∈rows,∀v,aq w F x v->aq w' F' x v)
 (W:∀b,0<L.cap/\L.a7=b->w'.heap[b]?=w.heap[b]?:=by exact λ_ _=>rfl):eR w' F' L sz rows:=by
 obtain⟨Ah,q,Ai,h⟩:=h;refine⟨Ah,q,Ai,λH=>?_⟩;obtain⟨arr,elem,T,Z,A3,A8⟩:=h H;exact⟨arr,elem,T.same (W _ ⟨H,rfl⟩),Z,A3,λi d AT=>let ⟨v,A9,AH⟩:=A8 i d AT;⟨v,A' _ (Xk AT) _ A9,AH⟩⟩
def eR.mono{w w':World}{F F':Nat->Prop}{L sz rows}(h:eR w F L sz rows)(A':∀x v,aq w F x v->aq w' F' x v)
 (W:∀b,0<L.cap/\L.a7=b->w'.heap[b]?=w.heap[b]?):eR w' F' L sz rows:=h.CW (λx _=>A' x) W
def iW(AB:List UInt8):List D:=AB.map λb=>.int .u8 b.toNat
def bt(φ:aQ)(w:World)(F:Nat->Prop)(L:Loc):ay->Prop
 | .dead=>True
 | .box cs=>(L.sz=1/\L.base=0/\L.cap=cs.length)/\∃(arr:Array Value)(elem:TypeId),cy w L.a7 arr (L.ty.getD elem)/\arr.size=cs.length/\(∀v∈arr,ba v=true)/\
  ∀(i:Nat)(c:AV)(v:Value),cs[i]?=some c->arr[i]?=some v->ai φ w F c v
 | .vec sz rows=>eR w F L sz rows
 | .vv rows y=>fW φ w F L rows y
 | .buf t AB=>(L.base=0/\(0<L.cap->L.ty=some t))/\eR w F L 1 (iW AB)
 | .ej s pos=>w.heap[L.a7]?=some (.stringIter ⟨s.toArray⟩ pos)
def KD(φ:aQ)(w:World)(F:Nat->Prop)(e:bk):Prop:=∃L,φ e.key=some L/\L.U=e.U/\bt φ w F L e.cont
def bt.lt{φ w F L c b}(h:bt φ w F L c)(E:c.bg L b):b<w.heap.size:=by
 cases c with
 |dead=>exact E.elim
 |box cs=>obtain⟨_,arr,elem,h,_⟩:=h;have:L.a7=b:=E;subst this;exact h.lt
 |vec sz rows=>obtain⟨H,rfl⟩:=E;obtain⟨_,_,_,h⟩:=h;obtain⟨arr,elem,h,_⟩:=h H;exact h.lt
 |ej s pos=>cases E;exact (Xv.1 h).1
 |buf t AB=>obtain⟨H,rfl⟩:=E;obtain⟨_,_,_,_,h⟩:=h;obtain⟨arr,elem,h,_⟩:=h H;exact h.lt
 |vv rows y=>
  obtain⟨⟨_,_,As⟩,_,A3,h⟩:=h;rcases E with ⟨H,rfl⟩|E
  .obtain⟨arr,elem,h,_⟩:=h H;exact h.lt
  .obtain⟨i,hi⟩:=YN E;obtain⟨arr,elem,_,_,_,AL,_⟩:=h (A3 b E).1;have At:=(D1.1 hi).1;obtain⟨row,AG,_,_,_,_,_,_,g,_⟩:=AL i (rows[i]'(by omega)) (some b) (by simp[show i<rows.length by omega]) hi
   exact g.lt
def bt.mono{φ φ':aQ}{w w':World}{F F':Nat->Prop}{L c}(h:bt φ w F L c)(AU:φ.le φ')
 (M:∀b,b<w.heap.size->¬F b->w'.heap[b]?=w.heap[b]?) (O:w.heap.size<=w'.heap.size) (A5:∀b,b<w.heap.size->F' b->F b)
 (W:∀b,c.bg L b->w'.heap[b]?=w.heap[b]?):bt φ' w' F' L c:=by
 cases c with
 |dead=>trivial
 |box cs=>
  obtain⟨q,arr,elem,T,Z,A3,A8⟩:=h;exact⟨q,arr,elem,T.same (W _ rfl),Z,A3,λi c v H A9=>(A8 i c v H A9).mono AU M O A5⟩
 |vec sz rows=>exact eR.mono h (λ_ _ h=>h.mono M O A5) W
 |ej s pos=>exact (W _ rfl).trans h
 |buf t AB=>exact⟨h.1,h.2.mono (λ_ _ h=>h.mono M O A5) W⟩
 |vv rows y=>exact fW.NH h (λ_ _ _ _ u hu=>hu.mono M O A5) (λx _ v I=>I.mono AU M O A5) W
structure aE(φ:aQ)(G:Fr)(m:Mem)(w:World):Prop where
 nodup:(m.map (·.key)).Nodup
 kI:∀k L,φ k=some L->k∈m.map (·.key)
 de:∀e∈m,KD φ w (Fo G φ m) e
 apart:∀e∈m,∀e'∈m,∀L L',φ e.key=some L->φ e'.key=some L'->(∃b,e.cont.bg L b/\e'.cont.bg L' b)->e.key=e'.key
 fX:∀b,ek φ m b->¬G b
 bound:∀b,G b->b<w.heap.size
def aE.vz{φ G m w}(h:aE φ G m w){b}(A:ek φ m b):b<w.heap.size:=by
 obtain⟨e,he,L,A6,E⟩:=A;obtain⟨L',AW,_,H⟩:=h.de e he;rw[A6]at AW;cases AW;exact H.lt E
structure az(φ:aQ)(m:Mem)(w:World)(φ':aQ)(m':Mem)(w':World):Prop where
 le:φ.le φ'
 rN:∀b,b<w.heap.size->¬ek φ m b->w'.heap[b]?=w.heap[b]?
 own:∀b,b<w.heap.size->ek φ' m' b->ek φ m b
 size:w.heap.size<=w'.heap.size
 os:w'.os=w.os
 tape:w'.tape=w.tape
 output:w'.output=w.output
def az.refl(φ m w):az φ m w φ m w:=⟨aQ.le_refl _,λ_ _ _=>rfl,λ_ _ h=>h,Ds _,rfl,rfl,rfl⟩
def az.trans{φ m w AX m1 AY AZ m2 A_}(h:az φ m w AX m1 AY)(k:az AX m1 AY AZ m2 A_):az φ m w AZ m2 A_ where
 le:=aQ.le_trans h.le k.le
 rN:=λb A J=>by
  rw[k.rN b (Yf A h.size) (λT=>J (h.own b A T)),h.rN b A J]
 own:=λb A J=>h.own b A (k.own b (Yf A h.size) J)
 size:=YH h.size k.size
 os:=k.os.trans h.os
 tape:=k.tape.trans h.tape
 output:=k.output.trans h.output
def az.av{φ m w φ' m' w' G}(h:az φ m w φ' m' w'){x v}(I:ai φ w (Fo G φ m) x v):ai φ' w' (Fo G φ' m') x v:=
 I.mono h.le (λb A J=>h.rN b A (λE=>J (.inr E))) h.size (λb A=>Or.imp id (h.own b A))
def aE.bl{φ G m w w'}(h:aE φ G m w){e e':bk}(he:e∈m){L L':Loc}(A6:φ e.key=some L)(A2:e'.key=e.key)
 (Aj:L.U<=L'.U) (Ak:L'.U=L.U->L'={L with bJ:=L'.bJ})
 (A9:L'.U=e'.U)
 (hold:∀b,b<w.heap.size->¬e.cont.bg L b->w'.heap[b]?=w.heap[b]?) (O:w.heap.size<=w'.heap.size)
 (AN:∀b,e'.cont.bg L' b->e.cont.bg L b\/w.heap.size<=b)
 (AO:w'.os=w.os) (Al:w'.tape=w.tape) (An:w'.output=w.output)
 (H:∀φ':aQ,φ'=(λk=>if k=e.key then some L' else φ k)->φ.le φ'->bt φ' w' (Fo G φ' (Mem.set m e')) L' e'.cont):
 ∃φ',aE φ' G (Mem.set m e') w'/\az φ m w φ' (Mem.set m e') w'/\φ' e.key=some L'/\∀k,k≠e.key->φ' k=φ k:=by
 have hle:φ.le (λk=>if k=e.key then some L' else φ k):=by
  intro k AP q;by_cases M:k=e.key
  .subst M;rw[A6]at q;cases q;exact⟨L',by simp,Aj,Ak⟩
  .exact⟨AP,by simp[M,q],Ds _,λ_=>rfl⟩
 have Au:e'.key∈m.map (·.key):=by rw[A2];exact Xw he
 have AQ:∀x∈m,x.key≠e.key->∀A0,φ x.key=some A0->∀b,x.cont.bg A0 b->e.cont.bg L b->False:=
  λx I Y A0 V b A1 A4=>Y (h.apart x I e he A0 L V A6 ⟨b,A1,A4⟩)
 have AR:∀b,b<w.heap.size->ek (λk=>if k=e.key then some L' else φ k) (Mem.set m e') b->ek φ m b:=by
  rintro b A ⟨x,I,A0,V,A1⟩;rcases (Mem.mem_set h.nodup).1 I with ⟨rfl,_⟩|⟨A7,Y⟩
  .simp[A2]at V;subst V;rcases AN b A1 with A4|Aa
   .exact⟨e,he,L,A6,A4⟩
   .omega
  .rw[A2]at Y;simp[Y]at V;exact⟨x,A7,A0,V,A1⟩
 have Ab:∀b,b<w.heap.size->¬ek φ m b->w'.heap[b]?=w.heap[b]?:=λb A J=>
  hold b A λE=>J ⟨e,he,L,A6,E⟩
 refine⟨_,⟨by rw[Mem.dr];exact h.nodup,?_,?_,?_,?_,?_⟩,⟨hle,Ab,AR,O,AO,Al,An⟩,by simp,λk M=>by simp[M]⟩
 .intro k AP q;rw[Mem.dr];by_cases M:k=e.key
  .subst M;exact Xw he
  .simp[M]at q;exact h.kI k AP q
 .intro x I;rcases (Mem.mem_set h.nodup).1 I with ⟨rfl,_⟩|⟨A7,Y⟩
  .exact⟨L',by simp[A2],A9,H _ rfl hle⟩
  .rw[A2]at Y;obtain⟨A0,V,Ao,AI⟩:=h.de x A7;refine⟨A0,by simp[Y,V],Ao,AI.mono hle (λb A J=>Ab b A (λE=>J (.inr E))) O (λb A=>Or.imp id (AR b A)) (λb A1=>?_)⟩;exact hold _ (AI.lt A1) (λA4=>AQ x A7 Y A0 V b A1 A4)
 .rintro x I y N A0 Ac V AA ⟨b,A1,AJ⟩;rcases (Mem.mem_set h.nodup).1 I with ⟨rfl,_⟩|⟨A7,AD⟩<;>rcases (Mem.mem_set h.nodup).1 N with ⟨rfl,_⟩|⟨AS,AE⟩
  .rfl
  .rw[A2]at AE;simp[A2]at V;subst V;simp[AE]at AA;obtain⟨Av,Ad,_,Ap⟩:=h.de y AS;rw[AA]at Ad;cases Ad;rcases AN b A1 with A4|Aa
   .exact (AQ y AS AE Ac AA b AJ A4).elim
   .have:=Ap.lt AJ;omega
  .rw[A2]at AD;simp[A2]at AA;subst AA;simp[AD]at V;obtain⟨Aw,Ae,_,AI⟩:=h.de x A7;rw[V]at Ae;cases Ae;rcases AN b AJ with A4|Aa
   .exact (AQ x A7 AD A0 V b A1 A4).elim
   .have:=AI.lt A1;omega
  .rw[A2]at AD AE;simp[AD]at V;simp[AE]at AA;exact h.apart x A7 y AS A0 Ac V AA ⟨b,A1,AJ⟩
 .intro b A AC;exact h.fX b (AR b (h.bound b AC) A) AC
 .intro b AC;exact Yf (h.bound b AC) O
def aE.grow{φ G m w w'}(h:aE φ G m w)(hold:∀b,b<w.heap.size->w'.heap[b]?=w.heap[b]?)(O:w.heap.size<=w'.heap.size):aE φ G m w' where
 nodup:=h.nodup
 kI:=h.kI
 de:=λe he=>by
  obtain⟨L,A6,A9,H⟩:=h.de e he;exact⟨L,A6,A9,H.mono (aQ.le_refl _) (λb A _=>hold b A) O (λ_ _ h=>h) (λb E=>hold _ (H.lt E))⟩
 apart:=h.apart
 fX:=h.fX
 bound:=λb AC=>Yf (h.bound b AC) O
def az.grow{φ m w w'}(hold:∀b,b<w.heap.size->w'.heap[b]?=w.heap[b]?)(O:w.heap.size<=w'.heap.size)(AO:w'.os=w.os)(AF:w'.tape=w.tape)(E:w'.output=w.output):az φ m w φ m w':=
 ⟨aQ.le_refl _,λb A _=>hold b A,λ_ _ h=>h,O,AO,AF,E⟩
abbrev Env:=List (Nat×Bool×AV)
def Env.lk:Env->Nat->Option (Bool×AV)
 |[],_=>none
 |(t,x)::r,u=>if t=u then some x else Env.lk r u
structure St where
 n:Nat
 gl:List (Nat×D)
 env:Env
 mem:Mem
def b5(w:World)(F:Nat->Prop)(gl:List (Nat×D)):Prop:=
 ∀x∈gl,(x.1<w.heap.size/\∀cs,x.2=.agg cs->∃cur e Aq,w.heap[x.1]?=some (.cells cur e Aq)/\cur.size=cs.length)/\¬F x.1/\∃AK,aq w F x.2 AK/\∀(i:Nat)(c:Value),AK.cells[i]?=some c->w.cell? ⟨x.1,i,none⟩=some c
def b5.mono{w w':World}{F F':Nat->Prop}{gl}(h:b5 w F gl)(M:∀b,b<w.heap.size->¬F b->w'.heap[b]?=w.heap[b]?)(O:w.heap.size<=w'.heap.size)
 (A5:∀b,b<w.heap.size->F' b->F b):b5 w' F' gl:=λx I=>by
 obtain⟨⟨T,q⟩,Z,AK,A3,A8⟩:=h x I;exact⟨⟨by omega,by rw[M _ T Z];exact q⟩,λAr=>Z (A5 _ T Ar),AK,A3.mono M O A5,λi c H=>by rw[fK (M _ T Z)];exact A8 i c H⟩
def az.fY{φ m w φ' m' w' G gl}(h:az φ m w φ' m' w')(I:b5 w (Fo G φ m) gl):b5 w' (Fo G φ' m') gl:=
 I.mono (λb A J=>h.rN b A (λE=>J (.inr E))) h.size (λb A=>Or.imp id (h.own b A))
structure Rel(φ:aQ)(G:Fr)(S:St)(a:Act)(w:World):Prop where
 size:a.tmps.size=S.n
 defers:a.defers=G.dv
 env:∀t x,Env.lk S.env t=some (true,x)->ai φ w (Fo G φ S.mem) x (a.tmps.getD t undef)
 mem:aE φ G S.mem w
 fY:b5 w (Fo G φ S.mem) S.gl
def St.put(S:St)(d:Option Nat)(g:Bool)(x:AV):St:=
 match d with
 |some d=>{S with env:=(d,g,x)::S.env}
 |none=>S
def Rel.put{φ G S a w}(h:Rel φ G S a w)(d:Option Nat)(A':∀t,d=some t->t<S.n)(g:Bool)(x:AV)(v:Value)
 (I:g=true->ai φ w (Fo G φ S.mem) x v):Rel φ G (S.put d g x) (a.put d v) w:=by
 cases d with
 |none=>exact h
 |some d=>
  have A':=A' d rfl;refine⟨by simp[Act.put,St.put,h.size],by simp[Act.put,h.defers],?_,h.mem,h.fY⟩;intro t y N;simp only[St.put,Env.lk]at N;by_cases AF:d=t
  .subst AF;simp only[Yh,Xn,XB]at N;obtain⟨rfl,rfl⟩:=N;have:d<a.tmps.size:=by rw[h.size];exact A'
   have e:(a.put (some d) v).tmps.getD d undef=v:=by simp[Act.put,this]
   rw[e];exact I rfl
  .simp only[AF,X3]at N;have e:(a.put (some d) v).tmps.getD t undef=a.tmps.getD t undef:=by simp[Act.put,AF]
   rw[e];exact h.env t y N
def Rel.rO{φ G S a w φ' m' w'}(h:Rel φ G S a w)(hm:aE φ' G m' w')(M:az φ S.mem w φ' m' w'):Rel φ' G {S with mem:=m'} a w':=
 ⟨h.size,h.defers,λt x I=>M.av (h.env t x I),hm,M.fY h.fY⟩
def jC{v:Value}(h:ba v=true):v.oneCell'=true:=by cases v<;>simp_all [ba,Value.oneCell']
inductive TK where
 |int (k:IntKind)
 |bool
 |str
 |slice (e:TypeId)
 |arr (n:Nat) (e:TypeId)
 |struct
 |iface
 |ptr (e:TypeId)
 |func
 |other
 deriving DecidableEq
def tk(P:Program)(t:TypeId):TK:=
 match P.underlying t with
 |some (.int k)=>.int k
 |some .bool=>.bool
 |some .string=>.str
 |some (.slice e)=>.slice e
 |some (.array n e)=>.arr n e
 |some (.struct _)=>.struct
 |some (.interface _)=>.iface
 |some (.pointer e)=>.ptr e
 |some (.func _ _ _)=>.func
 |_=>.other
def b7(P:Program)(t:TypeId):Option Nat:=(P.info? t).map (·.size)
def pS(P:Program)(s:TypeId)(f:Nat):Option Nat:=
 match P.underlying s with
 |some (.struct fs)=>match fs[f]? with
  |some fl=>match P.info? fl.type with
   |some i=>if i.size=0 then none else some fl.offset
   |none=>none
  |none=>none
 |_=>none
def TK.agg:TK->Bool
 | .arr _ _=>true
 | .struct=>true
 |_=>false
def lK{P:Program}{t:TypeId}{w:World}(h:tk P t≠.other):(isAgg t).run P w=.ok (tk P t).agg w:=by
 unfold isAgg;cases hu:P.underlying t with
 |none=>simp[tk,hu]at h
 |some d=>
  rw[Sem.run_bind,run_underlying hu];cases d<;>simp_all [tk,TK.agg]
def run_sizeOf{P:Program}{t:TypeId}{n:Nat}{w:World}(h:b7 P t=some n):(sizeOf t).run P w=.ok n w:=by
 unfold b7 at h;cases hi:P.info? t with
 |none=>simp[hi]at h
 |some i=>simp[hi]at h;simp[sizeOf,typeInfo,hi,h]
def cD(b o j:Nat):(⟨b,o,none⟩:Addr).add j=⟨b,o+j,none⟩:=by unfold Addr.add;split<;>simp_all
def n5{P:Program}{t:TypeId}{w:World}{a:Addr}{v:Value}(AE:(tk P t).agg=false)(AF:tk P t≠.other)(I:w.cell? a=some v):
 (Instr.loadAt t (.pointer (some a))).run P w=.ok v w:=by
 simp[Instr.loadAt,Instr.sureAddr,loadVar,Sem.run_bind,lK AF,AE,load,Sem.run,I]
def n7{P:Program}{t:TypeId}{w:World}{b o:Nat}{vs:List Value}(AE:(tk P t).agg=true)(AS:b7 P t=some vs.length)
 (I:∀j v,vs[j]?=some v->w.cell? ⟨b,o+j,none⟩=some v):
 (Instr.loadAt t (.pointer (some ⟨b,o,none⟩))).run P w=.ok (.agg vs.toArray) w:=by
 have AF:tk P t≠.other:=by intro h;rw[h]at AE;cases AE
 have O:=run_loadCells_list (P:=P) w ⟨b,o,none⟩ vs (λj v h=>by rw[cD];exact I j v h);simp[Instr.loadAt,Instr.sureAddr,loadVar,Sem.run_bind,lK AF,AE,run_sizeOf AS,O]
def fy{P:Program}(g o:Nat)(t:TypeId)(A2:Nat×Nat):∀(vs:List Value)(i:Nat)(cur:Array Value)(w:World),w.heap[g]?=some (.cells cur t A2)->(A2=(0,0)\/cur.size<=A2.1)->o+i+vs.length<=cur.size->(∀v∈vs,v.oneCell'=true)->
 (storeCells ⟨g,o,none⟩ vs i).run P w=.ok () (w.setRow g (cur.toList.take (o+i)++vs++cur.toList.drop (o+i+vs.length)).toArray)
 |[],i,cur,w,T,_,_,_=>by
  simp only[storeCells,X2,Yr,XZ,Yn,YO];rw[setRow_self w g cur t A2 T];rfl
 |v::rest,i,cur,w,T,AN,O,H=>by
  have hi:o+i<cur.size:=by simp at O;omega
  have Ae:(⟨g,o,none⟩:Addr).add i=⟨g,o+i,none⟩:=by unfold Addr.add;split<;>simp_all
  have Af:w.cell? ⟨g,o+i,none⟩=some cur[o+i]:=by simp[World.cell?,T,hi]
  have Ag:w.frozen? ⟨g,o+i,none⟩=false:=by
   obtain⟨lo,AB⟩:=A2;simp only[World.frozen?,T,Bool.and_eq_false_iff,YE];rcases AN with h|h
   .cases h;omega
   .simp only at h;omega
  have Ah:(store ((⟨g,o,none⟩:Addr).add i) v).run P w=.ok () (w.setRow g (cur.setIfInBounds (o+i) v)):=by
   rw[Ae,run_store P w _ v _ (H v (by simp)),Af];simp[Ag,setCell_eq_setRow w g (o+i) cur t A2 v T]
  have ih:=fy (P:=P) g o t A2 rest (i+1) (cur.setIfInBounds (o+i) v) (w.setRow g (cur.setIfInBounds (o+i) v)) (setRow_heap w g cur _ t _ T) (by simpa using AN) (by simp at O⊢;omega) (λx M=>H x (by simp[M]));simp only[storeCells,Sem.run_bind,Ah,Result.andThen_ok,ih,setRow_setRow];congr 3;have e:=list_seg_step cur.toList (o+i) v rest (by simp at O⊢;omega);simpa [Array.toList_setIfInBounds,XC]using e
def BM{P:Program}{t:TypeId}{w:World}{b o:Nat}{arr:Array Value}{elem:TypeId}{v:Value}(AS:b7 P t=some v.cells.size)
 (T:cy w b arr elem) (O:o+v.cells.size<=arr.size) (H:∀x∈v.cells,ba x=true):
 (Instr.storeAt t (.pointer (some ⟨b,o,none⟩)) v).run P w=.ok () (w.setRow b (arr.toList.take o++v.cells.toList++arr.toList.drop (o+v.cells.size)).toArray):=by
 obtain⟨A2,T,AN⟩:=T;have h:=fy (P:=P) b o elem A2 v.cells.toList 0 arr w T AN (by simpa using O) (λx M=>jC (H x (by simpa using M)));simp only[XZ,Xs]at h;simp[Instr.storeAt,Instr.sureAddr,storeVar,Sem.run_bind,run_sizeOf AS,h]
def D.cells:D->List D
 | .agg cs=>cs
 |x=>[x]
def D.at(xs:List D)(i:Nat):D:=xs[i]?.getD (.bool false)
def D.cell(x:D)(j:Nat):D:=x.cells[j]?.getD (.bool false)
def toD1:AV->Option D
 | .d x=>some x
 | .lit (.slice none 0 0)=>some (.list [])
 | .nn=>some (.list [])
 |_=>none
def toDs:List AV->Option (List D)
 |[]=>some []
 |x::r=>match x,toDs r with
  | .d y,some AG=>some (y::AG)
  |_,_=>none
def toDsN:List AV->Option (List D)
 |[]=>some []
 |x::r=>match toD1 x,toDsN r with
  |some y,some AG=>some (y::AG)
  |_,_=>none
def tA(cs:List AV):AV:=match toDs cs with|some W=>.d (.agg W)|none=>.agg cs
def AV.norm:AV->AV
 | .agg cs=>match toDsN cs with|some W=>.d (.agg W)|none=>.agg cs
 | .lit (.slice none 0 0)=>.d (.list [])
 | .nn=>.d (.list [])
 |x=>x
def AV.cells:AV->List AV
 | .agg cs=>cs
 | .d (.agg W)=>W.map .d
 |x=>[x]
def D.cZ(x:D):x.cells.length=x.size:=by cases x<;>rfl
def CZ{w:World}{F:Nat->Prop}{x:D}{v:Value}(q:x.flat=true)(h:aq w F x v)(M:x.cells=[x])(J:v.cells=#[v]):
 v.cells.toList.length=x.cells.length/\(∀u∈v.cells,ba u=true)/\∀(i:Nat)(c:D)(u:Value),x.cells[i]?=some c->v.cells[i]?=some u->aq w F c u/\c.flat=true:=by
 rw[M,J];refine⟨rfl,λu hu=>by simp at hu;subst hu;exact h.one q,λi c u H A=>?_⟩;cases i with
 |zero=>simp at H A;subst H;subst A;exact⟨h,q⟩
 |succ i=>simp at H
def aq.cells{w F x v}(h:aq w F x v):v.cells.toList.length=x.cells.length/\(∀u∈v.cells,ba u=true)/\∀(i:Nat)(c:D)(u:Value),x.cells[i]?=some c->v.cells[i]?=some u->aq w F c u/\c.flat=true:=by
 cases AC:x with
 |agg cs=>
  subst AC;cases h with
  |agg cs a O q I=>
   refine⟨by simp[D.cells,Value.cells,O],?_,λi c u H A=>⟨I i c u H A,q c (Xk H)⟩⟩;intro u hu;have hu:u∈a:=hu;obtain⟨i,hi,rfl⟩:=Array.mem_iff_getElem.1 hu;have AB:i<cs.length:=by rw[O];exact hi
   exact (I i cs[i] a[i] (by simp[AB]) (by simp[hi])).one (q _ (XQ AB))
 |_=>subst AC;exact CZ rfl h rfl (bX (h.one rfl))
def aq.jJ{w F}{cs:List D}{vs:List Value}(O:cs.length=vs.length)(H:∀v∈vs,ba v=true)
 (I:∀(i:Nat) c v,cs[i]?=some c->vs[i]?=some v->aq w F c v):aq w F (.agg cs) (.agg vs.toArray):=by
 refine .agg cs vs.toArray (by simpa using O) ?_ (λi d v h AH=>I i d v h (by simpa using AH));intro d AC;obtain⟨i,hi,rfl⟩:=Ys.1 AC;have AB:i<vs.length:=by omega
 have A0:=I i cs[i] vs[i] (by simp[hi]) (by simp[AB]);have A:=H vs[i] (XQ AB);revert A0 A
 generalize vs[i]=v;generalize cs[i]=c;intro A0 A;cases A0<;>simp_all [D.flat,ba]
def toDs_rel{φ w F}:∀{cs:List AV}{W:List D}{vs:List Value},toDs cs=some W->(∀(i:Nat) c v,cs[i]?=some c->vs[i]?=some v->ai φ w F c v)->
 cs.length=W.length/\∀(i:Nat) d v,W[i]?=some d->vs[i]?=some v->aq w F d v
 |[],W,vs,h,_=>by simp[toDs]at h;subst h;simp
 |x::r,W,vs,h,I=>by
  simp only[toDs]at h;split at h<;>simp at h;rename_i y AG A7;subst h;cases vs with
  |nil=>
   have ih:=toDs_rel (φ:=φ) (w:=w) (F:=F) (vs:=[]) A7 (λi c v _ A=>by simp at A);exact⟨by simp[ih.1],λi d v _ A=>by simp at A⟩
  |cons v0 vs=>
   have ih:=toDs_rel (vs:=vs) A7 (λi c v H A=>I (i+1) c v (by simpa using H) (by simpa using A));refine⟨by simp[ih.1],λi d v H A=>?_⟩;cases i with
   |zero=>
    simp at H A;subst H;subst A;have:=I 0 (.d y) v0 (by simp) (by simp);cases this with|d _ _ h=>exact h
   |succ i=>exact ih.2 i d v (by simpa using H) (by simpa using A)
def toD1_rel{φ w F x d v}(h:toD1 x=some d)(M:ai φ w F x v):aq w F d v:=by
 unfold toD1 at h;split at h<;>simp at h
 .subst h;cases M with|d _ _ h=>exact h
 .subst h;cases M;exact .nil none 0 λ_=>rfl
 .subst h;cases M;exact .nil _ _ (by simp)
def toDsN_rel{φ w F}:∀{cs:List AV}{W:List D}{vs:List Value},toDsN cs=some W->(∀(i:Nat) c v,cs[i]?=some c->vs[i]?=some v->ai φ w F c v)->
 cs.length=W.length/\∀(i:Nat) d v,W[i]?=some d->vs[i]?=some v->aq w F d v
 |[],W,vs,h,_=>by simp[toDsN]at h;subst h;simp
 |x::r,W,vs,h,I=>by
  simp only[toDsN]at h;split at h<;>simp at h;rename_i y AG M A7;subst h;cases vs with
  |nil=>
   have ih:=toDsN_rel (φ:=φ) (w:=w) (F:=F) (vs:=[]) A7 (λi c v _ A=>by simp at A);exact⟨by simp[ih.1],λi d v _ A=>by simp at A⟩
  |cons v0 vs=>
   have ih:=toDsN_rel (vs:=vs) A7 (λi c v H A=>I (i+1) c v (by simpa using H) (by simpa using A));refine⟨by simp[ih.1],λi d v H A=>?_⟩;cases i with
   |zero=>
    simp at H A;subst H;subst A;exact toD1_rel M (I 0 x v0 (by simp) (by simp))
   |succ i=>exact ih.2 i d v (by simpa using H) (by simpa using A)
def rP{φ w F}{cs:List AV}{vs:List Value}(O:cs.length=vs.length)(H:∀v∈vs,ba v=true)
 (I:∀(i:Nat) c v,cs[i]?=some c->vs[i]?=some v->ai φ w F c v):ai φ w F (tA cs) (.agg vs.toArray):=by
 unfold tA;split
 .rename_i W AT;have:=toDs_rel AT I;exact .d _ _ (.jJ (by omega) H this.2)
 .exact .agg cs vs.toArray (by simpa using O) (λv J=>H v (by simpa using J)) (λi c v h AH=>I i c v h (by simpa using AH))
def ai.norm{φ w F x v}(h:ai φ w F x v):ai φ w F x.norm v:=by
 unfold AV.norm;split
 .rename_i cs;split
  .rename_i W AT;cases h with
   |agg _ a O H I=>
    have:=toDsN_rel (vs:=a.toList) AT (λi c v h AH=>I i c v h (by simpa using AH));have A:=aq.jJ (w:=w) (F:=F) (cs:=W) (vs:=a.toList) (by simp;omega) (λv J=>H v (by simpa using J)) this.2;rw[YO]at A;exact .d _ _ A
  .exact h
 .cases h;exact .d _ _ (.nil none 0 λ_=>rfl)
 .cases h;exact .d _ _ (.nil _ _ (by simp))
 .exact h
def ai.cells{φ w F x v}(h:ai φ w F x v)(H:∀u∈v.cells,ba u=true)(O:v.cells.size=x.cells.length):
 ∀(i:Nat) c u,x.cells[i]?=some c->v.cells[i]?=some u->ai φ w F c u:=by
 cases h with
 |agg cs a O H I=>exact λi c u E hu=>I i c u E hu
 |d x v h=>
  intro i c u E hu;have:=h.cells;cases x with
  |agg cs=>
   simp only[AV.cells,XA,Xj]at E;obtain⟨y,A7,rfl⟩:=E;exact .d _ _ (this.2.2 i y u A7 hu).1
  |_=>
   simp only[AV.cells]at E;cases i with
   |zero=>simp at E;subst E;exact .d _ _ (this.2.2 0 _ u rfl hu).1
   |succ i=>simp at E
 |aA v=>
  intro i c u E hu;cases i with
  |zero=>simp[AV.cells]at E;subst E;exact .aA _
  |succ i=>simp[AV.cells]at E
 |ptr k U off v L V J h A=>
  intro i c u E hu;rw[bX A]at hu;cases i with
  |zero=>simp[AV.cells]at E hu;subst E;subst hu;exact .ptr k U off v L V J h A
  |succ i=>simp[AV.cells]at E
 |tn k U t L V J h=>
  intro i c u E hu;cases i with
  |zero=>simp[AV.cells,Value.cells]at E hu;subst E;subst hu;exact .tn k U t L V J h
  |succ i=>simp[AV.cells]at E
 |vec k U off len v L V J h A=>
  intro i c u E hu;rw[bX A]at hu;cases i with
  |zero=>simp[AV.cells]at E hu;subst E;subst hu;exact .vec k U off len v L V J h A
  |succ i=>simp[AV.cells]at E
 |bb k U p j v L V J h A=>
  intro i c u E hu;rw[bX A]at hu;cases i with
  |zero=>simp[AV.cells]at E hu;subst E;subst hu;exact .bb k U p j v L V J h A
  |succ i=>simp[AV.cells]at E
 |bR x j b off A' AO AP M I=>
  intro i c u E hu;cases i with
  |zero=>simp[AV.cells,Value.cells]at E hu;subst E;subst hu;exact .bR x j b off A' AO AP M I
  |succ i=>simp[AV.cells]at E
 |fn f cap a q AU I=>
  intro i c u E hu;cases i with
  |zero=>simp[AV.cells,Value.cells]at E hu;subst E;subst hu;exact .fn f cap a q AU I
  |succ i=>simp[AV.cells]at E
 |lJ f cap a AU I=>
  intro i c u E hu;cases i with
  |zero=>simp[AV.cells,Value.cells]at E hu;subst E;subst hu;exact .lJ f cap a AU I
  |succ i=>simp[AV.cells]at E
 |bc vs a O I=>
  have:=H (.tuple a) (by simp[Value.cells]);simp[ba]at this
 |dF t x v h=>
  intro i c u E hu;cases i with
  |zero=>simp[AV.cells,Value.cells]at E hu;subst E;subst hu;exact .dF t x v h
  |succ i=>simp[AV.cells]at E
 |lit v A=>
  intro i c u E hu;rw[bX A]at hu;cases i with
  |zero=>simp[AV.cells]at E hu;subst E;subst hu;exact .lit _ A
  |succ i=>simp[AV.cells]at E
 |nn a cap=>
  intro i c u E hu;cases i with
  |zero=>simp[AV.cells,Value.cells]at E hu;subst E;subst hu;exact .nn a cap
  |succ i=>simp[AV.cells]at E
 |err t v=>
  intro i c u E hu;cases i with
  |zero=>simp[AV.cells,Value.cells]at E hu;subst E;subst hu;exact .err t v
  |succ i=>simp[AV.cells]at E
def iK:Value->AV
 | .int k n=>.d (.int k n)
 | .bool b=>.d (.bool b)
 | .string s=>.d (.str s.data.toList)
 | .agg _=>.aA
 | .tuple _=>.aA
 |v=>.lit v
def ub(φ w F v):ai φ w F (iK v) v:=by
 cases v<;>first|exact .d _ _ (.int _ _)|exact .d _ _ (.bool _)|exact .d _ _ (.str _ _ rfl)|exact .aA _|exact .lit _ rfl
def vC:List (Nat×D)->Nat->Option D
 |[],_=>none
 |(g,d)::r,k=>if g=k then some d else vC r k
def Ch:∀{l:List (Nat×D)}{g d},vC l g=some d->(g,d)∈l
 |[],g,d,h=>by simp[vC]at h
 |(Al,An)::r,g,d,h=>by
  simp only[vC]at h;split at h
  .rename_i T;subst T;cases h;simp
  .have:=Ch h;simp[this]
def St.ag(S:St):Operand->Bool×AV
 | .tmp t=>(Env.lk S.env t).getD (true,.aA)
 | .const v=>(true,iK v)
 | .global g=>match vC S.gl g with
  |some d=>(true,.bR d 0)
  |none=>(true,.lit (.pointer (some ⟨g,0,none⟩)))
 | .func f=>(decide (f<my),.fn f [])
def Rel.ag{φ G S a w}(h:Rel φ G S a w)(x:Operand)(M:(S.ag x).1=true):ai φ w (Fo G φ S.mem) (S.ag x).2 (a.eval x):=by
 cases x with
 |tmp t=>
  simp only[St.ag]at M⊢;cases O:Env.lk S.env t with
  |none=>exact .aA _
  |some y=>
   obtain⟨g,x⟩:=y;rw[O]at M;simp only[Ye]at M⊢;subst M;exact h.env t x O
 |const v=>exact ub ..
 |global g=>
  simp only[St.ag]at M⊢;split
  .rename_i d AC;obtain⟨⟨H,_⟩,A,A',A0,Ai⟩:=h.fY _ (Ch AC);have e:a.eval (.global g)=.pointer (some ⟨g,0+0,none⟩):=rfl;rw[e];exact .bR d 0 g 0 A' H A A0 (λi c hi=>by simpa using Ai i c hi)
  .exact .lit _ rfl
 |func f=>exact .fn f [] #[] (by simpa [St.ag]using M) rfl (by simp)
inductive bp where
 |no
 |val (c:Bool) (x:AV)
 |bl (c:Bool) (x:AV) (e:bk)
def uc(P:Program)(o:Oper)(a:Act)(w:World)(v:Value)(w':World):Prop:=
 (execOp a.eval o).run P w=.ok (.value v) w'\/((execOp a.eval o).run P w=.ok .skip w'/\v=undef)
def ak(P:Program)(S:St)(o:Oper):bp->Prop
 | .no=>True
 | .val c x=>c=true->∀φ G a w,Rel φ G S a w->∃v w',uc P o a w v w'/\ai φ w' (Fo G φ S.mem) x v/\
  (∀b,b<w.heap.size->w'.heap[b]?=w.heap[b]?)/\w.heap.size<=w'.heap.size/\w'.os=w.os/\w'.tape=w.tape/\w'.output=w.output
 | .bl c x e=>c=true->∀φ G a w,Rel φ G S a w->∃v w' φ',uc P o a w v w'/\ai φ' w' (Fo G φ' (Mem.set S.mem e)) x v/\
  aE φ' G (Mem.set S.mem e) w'/\az φ S.mem w φ' (Mem.set S.mem e) w'/\∀k,k≠e.key->φ' k=φ k
def ak.pure{P S o x}{c:Prop}[Decidable c](h:c->∀φ G a w,Rel φ G S a w->∃v,(execOp a.eval o).run P w=.ok (.value v) w/\ai φ w (Fo G φ S.mem) x v):ak P S o (.val (decide c) x):=by
 intro I φ G a w N;obtain⟨v,H,A⟩:=h (XW I) φ G a w N;exact⟨v,w,.inl H,A,λ_ _=>rfl,Ds _,rfl,rfl,rfl⟩
def ak.jD{P S o x e}{c:Prop}[Decidable c](h:c->∀φ G a w,Rel φ G S a w->∃v w' φ',uc P o a w v w'/\ai φ' w' (Fo G φ' (Mem.set S.mem e)) x v/\
 aE φ' G (Mem.set S.mem e) w'/\az φ S.mem w φ' (Mem.set S.mem e) w'/\∀k,k≠e.key->φ' k=φ k):ak P S o (.bl (decide c) x e):=λI=>h (XW I)
def ak.P8{P S o x}{c:Prop}[Decidable c](h:c->∀φ G a w,Rel φ G S a w->∃v w',uc P o a w v w'/\ai φ w' (Fo G φ S.mem) x v/\
 (∀b,b<w.heap.size->w'.heap[b]?=w.heap[b]?)/\w.heap.size<=w'.heap.size/\w'.os=w.os/\w'.tape=w.tape/\w'.output=w.output):ak P S o (.val (decide c) x):=λI=>h (XW I)
def ak.j4{P S o x}{c:Bool}(h:c=true->∀φ G a w,Rel φ G S a w->∃v,(execOp a.eval o).run P w=.ok (.value v) w/\ai φ w (Fo G φ S.mem) x v):ak P S o (.val c x):=by
 intro I φ G a w N;obtain⟨v,H,A⟩:=h I φ G a w N;exact⟨v,w,.inl H,A,λ_ _=>rfl,Ds _,rfl,rfl,rfl⟩
def fZ(P:Program)(S:St)(o:Oper):bp->Prop
 | .no=>True
 | .val c x=>c=true->∀φ G a w,Rel φ G S a w->∃v,(execOp a.eval o).run P w=.ok (.value v) w/\ai φ w (Fo G φ S.mem) x v
 | .bl _ _ _=>False
def fZ.of{P S o x}{c:Prop}[Decidable c](h:c->∀φ G a w,Rel φ G S a w->∃v,(execOp a.eval o).run P w=.ok (.value v) w/\ai φ w (Fo G φ S.mem) x v):fZ P S o (.val (decide c) x):=λI=>h (XW I)
def fZ.res{P S o r}(h:fZ P S o r):ak P S o r:=by
 cases r with
 |no=>trivial
 |val c x=>
  intro I φ G a w N;obtain⟨v,H,A⟩:=h I φ G a w N;exact⟨v,w,.inl H,A,λ_ _=>rfl,Ds _,rfl,rfl,rfl⟩
 |bl c x e=>exact h.elim
def gW(P:Program)(m:Mem)(t:TypeId)(p:AV):bp:=
 match p with
 | .ptr k U off=>match Mem.get m k with
  |some ⟨_,v,.box cs⟩=>match (tk P t).agg with
   |true=>match b7 P t with
    |some n=>.val (v=U/\off+n<=cs.length) (tA ((cs.drop off).take n))
    |none=>.no
   |false=>.val (v=U/\tk P t≠.other/\off<cs.length) (cs[off]?.getD .aA)
  |_=>.no
 | .bb k U i j=>match Mem.get m k with
  |some ⟨_,v,.vec sz rows⟩=>match (tk P t).agg with
   |true=>.val (v=U/\i<rows.length/\b7 P t=some sz/\j=0/\(D.at rows i).flat=false) (.d (D.at rows i))
   |false=>.val (v=U/\tk P t≠.other/\i<rows.length/\j<sz) (.d (D.cell (D.at rows i) j))
  |some ⟨_,v,.vv rows (some y)⟩=>match (tk P t).agg with
   |true=>.no
   |false=>.val (v=U/\tk P t≠.other/\i=rows.length/\j=0) y
  |_=>.no
 | .bR x j=>match (tk P t).agg with
  |true=>match j with
   |0=>.val (b7 P t=some x.size/\x.flat=false) (.d x)
   |j=>match b7 P t with
    |some n=>.val (j+n<=x.size) (.d (.agg ((x.cells.drop j).take n)))
    |none=>.no
  |false=>.val (tk P t≠.other/\j<x.size) (.d (x.cell j))
 |_=>.no
def aE.get{φ G m w}(h:aE φ G m w){k e}(T:Mem.get m k=some e):e∈m/\e.key=k/\∃L,φ k=some L/\L.U=e.U/\bt φ w (Fo G φ m) L e.cont:=by
 obtain⟨hm,A8⟩:=Mem.get_mem T;obtain⟨L,H,A,A0⟩:=h.de e hm;rw[A8]at H;exact⟨hm,A8,L,H,A,A0⟩
def ai.ga{φ w F k U off v L}(h:ai φ w F (.ptr k U off) v)(V:φ k=some L)(J:L.U=U):v=.pointer (some ⟨L.a7,off,none⟩):=by
 cases h with|ptr _ _ _ _ L' AI _ h _=>rw[V]at AI;cases AI;exact h J.symm
def ai.fw{φ w F k U i j v L}(h:ai φ w F (.bb k U i j) v)(V:φ k=some L)(J:L.U=U):v=.pointer (some ⟨L.a7,L.base+i*L.sz+j,none⟩):=by
 cases h with|bb _ _ _ _ _ L' AI _ h _=>rw[V]at AI;cases AI;exact h J.symm
def rQ{w:World}{b:Nat}{arr:Array Value}{e:TypeId}{fr}(h:w.heap[b]?=some (.cells arr e fr))(o:Nat):w.cell? ⟨b,o,none⟩=arr[o]?:=by
 simp[World.cell?,h]
def dt{w:World}{b:Nat}{arr:Array Value}{e:TypeId}(h:cy w b arr e)(o:Nat):w.cell? ⟨b,o,none⟩=arr[o]?:=by
 obtain⟨fr,h,_⟩:=h;exact rQ h o
def getD_at{xs:List D}{i:Nat}(h:i<xs.length):xs[i]?=some (D.at xs i):=by simp[D.at,h]
def oM{w F x v}(h:aq w F x v)(q:x.flat=false):∃arr,v=.agg arr:=by
 cases h<;>simp_all [D.flat]
def Ci(P:Program)(S:St)(o:Oper)(t:TypeId)(x:Operand)(AF:o.op=.load t x)(M:(S.ag x).1=true):fZ P S o (gW P S.mem t (S.ag x).2):=by
 have A5:∀(a:Act)(w:World)(v:Value),(Instr.loadAt t (a.eval x)).run P w=.ok v w->(execOp a.eval o).run P w=.ok (.value v) w:=by
  intro a w v h;simp[execOp,AF,h]
 unfold gW;split
 .rename_i k U off A1;split
  .rename_i key v cs T;split
   .rename_i Y;split
    .rename_i n AW;refine fZ.of ?_;rintro ⟨rfl,hle⟩ φ G a w N;have J:=N.ag x M;rw[A1]at J;obtain⟨hm,A8,L,V,A3,_,arr,elem,hh,AQ,H,A4⟩:=N.mem.get T;have e:=J.ga V A3;have AJ:((arr.toList.drop off).take n).length=n:=by simp;omega
     refine⟨.agg ((arr.toList.drop off).take n).toArray,A5 a w _ ?_,?_⟩
     .rw[e];refine n7 Y (by rw[AJ];exact AW) (λj v Z=>?_);rw[dt hh];rw[Xp]at Z;split at Z
      .simpa using Z
      .cases Z
     .refine rP (by rw[AJ];simp;omega) (λv J=>H v ?_) (λi c v I J=>?_)
      .have:=XF J;simpa using Xy this
      .rw[Xp]at I J;split at I
       .rename_i hi;simp only[hi,Yh]at J;exact A4 (off+i) c v (by simpa using I) (by simpa using J)
       .cases I
    .trivial
   .rename_i Y;refine fZ.of ?_;rintro ⟨rfl,A9,AA⟩ φ G a w N;have J:=N.ag x M;rw[A1]at J;obtain⟨hm,A8,L,V,A3,_,arr,elem,hh,AQ,H,A4⟩:=N.mem.get T;have e:=J.ga V A3;have Ad:off<arr.size:=by omega
    refine⟨arr[off],A5 a w _ ?_,A4 off _ _ ?_ (by simp[Ad])⟩
    .rw[e];exact n5 Y A9 (by rw[dt hh];simp[Ad])
    .simp[AA]
  .trivial
 .rename_i k U i j A1;split
  .rename_i key v sz rows T;split
   .rename_i Y;refine fZ.of ?_;rintro ⟨rfl,AA,AX,rfl,q⟩ φ G a w N;have J:=N.ag x M;rw[A1]at J;obtain⟨hm,A8,L,V,A3,AY,AZ,A_,AK⟩:=N.mem.get T;have e:=J.fw V A3;obtain⟨arr,elem,hh,AQ,H,A4⟩:=AK (by omega);obtain⟨u,hu,Aa⟩:=A4 i _ (getD_at AA);obtain⟨AD,rfl⟩:=oM hu q;refine⟨.agg AD,A5 a w _ ?_,.d _ _ hu⟩;rw[e];have AR:AD.toList.length=sz:=by
     have A0:=hu.size;rw[A_ _ (Xk (getD_at AA)),AY]at A0;simpa [Value.cells]using A0
    have:=n7 (P:=P) (t:=t) (w:=w) (b:=L.a7) (o:=L.base+i*L.sz+0) (vs:=AD.toList) Y (by rw[AR];exact AX) (λj v Z=>by
     rw[dt hh];exact Aa j v (by simpa [Value.cells]using Z))
    simpa using this
   .rename_i Y;refine fZ.of ?_;rintro ⟨rfl,A9,AA,Z⟩ φ G a w N;have J:=N.ag x M;rw[A1]at J;obtain⟨hm,A8,L,V,A3,AY,AZ,A_,AK⟩:=N.mem.get T;have e:=J.fw V A3;obtain⟨arr,elem,hh,AQ,H,A4⟩:=AK (by omega);obtain⟨u,hu,Aa⟩:=A4 i _ (getD_at AA);have AR:(D.at rows i).size=sz:=by rw[A_ _ (Xk (getD_at AA)),AY]
    have AL:j<u.cells.size:=by rw[hu.size,AR];exact Z
    have Ab:j<(D.at rows i).cells.length:=by rw[D.cZ,AR];exact Z
    refine⟨u.cells[j],A5 a w _ ?_,.d _ _ (hu.cells.2.2 j _ _ (by simp[D.cell,Ab]) (by simp[AL])).1⟩;rw[e];exact n5 Y A9 (by rw[dt hh];exact Aa j _ (by simp[AL]))
  .rename_i key v rows y T;split
   .trivial
   .rename_i Y;refine fZ.of ?_;rintro ⟨rfl,A9,rfl,rfl⟩ φ G a w N;have J:=N.ag x M;rw[A1]at J;obtain⟨hm,A8,L,V,A3,⟨Aj,AZ,_⟩,_,_,AK⟩:=N.mem.get T;have e:=J.fw V A3;simp only[Option.toList_some,X0]at AZ;obtain⟨arr,elem,hh,AQ,H,_,A4⟩:=AK (by omega);obtain⟨u,hu,Ak⟩:=A4 y rfl;refine⟨u,A5 a w _ ?_,Ak⟩;rw[e];exact n5 Y A9 (by rw[dt hh,Aj,Yv,XZ];exact hu)
  .trivial
 .rename_i d j A1;split
  .rename_i Y;split
   .refine fZ.of ?_;rintro ⟨AX,q⟩ φ G a w N;have J:=N.ag x M;rw[A1]at J;generalize AM:a.eval x=av at J;cases J with
    |bR _ _ b off A' AO AP A6 I=>
     obtain⟨AD,rfl⟩:=oM A6 q;refine⟨.agg AD,A5 a w _ ?_,.d _ _ A6⟩;rw[AM];exact n7 (vs:=AD.toList) Y (by rw[AX];have:=A6.size;simp[Value.cells]at this;simp[this]) (λj v Z=>I j v (by simpa [Value.cells]using Z))
   .split
    .rename_i n AW;refine fZ.of ?_;intro hle φ G a w N;have J:=N.ag x M;rw[A1]at J;generalize AM:a.eval x=av at J;cases J with
     |bR _ _ b off A' AO AP A6 I=>
      have Ac:=A6.cells;have O:A'.cells.toList.length=d.size:=by rw[Ac.1,D.cZ]
      have AJ:((A'.cells.toList.drop j).take n).length=n:=by simp at O⊢;omega
      refine⟨.agg ((A'.cells.toList.drop j).take n).toArray,A5 a w _ ?_,.d _ _ (.jJ ?_ ?_ ?_)⟩
      .rw[AM];refine n7 Y (by rw[AJ];exact AW) (λi v hi=>?_);rw[Xp]at hi;split at hi
       .rw[show off+j+i=off+(j+i) by omega];exact I (j+i) v (by simpa using hi)
       .cases hi
      .rw[AJ];simp[D.cZ];omega
      .intro v J;exact Ac.2.1 v (by simpa using Xy (XF J))
      .intro i c v H A;rw[Xp]at H A;split at H
       .rename_i hi;simp only[hi,Yh]at A;exact (Ac.2.2 (j+i) c v (by simpa using H) (by simpa using A)).1
       .cases H
    .trivial
  .rename_i Y;refine fZ.of ?_;rintro ⟨A9,Z⟩ φ G a w N;have J:=N.ag x M;rw[A1]at J;generalize AM:a.eval x=av at J;cases J with
   |bR _ _ b off A' AO AP A6 I=>
    have AL:j<A'.cells.size:=by rw[A6.size];exact Z
    have Ab:j<d.cells.length:=by rw[D.cZ];exact Z
    refine⟨A'.cells[j],A5 a w _ ?_,.d _ _ (A6.cells.2.2 j _ _ (by simp[D.cell,Ab]) (by simp[AL])).1⟩;rw[AM];exact n5 Y A9 (I j _ (by simp[AL]))
 .trivial
def AV.gu:AV->Bool
 | .aA=>false
 | .bc _=>false
 |_=>true
def ai.gu{φ w F x v}(h:ai φ w F x v)(A2:x.gu=true):v.cells.size=x.cells.length/\∀u∈v.cells,ba u=true:=by
 have one:∀{v:Value}{x:AV},ba v=true->x.cells.length=1->v.cells.size=x.cells.length/\∀u∈v.cells,ba u=true:=by
  intro v x A A1;rw[bX A,A1];exact⟨rfl,λu hu=>by simp at hu;subst hu;exact A⟩
 cases h with
 |aA=>simp[AV.gu]at A2
 |bc=>simp[AV.gu]at A2
 |d x v h=>
  have V:=h.cells;refine⟨?_,V.2.1⟩;have:=V.1;cases x<;>simp_all [AV.cells,D.cells]
 |agg cs a A1 A V=>exact⟨by simp[Value.cells,AV.cells,A1],A⟩
 |ptr _ _ _ _ _ _ _ _ A=>exact one A rfl
 |tn=>exact one rfl rfl
 |vec _ _ _ _ _ _ _ _ _ A=>exact one A rfl
 |bb _ _ _ _ _ _ _ _ _ A=>exact one A rfl
 |bR=>exact one rfl rfl
 |fn=>exact one rfl rfl
 |lJ=>exact one rfl rfl
 |dF=>exact one rfl rfl
 |lit _ A=>exact one A rfl
 |nn=>exact one rfl rfl
 |err=>exact one rfl rfl
def putCells{α:Type}(cs:List α)(off:Nat)(E:List α):List α:=
 match E with
 |[y]=>cs.set off y
 |E=>cs.take off++E++cs.drop (off+E.length)
def bC{α:Type}(cs:List α)(off:Nat)(E:List α)(h:off+E.length<=cs.length):putCells cs off E=cs.take off++E++cs.drop (off+E.length):=by
 unfold putCells;split
 .rename_i y;simp at h;rw[List.set_eq_take_append_cons_drop,Xz (by omega)];simp
 .rfl
def aV{α:Type}(cs:List α)(off:Nat)(E:List α)(h:off+E.length<=cs.length):(putCells cs off E).length=cs.length:=by
 rw[bC cs off E h];simp;omega
def du{α:Type}(cs:List α)(off:Nat)(E:List α)(h:off+E.length<=cs.length)(i:Nat):
 (putCells cs off E)[i]?=if i<off then cs[i]? else if i<off+E.length then E[i-off]? else cs[i]?:=by
 rw[bC cs off E h];by_cases A:i<off
 .rw[Xz A,Yb,Xr (by simp;omega),Xp,Xz A]
 .rw[Xq A,Yb,Xu (by simp;omega)];simp only[X6,Yp (show off<=cs.length by omega)];by_cases W:i<off+E.length
  .rw[Xz W,Xr (by omega)]
  .rw[Xq W,Xu (by omega),XJ];congr 1;omega
def na{α β:Type}{R:α->β->Prop}{cs E:List α}{vs us:List β}{off:Nat}(A1:cs.length=vs.length)(B9:E.length=us.length)(h:off+E.length<=cs.length)
 (V:∀(i:Nat) c v,cs[i]?=some c->vs[i]?=some v->R c v) (A7:∀(i:Nat) c v,E[i]?=some c->us[i]?=some v->R c v):
 ∀(i:Nat) c v,(putCells cs off E)[i]?=some c->(putCells vs off us)[i]?=some v->R c v:=by
 intro i c v;rw[du cs off E h,du vs off us (by omega),<-B9];split
 .exact V i c v
 .split
  .exact A7 _ c v
  .exact V i c v
def uL{φ G m w}(h:aE φ G m w):∀b,Fo G φ m b->b<w.heap.size:=λb J=>J.elim (h.bound b) (λA4=>h.vz A4)
def jr(w:World)(g k:Nat)(cs:Array Value)(h:k≠g):(w.setRow g cs).heap[k]?=w.heap[k]?:=by
 simp only[World.setRow,YA];rw[Xq (λe=>h e.symm)]
def aE.zE{φ G m w}(h:aE φ G m w){e:bk}(he:e∈m){L:Loc}(O:φ e.key=some L)(Y:L.U=e.U){b0:Nat}(A4:e.cont.bg L b0)(M:Array Value)
 (L':Loc) (T:e.U<=L'.U) (BA:L'.U=L.U->L'={L with bJ:=L'.bJ}) (c':ay) (AE:∀b,c'.bg L' b->e.cont.bg L b)
 (V:∀φ':aQ,φ.le φ'->(∀x v,ai φ w (Fo G φ m) x v->ai φ' (w.setRow b0 M) (Fo G φ' (Mem.set m ⟨e.key,L'.U,c'⟩)) x v)->
  (∀x v,aq w (Fo G φ m) x v->aq (w.setRow b0 M) (Fo G φ' (Mem.set m ⟨e.key,L'.U,c'⟩)) x v)->
  bt φ' (w.setRow b0 M) (Fo G φ' (Mem.set m ⟨e.key,L'.U,c'⟩)) L' c'):
 ∃φ',aE φ' G (Mem.set m ⟨e.key,L'.U,c'⟩) (w.setRow b0 M)/\az φ m w φ' (Mem.set m ⟨e.key,L'.U,c'⟩) (w.setRow b0 M)/\φ' e.key=some L'/\∀k,k≠e.key->φ' k=φ k:=by
 have BB:ek φ m b0:=⟨e,he,L,O,A4⟩;refine h.bl (e':=⟨e.key,L'.U,c'⟩) he O rfl (L':=L') (by rw[Y];exact T) BA rfl
  (λb J A8=>jr w b0 b M (λheq=>A8 (heq▸A4))) (by simp) (λb J=>.inl (AE b J)) rfl rfl rfl ?_
 intro φ' AO hle;have AW:∀b,b<w.heap.size->Fo G φ' (Mem.set m ⟨e.key,L'.U,c'⟩) b->Fo G φ m b:=by
  rintro b BR (Ao|⟨x,H,Ap,AF,AX⟩)
  .exact .inl Ao
  .right;rcases (Mem.mem_set h.nodup).1 H with ⟨rfl,_⟩|⟨Aq,AI⟩
   .subst AO;simp at AF;subst AF;exact⟨e,he,L,O,AE b AX⟩
   .subst AO;simp at AI;simp[AI]at AF;exact⟨x,Aq,Ap,AF,AX⟩
 have A9:∀b,b<w.heap.size->¬Fo G φ m b->(w.setRow b0 M).heap[b]?=w.heap[b]?:=
  λb J A8=>jr w b0 b M (λheq=>A8 (.inr (heq▸BB)))
 exact V φ' hle (λx v H=>H.mono hle A9 (by simp) AW) (λx v H=>H.mono A9 (by simp) AW)
def aE.store{φ G m w}(h:aE φ G m w){e:bk}(he:e∈m){L:Loc}(O:φ e.key=some L)(Y:L.U=e.U){b0:Nat}(A4:e.cont.bg L b0)(M:Array Value)
 (AA:Nat) (T:e.U<=AA) (c':ay) (AE:∀b,c'.bg {L with U:=AA} b->e.cont.bg L b)
 (V:∀φ':aQ,φ.le φ'->(∀x v,ai φ w (Fo G φ m) x v->ai φ' (w.setRow b0 M) (Fo G φ' (Mem.set m ⟨e.key,AA,c'⟩)) x v)->
  (∀x v,aq w (Fo G φ m) x v->aq (w.setRow b0 M) (Fo G φ' (Mem.set m ⟨e.key,AA,c'⟩)) x v)->
  bt φ' (w.setRow b0 M) (Fo G φ' (Mem.set m ⟨e.key,AA,c'⟩)) {L with U:=AA} c'):
 ∃φ',aE φ' G (Mem.set m ⟨e.key,AA,c'⟩) (w.setRow b0 M)/\az φ m w φ' (Mem.set m ⟨e.key,AA,c'⟩) (w.setRow b0 M)/\φ' e.key=some {L with U:=AA}/\∀k,k≠e.key->φ' k=φ k:=
 h.zE he O Y A4 M {L with U:=AA} T (λhh=>by simp at hh;cases L;simp_all) c' AE V
def aE.zF{φ G m w}(h:aE φ G m w){e:bk}(he:e∈m){L:Loc}(O:φ e.key=some L)(Y:L.U=e.U)(I:World)(AP:I.heap=w.heap)(Ar:I.os=w.os)(As:I.tape=w.tape)(At:I.output=w.output)
 (arr:Array Value) (elem:TypeId) (c':ay) (L':Loc) (T:L'.U=e.U+1) (AE:∀b,c'.bg L' b->e.cont.bg L b\/w.heap.size=b)
 (V:∀φ':aQ,φ.le φ'->(∀x v,ai φ w (Fo G φ m) x v->ai φ' (I.alloc (.cells arr elem)) (Fo G φ' (Mem.set m ⟨e.key,e.U+1,c'⟩)) x v)->
  (∀x v,aq w (Fo G φ m) x v->aq (I.alloc (.cells arr elem)) (Fo G φ' (Mem.set m ⟨e.key,e.U+1,c'⟩)) x v)->
  (I.alloc (.cells arr elem)).heap[w.heap.size]?=some (.cells arr elem (0,0))->(∀b,b<w.heap.size->(I.alloc (.cells arr elem)).heap[b]?=w.heap[b]?)->φ' e.key=some L'->
  bt φ' (I.alloc (.cells arr elem)) (Fo G φ' (Mem.set m ⟨e.key,e.U+1,c'⟩)) L' c'):
 ∃φ',aE φ' G (Mem.set m ⟨e.key,e.U+1,c'⟩) (I.alloc (.cells arr elem))/\az φ m w φ' (Mem.set m ⟨e.key,e.U+1,c'⟩) (I.alloc (.cells arr elem))/\
  φ' e.key=some L'/\∀k,k≠e.key->φ' k=φ k:=by
 have hold:∀b,b<w.heap.size->(I.alloc (.cells arr elem)).heap[b]?=w.heap[b]?:=λb J=>by rw[RowKit.Below.heap_alloc I _ b (by rw[AP];exact J),AP]
 have A5:w.heap.size<=(I.alloc (.cells arr elem)).heap.size:=by simp[AP]
 refine h.bl (e':=⟨e.key,e.U+1,c'⟩) he O rfl (L':=L') (by rw[Y,T];simp) (λhh=>by simp[Y,T]at hh) T
  (λb J _=>hold b J) A5 (λb J=>(AE b J).imp id (λe=>by omega)) Ar As At ?_
 intro φ' AO hle;have AW:∀b,b<w.heap.size->Fo G φ' (Mem.set m ⟨e.key,e.U+1,c'⟩) b->Fo G φ m b:=by
  rintro b J (Ao|⟨x,H,Ap,AF,AX⟩)
  .exact .inl Ao
  .right;rcases (Mem.mem_set h.nodup).1 H with ⟨rfl,_⟩|⟨Aq,AI⟩
   .subst AO;simp at AF;subst AF;rcases AE b AX with AB|AB
    .exact⟨e,he,L,O,AB⟩
    .omega
   .subst AO;simp at AI;simp[AI]at AF;exact⟨x,Aq,Ap,AF,AX⟩
 refine V φ' hle (λx v H=>H.mono hle (λb J _=>hold b J) A5 AW) (λx v H=>H.mono (λb J _=>hold b J) A5 AW) ?_ hold (by simp[AO]);have:=heap_alloc_new I (.cells arr elem);rwa [AP]at this
def aE.fresh{φ G m w}(h:aE φ G m w){e:bk}(he:e∈m){L:Loc}(O:φ e.key=some L)(Y:L.U=e.U)(I:World)(AP:I.heap=w.heap)(Ar:I.os=w.os)(As:I.tape=w.tape)(At:I.output=w.output)
 (arr:Array Value) (elem:TypeId) (sz cap:Nat) (c':ay) (AE:∀b,c'.bg ⟨e.U+1,w.heap.size,sz,cap,0,[],some elem⟩ b->w.heap.size=b)
 (V:∀φ':aQ,φ.le φ'->(∀x v,ai φ w (Fo G φ m) x v->ai φ' (I.alloc (.cells arr elem)) (Fo G φ' (Mem.set m ⟨e.key,e.U+1,c'⟩)) x v)->
  (∀x v,aq w (Fo G φ m) x v->aq (I.alloc (.cells arr elem)) (Fo G φ' (Mem.set m ⟨e.key,e.U+1,c'⟩)) x v)->
  (I.alloc (.cells arr elem)).heap[w.heap.size]?=some (.cells arr elem (0,0))->
  bt φ' (I.alloc (.cells arr elem)) (Fo G φ' (Mem.set m ⟨e.key,e.U+1,c'⟩)) ⟨e.U+1,w.heap.size,sz,cap,0,[],some elem⟩ c'):
 ∃φ',aE φ' G (Mem.set m ⟨e.key,e.U+1,c'⟩) (I.alloc (.cells arr elem))/\az φ m w φ' (Mem.set m ⟨e.key,e.U+1,c'⟩) (I.alloc (.cells arr elem))/\
  φ' e.key=some ⟨e.U+1,w.heap.size,sz,cap,0,[],some elem⟩/\∀k,k≠e.key->φ' k=φ k:=
 h.zF he O Y I AP Ar As At arr elem c' _ rfl (λb J=>.inr (AE b J)) (λφ' A W AK A3 _ _=>V φ' A W AK A3)
def D.setCells(r:D)(j:Nat)(y:D):D:=.agg (putCells r.cells j y.cells)
def vD(P:Program)(t:TypeId)(k U i j:Nat)(x:AV):Option bk->bp
 |some ⟨_,v,.vv rows (some _)⟩=>match x with
  | .vec a b c d=>.bl (v=U/\i=rows.length/\j=0/\b7 P t=some 1) .aA ⟨k,U,.vv rows (some (.vec a b c d))⟩
  |_=>.no
 |_=>.no
def j5(P:Program)(m:Mem)(t:TypeId)(p x:AV):bp:=
 match p with
 | .ptr k U off=>match Mem.get m k with
  |some ⟨_,v,.box cs⟩=>.bl (v=U/\x.gu=true/\b7 P t=some x.cells.length/\off+x.cells.length<=cs.length) .aA ⟨k,U,.box (putCells cs off x.cells)⟩
  |_=>.no
 | .bb k U i j=>match Mem.get m k,x.norm with
  |some ⟨_,v,.vec sz rows⟩,.d y=>match tk P t with
   | .struct=>.bl (v=U/\i<rows.length/\b7 P t=some sz/\y.size=sz/\j=0) .aA ⟨k,U,.vec sz (rows.set i y)⟩
   |_=>match sz with
    |1=>.bl (v=U/\i<rows.length/\b7 P t=some 1/\y.size=1/\j=0) .aA ⟨k,U,.vec 1 (rows.set i y)⟩
    |sz=>.bl (v=U/\i<rows.length/\b7 P t=some y.size/\j+y.size<=sz/\(D.at rows i).flat=false) .aA ⟨k,U,.vec sz (rows.set i ((D.at rows i).setCells j y))⟩
  |e,_=>vD P t k U i j x e
 |_=>.no
def y5{w w':World}{F F':Nat->Prop}{arr:Array Value}{rows:List D}{base sz cap i o:Nat}{us:List Value}{AC:D}{AD:Value}(A2:arr.size=base+cap*sz)(AQ:rows.length<=cap)(hi:i<rows.length)
 (A4:base+i*sz<=o) (BS:o+us.length<=base+i*sz+sz)
 (AR:∀(n:Nat)(d:D),rows[n]?=some d->∃v,aq w F d v/\∀(j:Nat)(c:Value),v.cells[j]?=some c->arr[base+n*sz+j]?=some c)
 (BC:∀d∈rows,d.size=sz)
 (hm:∀x v,aq w F x v->aq w' F' x v) (AJ:aq w' F' AC AD) (AS:AC.size=sz)
 (Au:∀(j:Nat)(c:Value),AD.cells[j]?=some c->(putCells arr.toList o us)[base+i*sz+j]?=some c):
 ∀(n:Nat)(d:D),(rows.set i AC)[n]?=some d->∃v,aq w' F' d v/\∀(j:Nat)(c:Value),v.cells[j]?=some c->(putCells arr.toList o us).toArray[base+n*sz+j]?=some c:=by
 have BD:base+i*sz+sz<=arr.size:=by
  have:i*sz+sz<=cap*sz:=by rw[<-X9];exact Xo _ (by omega)
  omega
 intro n d A6;by_cases A8:n=i
 .subst A8;simp[hi]at A6;subst A6;exact⟨AD,AJ,λj c AY=>by simpa using Au j c AY⟩
 .rw[List.getElem?_set_ne (λh=>A8 h.symm)]at A6;obtain⟨v,T,BE⟩:=AR n d A6;refine⟨v,hm d v T,λj c AY=>?_⟩;have BT:j<sz:=by
   have A:=T.size;rw[BC d (Xk A6)]at A;have:=(Xv.1 AY).1;omega
  rw[XX,du arr.toList o us (by simp;omega)];have key:¬(o<=base+n*sz+j/\base+n*sz+j<o+us.length):=by
   rintro ⟨A,W⟩;rcases Nat.lt_or_gt_of_ne A8 with AL|BF
   .have:n*sz+sz<=i*sz:=by rw[<-X9];exact Xo _ AL
    omega
   .have:i*sz+sz<=n*sz:=by rw[<-X9];exact Xo _ BF
    omega
  have hh:=BE j c AY;split
  .simpa using hh
  .rw[Xq (by omega)];simpa using hh
def nf{P:Program}{t:TypeId}{w:World}{b o:Nat}{arr:Array Value}{elem:TypeId}{v:Value}(A2:b7 P t=some v.cells.size)
 (Z:cy w b arr elem) (A1:o+v.cells.size<=arr.size) (A:∀x∈v.cells,ba x=true):
 (Instr.storeAt t (.pointer (some ⟨b,o,none⟩)) v).run P w=.ok () (w.setRow b (putCells arr.toList o v.cells.toList).toArray):=by
 rw[BM A2 Z A1 A,bC _ _ _ (by simpa using A1)];simp
def BN{w:World}{b:Nat}{arr:Array Value}{elem:TypeId}{fr}(Z:w.heap[b]?=some (.cells arr elem fr))(M:Array Value):(w.setRow b M).heap[b]?=some (.cells M elem fr):=setRow_heap w b arr M elem fr Z
def cy.setRow{w:World}{b:Nat}{arr:Array Value}{elem:TypeId}(Z:cy w b arr elem)(M:Array Value)(A2:M.size=arr.size):cy (w.setRow b M) b M elem:=by
 obtain⟨fr,A,W⟩:=Z;exact⟨fr,BN A M,by rw[A2];exact W⟩
def gd{α:Type}{cs E:List α}{off:Nat}{x:α}(h:off+E.length<=cs.length)(H:x∈putCells cs off E):x∈cs\/x∈E:=by
 rw[bC cs off E h]at H;simp only[XL]at H;rcases H with (H|H)|H
 .exact .inl (XF H)
 .exact .inr H
 .exact .inl (Xy H)
def EF(P:Program)(S:St)(o:Oper)(t:TypeId)(p x:Operand)(A4:o.op=.store t p x)(AZ:(S.ag p).1=true)(H:(S.ag x).1=true){k U i j:Nat}(AT:(S.ag p).2=.bb k U i j):
 ak P S o (vD P t k U i j (S.ag x).2 (Mem.get S.mem k)):=by
 unfold vD;split
 .rename_i key v rows y Z;split
  .rename_i a b c d AM;refine ak.jD ?_;rintro ⟨rfl,rfl,rfl,A_⟩ φ G BG w A';have A9:key=k:=(Mem.get_mem Z).2;subst A9;have T:=A'.ag p AZ;have hu:=A'.ag x H;rw[AT]at T;rw[AM]at hu;obtain⟨hm,_,L,O,Y,AN⟩:=A'.mem.get Z;obtain⟨⟨B1,AQ,A1⟩,BH,AI,Av⟩:=AN;have e:=T.fw O Y;simp only[Option.toList_some,X0]at AQ;have Aa:0<L.cap:=by omega
   obtain⟨arr,elem,hh,A5,A,BI,_⟩:=Av Aa;generalize Aw:BG.eval x=u at hu;have Ax:ba u=true:=by cases hu;assumption
   have Aj:u.cells=#[u]:=bX Ax;have A0:L.base+rows.length+[u].length<=arr.toList.length:=by simp;omega
   obtain⟨φ',Ab,Ac,B2,Ad⟩:=A'.mem.store (e:=⟨key,v,.vv rows (some y)⟩) hm O Y (b0:=L.a7) (.inl ⟨Aa,rfl⟩) (putCells arr.toList (L.base+rows.length) [u]).toArray v (Ds _) (.vv rows (some (.vec a b c d))) (λ_ J=>J) (λφ' B3 Ak AU=>by
    refine⟨⟨B1,by simpa using AQ,A1⟩,BH,AI,λ_=>⟨_,elem,hh.setRow _ (by rw[XS,aV _ _ _ A0];simp),?_,?_,?_,?_⟩⟩
    .rw[XS,aV _ _ _ A0];simpa using A5
    .intro z N;rcases gd A0 (by simpa using N)with N|N
     .exact A z (by simpa using N)
     .simp at N;subst N;exact Ax
    .intro n xs q A8 Al;have BU:=(D1.1 A8).1;have:=BI n xs q A8 Al;rw[show (putCells arr.toList (L.base+rows.length) [u]).toArray[L.base+n]?=arr[L.base+n]? by
      rw[XX,du _ _ _ A0,Xz (by omega)];simp]
     refine this.mono (λd u _ A6=>AU d u A6) (λb J=>?_);subst J;exact jr w L.a7 b _ (λheq=>(AI b (Xk Al)).2 heq)
    .intro z N;cases N;refine⟨u,?_,Ak _ _ hu⟩;show (putCells arr.toList (L.base+rows.length) [u]).toArray[L.base+rows.length]?=some u;rw[XX,du _ _ _ A0,Xq (by omega),Xz (by simp)];simp)
   refine⟨undef,_,φ',?_,.aA _,Ab,Ac,Ad⟩;have B4:=nf (P:=P) (t:=t) (w:=w) (b:=L.a7) (o:=L.base+rows.length) (v:=u) (by rw[Aj];exact A_) hh (by rw[Aj];simpa using A0) (by rw[Aj];simpa using Ax);rw[Aj]at B4;refine .inr ⟨?_,rfl⟩;rw[B1,Yv,XZ]at e;simp[execOp,A4,e,Aw,B4]
  .trivial
 .trivial
def G6(P:Program)(S:St)(o:Oper)(t:TypeId)(p x:Operand)(A4:o.op=.store t p x)(AZ:(S.ag p).1=true)(H:(S.ag x).1=true):ak P S o (j5 P S.mem t (S.ag p).2 (S.ag x).2):=by
 have B5:∀(a:Act)(w w':World),(Instr.storeAt t (a.eval p) (a.eval x)).run P w=.ok () w'->uc P o a w undef w':=by
  intro a w w' h;exact .inr ⟨by simp[execOp,A4,h],rfl⟩
 unfold j5;split
 .rename_i k U off AT;split
  .rename_i key v cs Z;refine ak.jD ?_;rintro ⟨rfl,BJ,A_,hle⟩ φ G a w A';have T:=A'.ag p AZ;have AM:=A'.ag x H;rw[AT]at T;obtain⟨hm,A9,L,O,Y,Ay,arr,elem,hh,A5,A,AR⟩:=A'.mem.get Z;have e:=T.ga O Y;obtain⟨An,Az⟩:=AM.gu BJ;simp only at A9;subst A9;have A0:off+(a.eval x).cells.toList.length<=arr.toList.length:=by simp only[Xs,An,A5];exact hle
   obtain⟨φ',Ab,Ac,B2,Ad⟩:=A'.mem.store (e:=⟨key,v,.box cs⟩) hm O Y rfl (putCells arr.toList off (a.eval x).cells.toList).toArray v (Ds _) (.box (putCells cs off (S.ag x).2.cells)) (λ_ J=>J) (λφ' B3 Ak AU=>by
    refine⟨⟨Ay.1,Ay.2.1,by rw[aV _ _ _ hle];exact Ay.2.2⟩,_,elem,hh.setRow _ (by show (putCells arr.toList _ _).length=_;rw[aV _ _ _ A0];simp),?_,?_,?_⟩
    .rw[aV _ _ _ hle,<-A5];show (putCells arr.toList off _).length=_;rw[aV _ _ _ A0];simp
    .intro u hu;rcases gd A0 (by simpa using hu)with hu|hu
     .exact A u (by simpa using hu)
     .exact Az u (by simpa using hu)
    .intro i c u V hu;refine Ak c u ?_;exact na (vs:=arr.toList) (us:=(a.eval x).cells.toList) (by simp[A5]) (by simpa using An.symm) hle (λi c v h AB=>AR i c v h (by simpa using AB))
      (λi c v h AB=>AM.cells Az An i c v h (by simpa using AB)) i c u V (by simpa using hu))
   refine⟨undef,_,φ',B5 a w _ ?_,.aA _,Ab,Ac,Ad⟩;rw[e];exact nf (by rw[An];exact A_) hh (by omega) Az
  .trivial
 .rename_i k U i j AT;have vec:∀(c:Prop)[Decidable c](sz:Nat)(rows:List D)(y AC:D)(v:Nat),Mem.get S.mem k=some ⟨k,v,.vec sz rows⟩->(S.ag x).2.norm=.d y->
   (c->v=U/\i<rows.length/\b7 P t=some y.size/\j+y.size<=sz/\((D.at rows i).size=sz->AC.size=sz)/\
    ∀w F (u v:Value),(D.at rows i).size=sz->aq w F (D.at rows i) v->aq w F y u->∃AD,aq w F AC AD/\AD.cells.toList=putCells v.cells.toList j u.cells.toList)->
   ak P S o (.bl (decide c) .aA ⟨k,U,.vec sz (rows.set i AC)⟩):=by
   intro c _ sz rows y AC v Z A7 BK;refine ak.jD λV φ G a w A'=>?_;obtain⟨rfl,AL,A_,AY,BL,BO⟩:=BK V;have T:=A'.ag p AZ;have AM:=(A'.ag x H).norm;rw[A7]at AM;rw[AT]at T;obtain⟨hm,A9,L,O,Y,Ae,AQ,AS,Av⟩:=A'.mem.get Z;have e:=T.fw O Y;have Aa:0<L.cap:=by omega
   obtain⟨arr,elem,hh,A5,A,AR⟩:=Av Aa;have B6:AC.size=sz:=BL (by rw[AS _ (Xk (getD_at AL)),Ae]);cases AM with
   |d _ u hu=>
    generalize Aw:a.eval x=u at hu;have Af:u.cells.size=y.size:=hu.size;have BD:L.base+i*L.sz+L.sz<=arr.size:=by
     have:i*L.sz+L.sz<=L.cap*L.sz:=by rw[<-X9];exact Xo _ (by omega)
     omega
    obtain⟨B',B7,B8⟩:=AR i _ (getD_at AL);have B0:B'.cells.size=L.sz:=by rw[B7.size];exact AS _ (Xk (getD_at AL))
    have A0:L.base+i*L.sz+j+u.cells.toList.length<=arr.toList.length:=by simp[Af];omega
    obtain⟨φ',Ab,Ac,B2,Ad⟩:=A'.mem.store (e:=⟨k,v,.vec sz rows⟩) hm O Y ⟨Aa,rfl⟩ (putCells arr.toList (L.base+i*L.sz+j) u.cells.toList).toArray v (Ds _) (.vec sz (rows.set i AC)) (λ_ J=>J) (λφ' B3 Ak AU=>by
     refine⟨Ae,by simpa using AQ,?_,λ_=>⟨_,elem,hh.setRow _ (by show (putCells arr.toList _ _).length=_;rw[aV _ _ _ A0];simp),?_,?_,?_⟩⟩
     .intro d A6;rcases List.mem_or_eq_of_mem_set A6 with A6|rfl
      .exact AS d A6
      .show _=L.sz;rw[Ae];exact B6
     .show (putCells arr.toList _ _).length=_;rw[aV _ _ _ A0];simpa using A5
     .intro z N;rcases gd A0 (by simpa using N)with N|N
      .exact A z (by simpa using N)
      .exact hu.cells.2.1 z (by simpa using N)
     .obtain⟨AD,Au,BP⟩:=BO _ _ u B' (by rw[AS _ (Xk (getD_at AL)),Ae]) (AU _ _ B7) (AU _ _ hu);refine y5 (F:=Fo G φ S.mem) (base:=L.base) (cap:=L.cap) (sz:=L.sz) A5 AQ AL (by omega) (by simp[Af];omega) AR AS AU Au (by rw[B6,Ae]) ?_;intro q c Al;have AG:(putCells B'.cells.toList j u.cells.toList)[q]?=some c:=by rw[<-BP];simpa using Al
      have BV:q<L.sz:=by
       have:=(D1.1 AG).1;rw[aV _ _ _ (by simp[Af,B0];omega)]at this;simpa [B0]using this
      rw[du _ _ _ (by simp[Af,B0];omega)]at AG;rw[du _ _ _ A0];by_cases A:q<j
      .rw[Xz A]at AG;rw[Xz (by omega)];simpa using B8 q c (by simpa using AG)
      .rw[Xq A]at AG;rw[Xq (by omega)];by_cases W:q<j+u.cells.toList.length
       .rw[Xz W]at AG;rw[Xz (by omega)];rw[show L.base+i*L.sz+q-(L.base+i*L.sz+j)=q-j by omega];exact AG
       .rw[Xq W]at AG;rw[Xq (by omega)];simpa using B8 q c (by simpa using AG))
    refine⟨undef,_,φ',B5 a w _ ?_,.aA _,Ab,Ac,Ad⟩;rw[e,Aw];exact nf (by rw[Af];exact A_) hh (by simpa using A0) hu.cells.2.1
  have whole:∀(y r:D),y.size=r.size->∀w F (u v:Value),aq w F r v->aq w F y u->∃AD,aq w F y AD/\AD.cells.toList=putCells v.cells.toList 0 u.cells.toList:=by
   intro y r BW w F u v A' A7;refine⟨u,A7,?_⟩;have A:=A'.size;have W:=A7.size;rw[bC _ _ _ (by simp;omega)];simp;omega
  split
  .rename_i key v sz rows y Z A7;have A9:key=k:=(Mem.get_mem Z).2;subst A9;split
   .exact vec _ sz rows y y v Z A7 (λ⟨A,W,AK,A3,Ag⟩=>⟨A,W,by rw[A3];exact AK,by omega,λ_=>A3,by
     subst Ag;intro w F u v A2 AJ Ah;exact whole y _ (by rw[A2,A3]) w F u v AJ Ah⟩)
   .split
    .exact vec _ 1 rows y y v Z A7 (λ⟨A,W,AK,A3,Ag⟩=>⟨A,W,by rw[A3];exact AK,by omega,λ_=>A3,by
      subst Ag;intro w F u v A2 AJ Ah;exact whole y _ (by rw[A2,A3]) w F u v AJ Ah⟩)
    .refine vec _ sz rows y _ v Z A7 (λ⟨A,W,AK,A3,Ag⟩=>⟨A,W,AK,A3,?_,?_⟩)
     .intro AH;show (putCells _ _ _).length=sz;rw[aV _ _ _ (by rw[D.cZ,D.cZ,AH];exact A3),D.cZ,AH]
     .intro w F u v A2 AJ Ah;obtain⟨BQ,rfl⟩:=oM AJ Ag;have AN:=AJ.cells;have Ai:=Ah.cells;have A1:j+y.cells.length<=(D.at rows i).cells.length:=by rw[D.cZ,D.cZ,A2];exact A3
      refine⟨.agg (putCells BQ.toList j u.cells.toList).toArray,.jJ ?_ ?_ ?_,by simp[Value.cells]⟩
      .have AH:=AN.1;simp only[Value.cells]at AH;rw[aV _ _ _ A1,aV _ _ _ (by rw[Ai.1,AH];exact A1),<-AH]
      .intro z N;have AH:=AN.1;simp only[Value.cells]at AH;rcases gd (by rw[Ai.1,AH];exact A1) N with N|N
       .exact AN.2.1 z (by simpa [Value.cells]using N)
       .exact Ai.2.1 z (by simpa using N)
      .exact na (by simpa [Value.cells]using AN.1.symm) (by simpa using Ai.1.symm) A1 (λi c v h AB=>(AN.2.2 i c v h (by simpa [Value.cells]using AB)).1) (λi c v h AB=>(Ai.2.2 i c v h (by simpa using AB)).1)
  .exact EF P S o t p x A4 AZ H AT
 .trivial
def dy(P:Program)(w:World)(e:TypeId)(cs:Array Value):(newRow e cs).run P w=.ok ⟨w.heap.size,0,none⟩ (w.alloc (.cells cs e)):=rfl
def keyOf(o:Oper):Nat:=100+50*o.dst.getD 100000
def j6(P:Program)(t:TypeId):Option (List AV):=
 match P.info? t with
 |some i=>match i.zero with
  |some z=>if z.cells.all ba then some (z.cells.toList.map iK)else none
  |none=>none
 |none=>none
def ij{P:Program}{t:TypeId}{zs:List AV}(h:j6 P t=some zs)(w:World):∃z,(zeroValue t).run P w=.ok z w/\z.cells.size=zs.length/\(∀v∈z.cells,ba v=true)/\
 ∀φ w' F (i:Nat) c v,zs[i]?=some c->z.cells[i]?=some v->ai φ w' F c v:=by
 unfold j6 at h;split at h
 .rename_i i hi;split at h
  .rename_i z Y;split at h
   .rename_i AS;simp at h;subst h;refine⟨z,by simp[zeroValue,typeInfo,hi,Y],by simp,?_,?_⟩
    .intro v A;exact Array.all_eq_true'.1 AS v A
    .intro φ w' F i c v J A;simp only[XA,X1,Xj]at J;obtain⟨u,hu,rfl⟩:=J;rw[A]at hu;cases hu;exact ub ..
   .cases h
  .cases h
 .cases h
def kP(m:Mem)(k:Nat)(c:Bool)(cs:List AV):bp:=
 match Mem.get m k with
 |some ⟨_,v,_⟩=>.bl c (.ptr k (v+1) 0) ⟨k,v+1,.box cs⟩
 |none=>.no
def Ck{P:Program}{S:St}{o:Oper}{k:Nat}{c:Bool}{cs:List AV}
 (h:c=true->∀φ G a w,Rel φ G S a w->∃(arr:Array Value)(elem:TypeId),(execOp a.eval o).run P w=.ok (.value (.pointer (some ⟨w.heap.size,0,none⟩))) (w.alloc (.cells arr elem))/\
  arr.size=cs.length/\(∀v∈arr,ba v=true)/\∀(i:Nat) c v,cs[i]?=some c->arr[i]?=some v->ai φ w (Fo G φ S.mem) c v):ak P S o (kP S.mem k c cs):=by
 unfold kP;split
 .rename_i key v cont A9;intro J φ G a w T;obtain⟨arr,elem,Z,N,H,U⟩:=h J φ G a w T;obtain⟨hm,q,L,AA,A4,_⟩:=T.mem.get A9;simp only at q A4;subst q;obtain⟨φ',AB,AC,AD,AE⟩:=T.mem.fresh (e:=⟨key,v,cont⟩) hm AA A4 w rfl rfl rfl rfl arr elem 1 cs.length (.box cs) (λ_ A0=>A0) (λφ' hle AF AT AG=>
   ⟨⟨rfl,rfl,rfl⟩,arr,elem,cy.new AG,N,H,λi c u J hu=>AF c u (U i c u J hu)⟩)
  exact⟨_,_,φ',.inl Z,.ptr key (v+1) 0 _ _ AD (Ds _) (λ_=>rfl) rfl,AB,AC,AE⟩
 .trivial
def KJ(P:Program)(S:St)(o:Oper)(t:TypeId)(x:Operand)(A5:o.op=.box t x)(A1:(S.ag x).1=true):ak P S o (kP S.mem (keyOf o) (S.ag x).2.gu (S.ag x).2.cells):=by
 refine Ck λy φ G a w T=>?_;have A:=T.ag x A1;obtain⟨H,O⟩:=A.gu y;refine⟨(a.eval x).cells,t,?_,H,O,A.cells O H⟩;simp[execOp,A5,Instr.box,newVar,dy]
def uM(P:Program)(S:St)(o:Oper)(t:TypeId)(A5:o.op=.alloc t)(zs:List AV)(Y:j6 P t=some zs):ak P S o (kP S.mem (keyOf o) true zs):=by
 refine Ck λ_ φ G a w T=>?_;obtain⟨z,Z,N,H,U⟩:=ij Y w;refine⟨z.cells,t,?_,N,H,λi c v J A=>U _ _ _ i c v J A⟩;simp[execOp,A5,Instr.alloc,newVar,dy,Z]
def zH(m:Mem)(k:Nat)(t:TypeId)(cs:List AV):bp:=
 match Mem.get m k with
 |some ⟨_,v,_⟩=>.bl true (.ptr k (v+1) 0) ⟨k,v+1,.box (.tn k (v+1) t::cs)⟩
 |none=>.no
def EH(P:Program)(S:St)(o:Oper)(t:TypeId)(A5:o.op=.alloc t)(zs:List AV)(Y:j6 P t=some (.lit (.pointer none)::zs)):ak P S o (zH S.mem (keyOf o) t zs):=by
 unfold zH;split
 .rename_i key v cont A9;intro J φ G a w T;obtain⟨z,Z,N,H,U⟩:=ij Y w;obtain⟨hm,q,L,AA,A4,_⟩:=T.mem.get A9;simp only at q A4;subst q;obtain⟨φ',AB,AC,AD,AE⟩:=T.mem.zF (e:=⟨keyOf o,v,cont⟩) hm AA A4 w rfl rfl rfl rfl z.cells t (.box (.tn (keyOf o) (v+1) t::zs)) ⟨v+1,w.heap.size,1,zs.length+1,0,[],some t⟩ rfl (λ_ A0=>.inr A0) (λφ' hle AF AT AG _ AU=>
   ⟨⟨rfl,rfl,rfl⟩,z.cells,t,cy.new AG,N,H,λi c u J hu=>by
    cases i with
    |zero=>
     have O:=U φ w (Fo G φ S.mem) 0 _ u rfl hu;cases O;cases J;exact .tn _ _ t _ AU (Ds _) (λ_=>rfl)
    |succ i=>exact AF c u (U _ _ _ (i+1) c u J hu)⟩)
  refine⟨_,_,φ',.inl ?_,.ptr (keyOf o) (v+1) 0 _ _ AD (Ds _) (λ_=>rfl) rfl,AB,AC,AE⟩;simp[execOp,A5,Instr.alloc,newVar,dy,Z]
 .trivial
def gE(P:Program)(t:TypeId):Option D:=
 match j6 P t,(tk P t).agg with
 |some zs,true=>(toDsN zs).map .agg
 |some [z],false=>toD1 z
 |_,_=>none
def pk(P:Program)(t:TypeId):Option Nat:=(P.info? t).map (·.bytes)
def vF{P:Program}{t:TypeId}{d:D}(h:gE P t=some d)(w:World):∃z,(zeroValue t).run P w=.ok z w/\z.cells.size=d.size/\(∀v∈z.cells,ba v=true)/\
 ∀w' F,∃v,aq w' F d v/\v.cells=z.cells:=by
 unfold gE at h;split at h
 .rename_i zs Y AW;simp only[Xj]at h;obtain⟨AH,AX,rfl⟩:=h;obtain⟨z,Z,N,H,U⟩:=ij Y w;have A2:∀w' F,zs.length=AH.length/\∀(i:Nat) d v,AH[i]?=some d->z.cells.toList[i]?=some v->aq w' F d v:=λw' F=>
   toDsN_rel (φ:=λ_=>none) (w:=w') (F:=F) (vs:=z.cells.toList) AX (λi c v J A=>U _ _ _ i c v J (by simpa using A))
  refine⟨z,Z,by rw[N,(A2 w (λ_=>False)).1];rfl,H,λw' F=>⟨.agg z.cells,?_,rfl⟩⟩;have:=aq.jJ (w:=w') (F:=F) (cs:=AH) (vs:=z.cells.toList) (by rw[<-(A2 w' F).1];simpa using N.symm) (λv A=>H v (by simpa using A)) (A2 w' F).2;simpa using this
 .rename_i z0 Y AW;obtain⟨z,Z,N,H,U⟩:=ij Y w;obtain⟨u,hu⟩:∃u,z.cells=#[u]:=by
   have:z.cells.size=1:=N;exact⟨z.cells[0],by apply Array.ext<;>simp_all⟩
  have E:∀w' F,aq w' F d u:=λw' F=>toD1_rel (φ:=λ_=>none) h (U _ _ _ 0 z0 u (by simp) (by simp[hu]));have AN:ba u=true:=H u (by simp[hu]);refine⟨z,Z,by rw[hu,<-(E w (λ_=>False)).size,bX AN],H,λw' F=>⟨u,E w' F,by rw[bX AN,hu]⟩⟩
 .cases h
def a8(w:World)(F:Nat->Prop)(sz:Nat)(rows:List D)(cs:List Value):Prop:=
 cs.length=rows.length*sz/\(∀v∈cs,ba v=true)/\(∀d∈rows,d.size=sz)/\∀(i:Nat) d,rows[i]?=some d->∃v,aq w F d v/\∀(j:Nat) c,v.cells[j]?=some c->cs[i*sz+j]?=some c
def pn{sz:Nat}{w:World}{F:Nat->Prop}{d:D}{v:Value}(h:aq w F d v)(y:d.size=sz){j:Nat}{c:Value}(I:v.cells[j]?=some c):j<sz:=by
 have H:=h.size;have:=(Xv.1 I).1;omega
def a8.append{w F sz xs AI cs AO}(h:a8 w F sz xs cs)(AY:a8 w F sz AI AO):a8 w F sz (xs++AI) (cs++AO):=by
 obtain⟨W,a2,a3,a4⟩:=h;obtain⟨b1,b2,b3,AZ⟩:=AY;refine⟨by simp[W,b1,XO],?_,?_,?_⟩
 .intro v A;rcases XL.1 A with A|A;exact a2 v A;exact b2 v A
 .intro v A;rcases XL.1 A with A|A;exact a3 v A;exact b3 v A
 .intro i d E;by_cases hi:i<xs.length
  .rw[Xr hi]at E;obtain⟨v,A,V⟩:=a4 i d E;refine⟨v,A,λj c I=>?_⟩;have A6:=pn A (a3 d (Xk E)) I;rw[Xr]
   .exact V j c I
   .rw[W];have:i*sz+sz<=xs.length*sz:=by rw[<-X9];exact Xo _ hi
    omega
  .rw[Xu (by omega)]at E;obtain⟨v,A,V⟩:=AZ _ d E;refine⟨v,A,λj c I=>?_⟩;have e:xs.length*sz+(i-xs.length)*sz=i*sz:=by rw[<-XO];congr 1;omega
   rw[Xu (by rw[W];omega),W,show i*sz+j-xs.length*sz=(i-xs.length)*sz+j by omega];exact V j c I
def a8.take{w F sz xs cs}(h:a8 w F sz xs cs)(n:Nat)(AP:n<=xs.length):a8 w F sz (xs.take n) (cs.take (n*sz)):=by
 obtain⟨W,a2,a3,a4⟩:=h;have hle:n*sz<=xs.length*sz:=Xo _ AP;refine⟨by simp only[X6,W];rw[Yp AP,Yp hle],λv A=>a2 v (XF A),λv A=>a3 v (XF A),?_⟩;intro i d E;rw[Xp]at E;split at E
 .rename_i hi;obtain⟨v,A,V⟩:=a4 i d E;refine⟨v,A,λj c I=>?_⟩;have A6:=pn A (a3 d (Xk E)) I;have:i*sz+sz<=n*sz:=by rw[<-X9];exact Xo _ hi
  rw[Xp,Xz (by omega)];exact V j c I
 .cases E
def a8.drop{w F sz xs cs}(h:a8 w F sz xs cs)(n:Nat):a8 w F sz (xs.drop n) (cs.drop (n*sz)):=by
 obtain⟨W,a2,a3,a4⟩:=h;refine⟨by simp[W,Nat.sub_mul],λv A=>a2 v (Xy A),λv A=>a3 v (Xy A),?_⟩;intro i d E;rw[XJ]at E;obtain⟨v,A,V⟩:=a4 _ d E;refine⟨v,A,λj c I=>?_⟩;rw[XJ,show n*sz+(i*sz+j)=(n+i)*sz+j by rw[XO];omega];exact V j c I
def a8.mono{w F w' F' sz xs cs}(h:a8 w F sz xs cs)(hm:∀x v,aq w F x v->aq w' F' x v):a8 w' F' sz xs cs:=
 ⟨h.1,h.2.1,h.2.2.1,λi d E=>let ⟨v,A,J⟩:=h.2.2.2 i d E;⟨v,hm _ _ A,J⟩⟩
def a8.nil(w F sz):a8 w F sz [] []:=⟨by simp,by simp,by simp,by simp⟩
def ni{φ w F}{L:Loc}{rows:List D}{pre cs rest:List Value}{sz:Nat}{elem:TypeId}(N:L.sz=sz)(T:a8 w F sz rows cs)(A_:pre.length=L.base)(A':∀v∈pre,ba v=true)(H:∀v∈rest,ba v=true)
 (A3:rows.length<=L.cap) (A2:(cs++rest).length=L.cap*sz) (hh:0<L.cap->cy w L.a7 (pre++(cs++rest)).toArray (L.ty.getD elem)):bt φ w F L (.vec sz rows):=by
 obtain⟨W,a2,a3,a4⟩:=T;subst N;refine⟨rfl,A3,a3,λJ=>⟨_,elem,hh J,by simp only[XS,Xx]at A2⊢;omega,?_,?_⟩⟩
 .intro v A;simp at A;rcases A with A|A|A
  .exact A' v A
  .exact a2 v A
  .exact H v A
 .intro i d E;obtain⟨v,A,V⟩:=a4 i d E;refine⟨v,A,λj c I=>?_⟩;have A6:=pn A (a3 d (Xk E)) I;have AJ:i<rows.length:=(D1.1 E).1;have:i*L.sz+L.sz<=rows.length*L.sz:=by rw[<-X9];exact Xo _ AJ
  rw[XX,Xu (by omega),A_,show L.base+i*L.sz+j-L.base=i*L.sz+j by omega,Xr (by rw[W];omega)];exact V j c I
def oO{φ w F}{L:Loc}{rows:List D}{cs rest:List Value}{sz:Nat}{elem:TypeId}(N:L.sz=sz)(A0:L.base=0)(T:a8 w F sz rows cs)(H:∀v∈rest,ba v=true)
 (A3:rows.length<=L.cap) (A2:(cs++rest).length=L.cap*sz) (hh:0<L.cap->cy w L.a7 (cs++rest).toArray (L.ty.getD elem)):bt φ w F L (.vec sz rows):=
 ni (pre:=[]) N T (by simp[A0]) (by simp) H A3 A2 hh
def je{φ w F}{L:Loc}{rows:List D}{sz:Nat}(h:bt φ w F L (.vec sz rows))(J:0<L.cap):∃(arr:Array Value)(elem:TypeId),cy w L.a7 arr (L.ty.getD elem)/\arr.size=L.base+L.cap*sz/\
 (∀v∈arr,ba v=true)/\a8 w F sz rows ((arr.toList.drop L.base).take (rows.length*sz)):=by
 obtain⟨y,A3,AQ,A7⟩:=h;obtain⟨arr,elem,hh,N,H,U⟩:=A7 J;subst y;refine⟨arr,elem,hh,N,H,?_,λv A=>H v (by simpa using Xy (XF A)),AQ,?_⟩
 .simp only[X6,Yu,Xs,N];exact Yp (by rw[Nat.add_sub_cancel_left];exact Xo _ A3)
 .intro i d E;obtain⟨v,A,V⟩:=U i d E;refine⟨v,A,λj c I=>?_⟩;have A6:=pn A (AQ d (Xk E)) I;have AJ:i<rows.length:=(D1.1 E).1;have:i*L.sz+L.sz<=rows.length*L.sz:=by rw[<-X9];exact Xo _ AJ
  rw[Xp,Xz (by omega),XJ,<-XC];simpa using V j c I
def zJ{w F}{xs:List D}{ao:Option Addr}{m cap sz:Nat}(h:aq w F (.list xs) (.slice ao m cap))(y:∀d∈xs,d.size=sz):
 m=xs.length/\∃cs,a8 w F sz xs cs/\(xs≠[]->∃b off,ao=some ⟨b,off,none⟩/\b<w.heap.size/\¬F b/\∀(j:Nat) v,cs[j]?=some v->w.cell? ⟨b,off+j,none⟩=some v):=by
 generalize A1:D.list xs=x at h;generalize A:Value.slice ao m cap=v at h;cases h with
 |nil a c=>
  simp at A1 A;subst A1;exact⟨by simp[A.2.1],[],a8.nil ..,λh=>absurd rfl h⟩
 |list AI b off Ac M vs A3 A0 Aa N AK J=>
  simp at A1 A;obtain⟨rfl,rfl,rfl⟩:=A;subst A1;refine⟨rfl,?_⟩
  --Ad cells,row by row
  have AL:xs≠[]->M=sz:=λA8=>by
   cases xs with
   |nil=>exact absurd rfl A8
   |cons d r=>rw[<-N d (by simp),y d (by simp)]
  by_cases A8:xs=[]
  .subst A8;exact⟨[],a8.nil ..,λh=>absurd rfl h⟩
  have AL:=AL A8;subst AL;have A7:∀(i j:Nat),i<xs.length->j<M->∃c,(vs i).cells[j]?=some c/\w.cell? ⟨b,off+(i*M+j),none⟩=some c/\ba c=true:=by
   intro i j hi I;have H:=AK i xs[i] (by simp[hi]);have O:=H.size;rw[y _ (XQ hi)]at O;have AR:j<(vs i).cells.size:=by omega
   refine⟨(vs i).cells[j],by simp[AR],?_,H.cells.2.1 _ (by simp)⟩;have:=J i j _ hi (show (vs i).cells[j]?=some (vs i).cells[j] by simp[AR]);rw[<-XC];exact this
  refine⟨(List.range (xs.length*M)).map (λj=>(w.cell? ⟨b,off+j,none⟩).getD undef),⟨by simp,?_,y,?_⟩,λ_=>⟨b,off,rfl,A0,Aa,?_⟩⟩
  .intro v A;simp only[Xt,XI]at A;obtain⟨j,I,rfl⟩:=A;have AM:0<M:=by rcases Nat.eq_zero_or_pos M with A'|A';simp[A']at I;exact A'
   obtain⟨c,_,O,Ab⟩:=A7 (j/M) (j%M) (Nat.div_lt_of_lt_mul (by rw[Nat.mul_comm];exact I)) (Nat.mod_lt _ AM);rw[Nat.mul_comm,Nat.div_add_mod]at O;simp[O,Ab]
  .intro i d E;have hi:i<xs.length:=(D1.1 E).1;refine⟨vs i,AK i d E,λj c I=>?_⟩;have A6:=pn (AK i d E) (y d (Xk E)) I;obtain⟨c',H,O,_⟩:=A7 i j hi A6;rw[I]at H;cases H;have:i*M+M<=xs.length*M:=by rw[<-X9];exact Xo _ hi
   simp[O,show i*M+j<xs.length*M by omega]
  .intro j v A;simp only[XA,Xj]at A;obtain⟨k,q,rfl⟩:=A;have I:j<xs.length*M:=by
    rcases Nat.lt_or_ge j (xs.length*M)with h|h
    .exact h
    .simp[Yd (l:=List.range (xs.length*M)) (by simpa using h)]at q
   simp[I]at q;subst q;have AM:0<M:=by rcases Nat.eq_zero_or_pos M with A'|A';simp[A']at I;exact A'
   obtain⟨c,_,O,_⟩:=A7 (j/M) (j%M) (Nat.div_lt_of_lt_mul (by rw[Nat.mul_comm];exact I)) (Nat.mod_lt _ AM);rw[Nat.mul_comm,Nat.div_add_mod]at O;simp[O]
 |_=>simp at A1
def di(m:Mem)(sz:Nat):AV->Option (Bool×List D)
 | .d (.list H)=>some (true,H)
 | .d (.str s)=>some (sz=1,s.map λb=>.int .u8 b.toNat)
 | .lit (.slice none 0 0)=>some (true,[])
 | .nn=>some (true,[])
 | .vec k U off len=>match Mem.get m k with
  |some ⟨_,v,.vec _ rows⟩=>some (v=U/\off+len<=rows.length,(rows.drop off).take len)
  |_=>none
 |_=>none
structure zh(P:Program)(w:World)(F:Nat->Prop)(sz:Nat)(H:List D)(x:Value)(J:List Value):Prop where
 len:∀w',(Builtin.lenOf x).run P w'=.ok H.length w'
 EJ:∀n,n<=H.length->∀w',(∀b,b<w.heap.size->w'.heap[b]?=w.heap[b]?)->(Builtin.firstCells sz n x).run P w'=.ok (J.take (n*sz)).toArray w'
 rows:a8 w F sz H J
def zh.first{P w F sz H x J}(h:zh P w F sz H x J)(w':World)(hw:∀b,b<w.heap.size->w'.heap[b]?=w.heap[b]?):(Builtin.firstCells sz H.length x).run P w'=.ok J.toArray w':=by
 rw[h.EJ _ (Ds _) w' hw,Yw (by rw[h.rows.1];exact Ds _)]
def zL{P:Program}{S:St}{φ G w}(hm:aE φ G S.mem w){x:AV}{v:Value}(N:ai φ w (Fo G φ S.mem) x v){c H}{sz:Nat}(E:di S.mem sz x=some (c,H))(V:c=true)(Z:∀d∈H,d.size=sz):
 ∃J,zh P w (Fo G φ S.mem) sz H v J:=by
 unfold di at E;split at E
 .rename_i A';simp at E;obtain⟨_,rfl⟩:=E;cases N with
  |d _ _ h=>
   have W:∃ao m cap,v=.slice ao m cap:=by cases h<;>exact⟨_,_,_,rfl⟩
   obtain⟨ao,m,cap,rfl⟩:=W;obtain⟨rfl,cs,M,A5⟩:=zJ h Z;refine⟨cs,⟨λw'=>by simp[Builtin.lenOf],λn I w' hw=>?_,M⟩⟩;by_cases A0:A'=[]
   .subst A0;have:cs=[]:=XH (by simpa using M.1);subst this;have O:n=0:=by simpa using I
    subst O;cases ao with
    |none=>simp[Builtin.firstCells]
    |some a=>simp[Builtin.firstCells,loadCells,loadCellsFrom]
   .obtain⟨b,off,rfl,T,_,A6⟩:=A5 A0;exact run_firstCells_some (P:=P) w' sz n ⟨b,off,none⟩ A'.length cap _ (M.take n I |>.1.trans (by simp[I])) (λj u A=>by
     rw[cD,fK (hw b T)];rw[Xp]at A;split at A
     .exact A6 j u A
     .cases A)
 .rename_i s;simp only[Xn,XB]at E;obtain⟨rfl,rfl⟩:=E;simp only[XK]at V;subst V;cases N with
  |d _ _ h=>
   cases h with
   |str b _ T=>
    subst T;have A7:b.size=b.data.toList.length:=by rw[Xs];rfl
    refine⟨b.data.toList.map λx=>Value.int .u8 x.toNat,⟨λw'=>by simp only[Builtin.lenOf,List.length_map,<-A7];rfl,λn I w' _=>?_,?_,?_,?_,?_⟩⟩
    .simp only[Builtin.firstCells,Sem.run_pure];congr 1;apply Array.ext';simp
    .simp
    .intro v W;simp only[Xt]at W;obtain⟨y,_,rfl⟩:=W;rfl
    .exact Z
    .intro i d A1;simp only[XA,Xj]at A1;obtain⟨y,A8,rfl⟩:=A1;refine⟨.int .u8 y.toNat,.int _ _,λj c A=>?_⟩;cases j with
     |zero=>simp only[Value.cells]at A;simp at A;subst A;simp only[XA,Yv,XZ,A8];rfl
     |succ j=>simp[Value.cells]at A
 .simp at E;obtain⟨_,rfl⟩:=E;cases N with
  |lit=>exact⟨[],⟨λw'=>by simp[Builtin.lenOf],λn _ w' _=>by simp[Builtin.firstCells],a8.nil ..⟩⟩
 .simp at E;obtain⟨_,rfl⟩:=E;cases N with
  |nn a cap=>exact⟨[],⟨λw'=>by simp[Builtin.lenOf],λn I w' _=>by
   have O:n=0:=by simpa using I
   subst O;simp[Builtin.firstCells,loadCells,loadCellsFrom],a8.nil ..⟩⟩
 .rename_i k U off len;split at E
  .rename_i key AK q rows A9;simp only[Xn,XB]at E;obtain⟨rfl,rfl⟩:=E;simp only[XK]at V;obtain⟨rfl,hle⟩:=V;obtain⟨AL,AM,L,AA,AB,A2⟩:=hm.get A9;have AC:((rows.drop off).take len).length=len:=by simp;omega
   cases N with
   |vec _ _ _ _ _ L' A3 _ h AD=>
    rw[AA]at A3;cases A3;obtain⟨ao,cap,rfl,AN,AE⟩:=h AB.symm;clear h AD;by_cases AF:len=0
    .subst AF;refine⟨[],⟨λw'=>by simp[Builtin.lenOf],λn I w' _=>?_,by simpa using a8.nil ..⟩⟩;have O:n=0:=by simpa using I
     subst O;cases ao with
     |none=>simp[Builtin.firstCells]
     |some a=>simp[Builtin.firstCells,loadCells,loadCellsFrom]
    .obtain⟨rfl,AO⟩:=AE (by omega);obtain⟨arr,elem,hh,AP,AQ,M⟩:=je A2 (by omega);have AG:q=sz:=by
      have Y:0<((rows.drop off).take len).length:=by omega
      have AH:=Z (((rows.drop off).take len)[0]'Y) (XQ Y)
      have AI:=M.2.2.1 (((rows.drop off).take len)[0]'Y) (Xy (XF (XQ Y)))
      rw[<-AH,<-AI]
     subst AG;have AJ:L.sz=q:=A2.1;have A4:=(M.drop off).take len (by simp;omega);refine⟨_,⟨λw'=>by simp[Builtin.lenOf,AC],λn I w' hw=>?_,A4⟩⟩;have T:L.a7<w.heap.size:=hh.lt;exact run_firstCells_some (P:=P) w' q n ⟨L.a7,L.base+off*L.sz,none⟩ len cap _ ((A4.take n I).1.trans (by rw[X6,Yp I])) (λj u A=>by
      rw[cD,fK (hw L.a7 T),dt hh,AJ];rw[Xp]at A;split at A
      .rw[Xp]at A;split at A
       .rw[XJ,Xp]at A;split at A
        .rw[XJ]at A;rw[XC];simpa using A
        .cases A
       .cases A
      .cases A)
  .cases E
 .cases E
section
variable {P:Program}
def eE(P:Program)(u:TypeId):Bool:=
 match P.underlying u with
 |some (.slice _)=>true
 |some .string=>true
 |_=>false
theorem rS{u:TypeId}(h:eE P u=true):(∃e,P.underlying u=some (.slice e))\/P.underlying u=some .string:=by
 unfold eE at h;grind
structure xq(P:Program)(w:World)(F:Nat->Prop)(u:TypeId)(sz:Nat)(z:Value)(A:List D)(x:Value)(J:List Value):Prop where
 rows:a8 w F sz A J
 kind:(eE P u=true/\zh P w F sz A x J)\/((∃k,P.underlying u=some (.int k))/\(∃AY,x=.int AY A.length)/\A.length<=4611686018427387904/\z.cells.size=sz/\J=(Builtin.zeroCells z.cells A.length).toList)
theorem zM{n:Nat}(h:n<=4611686018427387904):IntKind.i64.wrap (n:Int)=(n:Int):=IntWalk.i64_in _ (by omega)
theorem po{z:Array Value}{n:Nat}(h:n*z.size=0):Builtin.zeroCells z n=#[]:=by
 apply Array.eq_empty_of_size_eq_zero;rw[size_zeroCells];exact h
theorem lM{w:World}{t u ty e:TypeId}{i:TypeInfo}{z:Value}(A3:P.underlying t=some (.slice e))(hi:P.info? e=some i)(O:i.zero=some z)
 {ao:Option Addr} {len cap:Nat} {F x J} (I:xq P w F u i.size z [] x J) (hle:len<=cap):
 (Builtin.append_ #[t,u] ty #[.slice ao len cap,x]).run P w=.ok (.slice ao len cap) w:=by
 rcases I.kind with ⟨hu,I⟩|⟨⟨k,Z⟩,⟨AY,rfl⟩,_,AD,rfl⟩
 .have A':J=[]:=XH (by simpa using I.rows.1);subst A';have BI:=I.len w;have AZ:=I.first w (λ_ _=>rfl);simp at BI AZ;rcases rS hu with ⟨B',Z⟩|Z<;>cases ao<;>
   simp[Builtin.append_,run_underlying A3,run_underlying Z,sizeOf,typeInfo,hi,BI,AZ,hle,storeCells]
 .have w0:=zM (n:=0) (by omega);simp at w0;cases ao<;>simp[Builtin.append_,run_underlying A3,run_underlying Z,sizeOf,typeInfo,hi,w0,asInt,asIntOf,hle,storeCells]
theorem run_append_fits{w:World}{t u ty e:TypeId}{i:TypeInfo}{z:Value}(A3:P.underlying t=some (.slice e))(hi:P.info? e=some i)(O:i.zero=some z)
 {g b len cap:Nat} {F A x J} (I:xq P w F u i.size z A x J) {cur:Array Value} {e':TypeId} (AG:cy w g cur e')
 (A4:len+A.length<=cap) (Be:b+len*i.size+J.length<=cur.size) (Bf:A.length*i.bytes<=140737488355328):
 (Builtin.append_ #[t,u] ty #[.slice (some ⟨g,b,none⟩) len cap,x]).run P w=.ok (.slice (some ⟨g,b,none⟩) (len+A.length) cap) (w.setRow g (putCells cur.toList (b+len*i.size) J).toArray):=by
 obtain⟨Bg,AG,Bh⟩:=AG;have At:=fy (P:=P) g (b+len*i.size) e' Bg J 0 cur w AG Bh (by grind) (λx A6=>jC (I.rows.2.1 x A6));rw[bC _ _ _ (by grind)];rcases I.kind with ⟨hu,I⟩|⟨⟨k,Z⟩,⟨AY,rfl⟩,B0,AD,rfl⟩
 .have AZ:=I.first w (λ_ _=>rfl);rcases rS hu with ⟨B',Z⟩|Z<;>simp[Builtin.append_,run_underlying A3,run_underlying Z,sizeOf,typeInfo,hi,I.len,A4,AZ,cD,At]
 .have wn:=zM B0;have N:¬((A.length:Int)<0):=by omega
  have Y:¬(281474976710656<(A.length:Int)*(i.bytes:Int)):=by
   grind
  by_cases AA:A.length*i.size=0
  .have B1:=po (z:=z.cells) (n:=A.length) (by grind);rw[B1]at At⊢;simp[Builtin.append_,run_underlying A3,run_underlying Z,sizeOf,typeInfo,hi,wn,asInt,asIntOf,N,Y,AA,A4,cD,At]
  .simp[Builtin.append_,run_underlying A3,run_underlying Z,sizeOf,typeInfo,zeroValue,hi,O,wn,asInt,asIntOf,N,Y,AA,A4,cD,At]
theorem nk{w:World}{t u ty e:TypeId}{i:TypeInfo}{z:Value}(A3:P.underlying t=some (.slice e))(hi:P.info? e=some i)(O:i.zero=some z)
 {ao:Option Addr} {len cap:Nat} {F A x J} (I:xq P w F u i.size z A x J) (A5:List Value)
 (hold:∀w',w'.heap=w.heap->(Builtin.firstCells i.size len (.slice ao len cap)).run P w'=.ok A5.toArray w')
 (A4:cap<len+A.length) (CN:len+A.length<=9223372036854775807) (Be:Builtin.nextslicecap (len+A.length) cap*i.bytes<=281474976710656) (Bf:A.length*i.bytes<=140737488355328):
 (Builtin.append_ #[t,u] ty #[.slice ao len cap,x]).run P w=
  .ok (.slice (some ⟨w.heap.size,0,none⟩) (len+A.length) (grownCap w (len+A.length) cap e))
   (w.drew.alloc (.cells (A5.toArray++J.toArray++Builtin.zeroCells z.cells (grownCap w (len+A.length) cap e-(len+A.length))) e)):=by
 have A':¬(len+A.length<=cap):=by omega
 have BJ:¬(9223372036854775807<((len:Int)+(A.length:Int))):=by omega
 have BK:¬(281474976710656<Builtin.nextslicecap (len+A.length) cap*i.bytes):=by omega
 have B2:=hold w.drew rfl;rcases I.kind with ⟨hu,I⟩|⟨⟨k,Z⟩,⟨AY,rfl⟩,B0,AD,rfl⟩
 .have AZ:=I.first w.drew (λ_ _=>rfl);rcases rS hu with ⟨B',Z⟩|Z<;>
   (simp[Builtin.append_,run_underlying A3,run_underlying Z,sizeOf,typeInfo,zeroValue,hi,O,I.len,Question.forced,AZ,B2,dy,grownCap]
    grind)
 .have wn:=zM B0;have N:¬((A.length:Int)<0):=by omega
  have Y:¬(281474976710656<(A.length:Int)*(i.bytes:Int)):=by
   grind
  by_cases AA:A.length*i.size=0
  .have B1:=po (z:=z.cells) (n:=A.length) (by grind);rw[B1];simp[Builtin.append_,run_underlying A3,run_underlying Z,sizeOf,typeInfo,zeroValue,hi,O,wn,asInt,asIntOf,N,Y,AA,A',BJ,BK,Question.forced,B2,dy,grownCap]
  .simp[Builtin.append_,run_underlying A3,run_underlying Z,sizeOf,typeInfo,zeroValue,hi,O,wn,asInt,asIntOf,N,Y,AA,A',BJ,BK,Question.forced,B2,dy,grownCap]
end
def ml{z:Array Value}{n:Nat}(h:∀v∈z,ba v=true):∀v∈Builtin.zeroCells z n,ba v=true:=by
 intro v A1;simp[Builtin.zeroCells]at A1;obtain⟨i,hi,rfl⟩:=A1;have BL:0<z.size:=by
  grind
 have Bi:i%z.size<z.size:=Nat.mod_lt _ BL;grind
def JC{P:Program}{t:TypeId}{k}(h:tk P t=.int k):P.underlying t=some (.int k):=by
 unfold tk at h;grind
def C2(M:D):AV->Option (Bool×List D)
 | .d (.int _ n)=>some (decide (0<=n)&&decide (n<=4611686018427387904),List.replicate n.toNat M)
 |_=>none
def C3(b:Bool):Option (Bool×List D)->Option (Bool×List D)
 |some (c,A)=>some (c&&b,A)
 |none=>none
def np(P:Program)(m:Mem)(sz:Nat)(M:D)(u:TypeId)(x:AV):Option (Bool×List D):=
 match tk P u with
 | .int _=>C2 M x
 |_=>C3 (eE P u) (di m sz x)
def a8.NJ{w:World}{F:Nat->Prop}{z:Array Value}{sz:Nat}{M:D}(AO:∀v∈z,ba v=true)(AD:z.size=sz)(Z:M.size=sz)(A1:∃v,aq w F M v/\v.cells=z)(n:Nat):
 a8 w F sz (List.replicate n M) (Builtin.zeroCells z n).toList:=by
 refine⟨by simp[size_zeroCells,AD],λv A1=>ml AO v (by simpa using A1),λd CO=>by grind,λi d hi=>?_⟩;obtain⟨BM,rfl⟩:=D1.1 hi;obtain⟨v,N,Y⟩:=A1;refine⟨v,by grind,λj c T=>?_⟩;have Bj:j<z.size:=by grind
 simp at BM;have Bi:i*sz+j<n*z.size:=by
  rw[AD];have:i*sz+sz<=n*sz:=by rw[<-X9];exact Xo _ BM
  omega
 simp only[Builtin.zeroCells,Array.getElem?_map];have e:(i*sz+j)%z.size=j:=by rw[<-AD,Nat.mul_comm,Nat.mul_add_mod,Nat.mod_eq_of_lt Bj]
 grind
def Cn{P:Program}{S:St}{φ G w}(hm:aE φ G S.mem w){u:TypeId}{i:TypeInfo}{z:Value}{M:D}(AO:∀v∈z.cells,ba v=true)(AD:z.cells.size=i.size)(Au:M.size=i.size)(Bk:∃v,aq w (Fo G φ S.mem) M v/\v.cells=z.cells)
 {x:AV} {v:Value} (A6:ai φ w (Fo G φ S.mem) x v) {c A} (I:np P S.mem i.size M u x=some (c,A)) (A7:c=true) (B3:∀d∈A,d.size=i.size):
 ∃J,xq P w (Fo G φ S.mem) u i.size z A v J:=by
 unfold np at I;split at I
 .rename_i k AE;unfold C2 at I;split at I
  .rename_i AY n;cases I;cases A6 with
   |d _ _ A6=>
    cases A6;have A':((List.replicate n.toNat M).length:Int)=n:=by grind
    refine⟨_,a8.NJ AO AD Au Bk n.toNat,.inr ⟨⟨k,JC AE⟩,⟨AY,by rw[A']⟩,by grind,AD,by simp⟩⟩
  grind
 .cases H:di S.mem i.size x with
  |none=>rw[H]at I;cases I
  |some y=>
   rw[H]at I;cases I;simp at A7;obtain⟨J,A'⟩:=zL (P:=P) hm A6 H A7.1 B3;exact⟨J,A'.rows,.inl ⟨A7.2,A'⟩⟩
def pX(P:Program)(m:Mem)(u:TypeId)(sz AP:Nat)(M:D)(s x:AV):bp:=
 match s,x with
 | .vec k U off len,.vec BN BO 0 1=>match Mem.get m k,Mem.get m BN with
  |some ⟨_,v,.vv rows none⟩,some ⟨_,BP,.box [.lit (.slice none 0 0)]⟩=>
   .bl (eE P u=true/\BP=BO/\v=U/\sz=1/\M.size=1/\off+len<=rows.length/\(len+1)*AP<=140737488355328/\len+1<=4611686018427387904) (.vec k (U+1) 0 (len+1)) ⟨k,U+1,.vv ((rows.drop off).take len++[[]]) none⟩
  |_,_=>.no
 |_,_=>.no
def zO{φ φ':aQ}{w w':World}{F F':Nat->Prop}{L:Loc}{rows:List (List D)}(h:fW φ w F L rows none){off len:Nat}(hle:off+len<=rows.length)
 (L':Loc) (O:L'.sz=1) (I:L'.bJ=(L.bJ.drop off).take len++[none]) (B4:len+1<=L'.cap) (E:∀b,some b∈L.bJ->b≠L'.a7) {A_:Array Value} {BQ:TypeId} (H:cy w' L'.a7 A_ BQ) (B3:A_.size=L'.base+L'.cap) (N:∀v∈A_,ba v=true)
 (hold:∀i,i<len->∃(arr:Array Value)(elem:TypeId),0<L.cap/\cy w L.a7 arr elem/\A_[L'.base+i]?=arr[L.base+off+i]?) (Ag:A_[L'.base+len]?=some (.slice none 0 0))
 (Z:∀d u,aq w F d u->aq w' F' d u) (hw:∀b,some b∈L.bJ->w'.heap[b]?=w.heap[b]?):fW φ' w' F' L' ((rows.drop off).take len++[[]]) none:=by
 obtain⟨⟨g1,g2,g3⟩,g4,g5,g6⟩:=h;have Bl:((rows.drop off).take len).length=len:=by grind
 have Bm:((L.bJ.drop off).take len).length=len:=by grind
 have Bn:∀b,some b∈L'.bJ->some b∈L.bJ:=by
  grind
 refine⟨⟨O,by grind,by grind⟩,λi j b hi T=>?_,λb Bo=>⟨by omega,E b (Bn b Bo)⟩,λ_=>?_⟩
 .grind
 .refine⟨A_,BQ,H,B3,N,λi xs o hi AB=>?_,λx A6=>by cases A6⟩;by_cases B5:i<len
  .rw[Xr (by omega),Xp,Xz B5,XJ]at hi;rw[I,Xr (by omega),Xp,Xz B5,XJ]at AB;obtain⟨arr,elem,V,Bp,hold⟩:=hold i B5;obtain⟨Bq,CP,q1,q2,q3,Br,_⟩:=g6 V;have Bs:Bq=arr:=by
    obtain⟨f1,BR,_⟩:=q1;obtain⟨f2,B',_⟩:=Bp;grind
   subst Bs;rw[hold,XC];exact (Br (off+i) xs o hi AB).mono (λd u _ Bt=>Z d u Bt) (λb e=>hw b (by grind))
  .have Bu:i=len:=by
    grind
   subst Bu;rw[Xu (by omega),Bl]at hi;rw[I,Xu (by omega),Bm]at AB;simp at hi AB;subst hi;subst AB;exact⟨rfl,none,Ag⟩
def JD(P:Program)(S:St)(o:Oper)(s x:Operand)(t u:TypeId)(AB:o.op=.call {callee:=.builtin .append,args:=#[s,x],argTypes:=#[t,u]})
 (I:(S.ag s).1=true) (A6:(S.ag x).1=true) {e:TypeId} (A3:P.underlying t=some (.slice e)) {i:TypeInfo} {z:Value} (hi:P.info? e=some i) (O:i.zero=some z) {M:D} (Aa:z.cells.size=M.size) (AO:∀v∈z.cells,ba v=true):
 ak P S o (pX P S.mem u i.size i.bytes M (S.ag s).2 (S.ag x).2):=by
 have AH:∀(a:Act)(w w':World)(v:Value),(Builtin.append_ #[t,u] o.type #[a.eval s,a.eval x]).run P w=.ok v w'->(execOp a.eval o).run P w=.ok (.value v) w':=by
  intro a w w' v h;simp[execOp,AB,resolve,invoke,builtin,h]
 unfold pX;split
 .rename_i k U off len BN BO AQ Ah;split
  .rename_i key v rows CQ BP AG Bv;refine ak.jD ?_;rintro ⟨Ai,rfl,rfl,Ab,AD,hle,E,AI⟩ φ G a w H;obtain⟨hm,AE,L,V,A0,W⟩:=H.mem.get AG;simp only at AE A0 W;subst AE;obtain⟨CS,BS,B6,Bw,BT,⟨Bx,By,CT⟩,Av,CU,BU,Bz,_,C'⟩:=H.mem.get Bv;simp only at BS BT;subst BS;have A1:=H.ag s I;have B7:=H.ag x A6;rw[AQ]at A1;rw[Ah]at B7;have C0:Av[0]?=some (.slice none 0 0):=by
    have AA:0<Av.size:=by rw[Bz];simp
    have:=C' 0 _ Av[0] rfl (by simp[AA]);generalize A2:Av[0]=q at this;cases this;simp[AA,A2]
   generalize hex:a.eval x=CV at B7;cases B7 with
   |vec _ _ _ _ _ L' AR _ h _=>
    rw[Bw]at AR;cases AR;obtain⟨CW,BV,rfl,CX,C1⟩:=h BT.symm;clear h;obtain⟨rfl,_⟩:=C1 (by omega);have A8:xq P w (Fo G φ S.mem) u i.size z [.list []] (.slice (some ⟨B6.a7,B6.base+0*B6.sz,none⟩) 1 BV) [.slice none 0 0]:=by
     have Aj:a8 w (Fo G φ S.mem) i.size [.list []] [.slice none 0 0]:=by
      refine⟨by simp[Ab],by simp[ba],by simp[Ab,D.size],λn d A'=>?_⟩;cases n with
      |zero=>simp at A';subst A';exact⟨.slice none 0 0,.nil none 0 (λ_=>rfl),λj c T=>by simpa [Value.cells]using T⟩
      |succ n=>simp at A'
     refine⟨Aj,.inl ⟨Ai,λw'=>by simp[Builtin.lenOf],λn A' w' Ac=>?_,Aj⟩⟩;refine run_firstCells_some (P:=P) w' i.size n _ 1 BV _ (by have:n<=1:=A';simp[Ab];omega) (λj c T=>?_);rw[cD,fK (Ac _ BU.lt),dt BU,Bx,By];rw[Xp]at T;split at T
     .cases j with
      |zero=>simp at T;subst T;simpa using C0
      |succ j=>simp at T
     .cases T
    generalize AC:a.eval s=BW at A1;cases A1 with
    |vec _ _ _ _ _ L' AR _ h _=>
     rw[V]at AR;cases AR;obtain⟨ao,cap,rfl,BX,Ad⟩:=h A0.symm;clear h;have BY:∀b,some b∈L.bJ->b<w.heap.size:=λb E=>H.mem.vz ⟨_,hm,L,V,.inr E⟩;have C4:∀b,some b∈(L.bJ.drop off).take len++[none]->some b∈L.bJ:=by
      intro b E;rcases XL.1 E with E|E
      .exact Xy (XF E)
      .simp at E
     have grow:∀(A5:List Value),A5.length=len->(∀q∈A5,ba q=true)->(∀n,n<len->∃(arr:Array Value)(elem:TypeId),0<L.cap/\cy w L.a7 arr elem/\A5[n]?=arr[L.base+off+n]?)->
      (∀w',w'.heap=w.heap->(Builtin.firstCells i.size len (.slice ao len cap)).run P w'=.ok A5.toArray w')->cap<len+1->
      ∃vv w' φ',uc P o a w vv w'/\ai φ' w' (Fo G φ' (Mem.set S.mem ⟨key,v+1,.vv ((rows.drop off).take len++[[]]) none⟩)) (.vec key (v+1) 0 (len+1)) vv/\
       aE φ' G (Mem.set S.mem ⟨key,v+1,.vv ((rows.drop off).take len++[[]]) none⟩) w'/\az φ S.mem w φ' (Mem.set S.mem ⟨key,v+1,.vv ((rows.drop off).take len++[[]]) none⟩) w'/\∀k,k≠key->φ' k=φ k:=by
      intro A5 Ak C5 hold C6 A4;have B8:=grownCap_ge w (len+1) cap e;have C8:z.cells.size=1:=by rw[Aa];exact AD
      have Aw:=nk (P:=P) (ty:=o.type) A3 hi O A8 A5 C6 (by simpa using A4) (by simp;omega) (growslice_fits (by simpa using A4) (by simpa using E)) (by simp;have:=Xo i.bytes (Yq 1 len);omega);simp only[X0]at Aw;obtain⟨φ',AJ,AK,AL,AM⟩:=H.mem.zF (e:=⟨key,v,.vv rows none⟩) hm V A0 w.drew rfl rfl rfl rfl
       (A5.toArray++[Value.slice none 0 0].toArray++Builtin.zeroCells z.cells (grownCap w (len+1) cap e-(len+1))) e (.vv ((rows.drop off).take len++[[]]) none)
       ⟨v+1,w.heap.size,1,grownCap w (len+1) cap e,0,(L.bJ.drop off).take len++[none],none⟩ rfl
       (λb E=>by
        rcases E with ⟨_,E⟩|E
        .exact .inr E
        .exact .inl (.inr (C4 b E))) (λφ' Ax B9 AU Ag C9 _=>by
       refine zO W hle _ rfl rfl (by simp only;omega) (λb E=>by have:=BY b E;simp only;omega) (.new Ag) ?_ ?_ ?_ ?_ AU (λb E=>C9 b (BY b E))
       .simp only[Array.size_append,XS,Ak,X0,size_zeroCells,C8];omega
       .intro q A2;simp only[Array.mem_append]at A2;rcases A2 with (A2|A2)|A2
        .exact C5 q (by simpa using A2)
        .simp at A2;subst A2;rfl
        .exact ml AO q A2
       .intro n A';obtain⟨arr,elem,N,Y,AN⟩:=hold n A';refine⟨arr,elem,N,Y,?_⟩;rw[<-AN];simp only[X8];rw[XY (by simp;omega),XY (by simp;omega),XX]
       .simp only[X8];rw[XY (by simp;omega),Array.getElem?_append_right (by simp;omega)];simp[Ak])
      refine⟨_,_,φ',.inl (AH a w _ _ (by rw[AC,hex];exact Aw)),?_,AJ,AK,AM⟩;exact .vec key (v+1) 0 _ _ _ AL (Ds _) (λ_=>⟨_,_,rfl,B8,λ_=>⟨by simp,by simp⟩⟩) rfl
     by_cases Al:0<L.cap
     .obtain⟨arr,elem,hh,Ay,Ae,_,_⟩:=W.2.2.2 Al;have BZ:∀b,some b∈L.bJ->b≠L.a7:=λb E=>(W.2.2.1 b E).2;have CY:∀b,some b∈L.bJ->ay.bg L (.vv rows none) b:=λb E=>.inr E;have CA:∀b,some b∈(L.bJ.drop off).take len++[none]->some b∈L.bJ:=by
       intro b E;rcases XL.1 E with E|E
       .exact Xy (XF E)
       .simp at E
      by_cases A4:len+[D.list []].length<=cap
      .simp only[X0]at A4;obtain⟨rfl,BA⟩:=Ad (by omega);have AS:L.base+off*L.sz+len*i.size+[Value.slice none 0 0].length<=arr.size:=by rw[Ay,W.1.1,Ab];simp;omega
       have AW:=run_append_fits (P:=P) (ty:=o.type) A3 hi O A8 hh (by simpa using A4) AS (by simp;have:=Xo i.bytes (Yq 1 len);omega);have B_:=AH a w _ _ (by rw[AC,hex];exact AW);rw[W.1.1,Ab,Yv,Yv]at B_ AS;have An:L.base+off+len+[Value.slice none 0 0].length<=arr.toList.length:=by simpa using AS
       obtain⟨φ',AJ,AK,AL,AM⟩:=H.mem.zE (e:=⟨key,v,.vv rows none⟩) hm V A0 (b0:=L.a7) (.inl ⟨Al,rfl⟩) (putCells arr.toList (L.base+off+len) [Value.slice none 0 0]).toArray ⟨v+1,L.a7,1,L.cap-off,L.base+off,(L.bJ.drop off).take len++[none],none⟩ (YF _) (λhh=>by simp only at A0 hh;omega) (.vv ((rows.drop off).take len++[[]]) none)
        (λb E=>by
         rcases E with ⟨_,E⟩|E
         .exact .inl ⟨Al,E⟩
         .exact .inr (CA b E)) (λφ' Ax B9 AU=>by
        refine zO W hle _ rfl rfl (by simp only;omega) BZ (hh.setRow _ (by rw[XS,aV _ _ _ An];simp)) ?_ ?_ ?_ ?_ AU ?_
        .rw[XS,aV _ _ _ An];simp only[Xs,Ay];omega
        .intro q A2;rcases gd An (by simpa using A2)with A2|A2
         .exact Ae q (by simpa using A2)
         .simp at A2;subst A2;rfl
        .intro n A';refine⟨arr,elem,Al,hh,?_⟩;simp only
         rw[XX,du _ _ _ An,Xz (by omega)];simp
        .simp only
         rw[XX,du _ _ _ An,Xq (by omega),Xz (by simp)];simp
        .intro b E;exact jr w L.a7 b _ (BZ b E))
       refine⟨_,_,φ',.inl B_,?_,AJ,AK,AM⟩;exact .vec key (v+1) 0 _ _ _ AL (Ds _) (λ_=>⟨_,_,rfl,by simpa using A4,λ_=>⟨by simp,by simp only;omega⟩⟩) rfl
      .have CB:cap<len+1:=by simpa using A4
       have BB:=W.1.2.1;simp only[Option.toList_none,Yr,XZ]at BB;refine grow ((arr.toList.drop (L.base+off)).take len) (by simp;omega) (λq A2=>Ae q (by simpa using Xy (XF A2))) (λn A'=>⟨arr,elem,Al,hh,?_⟩) (λw' Ac=>?_) CB
       .rw[Xp,Xz A',XJ];simp
       .by_cases AX:len=0
        .subst AX;cases ao with
         |none=>simp[Builtin.firstCells]
         |some a=>simp[Builtin.firstCells,loadCells,loadCellsFrom]
        .obtain⟨rfl,BA⟩:=Ad (by omega);refine run_firstCells_some (P:=P) w' i.size len _ len cap _ (by simp[Ab];omega) (λj c T=>?_);rw[cD,fK (w:=w) (w':=w') (by rw[Ac]),dt hh,W.1.1,Yv];rw[Xp]at T;split at T
         .rw[XJ]at T;simpa using T
         .cases T
     .have BB:=W.1.2.1;simp only[Option.toList_none,Yr,XZ]at BB;have AX:len=0:=by omega
      have CC:cap=0:=by
       rcases Nat.eq_zero_or_pos cap with AA|AA
       .exact AA
       .have:=(Ad AA).2;omega
      subst AX;subst CC;refine grow [] rfl (by simp) (λn A'=>by omega) (λw' Ac=>?_) (by omega);cases ao with
      |none=>simp[Builtin.firstCells]
      |some a=>simp[Builtin.firstCells,loadCells,loadCellsFrom]
  .trivial
 .trivial
def mm(P:Program)(m:Mem)(BC:Nat)(t:TypeId)(u:TypeId)(s x:AV):bp:=
 match tk P t with
 | .slice e=>match b7 P e,pk P e,gE P e with
  |some sz,some AP,some M=>match np P m sz M u x with
   |some (c,A)=>match s with
    | .vec k U off len=>match Mem.get m k with
     |some ⟨_,v,.vec Ba rows⟩=>.bl (c/\M.size=sz/\v=U/\off+len<=rows.length/\Ba=sz/\(∀d∈A,d.size=sz)/\(len+A.length)*AP<=140737488355328/\len+A.length<=4611686018427387904)
      (.vec k (U+1) 0 (len+A.length)) ⟨k,U+1,.vec sz ((rows.drop off).take len++A)⟩
     |some ⟨_,v,.buf tb AF⟩=>match x with
      | .d (.str s)=>.bl (c/\M.size=sz/\v=U/\off=0/\len=AF.length/\tb=e/\sz=1/\(len+s.length)*AP<=140737488355328/\len+s.length<=4611686018427387904)
       (.vec k (U+1) 0 (len+s.length)) ⟨k,U+1,.buf tb (AF++s)⟩
      |_=>.no
     |_=>.no
    | .lit (.slice none 0 0)=>match Mem.get m BC with
     |some ⟨_,v,_⟩=>.bl (c/\M.size=sz/\(∀d∈A,d.size=sz)/\A.length*AP<=140737488355328/\A.length<=4611686018427387904)
      (.vec BC (v+1) 0 A.length) ⟨BC,v+1,.vec sz A⟩
     |_=>.no
    |_=>.no
   |none=>pX P m u sz AP M s x
  |_,_,_=>.no
 |_=>.no
def cR{P:Program}{t e:TypeId}(h:tk P t=.slice e):P.underlying t=some (.slice e):=by
 unfold tk at h;split at h<;>simp_all
def Co{P:Program}{e:TypeId}{sz AP:Nat}{M:D}(N:b7 P e=some sz)(Y:pk P e=some AP)(AN:gE P e=some M):
 ∃i z,P.info? e=some i/\i.size=sz/\i.bytes=AP/\i.zero=some z/\z.cells.size=M.size/\(∀v∈z.cells,ba v=true)/\∀w' F,∃v,aq w' F M v/\v.cells=z.cells:=by
 unfold b7 at N;unfold pk at Y;cases hi:P.info? e with
 |none=>simp[hi]at N
 |some i=>
  simp[hi]at N Y;obtain⟨z,AH,CD,CE,CF⟩:=vF AN default;cases O:i.zero with
  |none=>simp[zeroValue,typeInfo,hi,O,unsupported]at AH
  |some CG=>
   simp[zeroValue,typeInfo,hi,O]at AH;subst AH;exact⟨i,CG,rfl,N,Y,O,CD,CE,CF⟩
def C7{P:Program}{m:Mem}{sz:Nat}{M:D}{u:TypeId}{x:AV}{c:Bool}{A:List D}{s:List UInt8}(h:np P m sz M u x=some (c,A))(A6:x=.d (.str s)):A=iW s:=by
 subst A6;unfold np at h;split at h
 .cases h
 .simp[C3,di]at h;exact h.2.symm
def KV(P:Program)(S:St)(o:Oper)(s x:Operand)(t u:TypeId)(AB:o.op=.call {callee:=.builtin .append,args:=#[s,x],argTypes:=#[t,u]})
 (I:(S.ag s).1=true) (A6:(S.ag x).1=true):ak P S o (mm P S.mem (keyOf o) t u (S.ag s).2 (S.ag x).2):=by
 have AH:∀(a:Act)(w w':World)(v:Value),(Builtin.append_ #[t,u] o.type #[a.eval s,a.eval x]).run P w=.ok v w'->(execOp a.eval o).run P w=.ok (.value v) w':=by
  intro a w w' v h;simp[execOp,AB,resolve,invoke,builtin,h]
 unfold mm;split
 .rename_i e CH;have A3:=cR CH;split
  .rename_i sz AP M N Y AN;obtain⟨i,z,hi,rfl,rfl,O,Aa,AO,Au⟩:=Co N Y AN;split
   .rename_i c A Ai
    --CZ C_ a new block
    have grow:∀{φ G}{a:Act}{w:World}(H:Rel φ G S a w){J:List Value}(A8:xq P w (Fo G φ S.mem) u i.size z A (a.eval x) J){key U:Nat}{cont:ay}(hm:(⟨key,U,cont⟩:bk)∈S.mem){L:Loc}(V:φ key=some L)(A0:L.U=U)
     (ao:Option Addr) (len cap:Nat) (AC:a.eval s=.slice ao len cap) (A5:List Value) (Ao:List D) (Bb:a8 w (Fo G φ S.mem) i.size Ao A5) (Ak:Ao.length=len)
     (hold:∀w',w'.heap=w.heap->(Builtin.firstCells i.size len (.slice ao len cap)).run P w'=.ok A5.toArray w')
     (A4:cap<len+A.length) (E:(len+A.length)*i.bytes<=140737488355328) (AI:len+A.length<=4611686018427387904) (A9:M.size=i.size),
     ∀(c':ay),(∀L' b,c'.bg L' b->L'.a7=b)->(∀φ' w' F' L',L'.ty=some e->L'.base=0->bt φ' w' F' L' (.vec i.size (Ao++A))->bt φ' w' F' L' c')->∃v w' φ',uc P o a w v w'/\ai φ' w' (Fo G φ' (Mem.set S.mem ⟨key,U+1,c'⟩)) (.vec key (U+1) 0 (len+A.length)) v/\
      aE φ' G (Mem.set S.mem ⟨key,U+1,c'⟩) w'/\az φ S.mem w φ' (Mem.set S.mem ⟨key,U+1,c'⟩) w'/\∀k,k≠key->φ' k=φ k:=by
     intro φ G a w H J A8 key U cont hm L V A0 ao len cap AC A5 Ao Bb Ak hold A4 E AI A9 c' Af Bc;have B8:=grownCap_ge w (len+A.length) cap e;have Aw:=nk (P:=P) (ty:=o.type) A3 hi O A8 A5 hold A4 (by omega) (growslice_fits A4 E) (by have:=Xo i.bytes (Yq A.length len);omega);have Aj:a8 w (Fo G φ S.mem) i.size (Ao++A) (A5++J):=Bb.append A8.rows;obtain⟨φ',AJ,AK,AL,AM⟩:=H.mem.fresh (e:=⟨key,U,cont⟩) hm V A0 w.drew rfl rfl rfl rfl
      (A5.toArray++J.toArray++Builtin.zeroCells z.cells (grownCap w (len+A.length) cap e-(len+A.length))) e i.size (grownCap w (len+A.length) cap e) c' (λ_ E=>Af _ _ E) (λφ' hle B9 AU Ag=>by
       refine Bc _ _ _ _ rfl rfl (oO (cs:=A5++J) (rest:=(Builtin.zeroCells z.cells (grownCap w (len+A.length) cap e-(len+A.length))).toList) (elem:=e) rfl rfl (Aj.mono AU) ?_ (by simp;omega) ?_ (λ_=>?_))
       .intro v A1;exact ml AO v (by simpa using A1)
       .have AD:z.cells.size=i.size:=by
         rw[Aa];exact A9
        rw[Xx,Aj.1];simp only[Xs,size_zeroCells,AD,Xx,Ak,<-XO];congr 1;omega
       .refine cy.new ?_;rw[Ag];congr 2;apply Array.ext';simp)
     refine⟨_,_,φ',.inl (AH a w _ _ (by rw[AC];exact Aw)),?_,AJ,AK,AM⟩;exact .vec key (U+1) 0 _ _ _ AL (Ds _) (λ_=>⟨_,_,rfl,B8,λ_=>⟨by simp,by simp⟩⟩) rfl
    have core:∀{key v off len:Nat}{rows:List D}{cont c':ay}{φ G}{a:Act}{w:World}(H:Rel φ G S a w)(hm:(⟨key,v,cont⟩:bk)∈S.mem){L:Loc}(V:φ key=some L)(A0:L.U=v)
     (W:bt φ w (Fo G φ S.mem) L (.vec i.size rows)) (Af:∀b,cont.bg L b↔0<L.cap/\L.a7=b) (Ap:∀L' b,c'.bg L' b->0<L'.cap/\L'.a7=b)
     (Aq:∀φ' w' F' L',(L'.ty=some e/\L'.base=0\/L'.ty=L.ty/\(off=0->L'.base=L.base)/\(0<L'.cap->0<L.cap))->bt φ' w' F' L' (.vec i.size ((rows.drop off).take len++A))->bt φ' w' F' L' c')
     (AQ:(S.ag s).2=.vec key v off len) (A7:c=true) (A9:M.size=i.size) (hle:off+len<=rows.length) (AT:∀d∈A,d.size=i.size) (E:(len+A.length)*i.bytes<=140737488355328) (AI:len+A.length<=4611686018427387904),
     ∃vv w' φ',uc P o a w vv w'/\ai φ' w' (Fo G φ' (Mem.set S.mem ⟨key,v+1,c'⟩)) (.vec key (v+1) 0 (len+A.length)) vv/\
      aE φ' G (Mem.set S.mem ⟨key,v+1,c'⟩) w'/\az φ S.mem w φ' (Mem.set S.mem ⟨key,v+1,c'⟩) w'/\∀k,k≠key->φ' k=φ k:=by
     intro key v off len rows cont c' φ G a w H hm L V A0 W Af Ap Aq AQ A7 A9 hle AT E AI;have A1:=H.ag s I;have Ah:=H.ag x A6;rw[AQ]at A1;obtain⟨J,A8⟩:=Cn (P:=P) H.mem AO (by rw[Aa];exact A9) A9 (Au _ _) Ah Ai A7 AT;generalize AC:a.eval s=BW at A1;cases A1 with
     |vec _ _ _ _ _ L' AR _ h _=>
      rw[V]at AR;cases AR;obtain⟨ao,cap,rfl,BX,Ad⟩:=h A0.symm;clear h;have BD:L.sz=i.size:=W.1;have BE:((rows.drop off).take len).length=len:=by simp;omega
      by_cases A4:len+A.length<=cap
      .by_cases B4:cap=0
       · --nothing Ca nothing
        have Az:A=[]:=XH (by omega);have AX:len=0:=by omega
        subst Az;subst AX;have AW:=lM (P:=P) (ty:=o.type) (ao:=ao) A3 hi O A8 BX;obtain⟨φ',AJ,AK,AL,AM⟩:=H.mem.bl (e':=⟨key,v+1,c'⟩) hm V rfl (L':={L with U:=v+1}) (by simp only;omega) (λhh=>by simp only at hh;omega) rfl
         (w':=w) (λ_ _ _=>rfl) (Ds _) (λ_ AB=>.inl ((Af _).2 (Ap _ _ AB))) rfl rfl rfl (λφ' CI Ax=>by
          obtain⟨g1,g2,g3,g4⟩:=W;refine Aq _ _ _ _ (.inr ⟨rfl,λ_=>rfl,id⟩) ⟨g1,by simp,by simp,λA7=>?_⟩;obtain⟨arr,elem,f1,f2,f3,f4⟩:=g4 A7;exact⟨arr,elem,f1,f2,f3,by simp⟩)
        refine⟨_,w,φ',.inl (AH a w w _ (by rw[AC];exact AW)),?_,AJ,AK,AM⟩;exact .vec key (v+1) 0 _ _ _ AL (Ds _) (λ_=>⟨_,_,rfl,by simp,λh=>by omega⟩) rfl
       .obtain⟨rfl,BA⟩:=Ad (by omega);obtain⟨arr,elem,hh,Ay,Ae,BF⟩:=je W (by omega);obtain⟨B,BG⟩:∃B,B=L.base+off*i.size:=⟨_,rfl⟩;have Ar:=((BF.drop off).take len (by simp;omega));have CJ:(((arr.toList.drop L.base).take (rows.length*i.size)).drop (off*i.size)).take (len*i.size)=(arr.toList.drop B).take (len*i.size):=by
         have:off*i.size+len*i.size<=rows.length*i.size:=by rw[<-XO];exact Xo _ hle
         rw[List.drop_take,List.take_take,Yp (by omega),List.drop_drop,BG]
        rw[CJ]at Ar;have CK:=Ar.append A8.rows;have CL:=A8.rows.1;have Cb:len*i.size+J.length<=(L.cap-off)*i.size:=by
         rw[CL,<-XO];exact Xo _ (by omega)
        have Bc:off*i.size+(L.cap-off)*i.size=L.cap*i.size:=by rw[<-XO];congr 1;omega
        have AS:B+len*i.size+J.length<=arr.size:=by omega
        rw[BD,<-BG]at AC;have AW:=run_append_fits (P:=P) (ty:=o.type) A3 hi O A8 hh A4 AS (by have:=Xo i.bytes (Yq A.length len);omega);obtain⟨φ',AJ,AK,AL,AM⟩:=H.mem.zE (e:=⟨key,v,cont⟩) hm V A0 (b0:=L.a7) ((Af _).2 ⟨by omega,rfl⟩) (putCells arr.toList (B+len*i.size) J).toArray ⟨v+1,L.a7,L.sz,L.cap-off,B,[],L.ty⟩ (YF _) (λhh=>by simp only at hh;omega) c' (λ_ E=>(Af _).2 ⟨by omega,(Ap _ _ E).2⟩) (λφ' Ax B9 AU=>by
         refine Aq _ _ _ _ (.inr ⟨rfl,λAA=>by subst AA;simp[BG],λ_=>by omega⟩) (ni (pre:=arr.toList.take B) (cs:=(arr.toList.drop B).take (len*i.size)++J) (rest:=arr.toList.drop (B+len*i.size+J.length)) (elem:=elem) BD (CK.mono AU) ?_ ?_ ?_ (by rw[Xx,BE];simp only;omega) ?_ (λ_=>?_))
         .simp only[X6,Xs];omega
         .intro z O;exact Ae z (by simpa using XF O)
         .intro z O;exact Ae z (by simpa using Xy O)
         .show _=(L.cap-off)*i.size;simp only[Xx,X6,Yu,Xs];omega
         .have e:=hh.setRow (putCells arr.toList (B+len*i.size) J).toArray (by show (putCells arr.toList _ _).length=_;rw[aV _ _ _ (by simpa using AS)];simp);rw[bC _ _ _ (by simpa using AS),List.take_add]at e;rw[bC _ _ _ (by simpa using AS),List.take_add];simpa [Yb]using e)
        refine⟨_,_,φ',.inl (AH a w _ _ (by rw[AC];exact AW)),?_,AJ,AK,AM⟩;exact .vec key (v+1) 0 _ _ _ AL (Ds _) (λ_=>⟨_,_,rfl,A4,λ_=>⟨by simp,by simp only;omega⟩⟩) rfl
      .by_cases B4:cap=0
       .subst B4;have AX:len=0:=by omega
        subst AX;have:=grow H A8 hm V A0 ao 0 0 AC [] [] (a8.nil ..) rfl (λw' _=>by cases ao<;>simp[Builtin.firstCells,loadCells,loadCellsFrom]) (by omega) E AI A9 c' (λ_ _ h=>(Ap _ _ h).2) (λφ' w' F' L' N Y AN=>Aq φ' w' F' L' (.inl ⟨N,Y⟩) (by simpa using AN));simpa using this
       .obtain⟨rfl,BA⟩:=Ad (by omega);obtain⟨arr,elem,hh,Ay,Ae,BF⟩:=je W (by omega);have Ar:=((BF.drop off).take len (by simp;omega));exact grow H A8 hm V A0 _ len cap AC _ ((rows.drop off).take len) Ar BE (λw' Ac=>by
         refine run_firstCells_some (P:=P) w' i.size len _ len cap _ (by rw[Ar.1,BE]) (λj u T=>?_);rw[cD,show w'.cell? ⟨L.a7,L.base+off*L.sz+j,none⟩=w.cell? ⟨L.a7,L.base+off*L.sz+j,none⟩ by simp[World.cell?,Ac],dt hh,BD];rw[Xp]at T;split at T
         .rw[XJ,Xp]at T;split at T
          .rw[XJ]at T;rw[XC];simpa using T
          .cases T
         .cases T) (by omega) E AI A9 c' (λ_ _ h=>(Ap _ _ h).2) (λφ' w' F' L' N Y AN=>Aq φ' w' F' L' (.inl ⟨N,Y⟩) AN)
    split
    .rename_i k U off len AQ;split
     .rename_i key v Ba rows AG;refine ak.jD ?_;rintro ⟨A7,A9,rfl,hle,rfl,AT,E,AI⟩ φ G a w H;obtain⟨hm,AE,L,V,A0,W⟩:=H.mem.get AG;simp only at AE;subst AE;exact core H hm V A0 W (λ_=>Iff.rfl) (λ_ _ h=>h) (λ_ _ _ _ _ h=>h) AQ A7 A9 hle AT E AI
     .rename_i key v tb AF AG;split
      .rename_i As CM;refine ak.jD ?_;rintro ⟨A7,A9,rfl,rfl,rfl,rfl,BH,E,AI⟩ φ G a w H;obtain⟨hm,AE,L,V,A0,W⟩:=H.mem.get AG;simp only at AE;subst AE;have AT:=C7 Ai CM;subst AT;have Bd:(iW As).length=As.length:=by simp[iW]
       have Cc:(iW AF).length=AF.length:=by simp[iW]
       have N:=core (cont:=.buf tb AF) (c':=.buf tb (AF++As)) (rows:=iW AF) (off:=0) (len:=AF.length) H hm V A0 (by rw[BH];exact W.2) (λ_=>Iff.rfl) (λ_ _ h=>h) (λφ' w' F' L' hh h=>by
        refine⟨?_,?_⟩
        .rcases hh with ⟨N,Y⟩|⟨N,Y,AN⟩
         .exact⟨Y,λ_=>N⟩
         .exact⟨(Y rfl).trans W.1.1,λh=>N.trans (W.1.2 (AN h))⟩
        .rw[BH]at h;have BR:((iW AF).drop 0).take AF.length++iW As=iW (AF++As):=by rw[List.drop_zero,Yw (by omega)];simp[iW]
         rw[BR]at h;exact h) AQ A7 A9 (by omega) (λd Z=>by obtain⟨y,_,rfl⟩:=Xt.1 Z;rw[BH];rfl) (by rw[Bd];exact E) (by omega)
       rw[Bd]at N;exact N
      .trivial
     .trivial
    .rename_i AQ;split
     .rename_i key v cont AG;refine ak.jD ?_;rintro ⟨A7,A9,AT,E,AI⟩ φ G a w H;obtain⟨hm,AE,L,V,A0,W⟩:=H.mem.get AG;simp only at AE A0;subst AE;have A1:=H.ag s I;have Ah:=H.ag x A6;rw[AQ]at A1;obtain⟨J,A8⟩:=Cn (P:=P) H.mem AO (by rw[Aa];exact A9) A9 (Au _ _) Ah Ai A7 AT;generalize AC:a.eval s=BW at A1;cases A1;by_cases Az:A=[]
      .subst Az;have AW:=lM (P:=P) (ty:=o.type) (ao:=none) (len:=0) (cap:=0) A3 hi O A8 (Ds _);obtain⟨φ',AJ,AK,AL,AM⟩:=H.mem.bl (e':=⟨keyOf o,v+1,.vec i.size []⟩) hm V rfl (L':=⟨v+1,0,i.size,0,0,[],none⟩) (by simp only;omega) (λhh=>by simp only at hh;omega) rfl
        (w':=w) (λ_ _ _=>rfl) (Ds _) (λ_ AB=>absurd AB.1 (by simp)) rfl rfl rfl (λφ' CI Ax=>
         ⟨rfl,by simp,by simp,λA7=>by simp at A7⟩)
       refine⟨_,w,φ',.inl (AH a w w _ (by rw[AC];exact AW)),?_,AJ,AK,AM⟩;exact .vec _ (v+1) 0 _ _ _ AL (Ds _) (λ_=>⟨_,_,rfl,by simp,λh=>by omega⟩) rfl
      .have BL:0<A.length:=List.length_pos_iff.2 Az;have:=grow H A8 hm V A0 none 0 0 AC [] [] (a8.nil ..) rfl (λw' _=>by simp[Builtin.firstCells]) (by omega) (by simpa using E) (by simpa using AI) A9 (.vec i.size A) (λ_ _ h=>h.2) (λ_ _ _ _ _ _ h=>h);simpa using this
     .trivial
    .trivial
   .exact JD P S o s x t u AB I A6 A3 hi O Aa AO
  .trivial
 .trivial
def pY(P:Program)(m:Mem)(AE:Nat)(t:TypeId)(l c:AV):bp:=
 match tk P t with
 | .slice e=>match b7 P e,pk P e,gE P e,l,c,Mem.get m AE with
  |some sz,some AQ,some A1,.d (.int .i64 n),.d (.int .i64 AR),some ⟨_,v,_⟩=>
   .bl (n=AR/\0<=n/\n*AQ<=140737488355328/\n<=4611686018427387904/\A1.size=sz) (.vec AE (v+1) 0 n.toNat) ⟨AE,v+1,.vec sz (List.replicate n.toNat A1)⟩
  |_,_,_,_,_,_=>.no
 |_=>.no
def wrap_small{n:Int}(A7:0<=n)(h:n<=4611686018427387904):IntKind.i64.wrap n=n:=IntWalk.i64_in _ (by omega)
def C8(z:Array Value)(n sz:Nat)(N:z.size=sz)(d:D)(AF:d.size=sz)(J:∀v∈z,ba v=true)(w:World)(F:Nat->Prop)(Ad:∃v,aq w F d v/\v.cells=z):
 a8 w F sz (List.replicate n d) ((Array.range (n*sz)).map (z[·%z.size]!)).toList:=by
 obtain⟨v,W,BB⟩:=Ad;refine⟨by simp,?_,?_,?_⟩
 .intro x O;simp at O;obtain⟨i,hi,rfl⟩:=O;have Ae:0<z.size:=by
   grind
  rw[getElem!_pos z _ (Nat.mod_lt _ Ae)];grind
 .grind
 .intro i x O;have hi:i<n:=by grind
  have Af:x=d:=by grind
  subst Af;refine⟨v,W,λj c Ag=>?_⟩;have Ah:=pn W AF Ag;have BC:i*sz+j<n*sz:=by
   have:i*sz+sz<=n*sz:=by rw[<-X9];exact Xo _ hi
   omega
  have hm:(i*sz+j)%sz=j:=by rw[Nat.mul_comm,Nat.mul_add_mod];exact Nat.mod_eq_of_lt Ah
  grind
def run_makeSlice{P:Program}{w:World}{t e:TypeId}{i:TypeInfo}{z:Value}{n:Int}(M:P.underlying t=some (.slice e))(hi:P.info? e=some i)(N:i.zero=some z)
 (A7:0<=n) (T:n*i.bytes<=140737488355328) (A8:n<=4611686018427387904):
 (Instr.makeSlice t (.int .i64 n) (.int .i64 n)).run P w=.ok (.slice (some ⟨w.heap.size,0,none⟩) n.toNat n.toNat) (w.alloc (.cells ((Array.range (n.toNat*i.size)).map (z.cells[·%z.cells.size]!)) e)):=by
 have hw:=wrap_small A7 A8;have J:¬n<0:=by omega
 have AG:¬((i.bytes:Int)*n>281474976710656):=by grind
 by_cases Ai:n.toNat*i.size=0
 .simp[Instr.makeSlice,run_underlying M,asInt,asIntOf,typeInfo,sizeOf,hi,hw,J,AG,Ai,dy,show Array.range 0=#[]from rfl]
 .simp[Instr.makeSlice,run_underlying M,asInt,asIntOf,typeInfo,sizeOf,zeroValue,hi,N,dy];grind
def JE(P:Program)(S:St)(o:Oper)(t:TypeId)(l c:Operand)(Y:o.op=.makeSlice t l c)(Aj:(S.ag l).1=true)(AH:(S.ag c).1=true):ak P S o (pY P S.mem (keyOf o) t (S.ag l).2 (S.ag c).2):=by
 unfold pY;split
 .rename_i e AI;have M:=cR AI;split
  .rename_i sz AQ A1 n AR key v cont J AG Ak Al An AJ;refine ak.jD ?_;rintro ⟨rfl,A7,T,A8,Ao⟩ φ G a w I;obtain⟨i,z,hi,rfl,rfl,N,BD,Ap,Aq⟩:=Co J AG Ak;obtain⟨hm,A9,L,Z,A2,q⟩:=I.mem.get AJ;subst A9;have A':=I.ag l Aj;have AK:=I.ag c AH;rw[Al]at A';rw[An]at AK;have Ar:a.eval l=.int .i64 n:=by
    generalize a.eval l=x at A';cases A' with|d _ _ h=>cases h;rfl
   have AL:a.eval c=.int .i64 n:=by
    generalize a.eval c=x at AK;cases AK with|d _ _ h=>cases h;rfl
   have As:=run_makeSlice (P:=P) (w:=w) M hi N A7 T A8;obtain⟨φ',A3,A4,AM,A5⟩:=I.mem.fresh (e:=⟨keyOf o,v,cont⟩) hm Z A2 w rfl rfl rfl rfl
    ((Array.range (n.toNat*i.size)).map (z.cells[·%z.cells.size]!)) e i.size n.toNat (.vec i.size (List.replicate n.toNat A1)) (λ_ T=>T.2) (λφ' hle At AS Au=>by
     refine oO (cs:=((Array.range (n.toNat*i.size)).map (z.cells[·%z.cells.size]!)).toList) (rest:=[]) (elem:=e) rfl rfl (C8 z.cells n.toNat i.size (by grind) A1 Ao Ap _ _ (Aq _ _)) (by simp) (by simp) (by simp) (λ_=>?_);refine cy.new ?_;rw[Au,X2,YO];rfl)
   refine⟨.slice (some ⟨w.heap.size,0,none⟩) n.toNat n.toNat,_,φ',.inl ?_,?_,A3,A4,A5⟩
   .simp[execOp,Y,Ar,AL,As]
   .exact .vec _ (v+1) 0 _ _ _ AM (Ds _) (λ_=>⟨_,_,rfl,Ds _,λ_=>⟨by simp,by simp⟩⟩) rfl
  .trivial
 .trivial
def pZ(P:Program)(m:Mem)(t:TypeId)(s x:AV):bp:=
 match tk P t with
 | .slice e=>match b7 P e with
  |some sz=>match di m sz x with
   |some (c,A)=>match s with
    | .vec k U off len=>match Mem.get m k with
     |some ⟨_,v,.vec E rows⟩=>.bl (c/\v=U/\off+len<=rows.length/\E=sz/\(∀d∈A,d.size=sz))
      (.d (.int .i64 (min A.length len:Nat))) ⟨k,U,.vec sz (putCells rows off (A.take len))⟩
     |_=>.no
    |_=>.no
   |none=>.no
  |none=>.no
 |_=>.no
def tX{w F sz}{rows A:List D}{cs H:List Value}{off:Nat}(h:a8 w F sz rows cs)(AN:a8 w F sz A H)(hle:off+A.length<=rows.length):
 a8 w F sz (putCells rows off A) (putCells cs (off*sz) H):=by
 have AA:off*sz+H.length<=cs.length:=by rw[h.1,AN.1,<-XO];exact Xo _ hle
 rw[bC _ _ _ hle,bC _ _ _ AA];have:=((h.take off (by omega)).append AN).append (h.drop (off+A.length));rw[XO,<-AN.1]at this;grind
def y6{α:Type}{cs H:List α}{o n:Nat}(h:o+H.length<=n)(A8:n<=cs.length):putCells (cs.take n) o H++cs.drop n=putCells cs o H:=by
 rw[bC _ _ _ (by grind),bC _ _ _ (by omega),List.take_take,Yp (by omega),Yb (List.take _ _++_)];rw[List.drop_take];have AL:cs.drop n=(cs.drop (o+H.length)).drop (n-(o+H.length)):=by simp_all
 rw[AL,Yn]
def zS{P:Program}{w w':World}{t u ty e:TypeId}{sz:Nat}(M:P.underlying t=some (.slice e))(J:b7 P e=some sz){ao:Option Addr}{len cap:Nat}{x:Value}{m:Nat}{H:List Value}
 (AT:(Builtin.lenOf x).run P w=.ok m w) (A0:(Builtin.firstCells sz (min m len) x).run P w=.ok H.toArray w)
 (V:(match ao with|some a=>storeCells a H|none=>pure ()).run P w=.ok () w'):
 (Builtin.copy_ #[t,u] ty #[.slice ao len cap,x]).run P w=.ok (.int .i64 (min m len:Nat)) w':=by
 cases ao with
 |none=>
  simp at V;subst V;simp[Builtin.copy_,run_underlying M,AT,run_sizeOf J,A0,goInt]
 |some a=>
  simp[Builtin.copy_,run_underlying M,AT,run_sizeOf J,A0,V,goInt]
def JF(P:Program)(S:St)(o:Oper)(s x:Operand)(t u:TypeId)(Y:o.op=.call {callee:=.builtin .copy,args:=#[s,x],argTypes:=#[t,u]})
 (AF:(S.ag s).1=true) (O:(S.ag x).1=true):ak P S o (pZ P S.mem t (S.ag s).2 (S.ag x).2):=by
 unfold pZ;split
 .rename_i e AI;have M:=cR AI;split
  .rename_i sz J;split
   .rename_i c A Av;split
    .rename_i k U off len Aw;split
     .rename_i key v E rows AJ;refine ak.jD ?_;rintro ⟨AH,rfl,hle,rfl,Ax⟩ φ G a w I;obtain⟨hm,A9,L,Z,A2,q⟩:=I.mem.get AJ;simp only at A9;subst A9;have W:=I.ag s AF;have Ay:=I.ag x O;rw[Aw]at W;obtain⟨H,AB⟩:=zL (P:=P) I.mem Ay Av AH Ax;generalize A':a.eval s=BE at W;cases W with
      |vec _ _ _ _ _ L' AU _ h _=>
       rw[Z]at AU;cases AU;obtain⟨ao,cap,rfl,BF,Az⟩:=h A2.symm;clear h;have AW:L.sz=E:=q.1;have AX:min A.length len<=A.length:=Nat.min_le_left _ _;have A0:=AB.EJ (min A.length len) AX w (λ_ _=>rfl);have AY:(A.take len).length=min A.length len:=by rw[X6,Nat.min_comm]
       by_cases B':len=0
       .subst B';obtain⟨φ',A3,A4,AM,A5⟩:=I.mem.bl (e':=⟨key,v,.vec E (putCells rows off (A.take 0))⟩) hm Z rfl (L':=L) (Ds _) (λ_=>rfl) A2
         (w':=w) (λ_ _ _=>rfl) (Ds _) (λ_ Y=>.inl Y) rfl rfl rfl (λφ' AZ AA=>by
          have e:putCells rows off (A.take 0)=rows:=by rw[bC _ _ _ (by simp;omega)];simp
          rw[e];refine q.mono AA (λ_ _ _=>rfl) (Ds _) (λb T=>?_) (λ_ _=>rfl);rintro (B0|⟨y,B1,B2,AC,A_⟩)
          .exact .inl B0
          .right;rcases (Mem.mem_set I.mem.nodup).1 B1 with ⟨rfl,_⟩|⟨B3,Aa⟩
           .subst AZ;simp at AC;subst AC;exact⟨_,hm,L,Z,A_⟩
           .subst AZ;simp at Aa;simp[Aa]at AC;exact⟨y,B3,B2,AC,A_⟩)
        refine⟨_,w,φ',.inl ?_,.d _ _ (.int _ _),A3,A4,A5⟩;have B4:H.take (min A.length 0*E)=[]:=by simp
        rw[B4]at A0;have:=zS (P:=P) (ty:=o.type) (u:=u) (ao:=ao) (len:=0) (cap:=cap) M J (AB.len w) A0 (w':=w) (by cases ao<;>simp[storeCells]);simp[execOp,Y,resolve,invoke,builtin,A',this]
       .obtain⟨rfl,BG⟩:=Az (by omega);obtain⟨arr,elem,hh,BH,Ab,B5⟩:=je q (by omega);have AO:a8 w (Fo G φ S.mem) E (A.take len) (H.take (min A.length len*E)):=by
         have:=AB.rows.take (min A.length len) AX;have e:A.take (min A.length len)=A.take len:=by
          rcases Nat.le_total A.length len with h|h
          .rw[Yp h,Yw (Ds _),Yw h]
          .rw[Nat.min_eq_right h]
         rw[e]at this;exact this
        have Ac:off+(A.take len).length<=rows.length:=by rw[AY];omega
        have B6:=tX B5 AO Ac;have A6:=AO.1;rw[AY]at A6;have AP:(off+min A.length len)*E<=rows.length*E:=Xo _ (by omega);have BI:rows.length*E<=L.cap*E:=Xo _ q.2.1;have AD:L.base+off*E+(H.take (min A.length len*E)).length<=arr.toList.length:=by
         rw[XO]at AP;rw[A6];simp only[Xs];omega
        have ⟨B7,B8,B9⟩:=hh;have V:=fy (P:=P) L.a7 (L.base+off*E) _ B7 (H.take (min A.length len*E)) 0 arr w B8 B9 (by simpa using AD) (λx O=>jC (AO.2.1 x O));simp only[XZ]at V;rw[<-bC _ _ _ AD]at V;have BA:arr.toList.take L.base++(putCells ((arr.toList.drop L.base).take (rows.length*E)) (off*E) (H.take (min A.length len*E))++(arr.toList.drop L.base).drop (rows.length*E))=putCells arr.toList (L.base+off*E) (H.take (min A.length len*E)):=by
         rw[y6 (by rw[A6,<-XO];exact AP) (by simp only[Yu,Xs];omega)];rw[bC _ _ _ (by rw[A6];rw[XO]at AP;simp only[Yu,Xs];omega),bC _ _ _ AD,List.drop_drop,List.take_add];simp only[Yb,XC]
        obtain⟨φ',A3,A4,AM,A5⟩:=I.mem.store (e:=⟨key,v,.vec E rows⟩) hm Z A2 (b0:=L.a7) ⟨by omega,rfl⟩ (putCells arr.toList (L.base+off*E) (H.take (min A.length len*E))).toArray v (Ds _) (.vec E (putCells rows off (A.take len))) (λ_ T=>T) (λφ' AA At AS=>by
         refine ni (pre:=arr.toList.take L.base) (cs:=putCells ((arr.toList.drop L.base).take (rows.length*E)) (off*E) (H.take (min A.length len*E))) (rest:=(arr.toList.drop L.base).drop (rows.length*E)) (elem:=elem) AW (B6.mono AS) ?_ ?_ ?_ ?_ ?_ (λ_=>?_)
         .simp only[X6,Xs];omega
         .intro z N;exact Ab z (by simpa using XF N)
         .intro z N;exact Ab z (by simpa using Xy (Xy N))
         .rw[aV _ _ _ Ac];exact q.2.1
         .show _=L.cap*E;rw[Xx,aV _ _ _ (by rw[A6,<-XO];simp only[X6,Yu,Xs];omega),<-Xx,Yn];simp only[Yu,Xs];omega
         .rw[BA];exact hh.setRow _ (by show (putCells arr.toList _ _).length=_;rw[aV _ _ _ AD];simp))
        refine⟨_,_,φ',.inl ?_,.d _ _ (.int _ _),A3,A4,A5⟩;have:=zS (P:=P) (ty:=o.type) (u:=u) (ao:=some ⟨L.a7,L.base+off*L.sz,none⟩) (len:=len) (cap:=cap) M J (AB.len w) A0 (by rw[AW];exact V);simp[execOp,Y,resolve,invoke,builtin,A',this]
     .trivial
    .trivial
   .trivial
  .trivial
 .trivial
def oP{P:Program}{s:TypeId}{f n b o:Nat}{w:World}(h:pS P s f=some n):(Instr.fieldAt s (.pointer (some ⟨b,o,none⟩)) f).run P w=.ok (.pointer (some ⟨b,o+n,none⟩)) w:=by
 unfold pS at h;split at h
 .rename_i fs hu;split at h
  .rename_i fl AC;split at h
   .rename_i i hi;split at h
    .cases h
    .rename_i AD;simp at h;subst h;have V:(sizeOf fl.type).run P w=.ok i.size w:=run_sizeOf (by simp[b7,hi]);simp[Instr.fieldAt,run_underlying hu,AC,Instr.sureAddr,fieldPlace,V,AD,cD]
   .cases h
  .cases h
 .cases h
def jM(P:Program)(m:Mem)(s:TypeId)(f:Nat)(p:AV):bp:=
 match pS P s f with
 |some n=>match p with
  | .ptr k U off=>match Mem.get m k with
   |some ⟨_,v,_⟩=>.val (v=U) (.ptr k U (off+n))
   |none=>.no
  | .bb k U i j=>match Mem.get m k with
   |some ⟨_,v,_⟩=>.val (v=U) (.bb k U i (j+n))
   |none=>.no
  | .bR x j=>.val True (.bR x (j+n))
  |_=>.no
 |none=>.no
def Hb(P:Program)(S:St)(o:Oper)(s:TypeId)(x:Operand)(f:Nat)(W:o.op=.fieldAddr s x f)(M:(S.ag x).1=true):ak P S o (jM P S.mem s f (S.ag x).2):=by
 unfold jM;split
 .rename_i n A3;split
  .rename_i k U off J;split
   .rename_i key v cont T;refine ak.pure ?_;rintro rfl φ G a w E;have A:=E.ag x M;rw[J]at A;obtain⟨hm,q,L,H,I,_⟩:=E.mem.get T;simp only at I;have e:=A.ga H I;refine⟨.pointer (some ⟨L.a7,off+n,none⟩),by simp[execOp,W,e,oP A3],.ptr k v _ _ L H (by omega) (λ_=>rfl) rfl⟩
   .trivial
  .rename_i k U i j J;split
   .rename_i key v cont T;refine ak.pure ?_;rintro rfl φ G a w E;have A:=E.ag x M;rw[J]at A;obtain⟨hm,q,L,H,I,_⟩:=E.mem.get T;simp only at I;have e:=A.fw H I;refine⟨.pointer (some ⟨L.a7,L.base+i*L.sz+j+n,none⟩),by simp[execOp,W,e,oP A3],.bb k v _ _ _ L H (by omega) (λ_=>by rw[XC]) rfl⟩
   .trivial
  .rename_i d j J;refine ak.pure ?_;rintro _ φ G a w E;have A:=E.ag x M;rw[J]at A;generalize Z:a.eval x=av at A;cases A with
   |bR _ _ b off A5 A' A0 A6 A1=>
    refine⟨.pointer (some ⟨b,off+(j+n),none⟩),by simp[execOp,W,Z,oP A3,XC],.bR d (j+n) b off A5 A' A0 A6 A1⟩
  .trivial
 .trivial
def eN(m:Mem)(p:AV):bp:=
 match p with
 | .ptr k U off=>match Mem.get m k with
  |some ⟨_,v,_⟩=>.val (v=U) (.ptr k U off)
  |none=>.no
 | .bb k U i j=>match Mem.get m k with
  |some ⟨_,v,_⟩=>.val (v=U) (.bb k U i j)
  |none=>.no
 | .bR x j=>.val True (.bR x j)
 |_=>.no
def BO(P:Program)(S:St)(o:Oper)(x:Operand)(W:o.op=.nilCheck x)(M:(S.ag x).1=true):ak P S o (eN S.mem (S.ag x).2):=by
 unfold eN;split
 .rename_i k U off J;split
  .rename_i key v cont T;refine ak.pure ?_;rintro rfl φ G a w E;have A:=E.ag x M;rw[J]at A;obtain⟨hm,q,L,H,I,_⟩:=E.mem.get T;simp only at I;have e:=A.ga H I;exact⟨_,by simp only[execOp,W,e];rfl,.ptr k v _ _ L H (by omega) (λ_=>rfl) rfl⟩
  .trivial
 .rename_i k U i j J;split
  .rename_i key v cont T;refine ak.pure ?_;rintro rfl φ G a w E;have A:=E.ag x M;rw[J]at A;obtain⟨hm,q,L,H,I,_⟩:=E.mem.get T;simp only at I;have e:=A.fw H I;exact⟨_,by simp only[execOp,W,e];rfl,.bb k v _ _ _ L H (by omega) (λ_=>rfl) rfl⟩
  .trivial
 .rename_i d j J;refine ak.pure ?_;rintro _ φ G a w E;have A:=E.ag x M;rw[J]at A;generalize Z:a.eval x=av at A;cases A with
  |bR _ _ b off A5 A' A0 A6 A1=>
   exact⟨.pointer (some ⟨b,off+j,none⟩),by simp only[execOp,W,Z];rfl,.bR d j b off A5 A' A0 A6 A1⟩
 .trivial
def eU{φ w F k n v}(h:ai φ w F (.d (.int k n)) v):v=.int k n:=by cases h with|d _ _ h=>cases h;rfl
def mU{φ w F b v}(h:ai φ w F (.d (.bool b)) v):v=.bool b:=by cases h with|d _ _ h=>cases h;rfl
def lO{φ w F s v}(h:ai φ w F (.d (.str s)) v):∃b:ByteArray,v=.string b/\b.data.toList=s:=by cases h with|d _ _ h=>cases h with|str b _ h=>exact⟨b,rfl,h⟩
def nt{P:Program}{t:TypeId}{n e}(h:tk P t=.arr n e):P.underlying t=some (.array n e):=by
 unfold tk at h;split at h<;>simp_all
def il{P:Program}{t:TypeId}(h:tk P t=.str):P.underlying t=some .string:=by
 unfold tk at h;split at h<;>simp_all
def xr{P:Program}{t:TypeId}(h:tk P t=.bool):P.underlying t=some .bool:=by
 unfold tk at h;split at h<;>simp_all
def pr{P:Program}{t:TypeId}{k}(h:tk P t=.int k):P.underlying t=some (.int k):=by
 unfold tk at h;split at h<;>simp_all
def iq(P:Program)(m:Mem)(t:TypeId)(p i:AV):bp:=
 match i with
 | .d (.int _ n)=>match tk P t with
  | .slice e=>match b7 P e with
   |some sz=>match p with
    | .d (.list xs)=>.val (0<=n/\n.toNat<xs.length/\(D.at xs n.toNat).size=sz) (.bR (D.at xs n.toNat) 0)
    | .vec k U off len=>match Mem.get m k with
     |some ⟨_,v,.vec A4 _⟩=>.val (v=U/\0<=n/\n.toNat<len/\A4=sz) (.bb k U (off+n.toNat) 0)
     |some ⟨_,v,.vv _ _⟩=>.val (v=U/\0<=n/\n.toNat<len/\sz=1) (.bb k U (off+n.toNat) 0)
     |_=>.no
    |_=>.no
   |none=>.no
  | .arr len e=>match b7 P e with
   |some sz=>match p with
    | .ptr k U off=>match Mem.get m k with
     |some ⟨_,v,_⟩=>.val (v=U/\0<=n/\n.toNat<len) (.ptr k U (off+n.toNat*sz))
     |none=>.no
    | .bb k U i j=>match Mem.get m k with
     |some ⟨_,v,.vec A4 _⟩=>if A4=1/\sz=1/\j=0 then .val (v=U/\0<=n/\n.toNat<len) (.bb k U (i+n.toNat) 0)else .val (v=U/\0<=n/\n.toNat<len) (.bb k U i (j+n.toNat*sz))
     |some ⟨_,v,_⟩=>.val (v=U/\0<=n/\n.toNat<len) (.bb k U i (j+n.toNat*sz))
     |none=>.no
    | .bR x j=>.val (0<=n/\n.toNat<len) (.bR x (j+n.toNat*sz))
    |_=>.no
   |none=>.no
  |_=>.no
 |_=>.no
def kR{P:Program}{t e:TypeId}{sz b o len cap:Nat}{k:IntKind}{n:Int}{w:World}(Y:P.underlying t=some (.slice e))(V:b7 P e=some sz)(N:0<=n)(O:n.toNat<len):
 (Instr.indexAt t (.slice (some ⟨b,o,none⟩) len cap) (.int k n)).run P w=.ok (.pointer (some ⟨b,o+n.toNat*sz,none⟩)) w:=by
 have A3:n<(len:Int):=by omega
 simp[Instr.indexAt,asIntOf,run_underlying Y,run_sizeOf V,N,A3,cD]
def ir{P:Program}{t e:TypeId}{sz b o len:Nat}{k:IntKind}{n:Int}{w:World}(Y:P.underlying t=some (.array len e))(V:b7 P e=some sz)(N:0<=n)(O:n.toNat<len):
 (Instr.indexAt t (.pointer (some ⟨b,o,none⟩)) (.int k n)).run P w=.ok (.pointer (some ⟨b,o+n.toNat*sz,none⟩)) w:=by
 have A3:n<(len:Int):=by omega
 simp[Instr.indexAt,Instr.sureAddr,asIntOf,run_underlying Y,run_sizeOf V,N,A3,cD]
def JG{w F xs b off cap len}(h:aq w F (.list xs) (.slice (some ⟨b,off,none⟩) len cap)){i sz:Nat}(hi:i<xs.length)(V:(D.at xs i).size=sz):
 len=xs.length/\b<w.heap.size/\¬F b/\∃v,aq w F (D.at xs i) v/\∀(j:Nat) c,v.cells[j]?=some c->w.cell? ⟨b,off+i*sz+j,none⟩=some c:=by
 generalize M:D.list xs=x at h;generalize A:Value.slice (some ⟨b,off,none⟩) len cap=v at h;cases h with
 |nil a c=>simp at M;subst M;simp at hi
 |list AN AO AP AQ A4 vs AR A' A0 A9 AE A1=>
  simp at M A;obtain⟨⟨rfl,rfl⟩,rfl,rfl⟩:=A;subst M;have:A4=sz:=by rw[<-V,A9 _ (Xk (getD_at hi))]
  subst this;exact⟨rfl,A',A0,vs i,AE i _ (getD_at hi),λj c AF=>A1 i j c hi AF⟩
 |_=>simp at M
def ER{w F xs v}(h:aq w F (.list xs) v)(AG:xs≠[]):∃b off cap,v=.slice (some ⟨b,off,none⟩) xs.length cap:=by
 cases h with
 |nil a c=>exact absurd rfl AG
 |list b off cap sz vs=>exact⟨_,_,_,rfl⟩
def Hc(P:Program)(S:St)(o:Oper)(t:TypeId)(x i:Operand)(W:o.op=.indexAddr t x i)(M:(S.ag x).1=true)(hi:(S.ag i).1=true):ak P S o (iq P S.mem t (S.ag x).2 (S.ag i).2):=by
 unfold iq;split
 .rename_i AH n AI;have A2:∀{φ G a w},Rel φ G S a w->a.eval i=.int AH n:=λE=>by
   have:=E.ag i hi;rw[AI]at this;exact eU this
  split
  .rename_i e AA;have Y:=cR AA;split
   .rename_i sz V;split
    .rename_i xs J;refine ak.pure ?_;rintro ⟨N,O,A9⟩ φ G a w E;have A:=E.ag x M;rw[J]at A;generalize Z:a.eval x=av at A;cases A with
     |d _ _ h=>
      obtain⟨b,off,cap,rfl⟩:=ER h (by intro hh;subst hh;simp at O);obtain⟨_,A',A0,v,A,A1⟩:=JG h O A9;refine⟨_,by simp only[execOp,W,Z,A2 E,Sem.run_bind,kR Y V N O];rfl,?_⟩;exact .bR (D.at xs n.toNat) 0 b (off+n.toNat*sz) v A' A0 A A1
    .rename_i k U off len J;split
     .rename_i key v A4 rows T;refine ak.pure ?_;rintro ⟨rfl,N,O,rfl⟩ φ G a w E;have A:=E.ag x M;rw[J]at A;obtain⟨hm,q,L,H,I,A7⟩:=E.mem.get T;simp only at I;generalize Z:a.eval x=av at A;cases A with
      |vec _ _ _ _ _ L' A8 _ h _=>
       rw[H]at A8;cases A8;obtain⟨ao,cap,rfl,AJ,AB⟩:=h I.symm;clear h;obtain⟨rfl,AK⟩:=AB (by omega);refine⟨_,by simp only[execOp,W,Z,A2 E,Sem.run_bind,kR Y V N O];rfl,?_⟩;exact .bb k v _ 0 _ L H (by omega) (λ_=>by rw[A7.1,XO,XZ,XC]) rfl
     .rename_i key v rows y T;refine ak.pure ?_;rintro ⟨rfl,N,O,rfl⟩ φ G a w E;have A:=E.ag x M;rw[J]at A;obtain⟨hm,q,L,H,I,A7⟩:=E.mem.get T;simp only at I;generalize Z:a.eval x=av at A;cases A with
      |vec _ _ _ _ _ L' A8 _ h _=>
       rw[H]at A8;cases A8;obtain⟨ao,cap,rfl,AJ,AB⟩:=h I.symm;clear h;obtain⟨rfl,AK⟩:=AB (by omega);refine⟨_,by simp only[execOp,W,Z,A2 E,Sem.run_bind,kR Y V N O];rfl,?_⟩;exact .bb k v _ 0 _ L H (by omega) (λ_=>by rw[A7.1.1,XO,XZ,XC]) rfl
     .trivial
    .trivial
   .trivial
  .rename_i len e AA;have Y:=nt AA;split
   .rename_i sz V;split
    .rename_i k U off J;split
     .rename_i key v cont T;refine ak.pure ?_;rintro ⟨rfl,N,O⟩ φ G a w E;have A:=E.ag x M;rw[J]at A;obtain⟨hm,q,L,H,I,_⟩:=E.mem.get T;simp only at I;have e:=A.ga H I;refine⟨_,by simp only[execOp,W,e,A2 E,Sem.run_bind,ir Y V N O];rfl,.ptr k v _ _ L H (by omega) (λ_=>rfl) rfl⟩
     .trivial
    .rename_i k U AS j J;split
     .rename_i key v A4 rows T;split
      .rename_i AL;obtain⟨rfl,rfl,rfl⟩:=AL;refine ak.pure ?_;rintro ⟨rfl,N,O⟩ φ G a w E;have A:=E.ag x M;rw[J]at A;obtain⟨hm,q,L,H,I,A7⟩:=E.mem.get T;simp only at I;have e:=A.fw H I;have AM:L.sz=1:=A7.1;refine⟨_,by simp only[execOp,W,e,A2 E,Sem.run_bind,ir Y V N O];rfl,.bb k v _ _ _ L H (by omega) (λ_=>by rw[AM];simp[XC]) rfl⟩
      .refine ak.pure ?_;rintro ⟨rfl,N,O⟩ φ G a w E;have A:=E.ag x M;rw[J]at A;obtain⟨hm,q,L,H,I,_⟩:=E.mem.get T;simp only at I;have e:=A.fw H I;refine⟨_,by simp only[execOp,W,e,A2 E,Sem.run_bind,ir Y V N O];rfl,.bb k v _ _ _ L H (by omega) (λ_=>by rw[XC]) rfl⟩
     .rename_i key v cont _ T;refine ak.pure ?_;rintro ⟨rfl,N,O⟩ φ G a w E;have A:=E.ag x M;rw[J]at A;obtain⟨hm,q,L,H,I,_⟩:=E.mem.get T;simp only at I;have e:=A.fw H I;refine⟨_,by simp only[execOp,W,e,A2 E,Sem.run_bind,ir Y V N O];rfl,.bb k v _ _ _ L H (by omega) (λ_=>by rw[XC]) rfl⟩
     .trivial
    .rename_i d j J;refine ak.pure ?_;rintro ⟨N,O⟩ φ G a w E;have A:=E.ag x M;rw[J]at A;generalize Z:a.eval x=av at A;cases A with
     |bR _ _ b off A5 A' A0 A6 A1=>
      refine⟨.pointer (some ⟨b,off+(j+n.toNat*sz),none⟩),by simp[execOp,W,Z,A2 E,ir Y V N O,XC],.bR d _ b off A5 A' A0 A6 A1⟩
    .trivial
   .trivial
  .trivial
 .trivial
def dz(op:BinOp)(k:IntKind)(a b:Int):Option (Bool×D):=
 match op with
 | .add=>some (true,.int k (k.wrap (a+b)))
 | .sub=>some (true,.int k (k.wrap (a-b)))
 | .mul=>some (true,.int k (k.wrap (a*b)))
 | .quo=>some (b≠0,.int k (k.wrap (a.tdiv b)))
 | .rem=>some (b≠0,.int k (a.tmod b))
 | .and=>some (true,.int k (k.wrap (BitVec.ofInt k.bits a &&& BitVec.ofInt k.bits b).toNat))
 | .or=>some (true,.int k (k.wrap (BitVec.ofInt k.bits a ||| BitVec.ofInt k.bits b).toNat))
 | .xor=>some (true,.int k (k.wrap (BitVec.ofInt k.bits a ^^^ BitVec.ofInt k.bits b).toNat))
 | .andNot=>some (true,.int k (k.wrap (BitVec.ofInt k.bits a &&& ~~~BitVec.ofInt k.bits b).toNat))
 | .eql=>some (true,.bool (a == b))
 | .neq=>some (true,.bool (a != b))
 | .lss=>some (true,.bool (decide (a<b)))
 | .leq=>some (true,.bool (decide (a<=b)))
 | .gtr=>some (true,.bool (decide (b<a)))
 | .geq=>some (true,.bool (decide (b<=a)))
 |_=>none
def zU(op:BinOp)(k:IntKind)(a b:Int):Option (Bool×D):=
 match op with
 | .shl=>some (0<=b,.int k (k.wrap (a*2^(min b.toNat k.bits))))
 | .shr=>some (0<=b,.int k (a.fdiv (2^(min b.toNat k.bits))))
 |_=>none
def iu(op:BinOp)(s t:List UInt8):Option (Bool×D):=
 match op with
 | .add=>some (s.length+t.length<=4611686018427387904,.str (s++t))
 | .eql=>some (true,.bool (s == t))
 | .neq=>some (true,.bool (!(s == t)))
 | .lss=>some (true,.bool (Op.bytesLess s t))
 | .leq=>some (true,.bool (Op.bytesLess s t||s == t))
 | .gtr=>some (true,.bool (!(Op.bytesLess s t||s == t)))
 | .geq=>some (true,.bool (!Op.bytesLess s t))
 |_=>none
def nu:TK->D->D->Option Bool
 | .int _,.int k a,.int A2 b=>if k=A2 then some (a == b)else none
 | .bool,.bool a,.bool b=>some (a == b)
 | .str,.str a,.str b=>some (a == b)
 |_,_,_=>none
def b6:List TK->List D->List D->Option Bool
 |[],[],[]=>some true
 |k::ks,x::xs,y::M=>match nu k x y,b6 ks xs M with
  |some a,some b=>some (a&&b)
  |_,_=>none
 |_,_,_=>none
def rY(rec:TypeId->Option (List TK)):List Field->Nat->Option (List TK)
 |[],_=>some []
 |f::fs,o=>if f.name≠ "_" /\f.offset=o then (match rec f.type with
  |some ks=>match rY rec fs (o+ks.length)with
   |some r=>some (ks++r)
   |none=>none
  |none=>none)else none
def vH(P:Program):Nat->TypeId->Option (List TK)
 |0,_=>none
 |n+1,t=>match tk P t with
  | .int k=>some [.int k]
  | .bool=>some [.bool]
  | .str=>some [.str]
  | .struct=>match P.underlying t with
   |some (.struct fs)=>if P.stoodInHeld t=false then (match rY (vH P n) fs.toList 0 with
    |some ks=>if b7 P t=some ks.length then some ks else none
    |none=>none)else none
   |_=>none
  |_=>none
def bK(P:Program)(t:TypeId):Option (List TK):=
 match P.underlying t with
 |some (.struct _)=>if P.eqGuardType P.depth t=false then vH P 8 t else none
 |_=>none
def j9(P:Program)(op:BinOp)(t:TypeId)(x y:AV):bp:=
 match x,y with
 | .d (.int k a),.d (.int A2 b)=>match op with
  | .shl=>.val (0<=b) (.d (.int k (k.wrap (a*2^(min b.toNat k.bits)))))
  | .shr=>.val (0<=b) (.d (.int k (a.fdiv (2^(min b.toNat k.bits)))))
  |op=>match dz op k a b with
   |some (c,d)=>.val (k=A2/\c) (.d d)
   |none=>.no
 | .d (.str a),.d (.str b)=>match iu op a b with
  |some (c,d)=>.val c (.d d)
  |none=>.no
 | .d (.bool a),.d (.bool b)=>match op with
  | .eql=>.val (tk P t=.bool) (.d (.bool (a == b)))
  | .neq=>.val (tk P t=.bool) (.d (.bool (a != b)))
  |_=>.no
 | .d (.agg a),.d (.agg b)=>match bK P t with
  |some ks=>match b6 ks a b with
   |some r=>match op with
    | .eql=>.val True (.d (.bool r))
    | .neq=>.val True (.d (.bool (!r)))
    |_=>.no
   |none=>.no
  |none=>.no
 |_,_=>.no
def rZ(P:Program)(w:World)(op:BinOp)(t:TypeId)(x y:Operand)(a b:Value)(h:(∀c,a≠.agg c)/\a≠.nilIface):(eqGuard op t x y a b).run P w=.ok () w:=by
 unfold eqGuard;simp_all
def C9(P:Program)(w:World)(op:BinOp)(t:TypeId)(k:IntKind)(a b:Int)(c d)(h:dz op k a b=some (c,d))(N:c=true):∃v,(binOp op t (.int k a) (.int k b)).run P w=.ok v w/\∀F,aq w F d v:=by
 cases op<;>simp only[dz]at h<;>(try exact h.elim)<;>obtain⟨rfl,rfl⟩:=h<;>(try simp at N)<;>
  refine⟨_,by simp[binOp,Op.intDiv,N];rfl,λF=>by first|exact .int _ _|exact .bool _⟩
def r5(P:Program)(w:World)(op:BinOp)(t:TypeId)(k A2:IntKind)(a b:Int)(c d)(h:zU op k a b=some (c,d))(N:c=true):∃v,(binOp op t (.int k a) (.int A2 b)).run P w=.ok v w/\∀F,aq w F d v:=by
 cases op<;>simp[zU]at h<;>(try exact h.elim)<;>obtain⟨rfl,rfl⟩:=h<;>(try simp at N)<;>
  refine⟨_,by simp[binOp,Op.shift,show ¬b<0 by omega];rfl,λF=>by first|exact .int _ _|exact .bool _⟩
def Da(P:Program)(w:World)(op:BinOp)(t:TypeId)(a b:ByteArray)(c d)(h:iu op a.data.toList b.data.toList=some (c,d))(N:c=true):∃v,(binOp op t (.string a) (.string b)).run P w=.ok v w/\∀F,aq w F d v:=by
 have A_:a.size=a.data.toList.length:=by simp_all
 have Aa:b.size=b.data.toList.length:=by simp_all
 cases op<;>simp[iu]at h<;>(try exact h.elim)<;>obtain⟨rfl,rfl⟩:=h
 case add=>
  refine⟨.string (a++b),?_,λF=>.str _ _ (by simp)⟩;have Au:IntKind.i64.max=9223372036854775807:=by decide
  have:¬(((a.size+b.size:Nat):Int)>IntKind.i64.max):=by grind
  simp only[binOp,Op.stringOp,this,X3,Sem.run_pure]
 all_goals
  refine⟨_,by simp[binOp,Op.stringOp,ByteArray.toList_eq],λF=>.bool _⟩
def Db{P:Program}{w:World}{F:Nat->Prop}{x y:D}{a b:Value}{r:Bool}{t:TypeId}(d:Nat)(h:nu (tk P t) x y=some r)(T:aq w F x a)(A':aq w F y b):
 (Op.equalIn (d+1) t a b).run P w=.ok r w:=by
 unfold nu at h;split at h
 .rename_i A2 k n Ab m A7;split at h
  .rename_i he;subst he;simp at h;subst h;cases T;cases A';exact run_equalIn_int w d t k _ n m (pr A7)
  grind
 .rename_i n m A7;simp at h;subst h;cases T;cases A';exact run_equalIn_bool' w d t n m (xr A7)
 .rename_i n m A7;simp at h;subst h;cases T with|str n _ Aj=>cases A' with|str m _ hm=>
  subst Aj;subst hm;rw[run_equalIn_string w d t n m (il A7),ByteArray.toList_eq,ByteArray.toList_eq]
 grind
def nw{P:Program}{w:World}{t:TypeId}{cs:Array Value}{off:Nat}{v:Value}(h:(tk P t).agg=false)(A4:tk P t≠.other)(H:cs[off]?=some v):(part t cs off).run P w=.ok v w:=by
 simp[part,lK A4,h,H]
def lp:∀{ks:List TK}{xs M:List D}{r:Bool},b6 ks xs M=some r->xs.length=ks.length/\M.length=ks.length
 |[],[],[],_,_=>⟨rfl,rfl⟩
 |k::ks,x::xs,y::M,r,h=>by
  simp[b6]at h;split at h
  .rename_i I;obtain⟨a,b⟩:=lp I;grind
  grind
 |[],[],_::_,_,h=>by simp[b6]at h
 |[],_::_,_,_,h=>by simp[b6]at h
 |_::_,[],_,_,h=>by simp[b6]at h
 |_::_,_::_,[],_,h=>by simp[b6]at h
def ug:∀{a b:List TK}{xs M:List D}{r:Bool},b6 (a++b) xs M=some r->∃p q,b6 a (xs.take a.length) (M.take a.length)=some p/\b6 b (xs.drop a.length) (M.drop a.length)=some q/\r=(p&&q)
 |[],b,xs,M,r,h=>⟨true,r,by simp[b6],by grind,by simp⟩
 |k::a,b,x::xs,y::M,r,h=>by
  simp[b6]at h;split at h
  .rename_i u v J I;obtain⟨p,q,A0,A3,Av⟩:=ug I;refine⟨u&&p,q,?_,by grind,by grind⟩;simp[b6,J,A0]
  grind
 |_::_,_,[],_,_,h=>by simp[b6]at h
 |_::_,_,_::_,[],_,h=>by simp[b6]at h
def p6{P:Program}{w:World}{F:Nat->Prop}{rec:TypeId->Option (List TK)}{Ac:Nat}{V W:Array Value}
 (ih:∀(t:TypeId)(ks:List TK),rec t=some ks->∀(o:Nat)(xs M:List D)(r:Bool),b6 ks xs M=some r->(∀(i:Nat) c v,xs[i]?=some c->V[o+i]?=some v->aq w F c v)->(∀(i:Nat) c v,M[i]?=some c->W[o+i]?=some v->aq w F c v)->
  o+xs.length<=V.size->o+M.length<=W.size->∃a b,(part t V o).run P w=.ok a w/\(part t W o).run P w=.ok b w/\(Op.equalIn Ac t a b).run P w=.ok r w):
 ∀(fs:List Field)(o:Nat)(ks:List TK),rY rec fs o=some ks->∀(xs M:List D)(r:Bool),b6 ks xs M=some r->(∀(i:Nat) c v,xs[i]?=some c->V[o+i]?=some v->aq w F c v)->(∀(i:Nat) c v,M[i]?=some c->W[o+i]?=some v->aq w F c v)->
  o+xs.length<=V.size->o+M.length<=W.size->(Op.eqFields Ac V W fs).run P w=.ok r w
 |[],o,ks,Y,xs,M,r,h,_,_,_,_=>by
  simp[rY]at Y;subst Y;cases xs<;>cases M<;>simp[b6]at h;subst h;simp[Op.eqFields]
 |f::fs,o,ks,Y,xs,M,r,h,T,A',Ad,Ae=>by
  simp only[rY]at Y;split at Y
  .rename_i A9;obtain⟨Aw,Ak⟩:=A9;split at Y
   .rename_i AE J;split at Y
    .rename_i Ab I;cases Y;obtain⟨p,q,A0,A3,rfl⟩:=ug h;obtain⟨AG,AH⟩:=lp h;obtain⟨a,b,g1,g2,g3⟩:=ih f.type AE J o _ _ p A0 (λi c v N H=>T i c v (by grind) H) (λi c v N H=>A' i c v (by grind) H) (by grind) (by grind);have g4:=p6 ih fs (o+AE.length) Ab I _ _ q A3 (λi c v N H=>T (AE.length+i) c v (by grind) (by grind)) (λi c v N H=>A' (AE.length+i) c v (by grind) (by grind)) (by grind) (by grind);rw[<-Ak]at g1 g2;simp[Op.eqFields,g1,g2,g3,Sem.run_ite];grind
    grind
   grind
  grind
def zX{P:Program}{w:World}{F:Nat->Prop}(d:Nat):∀(n:Nat)(V W:Array Value)(t:TypeId)(ks:List TK),vH P n t=some ks->∀(o:Nat)(xs M:List D)(r:Bool),b6 ks xs M=some r->
 (∀(i:Nat) c v,xs[i]?=some c->V[o+i]?=some v->aq w F c v)->(∀(i:Nat) c v,M[i]?=some c->W[o+i]?=some v->aq w F c v)->o+xs.length<=V.size->o+M.length<=W.size->
 ∃a b,(part t V o).run P w=.ok a w/\(part t W o).run P w=.ok b w/\(Op.equalIn (d+n) t a b).run P w=.ok r w
 |0,_,_,_,_,Y,_,_,_,_,_,_,_,_,_=>by cases Y
 |n+1,V,W,t,ks,Y,o,xs,M,r,h,T,A',Ad,Ae=>by
  have one:∀k:TK,tk P t=k->k.agg=false->k≠.other->ks=[k]->∃a b,(part t V o).run P w=.ok a w/\(part t W o).run P w=.ok b w/\(Op.equalIn (d+(n+1)) t a b).run P w=.ok r w:=by
   rintro k A6 Ax Ay rfl;obtain⟨AG,AH⟩:=lp h;match xs,M,AG,AH with
   |[x],[y],_,_=>
    simp[b6]at h;split at h
    .have A0:=nw (P:=P) (w:=w) (t:=t) (by grind) (by grind) (show V[o]?=some V[o] by grind);have A3:=nw (P:=P) (w:=w) (t:=t) (by grind) (by grind) (show W[o]?=some W[o] by grind);exact⟨_,_,A0,A3,Db (d+n) (by grind) (T 0 x _ rfl (by grind)) (A' 0 y _ rfl (by grind))⟩
    grind
  unfold vH at Y;split at Y
  .rename_i k A6;exact one _ A6 rfl (by simp) (by grind)
  .rename_i A6;exact one _ A6 rfl (by simp) (by grind)
  .rename_i A6;exact one _ A6 rfl (by simp) (by grind)
  .rename_i A6;split at Y
   .rename_i fs hu;split at Y
    .rename_i AI;split at Y
     .rename_i AB AJ;split at Y
      .rename_i Al;cases Y;obtain⟨AG,AH⟩:=lp h;have Af:∀cs:Array Value,(part t cs o).run P w=.ok (.agg (cs.extract o (o+ks.length))) w:=by
        have A_:=lK (P:=P) (t:=t) (w:=w) (by grind);simp[part,A_,A6,TK.agg,run_sizeOf Al]
       refine⟨_,_,Af V,Af W,?_⟩;have A9:P.fieldsOf t=fs:=by simp[Program.fieldsOf,hu]
       show (Op.equalIn (d+n+1) t _ _).run P w=_;rw[run_equalIn_struct w (d+n) t _ _ (by grind) AI,A9];refine p6 (F:=F) (λA5 AB AK AL AM AN AO AP AQ AR AS AT=>zX d n _ _ A5 AB AK AL AM AN AO AP AQ AR AS AT) fs.toList 0 ks AJ xs M r h (λi c v N H=>?_) (λi c v N H=>?_) ?_ ?_
       .grind
       .grind
       .grind
       grind
      grind
     grind
    grind
   grind
  grind
def Cr(P:Program)(S:St)(o:Oper)(op:BinOp)(t A5:TypeId)(x y:Operand)(A4:o.op=.binOp op t x y A5)(T:(S.ag x).1=true)(A':(S.ag y).1=true):ak P S o (j9 P op t (S.ag x).2 (S.ag y).2):=by
 have AA:∀(a:Act)(w:World)(v:Value),(∀c,a.eval x≠.agg c)->a.eval x≠.nilIface->(binOp op t (a.eval x) (a.eval y)).run P w=.ok v w->(execOp a.eval o).run P w=.ok (.value v) w:=by
  intro a w v J I h;simp[execOp,A4,rZ P w op t x y _ (a.eval y) ⟨J,I⟩,h]
 unfold j9;split
 .rename_i k n A2 m O A8;have E:∀{φ G a w},Rel φ G S a w->a.eval x=.int k n/\a.eval y=.int A2 m:=λA=>by
   have J:=A.ag x T;have I:=A.ag y A';rw[O]at J;rw[A8]at I;exact⟨eU J,eU I⟩
  split
  .refine ak.pure λN φ G a w A=>?_;obtain⟨v,J,I⟩:=r5 P w .shl t k A2 n m _ _ rfl (decide_eq_true N);exact⟨v,AA a w v (by simp[(E A).1]) (by simp[(E A).1]) (by rw[(E A).1,(E A).2];exact J),.d _ _ (I _)⟩
  .refine ak.pure λN φ G a w A=>?_;obtain⟨v,J,I⟩:=r5 P w .shr t k A2 n m _ _ rfl (decide_eq_true N);exact⟨v,AA a w v (by simp[(E A).1]) (by simp[(E A).1]) (by rw[(E A).1,(E A).2];exact J),.d _ _ (I _)⟩
  .split
   .rename_i c d h;refine ak.pure ?_;rintro ⟨rfl,N⟩ φ G a w A;obtain⟨v,J,I⟩:=C9 P w op t k n m c d h N;exact⟨v,AA a w v (by simp[(E A).1]) (by simp[(E A).1]) (by rw[(E A).1,(E A).2];exact J),.d _ _ (I _)⟩
   .trivial
 .rename_i s u O A8;split
  .rename_i c d h;refine ak.j4 λN φ G a w A=>?_;have J:=A.ag x T;have I:=A.ag y A';rw[O]at J;rw[A8]at I;obtain⟨b1,A0,rfl⟩:=lO J;obtain⟨b2,A3,rfl⟩:=lO I;obtain⟨v,AU,AW⟩:=Da P w op t b1 b2 c d h N;exact⟨v,AA a w v (by simp[A0]) (by simp[A0]) (by rw[A0,A3];exact AU),.d _ _ (AW _)⟩
  .trivial
 .rename_i n m O A8;have E:∀{φ G a w},Rel φ G S a w->a.eval x=.bool n/\a.eval y=.bool m:=λA=>by
   have J:=A.ag x T;have I:=A.ag y A';rw[O]at J;rw[A8]at I;exact⟨mU J,mU I⟩
  split
  .refine ak.pure λN φ G a w A=>⟨.bool (n == m),AA a w _ (by simp[(E A).1]) (by simp[(E A).1]) ?_,.d _ _ (.bool _)⟩;rw[(E A).1,(E A).2];simp[binOp,Op.equal,Op.maxDepth,run_equalIn_bool' w 9999 t n m (xr N)]
  .refine ak.pure λN φ G a w A=>⟨.bool (n != m),AA a w _ (by simp[(E A).1]) (by simp[(E A).1]) ?_,.d _ _ (.bool _)⟩;rw[(E A).1,(E A).2];simp[binOp,Op.equal,Op.maxDepth,run_equalIn_bool' w 9999 t n m (xr N),bne]
  .trivial
 .rename_i xs M O A8;split
  .rename_i ks Z;split
   .rename_i r An;have key:∀{φ G a w},Rel φ G S a w->∃V W,a.eval x=.agg V/\a.eval y=.agg W/\(Op.equal t (.agg V) (.agg W)).run P w=.ok r w/\(eqGuard op t x y (.agg V) (.agg W)).run P w=.ok () w:=by
     intro φ G a w A;have J:=A.ag x T;have I:=A.ag y A';rw[O]at J;rw[A8]at I;generalize a.eval x=Az at J;generalize a.eval y=B' at I;cases J with|d _ _ J=>
     cases I with|d _ _ I=>
     cases J with|agg _ V Ad B0 Ao=>
     cases I with|agg _ W Ae B1 Ap=>
     unfold bK at Z;split at Z
     .rename_i fs hu;split at Z
      .rename_i Aq;have A9:P.fieldsOf t=fs:=by simp[Program.fieldsOf,hu]
       have A7:tk P t=.struct:=by simp[tk,hu]
       unfold vH at Z;simp only[A7,hu]at Z;split at Z
       .rename_i AI;split at Z
        .rename_i AB AJ;split at Z
         .cases Z;refine⟨V,W,rfl,rfl,?_,?_⟩
          .unfold Op.equal Op.maxDepth;rw[run_equalIn_struct w 9999 t V W (by rw[A9];exact hu) AI,A9];exact p6 (F:=Fo G φ S.mem) (λA5 AB AK AL AM AN AO AP AQ AR AS AT=>zX 9992 7 _ _ A5 AB AK AL AM AN AO AP AQ AR AS AT) fs.toList 0 ks AJ xs M r An (λi c v N H=>Ao i c v N (by simpa using H)) (λi c v N H=>Ap i c v N (by simpa using H)) (by omega) (by omega)
          .cases op<;>simp[eqGuard,Aq]
         .cases Z
        .cases Z
       .cases Z
      .cases Z
     .cases Z
    split
    .refine ak.pure λ_ φ G a w A=>?_;obtain⟨V,W,A0,A3,J,I⟩:=key A;exact⟨.bool r,by simp[execOp,A4,A0,A3,I,binOp,J],.d _ _ (.bool _)⟩
    .refine ak.pure λ_ φ G a w A=>?_;obtain⟨V,W,A0,A3,J,I⟩:=key A;exact⟨.bool (!r),by simp[execOp,A4,A0,A3,I,binOp,J],.d _ _ (.bool _)⟩
    .trivial
   .trivial
  .trivial
 .trivial
def fk(P:Program)(m:Mem)(neg:Bool)(t:TypeId)(x:AV):Value->bp
 | .slice none 0 0=>match tk P t with
  | .slice _=>match x with
   | .d (.list (_::_))=>.val true (.d (.bool neg))
   | .lit (.slice none 0 0)=>.val true (.d (.bool (!neg)))
   | .nn=>.val true (.d (.bool neg))
   | .vec k U _ len=>match Mem.get m k with
    |some ⟨_,v,.vec _ _⟩=>.val (v=U/\0<len) (.d (.bool neg))
    |_=>.no
   |_=>.no
  |_=>.no
 | .pointer none=>match tk P t with
  | .ptr _=>match x with
   | .lit (.pointer none)=>.val true (.d (.bool (!neg)))
   | .tn _ _ _=>.val true (.d (.bool (!neg)))
   | .ptr k U _=>match Mem.get m k with
    |some ⟨_,v,_⟩=>.val (v=U) (.d (.bool neg))
    |_=>.no
   |_=>.no
  |_=>.no
 | .nilIface=>match tk P t with
  | .iface=>match x with
   | .dF _ _=>.val true (.d (.bool neg))
   | .err=>.val true (.d (.bool neg))
   | .lit .nilIface=>.val true (.d (.bool (!neg)))
   |_=>.no
  |_=>.no
 |_=>.no
def Dc{φ w F d AX v}(h:ai φ w F (.d (.list (d::AX))) v):∃b off cap,v=.slice (some ⟨b,off,none⟩) (AX.length+1) cap:=by
 cases h with|d _ _ h=>
 cases h with|list _ b off cap sz vs=>exact⟨b,off,cap,rfl⟩
def zY{P:Program}{t e:TypeId}(h:tk P t=.ptr e):P.underlying t=some (.pointer e):=by
 unfold tk at h;split at h<;>simp_all
def Hd{P:Program}{t:TypeId}(h:tk P t=.iface):∃ms,P.underlying t=some (.interface ms):=by
 unfold tk at h;split at h<;>simp_all
def lq{P:Program}(w:World)(d:Nat){t e:TypeId}(a:Option Addr)(n c:Nat)(h:P.underlying t=some (.slice e)):
 (Op.equalIn (d+1) t (.slice a n c) (.slice none 0 0)).run P w=.ok a.isNone w:=by
 cases a<;>simp[Op.equalIn,run_underlying h]
def r8{P:Program}(w:World)(d:Nat){t e:TypeId}(a:Option Addr)(h:P.underlying t=some (.pointer e)):
 (Op.equalIn (d+1) t (.pointer a) (.pointer none)).run P w=.ok a.isNone w:=by
 cases a<;>simp[Op.equalIn,run_underlying h]
def uh{P:Program}(w:World)(d:Nat){t:TypeId}{ms}(Ar:TypeId)(v:Value)(h:P.underlying t=some (.interface ms)):
 (Op.equalIn (d+1) t (.iface Ar v) .nilIface).run P w=.ok false w:=by
 simp[Op.equalIn,run_underlying h]
def zZ{P:Program}(w:World)(d:Nat){t:TypeId}{ms}(h:P.underlying t=some (.interface ms)):
 (Op.equalIn (d+1) t .nilIface .nilIface).run P w=.ok true w:=by
 simp[Op.equalIn,run_underlying h]
def JH{P:Program}{o:Oper}{neg:Bool}{t A5:TypeId}{x:Operand}{v:Value}(A4:o.op=.binOp (if neg then .neq else .eql) t x (.const v) A5){a:Act}{w:World}{b:Bool}
 (J:∀c,a.eval x≠.agg c) (Ag:v=.slice none 0 0\/v=.pointer none\/v=.nilIface) (Ah:(∀k n,a.eval x≠.int k n)/\(∀k n,a.eval x≠.float k n)/\(∀k n m,a.eval x≠.complex k n m)/\(∀s,a.eval x≠.string s))
 (h:(Op.equalIn 10000 t (a.eval x) v).run P w=.ok b w):(execOp a.eval o).run P w=.ok (.value (.bool (if neg then !b else b))) w:=by
 have e:a.eval (.const v)=v:=rfl;have AC:(eqGuard (if neg then .neq else .eql) t x (.const v) (a.eval x) v).run P w=.ok () w:=by
  unfold eqGuard;generalize a.eval x=u at J⊢;rcases Ag with rfl|rfl|rfl<;>cases u<;>cases neg<;>simp
 have Aa:(binOp (if neg then .neq else .eql) t (a.eval x) v).run P w=.ok (.bool (if neg then !b else b)) w:=by
  generalize a.eval x=u at h Ah⊢;obtain⟨g1,g2,g3,g4⟩:=Ah;rcases Ag with rfl|rfl|rfl<;>cases u<;>cases neg<;>simp_all [binOp,Op.equal,Op.maxDepth]
 simp only[execOp,A4,e,Sem.run_bind,AC,Result.andThen_ok,Aa,Sem.run_pure]
def Ct(P:Program)(S:St)(o:Oper)(neg:Bool)(t A5:TypeId)(x:Operand)(v:Value)(A4:o.op=.binOp (if neg then .neq else .eql) t x (.const v) A5)(T:(S.ag x).1=true):ak P S o (fk P S.mem neg t (S.ag x).2 v):=by
 have go:∀{φ G a w}{b:Bool},Rel φ G S a w->(∀c,a.eval x≠.agg c)->(v=.slice none 0 0\/v=.pointer none\/v=.nilIface)->((∀k n,a.eval x≠.int k n)/\(∀k n,a.eval x≠.float k n)/\(∀k n m,a.eval x≠.complex k n m)/\(∀s,a.eval x≠.string s))->
  (Op.equalIn 10000 t (a.eval x) v).run P w=.ok b w->∃AF,(execOp a.eval o).run P w=.ok (.value AF) w/\ai φ w (Fo G φ S.mem) (.d (.bool (if neg then !b else b))) AF:=by
  intro φ G a w b A J I AU AW;exact⟨_,JH A4 J I AU AW,.d _ _ (.bool _)⟩
 have B2:∀{b:Bool},(if neg=true then !b else b)=(if neg=true then !b else b):=rfl;unfold fk;split
 .split
  .rename_i e AD;have A1:=cR AD;split
   .rename_i d AX O;refine ak.j4 λ_ φ G a w A=>?_;have H:=A.ag x T;rw[O]at H;obtain⟨b,off,cap,E⟩:=Dc H;have:=go (b:=false) A (by simp[E]) (.inl rfl) (by simp[E]) (by rw[E];exact lq w 9999 _ _ _ A1);cases neg<;>simpa using this
   .rename_i O;refine ak.j4 λ_ φ G a w A=>?_;have H:=A.ag x T;rw[O]at H;generalize E:a.eval x=u at H;cases H;have:=go (b:=true) A (by simp[E]) (.inl rfl) (by simp[E]) (by rw[E];exact lq w 9999 _ _ _ A1);cases neg<;>simpa using this
   .rename_i O;refine ak.j4 λ_ φ G a w A=>?_;have H:=A.ag x T;rw[O]at H;generalize E:a.eval x=u at H;cases H;have:=go (b:=false) A (by simp[E]) (.inl rfl) (by simp[E]) (by rw[E];exact lq w 9999 _ _ _ A1);cases neg<;>simpa using this
   .rename_i k U off len O;split
    .rename_i key AF sz rows AC;refine ak.pure ?_;rintro ⟨rfl,B3⟩ φ G a w A;have H:=A.ag x T;rw[O]at H;obtain⟨hm,Y,L,AY,AZ,As⟩:=A.mem.get AC;generalize E:a.eval x=u at H;cases H with
     |vec _ _ _ _ _ L' Ai _ h _=>
      rw[AY]at Ai;cases Ai;obtain⟨ao,cap,rfl,B4,At⟩:=h AZ.symm;obtain⟨rfl,_⟩:=At (by omega);have:=go (b:=false) A (by simp[E]) (.inl rfl) (by simp[E]) (by rw[E];exact lq w 9999 _ _ _ A1);cases neg<;>simpa using this
    .trivial
   .trivial
  .trivial
 .split
  .rename_i e AD;have A1:=zY AD;split
   .rename_i O;refine ak.j4 λ_ φ G a w A=>?_;have H:=A.ag x T;rw[O]at H;generalize E:a.eval x=u at H;cases H;have:=go (b:=true) A (by simp[E]) (.inr (.inl rfl)) (by simp[E]) (by rw[E];exact r8 w 9999 _ A1);cases neg<;>simpa using this
   .rename_i O;refine ak.j4 λ_ φ G a w A=>?_;have H:=A.ag x T;rw[O]at H;generalize E:a.eval x=u at H;cases H;have:=go (b:=true) A (by simp[E]) (.inr (.inl rfl)) (by simp[E]) (by rw[E];exact r8 w 9999 _ A1);cases neg<;>simpa using this
   .rename_i k U off O;split
    .rename_i key AF c AC;refine ak.pure ?_;rintro rfl φ G a w A;have H:=A.ag x T;rw[O]at H;obtain⟨hm,Y,L,AY,AZ,As⟩:=A.mem.get AC;have E:=H.ga AY AZ;have:=go (b:=false) A (by simp[E]) (.inr (.inl rfl)) (by simp[E]) (by rw[E];exact r8 w 9999 _ A1);cases neg<;>simpa using this
    .trivial
   .trivial
  .trivial
 .split
  .rename_i AD;obtain⟨ms,A1⟩:=Hd AD;split
   .rename_i B5 B6 O;refine ak.j4 λ_ φ G a w A=>?_;have H:=A.ag x T;rw[O]at H;generalize E:a.eval x=u at H;cases H;have:=go (b:=false) A (by simp[E]) (.inr (.inr rfl)) (by simp[E]) (by rw[E];exact uh w 9999 _ _ A1);cases neg<;>simpa using this
   .rename_i O;refine ak.j4 λ_ φ G a w A=>?_;have H:=A.ag x T;rw[O]at H;generalize E:a.eval x=u at H;cases H;have:=go (b:=false) A (by simp[E]) (.inr (.inr rfl)) (by simp[E]) (by rw[E];exact uh w 9999 _ _ A1);cases neg<;>simpa using this
   .rename_i O;refine ak.j4 λ_ φ G a w A=>?_;have H:=A.ag x T;rw[O]at H;generalize E:a.eval x=u at H;cases H;have:=go (b:=true) A (by simp[E]) (.inr (.inr rfl)) (by simp[E]) (by rw[E];exact zZ w 9999 A1);cases neg<;>simpa using this
   .trivial
  .trivial
 .trivial
def fR(s:List UInt8)(i:Nat):UInt8:=s[i]?.getD 0
def kS(P:Program)(t:TypeId)(x i:AV):bp:=
 match i with
 | .d (.int _ n)=>match x with
  | .d (.str s)=>.val (tk P t=.str/\0<=n/\n.toNat<s.length) (.d (.int .u8 (fR s n.toNat).toNat))
  | .d (.agg cs)=>match tk P t with
   | .arr len e=>match (tk P e).agg,b7 P e with
    |false,some 1=>.val (0<=n/\n.toNat<len/\len<=cs.length/\tk P e≠.other) (.d (D.at cs n.toNat))
    |true,some sz=>.val (0<=n/\n.toNat<len/\len*sz<=cs.length) (.d (.agg ((cs.drop (n.toNat*sz)).take sz)))
    |_,_=>.no
   |_=>.no
  |_=>.no
 |_=>.no
def EU(b:ByteArray)(i:Nat):b[i]?=b.data.toList[i]?:=by
 by_cases h:i<b.size
 .have AI:i<b.data.size:=h;rw[getElem?_pos b i h,X1,getElem?_pos b.data i AI];rfl
 .have AI:¬i<b.data.size:=h;rw[getElem?_neg b i h,X1,getElem?_neg b.data i AI]
def z6{P:Program}{w:World}{t:TypeId}{b:ByteArray}{k:IntKind}{n:Int}(AA:tk P t=.str)(T:0<=n)(I:n.toNat<b.data.toList.length):
 (Instr.index t (.string b) (.int k n)).run P w=.ok (.int .u8 (fR b.data.toList n.toNat).toNat) w:=by
 have e:b[n.toNat]?=some (fR b.data.toList n.toNat):=by rw[EU];simp only[fR];rw[XM I];rfl
 simp only[Instr.index,asIntOf,Sem.run_bind,Sem.run_pure,Result.andThen_ok,run_underlying (il AA),T,Yh,e]
def yc{P:Program}{w:World}{t:TypeId}{cs:Array Value}{off n:Nat}(h:(tk P t).agg=true)(Y:b7 P t=some n):(part t cs off).run P w=.ok (.agg (cs.extract off (off+n))) w:=by
 have J:tk P t≠.other:=by intro AI;rw[AI]at h;cases h
 simp[part,lK J,h,run_sizeOf Y]
def rp{w F}{cs:List D}{a:Array Value}(h:aq w F (.agg cs) (.agg a))(o n:Nat)(hle:o+n<=cs.length):aq w F (.agg ((cs.drop o).take n)) (.agg (a.extract o (o+n))):=by
 have V:=h.cells;cases h with|agg _ _ I Ab E=>
 have M:=aq.jJ (w:=w) (F:=F) (cs:=(cs.drop o).take n) (vs:=(a.toList.drop o).take n) (by simp;omega)
  (λv AF=>V.2.1 v (by simpa [Value.cells]using Xy (XF AF)))
  (λi c v A M=>by
   rw[Xp]at A M;split at A
   .rename_i hi;simp only[hi,Yh]at M;exact E (o+i) c v (by simpa using A) (by simpa using M)
   .cases A)
 have e:((a.toList.drop o).take n).toArray=a.extract o (o+n):=by
  apply Array.ext';simp
 rwa [e]at M
def EV(P:Program)(S:St)(o:Oper)(t:TypeId)(x i:Operand)(J:o.op=.index t x i)(H:(S.ag x).1=true)(hi:(S.ag i).1=true):ak P S o (kS P t (S.ag x).2 (S.ag i).2):=by
 unfold kS;split
 .rename_i k n AW;split
  .rename_i s N;refine ak.pure ?_;rintro ⟨AA,T,I⟩ φ G a w E;have A:=E.ag x H;have M:=E.ag i hi;rw[N]at A;rw[AW]at M;obtain⟨b,A1,rfl⟩:=lO A;exact⟨_,by simp only[execOp,J,A1,eU M,Sem.run_bind,z6 AA T I];rfl,.d _ _ (.int _ _)⟩
  .rename_i cs N;split
   .rename_i len e O;split
    .rename_i AX Y;refine ak.pure ?_;rintro ⟨T,I,hle,AY⟩ φ G a w E;have A:=E.ag x H;have M:=E.ag i hi;rw[N]at A;rw[AW]at M;generalize W:a.eval x=av at A;cases A with|d _ _ A=>
     cases A with|agg _ A4 Ap Aq Ac=>
     have AB:n<(len:Int):=by omega
     have Ad:n.toNat<A4.size:=by omega
     refine⟨A4[n.toNat],?_,.d _ _ (Ac n.toNat _ _ (getD_at (by omega)) (by simp[Ad]))⟩;have AC:=nw (P:=P) (w:=w) (t:=e) (cs:=A4) (off:=n.toNat*1) AX AY (v:=A4[n.toNat]) (by simp[Ad]);simp only[Yv]at AC;simp[execOp,J,W,eU M,Instr.index,asIntOf,run_underlying (nt O),T,AB,run_sizeOf Y,AC]
    .rename_i sz AX Y;refine ak.pure ?_;rintro ⟨T,I,hle⟩ φ G a w E;have A:=E.ag x H;have M:=E.ag i hi;rw[N]at A;rw[AW]at M;generalize W:a.eval x=av at A;cases A with|d _ _ A=>
     have Ar:=A;cases A with|agg _ A4 Ap Aq Ac=>
     have AB:n<(len:Int):=by omega
     have As:n.toNat*sz+sz<=cs.length:=by
      have:(n.toNat+1)*sz<=len*sz:=Xo _ I;rw[XO]at this;omega
     refine⟨_,?_,.d _ _ (rp Ar (n.toNat*sz) sz As)⟩;have AC:=yc (P:=P) (w:=w) (t:=e) (cs:=A4) (off:=n.toNat*sz) AX Y;simp[execOp,J,W,eU M,Instr.index,asIntOf,run_underlying (nt O),T,AB,run_sizeOf Y,AC]
    .trivial
   .trivial
  .trivial
 .trivial
def bound(m:Option AV)(AN:Int):Option Int:=
 match m with
 |none=>some AN
 |some (.d (.int _ n))=>some n
 |some _=>none
def gg(P:Program)(m:Mem)(t:TypeId)(x:AV)(lo hi:Option AV):bp:=
 match x with
 | .d (.str s)=>match bound lo 0,bound hi s.length with
  |some l,some h=>.val (tk P t=.str/\0<=l/\l<=h/\h.toNat<=s.length) (.d (.str ((s.take h.toNat).drop l.toNat)))
  |_,_=>.no
 | .d (.list xs)=>match tk P t with
  | .slice e=>match b7 P e,bound lo 0,bound hi xs.length with
   |some sz,some l,some h=>.val (0<=l/\l<=h/\h.toNat<=xs.length/\(∀d∈xs,d.size=sz)) (.d (.list ((xs.take h.toNat).drop l.toNat)))
   |_,_,_=>.no
  |_=>.no
 | .vec k U off len=>match tk P t,Mem.get m k with
  | .slice e,some ⟨_,v,.vec A2 _⟩=>match b7 P e,bound lo 0,bound hi len with
   |some sz,some l,some h=>.val (v=U/\A2=sz/\0<=l/\l<=h/\h.toNat<=len) (.vec k U (off+l.toNat) (h.toNat-l.toNat))
   |_,_,_=>.no
  | .slice e,some ⟨_,v,.vv _ _⟩=>match b7 P e,bound lo 0,bound hi len with
   |some sz,some l,some h=>.val (v=U/\sz=1/\0<=l/\l<=h/\h.toNat<=len) (.vec k U (off+l.toNat) (h.toNat-l.toNat))
   |_,_,_=>.no
  |_,_=>.no
 | .bb k U i j=>match tk P t,Mem.get m k with
  | .arr n e,some ⟨_,v,.vec A2 rows⟩=>match b7 P e,bound lo 0,bound hi n with
   |some sz,some l,some h=>.val (v=U/\A2=sz/\i=0/\j=0/\n<=rows.length/\0<=l/\l<=h/\h.toNat<=n) (.vec k U l.toNat (h.toNat-l.toNat))
   |_,_,_=>.no
  |_,_=>.no
 | .ptr k U off=>match tk P t,Mem.get m k with
  | .arr n e,some ⟨_,v,.box cs⟩=>match b7 P e,bound lo 0,bound hi n with
   |some sz,some l,some h=>.val (v=U/\sz=1/\off+n<=cs.length/\0<=l/\l<=h/\h.toNat<=n) (.vec k U (off+l.toNat) (h.toNat-l.toNat))
   |_,_,_=>.no
  |_,_=>.no
 |_=>.no
def ep{P:Program}{w:World}{isS:Bool}{len cap:Nat}{lo hi:Option Value}{l h:Int}
 (A6:(lo=none/\l=0)\/∃k,lo=some (.int k l)) (A7:(hi=none/\h=len)\/∃k,hi=some (.int k h)) (T:0<=l) (hle:l<=h) (A0:h.toNat<=cap):
 (Instr.sliceBounds isS len cap lo hi none).run P w=.ok (l.toNat,h.toNat,cap) w:=by
 have A:h<=(cap:Int):=by omega
 have M:0<=h:=by omega
 have AJ:l<=(h.toNat:Int):=by omega
 rcases A6 with ⟨rfl,rfl⟩|⟨k,rfl⟩<;>rcases A7 with ⟨rfl,rfl⟩|⟨B6,rfl⟩<;>
  simp_all [Instr.sliceBounds,Instr.sliceBound,asIntOf]
def dH{S:St}{φ G a w}(E:Rel φ G S a w){x:Option Operand}{AN n:Int}(H:∀y,x=some y->(S.ag y).1=true)(h:bound (x.map λy=>(S.ag y).2) AN=some n):
 (x.map a.eval=none/\n=AN)\/∃k,x.map a.eval=some (.int k n):=by
 cases x with
 |none=>simp[bound]at h;exact .inl ⟨rfl,h.symm⟩
 |some y=>
  right;simp only[Yc]at h⊢;unfold bound at h;split at h
  .rename_i heq;cases heq
  .rename_i k m heq;simp at h heq;subst h;have:=E.ag y (H y rfl);rw[heq]at this;exact⟨k,by rw[eU this]⟩
  .cases h
def De{w F xs v sz}(h:aq w F (.list xs) v)(Y:∀d∈xs,d.size=sz){l hh:Nat}(hle:l<=hh)(At:hh<=xs.length):
 ∃ao cap,v=.slice ao xs.length cap/\xs.length<=cap/\(ao=none->cap=0)/\∀AG AK,(AK=none->AG=0)->hh-l<=AG->(AK=ao.map (·.add (l*sz))\/(hh-l=0))->aq w F (.list ((xs.take hh).drop l)) (.slice AK (hh-l) AG):=by
 have I:((xs.take hh).drop l).length=hh-l:=by simp;omega
 generalize H:D.list xs=x at h;cases h with
 |nil a c AZ=>
  simp at H;subst H;refine⟨a,c,rfl,by simp,AZ,λAG AK A_ _ _=>?_⟩;have A:hh-l=0:=by simp at At;omega
  rw[A];simp;exact .nil _ _ A_
 |list AL b off cap A2 vs A0 Au Av AO AF V=>
  simp at H;subst H;refine⟨_,cap,rfl,A0,by simp,λAG AK A_ AP AQ=>?_⟩;by_cases Ae:hh-l=0
  .have e:(xs.take hh).drop l=[]:=XH (by omega);rw[e,Ae];exact .nil _ _ A_
  .have AQ:=AQ.resolve_right Ae;have Aw:A2=sz:=by
    have Af:0<xs.length:=by omega
    rw[<-AO xs[0] (XQ Af),Y xs[0] (XQ Af)]
   subst Aw;simp only[Yc,cD]at AQ;rw[AQ,<-I];refine .list _ b (off+l*A2) AG A2 (λi=>vs (l+i)) (by rw[I];exact AP) Au Av (λd A8=>AO d (XF (Xy A8))) (λi d A8=>?_) (λi j c hi Ax=>?_)
   .rw[XJ,Xp]at A8;split at A8
    .exact AF _ d A8
    .cases A8
   .have:=V (l+i) j c (by rw[I]at hi;omega) Ax;rw[XO,<-XC]at this;exact this
 |_=>simp at H
def He(P:Program)(S:St)(o:Oper)(t:TypeId)(x:Operand)(lo hi:Option Operand)(J:o.op=.slice t x lo hi none)(H:(S.ag x).1=true)(A6:∀y,lo=some y->(S.ag y).1=true)(A7:∀y,hi=some y->(S.ag y).1=true):
 ak P S o (gg P S.mem t (S.ag x).2 (lo.map λy=>(S.ag y).2) (hi.map λy=>(S.ag y).2)):=by
 unfold gg;split
 .rename_i s N;split
  .rename_i l h I hh;refine ak.pure ?_;rintro ⟨AA,T,hle,A0⟩ φ G a w E;have A:=E.ag x H;rw[N]at A;obtain⟨b,A1,rfl⟩:=lO A;have AR:b.size=b.data.toList.length:=by rw[Xs];rfl
   have A3:=ep (P:=P) (w:=w) (isS:=false) (len:=b.size) (cap:=b.size) (dH E A6 I) (by have:=dH E A7 hh;rw[<-AR]at this;exact this) T hle (by rw[AR];exact A0);refine⟨.string (b.extract l.toNat h.toNat),?_,.d _ _ (.str _ _ ?_)⟩
   .simp[execOp,J,A1,Instr.sliceAt,Instr.slice,run_underlying (il AA),A3]
   .simp[ByteArray.data_extract,List.drop_take]
  .trivial
 .rename_i xs N;split
  .rename_i e O;split
   .rename_i sz l h Y I hh;refine ak.pure ?_;rintro ⟨T,hle,A0,AO⟩ φ G a w E;have A:=E.ag x H;rw[N]at A;generalize W:a.eval x=av at A;cases A with|d _ _ A=>
    obtain⟨ao,cap,rfl,B7,AZ,Ay⟩:=De A AO (l:=l.toNat) (hh:=h.toNat) (by omega) A0;have V:h.toNat<=cap:=by omega
    have A3:=ep (P:=P) (w:=w) (isS:=true) (len:=xs.length) (cap:=cap) (dH E A6 I) (dH E A7 hh) T hle V;refine⟨.slice (if cap=l.toNat then ao else ao.map (·.add (l.toNat*sz))) (h.toNat-l.toNat) (cap-l.toNat),?_,.d _ _ (Ay _ _ (λAB=>?_) (by omega) ?_)⟩
    .simp[execOp,J,W,Instr.sliceAt,Instr.slice,run_underlying (cR O),A3,run_sizeOf Y]
    .have:ao=none:=by split at AB<;>simp_all
     have:=AZ this;omega
    .by_cases Az:cap=l.toNat
     .exact .inr (by omega)
     .exact .inl (by simp[Az])
   .trivial
  .trivial
 .rename_i k U off len N;split
  .rename_i e key v A2 rows O A5;split
   .rename_i sz l h Y I hh;refine ak.pure ?_;rintro ⟨rfl,rfl,T,hle,A0⟩ φ G a w E;have A:=E.ag x H;rw[N]at A;obtain⟨hm,AS,L,A',Z,AD⟩:=E.mem.get A5;simp only at Z;generalize W:a.eval x=av at A;cases A with
    |vec _ _ _ _ _ L' A9 _ AE _=>
     rw[A']at A9;cases A9;obtain⟨ao,cap,rfl,Ag,AT⟩:=AE Z.symm;clear AE;have A3:=ep (P:=P) (w:=w) (isS:=true) (len:=len) (cap:=cap) (dH E A6 I) (dH E A7 hh) T hle (by omega);refine⟨.slice (if cap=l.toNat then ao else ao.map (·.add (l.toNat*A2))) (h.toNat-l.toNat) (cap-l.toNat),?_,?_⟩
     .simp[execOp,J,W,Instr.sliceAt,Instr.slice,run_underlying (cR O),A3,run_sizeOf Y]
     .refine .vec k v _ _ _ L A' (by omega) (λ_=>⟨_,_,rfl,by omega,λV=>?_⟩) rfl;obtain⟨rfl,B'⟩:=AT (by omega);refine⟨?_,by omega⟩;rw[Xq (by omega)];simp only[Yc,cD,AD.1,XO,XC]
   .trivial
  .rename_i e key v rows y O A5;split
   .rename_i sz l h Y I hh;refine ak.pure ?_;rintro ⟨rfl,rfl,T,hle,A0⟩ φ G a w E;have A:=E.ag x H;rw[N]at A;obtain⟨hm,AS,L,A',Z,AD⟩:=E.mem.get A5;simp only at Z;generalize W:a.eval x=av at A;cases A with
    |vec _ _ _ _ _ L' A9 _ AE _=>
     rw[A']at A9;cases A9;obtain⟨ao,cap,rfl,Ag,AT⟩:=AE Z.symm;clear AE;have A3:=ep (P:=P) (w:=w) (isS:=true) (len:=len) (cap:=cap) (dH E A6 I) (dH E A7 hh) T hle (by omega);refine⟨.slice (if cap=l.toNat then ao else ao.map (·.add (l.toNat*1))) (h.toNat-l.toNat) (cap-l.toNat),?_,?_⟩
     .simp[execOp,J,W,Instr.sliceAt,Instr.slice,run_underlying (cR O),A3,run_sizeOf Y]
     .refine .vec k v _ _ _ L A' (by omega) (λ_=>⟨_,_,rfl,by omega,λV=>?_⟩) rfl;obtain⟨rfl,B'⟩:=AT (by omega);refine⟨?_,by omega⟩;rw[Xq (by omega)];simp only[Yc,cD,AD.1.1,XO,XC]
   .trivial
  .trivial
 .rename_i k U i j N;split
  .rename_i n e key v A2 rows O A5;split
   .rename_i sz l h Y I hh;refine ak.pure ?_;rintro ⟨rfl,rfl,rfl,rfl,AB,T,hle,A0⟩ φ G a w E;have A:=E.ag x H;rw[N]at A;obtain⟨hm,AS,L,A',Z,AD⟩:=E.mem.get A5;simp only at Z;have A1:=A.fw A' Z;have A3:=ep (P:=P) (w:=w) (isS:=false) (len:=n) (cap:=n) (dH E A6 I) (dH E A7 hh) T hle A0;refine⟨.slice (some (if n=l.toNat then ⟨L.a7,L.base,none⟩else ⟨L.a7,L.base+l.toNat*A2,none⟩)) (h.toNat-l.toNat) (n-l.toNat),?_,?_⟩
    .simp[execOp,J,A1,Instr.sliceAt,Instr.sureAddr,run_underlying (nt O),A3,run_sizeOf Y,cD]
    .refine .vec k v _ _ _ L A' (by omega) (λ_=>⟨_,_,rfl,by omega,λV=>⟨?_,by have:=AD.2.1;omega⟩⟩) rfl;rw[Xq (by omega),AD.1]
   .trivial
  .trivial
 .rename_i k U off N;split
  .rename_i n e key v cs O A5;split
   .rename_i sz l h Y I hh;refine ak.pure ?_;rintro ⟨rfl,rfl,AB,T,hle,A0⟩ φ G a w E;have A:=E.ag x H;rw[N]at A;obtain⟨hm,AS,L,A',Z,⟨B0,z2,z3⟩,_⟩:=E.mem.get A5;simp only at Z;have A1:=A.ga A' Z;have A3:=ep (P:=P) (w:=w) (isS:=false) (len:=n) (cap:=n) (dH E A6 I) (dH E A7 hh) T hle A0;refine⟨.slice (some (if n=l.toNat then ⟨L.a7,off,none⟩else ⟨L.a7,off+l.toNat,none⟩)) (h.toNat-l.toNat) (n-l.toNat),?_,?_⟩
    .simp[execOp,J,A1,Instr.sliceAt,Instr.sureAddr,run_underlying (nt O),A3,run_sizeOf Y,cD]
    .refine .vec k v _ _ _ L A' (by omega) (λ_=>⟨_,_,rfl,by omega,λV=>⟨?_,by omega⟩⟩) rfl;rw[Xq (by omega),B0,z2];simp
   .trivial
  .trivial
 .trivial
def vJ(t:Bool)(x y:D):D:=
 match x,y with
 | .bool a,.bool b=>.bool (bif t then a else b)
 |x,y=>bif t then x else y
def ny(t:Bool)(x y:AV):AV:=
 match x,y with
 | .d x,.d y=>.d (vJ t x y)
 |x,y=>bif t then x else y
def zi(c a b:Bool×AV):bp:=
 match c.2 with
 | .d (.bool t)=>.val (c.1=true/\(t=true->a.1=true)/\(t=false->b.1=true)) (ny t a.2 b.2)
 |_=>.no
def JI(P:Program)(S:St)(o:Oper)(c x y:Operand)(J:o.op=.pick c x y):ak P S o (zi (S.ag c) (S.ag x) (S.ag y)):=by
 unfold zi;split
 .rename_i t V;refine ak.pure ?_;rintro ⟨A,M,AJ⟩ φ G a w E;have Ah:=E.ag c A;rw[V]at Ah;have e:=mU Ah;cases t
  .have AU:=E.ag y (AJ rfl);refine⟨a.eval y,by simp[execOp,J,e,asBool],?_⟩;have AM:ny false (S.ag x).2 (S.ag y).2=(S.ag y).2:=by
    unfold ny;split
    .rename_i u v Ai Aj;rw[Aj];congr 1;unfold vJ;split<;>rfl
    .rfl
   rw[AM];exact AU
  .have H:=E.ag x (M rfl);refine⟨a.eval x,by simp[execOp,J,e,asBool],?_⟩;have AM:ny true (S.ag x).2 (S.ag y).2=(S.ag x).2:=by
    unfold ny;split
    .rename_i u v Ai Aj;rw[Ai];congr 1;unfold vJ;split<;>rfl
    .rfl
   rw[AM];exact H
 .trivial
def JJ(P:Program)(S:St)(o:Oper)(x:Operand)(J:o.op=.move x\/o.op=.assign x)(H:(S.ag x).1=true):ak P S o (.val True (S.ag x).2):=by
 refine ak.pure λ_ φ G a w E=>⟨a.eval x,?_,E.ag x H⟩;rcases J with J|J<;>simp[execOp,J]
def z7(op:UnOp)(x:AV):bp:=
 match op,x with
 | .not,.d (.bool b)=>.val True (.d (.bool (!b)))
 | .neg,.d (.int k n)=>.val True (.d (.int k (k.wrap (0-n))))
 | .xor,.d (.int k n)=>.val True (.d (.int k (k.wrap (BitVec.ofInt k.bits (if k.signed then-1 else k.max) ^^^ BitVec.ofInt k.bits n).toNat)))
 |_,_=>.no
def NN(P:Program)(S:St)(o:Oper)(op:UnOp)(t:TypeId)(x:Operand)(J:o.op=.unOp op t x)(H:(S.ag x).1=true):ak P S o (z7 op (S.ag x).2):=by
 unfold z7;split
 .rename_i b N;refine ak.pure λ_ φ G a w E=>?_;have A:=E.ag x H;rw[N]at A;exact⟨.bool (!b),by simp[execOp,J,mU A,Op.unary],.d _ _ (.bool _)⟩
 .rename_i k n N;refine ak.pure λ_ φ G a w E=>?_;have A:=E.ag x H;rw[N]at A;exact⟨.int k (k.wrap (0-n)),by simp only[execOp,J,eU A,Op.unary,Op.intArith,Sem.run_bind,Sem.run_pure,Result.andThen_ok],.d _ _ (.int _ _)⟩
 .rename_i k n N;refine ak.pure λ_ φ G a w E=>?_;have A:=E.ag x H;rw[N]at A;exact⟨_,by simp only[execOp,J,eU A,Op.unary,Op.intBits,Sem.run_bind,Sem.run_pure,Result.andThen_ok],.d _ _ (.int _ _)⟩
 .trivial
def nz(i:Nat)(x:AV):bp:=
 match x with
 | .bc vs=>match vs[i]? with
  |some v=>.val True v
  |none=>.no
 |_=>.no
def Df(P:Program)(S:St)(o:Oper)(x:Operand)(i:Nat)(J:o.op=.extract x i)(H:(S.ag x).1=true):ak P S o (nz i (S.ag x).2):=by
 unfold nz;split
 .rename_i vs N;split
  .rename_i v AF;refine ak.pure λ_ φ G a w E=>?_;have A:=E.ag x H;rw[N]at A;generalize W:a.eval x=av at A;cases A with|bc _ A4 I V=>
   have hi:i<A4.size:=by rw[<-I];exact (D1.1 AF).1
   exact⟨A4[i],by simp[execOp,J,W,Instr.extract,hi],V i v _ AF (by simp[hi])⟩
  .trivial
 .trivial
def jN(f:Fn)(first cap:List AV):bp:=
 match f,first with
 | .func f,[]=>.val (f<my) (.fn f cap)
 | .func f,x::r=>match cap with
  |[]=>.val True (.fn (f+my) (x::r))
  |_=>.no
 |_,_=>.no
def BP(P:Program)(S:St)(o:Oper)(f:Fn)(first cap:Array Operand)(J:o.op=.makeFunc f first cap)(Ab:∀x∈first.toList,(S.ag x).1=true)(V:∀x∈cap.toList,(S.ag x).1=true):ak P S o (jN f (first.toList.map λx=>(S.ag x).2) (cap.toList.map λx=>(S.ag x).2)):=by
 have key:∀(l:Array Operand),(∀x∈l.toList,(S.ag x).1=true)->∀φ G a w,Rel φ G S a w->∀(i:Nat)(c:AV)(v:Value),(l.toList.map λx=>(S.ag x).2)[i]?=some c->(l.map a.eval)[i]?=some v->ai φ w (Fo G φ S.mem) c v:=by
  intro l I φ G a w E i c v A M;simp only[XA,X1,Xj]at A;simp only[Array.getElem?_map,Xj]at M;obtain⟨x,H,rfl⟩:=A;obtain⟨y,AU,rfl⟩:=M;rw[H]at AU;cases AU;exact E.ag x (I x (by simpa using Array.mem_of_getElem? H))
 generalize Ak:(first.toList.map λx=>(S.ag x).2)=fs;generalize Al:(cap.toList.map λx=>(S.ag x).2)=cs;unfold jN;split
 .rename_i f;refine ak.pure λB1 φ G a w E=>?_;have B2:first=#[]:=by cases first;simp_all
  refine⟨.func (.func f) #[] (cap.map a.eval),by simp[execOp,J,Instr.makeFunc,B2],.fn f _ _ B1 (by simp[<-Al]) (λi c v A M=>?_)⟩;rw[<-Al]at A;exact key cap V φ G a w E i c v A M
 .rename_i f x r;split
  .refine ak.pure λ_ φ G a w E=>?_;have B3:cap=#[]:=by cases cap;simp_all
   refine⟨.func (.func f) (first.map a.eval) #[],by simp[execOp,J,Instr.makeFunc,B3],.lJ f _ _ (by rw[<-Ak];simp) (λi c v A M=>?_)⟩;rw[<-Ak]at A;exact key first Ab φ G a w E i c v A M
  .trivial
 .trivial
def mI(P:Program)(t:TypeId)(x:AV):bp:=
 match x.norm with
 | .d d=>.val (tk P t≠.iface/\tk P t≠.other) (.dF t d)
 |_=>.no
def uN{P:Program}{t:TypeId}(h:tk P t≠.other):∃d,P.underlying t=some d:=by
 unfold tk at h;cases hu:P.underlying t with
 |none=>simp[hu]at h
 |some d=>exact⟨d,rfl⟩
def z8(P:Program)(S:St)(o:Oper)(t:TypeId)(x:Operand)(J:o.op=.makeInterface t x)(H:(S.ag x).1=true):ak P S o (mI P t (S.ag x).2):=by
 unfold mI;split
 .rename_i d N;refine ak.pure ?_;rintro ⟨A,M⟩ φ G a w E;have AJ:=(E.ag x H).norm;rw[N]at AJ;obtain⟨An,hu⟩:=uN M;refine⟨.iface t (a.eval x),?_,?_⟩
  .have AY:∀ms,An≠.interface ms:=by rintro ms rfl;simp[tk,hu]at A
   simp only[execOp,J,Instr.makeInterface,Sem.run_bind,run_underlying hu,Result.andThen_ok];cases An<;>first|rfl|exact absurd rfl (AY _)
  .cases AJ with|d _ _ h=>exact .dF t d _ h
 .trivial
def jt(P:Program)(m:Mem)(t:TypeId)(x:AV):bp:=
 match x with
 | .d (.str s)=>.val (tk P t=.str) (.d (.int .i64 s.length))
 | .d (.list xs)=>match tk P t with
  | .slice _=>.val True (.d (.int .i64 xs.length))
  |_=>.no
 | .vec k U _ len=>match tk P t,Mem.get m k with
  | .slice _,some ⟨_,v,_⟩=>.val (v=U) (.d (.int .i64 len))
  |_,_=>.no
 | .lit (.slice none 0 0)=>match tk P t with
  | .slice _=>.val True (.d (.int .i64 0))
  |_=>.no
 | .nn=>match tk P t with
  | .slice _=>.val True (.d (.int .i64 0))
  |_=>.no
 |_=>match tk P t with
  | .arr n _=>.val True (.d (.int .i64 n))
  |_=>.no
def run_len_slice{P:Program}{w:World}{t ty e:TypeId}{ao len cap}(h:tk P t=.slice e):(Builtin.len_ #[t] ty #[.slice ao len cap]).run P w=.ok (.int .i64 len) w:=by
 simp[Builtin.len_,run_underlying (cR h),goInt]
def K0(P:Program)(S:St)(o:Oper)(x:Operand)(t:TypeId)(J:o.op=.call {callee:=.builtin .len,args:=#[x],argTypes:=#[t]})(H:(S.ag x).1=true):ak P S o (jt P S.mem t (S.ag x).2):=by
 have AH:∀(a:Act)(w:World)(v:Value),(Builtin.len_ #[t] o.type #[a.eval x]).run P w=.ok v w->(execOp a.eval o).run P w=.ok (.value v) w:=by
  intro a w v h;simp[execOp,J,resolve,invoke,builtin,h]
 unfold jt;split
 .rename_i s N;refine ak.pure λAA φ G a w E=>?_;have A:=E.ag x H;rw[N]at A;obtain⟨b,A1,rfl⟩:=lO A;have AR:b.size=b.data.toList.length:=by rw[Xs];rfl
  refine⟨.int .i64 b.data.toList.length,AH a w _ ?_,.d _ _ (.int _ _)⟩;simp only[Builtin.len_,A1,XX,List.getElem?_cons_zero,Sem.run_bind,run_underlying (il AA),Result.andThen_ok,Sem.run_pure,goInt,<-AR]
 .rename_i xs N;split
  .rename_i e O;refine ak.pure λ_ φ G a w E=>?_;have A:=E.ag x H;rw[N]at A;generalize W:a.eval x=av at A;cases A with|d _ _ h=>
   have I:∃ao cap,av=.slice ao xs.length cap:=by cases h<;>exact⟨_,_,rfl⟩
   obtain⟨ao,cap,rfl⟩:=I;exact⟨_,AH a w _ (by rw[W];exact run_len_slice O),.d _ _ (.int _ _)⟩
  .trivial
 .rename_i k U off len N;split
  .rename_i e key v cont O A5;refine ak.pure ?_;rintro rfl φ G a w E;have A:=E.ag x H;rw[N]at A;obtain⟨hm,AS,L,A',Z,AD⟩:=E.mem.get A5;simp only at Z;generalize W:a.eval x=av at A;cases A with
   |vec _ _ _ _ _ L' A9 _ AE _=>
    rw[A']at A9;cases A9;obtain⟨ao,cap,rfl,Ag,AT⟩:=AE Z.symm;exact⟨_,AH a w _ (by rw[W];exact run_len_slice O),.d _ _ (.int _ _)⟩
  .trivial
 .rename_i N;split
  .rename_i e O;refine ak.pure λ_ φ G a w E=>?_;have A:=E.ag x H;rw[N]at A;generalize W:a.eval x=av at A;cases A;exact⟨_,AH a w _ (by rw[W];exact run_len_slice O),.d _ _ (.int _ _)⟩
  .trivial
 .rename_i N;split
  .rename_i e O;refine ak.pure λ_ φ G a w E=>?_;have A:=E.ag x H;rw[N]at A;generalize W:a.eval x=av at A;cases A;exact⟨_,AH a w _ (by rw[W];exact run_len_slice O),.d _ _ (.int _ _)⟩
  .trivial
 .split
  .rename_i n e O;refine ak.pure λ_ φ G a w E=>?_;refine⟨.int .i64 n,AH a w _ ?_,.d _ _ (.int _ _)⟩;simp[Builtin.len_,run_underlying (nt O),goInt]
  .trivial
def iL(isMax:Bool):AV->List AV->Option D
 | .d (.int k a),[]=>some (.int k a)
 | .d (.int k a),y::r=>match y with
  | .d (.int _ b)=>iL isMax (.d (.int k (if isMax then (if b>a then b else a)else (if b<a then b else a)))) r
  |_=>none
 |_,_=>none
def xu(isMax:Bool)(xs:List AV):bp:=
 match xs with
 |x::r=>match iL isMax x r with
  |some d=>.val True (.d d)
  |none=>.no
 |[]=>.no
def BQ{P:Program}{φ w F}(isMax:Bool):∀(xs:List AV)(x:AV)(vs:List Value)(v:Value)(d:D),iL isMax x xs=some d->ai φ w F x v->xs.length=vs.length->
 (∀(i:Nat) c u,xs[i]?=some c->vs[i]?=some u->ai φ w F c u)->
 ∃u,(vs.foldlM (if isMax then Builtin.max2 else Builtin.min2) v).run P w=.ok u w/\aq w F d u:=by
 intro xs;induction xs with
 |nil=>
  intro x vs v d h H I V;have:vs=[]:=XH (by simpa using I.symm);subst this;unfold iL at h;split at h<;>simp_all;subst h;rw[eU H];exact .int _ _
 |cons y AL ih=>
  intro x vs v d h H I V;cases vs with
  |nil=>simp at I
  |cons u us=>
   unfold iL at h;split at h
   .simp_all
   .rename_i k a B8 r heq;simp at heq;obtain⟨rfl,rfl⟩:=heq;split at h
    .rename_i B4 b;have A1:=eU H;have AM:=eU (V 0 (.d (.int B4 b)) u (by simp) (by simp));subst A1;subst AM;have AP:∀(i:Nat) c u,AL[i]?=some c->us[i]?=some u->ai φ w F c u:=λi c u A M=>V (i+1) c u (by simpa using A) (by simpa using M);cases isMax
     .obtain⟨Aa,A,M⟩:=ih _ us (.int k (if b<a then b else a)) d h (.d _ _ (.int _ _)) (by simpa using I) AP;refine⟨Aa,?_,M⟩;simp only[Bool.false_eq_true,X3]at A⊢;simp only[List.foldlM_cons,Builtin.min2,pure_bind];exact A
     .obtain⟨Aa,A,M⟩:=ih _ us (.int k (if b>a then b else a)) d h (.d _ _ (.int _ _)) (by simpa using I) AP;refine⟨Aa,?_,M⟩;simp only[Yh]at A⊢;simp only[List.foldlM_cons,Builtin.max2,pure_bind];exact A
    .cases h
   .cases h
def EX(P:Program)(S:St)(o:Oper)(isMax:Bool)(args:Array Operand)(B5:Array TypeId)(J:o.op=.call {callee:=.builtin (if isMax then .max else .min),args,argTypes:=B5})(H:∀x∈args.toList,(S.ag x).1=true):ak P S o (xu isMax (args.toList.map λx=>(S.ag x).2)):=by
 unfold xu;split
 .rename_i x r heq;split
  .rename_i d A8;refine ak.pure λ_ φ G a w E=>?_;obtain⟨l,I⟩:∃l,args.toList=l:=⟨_,rfl⟩;rw[I]at heq H;cases l with
   |nil=>simp at heq
   |cons y AL=>
    simp at heq;obtain⟨rfl,rfl⟩:=heq;obtain⟨u,A,M⟩:=BQ (P:=P) (φ:=φ) (w:=w) (F:=Fo G φ S.mem) isMax _ _ (AL.map a.eval) (a.eval y) d A8 (E.ag y (H y (by simp))) (by simp) (λi c u A M=>by
     simp only[XA,Xj]at A M;obtain⟨p,AC,rfl⟩:=A;obtain⟨q,Ao,rfl⟩:=M;rw[AC]at Ao;cases Ao;exact E.ag p (H p (by simp[Xk AC])))
    refine⟨u,?_,.d _ _ M⟩;have B9:(args.map a.eval).toList=a.eval y::AL.map a.eval:=by simp[I]
    cases isMax
    .simp only[Bool.false_eq_true,X3]at A J;simp[execOp,J,resolve,invoke,builtin,Builtin.min_,I,A]
    .simp only[Yh]at A J;simp[execOp,J,resolve,invoke,builtin,Builtin.max_,I,A]
  .trivial
 .trivial
def yd(off:Nat):∀(l:List Value)(k:Nat)(cs:Array Value),off+k+l.length<=cs.size->
 ((l.zipIdx k).foldl (λcs x=>cs.setIfInBounds (off+x.2) x.1) cs).toList=cs.toList.take (off+k)++l++cs.toList.drop (off+k+l.length)
 |[],k,cs,_=>by simp
 |v::l,k,cs,h=>by
  simp only[List.zipIdx_cons,List.foldl_cons,Yk]at h⊢;rw[yd off l (k+1) _ (by simp;omega),Array.toList_setIfInBounds];have:=list_seg_step cs.toList (off+k) v l (by simp;omega);rw[show off+(k+1)=off+k+1 by omega,show off+k+(l.length+1)=off+k+1+l.length by omega];simpa [Yk,XC,Nat.add_comm 1]using this
def Aa(cs v:Array Value)(off:Nat)(h:off+v.size<=cs.size):
 (v.zipIdx.foldl (λcs (x:Value×Nat)=>cs.setIfInBounds (off+x.2) x.1) cs).toList=putCells cs.toList off v.toList:=by
 rw[<-Array.foldl_toList,Array.toList_zipIdx,yd off v.toList 0 cs (by simpa using h),bC _ _ _ (by simpa using h)];simp
def lr(place:Nat->Option (Nat×Nat)):List (Nat×AV)->Bool->List AV->Option (Bool×List AV)
 |[],c,cs=>some (c,cs)
 |(i,x)::r,c,cs=>match place i with
  |some (off,n)=>lr place r (c/\x.gu=true/\x.cells.length=n/\off+n<=cs.length) (putCells cs off x.cells)
  |none=>none
def sb{φ w F}(place:Nat->Option (Nat×Nat)):∀(ps:List (Nat×AV))(c0 c:Bool)(cs N:List AV)(vs:List (Nat×Value))(E:Array Value),
 lr place ps c0 cs=some (c,N)->c=true->cs.length=E.size->(∀v∈E,ba v=true)->(∀(i:Nat) x v,cs[i]?=some x->E[i]?=some v->ai φ w F x v)->
 ps.length=vs.length->(∀(i:Nat) p v,ps[i]?=some p->vs[i]?=some v->p.1=v.1/\ai φ w F p.2 v.2)->
 ∃D,Instr.fill place E vs=some D/\c0=true/\N.length=D.size/\(∀v∈D,ba v=true)/\∀(i:Nat) x v,N[i]?=some x->D[i]?=some v->ai φ w F x v
 |[],c0,c,cs,N,vs,E,h,M,I,H,J,T,V=>by
  have:vs=[]:=XH (by simpa using T.symm);subst this;simp only[lr,Xn,XB]at h;obtain⟨rfl,rfl⟩:=h;exact⟨E,rfl,M,I,H,J⟩
 |(i,x)::ps,c0,c,cs,N,vs,E,h,M,I,H,J,T,V=>by
  cases vs with
  |nil=>simp at T
  |cons v vs=>
   obtain⟨j,v⟩:=v;obtain⟨AA,W⟩:=V 0 (i,x) (j,v) (by simp) (by simp);simp only at AA W;subst AA;simp only[lr]at h;split at h
   .rename_i off n AM
    --AB condition of AB rest holds AB condition of this part
    obtain⟨q,A'⟩:∃q:Bool,q=decide (c0=true/\x.gu=true/\x.cells.length=n/\off+n<=cs.length):=⟨_,rfl⟩;have AN:c=true->q=true:=by
     rw[<-A']at h;clear A';revert h
     generalize putCells cs off x.cells=AO;clear V T J H I W M;induction ps generalizing q AO with
     |nil=>intro h;simp only[lr,Xn,XB]at h;obtain⟨rfl,_⟩:=h;exact id
     |cons p ps ih=>
      intro h AC;simp only[lr]at h;split at h
      .exact (XW (ih _ _ h AC)).1
      .cases h
    have Y:=AN M;rw[A']at Y;replace Y:=XW Y;obtain⟨AP,AQ,A_,hle⟩:=Y;obtain⟨AD,AE⟩:=W.gu AQ;have AF:off+v.cells.size<=E.size:=by omega
    have Z:=Aa E v.cells off AF;obtain⟨A0,AG⟩:∃A0,A0=v.cells.zipIdx.foldl (λcs (x:Value×Nat)=>cs.setIfInBounds (off+x.2) x.1) E:=⟨_,rfl⟩;rw[<-AG]at Z;have AH:off+v.cells.toList.length<=E.toList.length:=by simpa using AF
    obtain⟨D,U,AC,AR,AS,AT⟩:=sb (φ:=φ) (w:=w) (F:=F) place ps _ c _ N vs A0 h M
     (by rw[aV _ _ _ (by omega),<-Xs,Z,aV _ _ _ AH];simpa using I)
     (λu hu=>by
      rw[<-Array.mem_toList_iff,Z]at hu;rcases gd AH hu with hu|hu
      .exact H u (by simpa using hu)
      .exact AE u (by simpa using hu))
     (λi y u AU hu=>by
      rw[<-X1,Z]at hu;exact na (R:=λx v=>ai φ w F x v) (by simpa using I) (by simpa using AD.symm) (by omega) (λi c v h A=>J i c v h (by simpa using A)) (λi c v h A=>W.cells AE AD i c v h (by simpa using A)) i y u AU hu)
     (by simpa using T) (λi p v h A=>V (i+1) p v (by simpa using h) (by simpa using A))
    refine⟨D,?_,AP,AR,AS,AT⟩;simp only[Instr.fill,AM];rw[Xq (by simp;omega)];rw[<-U,AG]
   .cases h
def aZ(P:Program)(t:TypeId):Option (List (Nat×Nat)):=
 match P.underlying t with
 |some (.struct fs)=>fs.toList.mapM λf=>(P.info? f.type).map λi=>(f.offset,i.size)
 |_=>none
def um{P:Program}{w:World}:∀(fs:List Field)(l:List (Nat×Nat)),(fs.mapM λf=>(P.info? f.type).map λi=>(f.offset,i.size))=some l->
 (fs.mapM λf=>(do pure (f.offset,<-sizeOf f.type):Sem (Nat×Nat))).run P w=.ok l w
 |[],l,h=>by simp at h;subst h;simp
 |f::fs,l,h=>by
  simp only[List.mapM_cons]at h⊢;cases hi:P.info? f.type with
  |none=>simp[hi]at h
  |some i=>
   simp only[hi,Yc,Option.pure_def,Option.bind_eq_bind,X4]at h;cases hm:(fs.mapM λf=>(P.info? f.type).map λi=>(f.offset,i.size))with
   |none=>simp[hm]at h
   |some AW=>
    simp[hm]at h;subst h;have A1:(sizeOf f.type).run P w=.ok i.size w:=run_sizeOf (by simp[b7,hi]);have ih:=um (P:=P) (w:=w) fs AW hm;simp only[Sem.run_bind,A1,Result.andThen_ok,Sem.run_pure,ih]
def vL(P:Program)(t:TypeId)(ps:List (Nat×AV)):bp:=
 match j6 P t with
 |some zs=>match aZ P t with
  |some l=>match lr (λi=>l[i]?) ps true zs with
   |some (c,cs)=>.val c (tA cs)
   |none=>.no
  |none=>match tk P t with
   | .arr _ e=>match b7 P e with
    |some sz=>match lr (λi=>some (i*sz,sz)) ps true zs with
     |some (c,cs)=>.val c (tA cs)
     |none=>.no
    |none=>.no
   |_=>.no
 |none=>.no
def Hf(P:Program)(S:St)(o:Oper)(t:TypeId)(ps:Array (Nat×Operand))(AI:o.op=.build t ps)(AX:∀x∈ps.toList,(S.ag x.2).1=true):
 ak P S o (vL P t (ps.toList.map λx=>(x.1,(S.ag x.2).2))):=by
 have parts:∀{φ G a w},Rel φ G S a w->∀(i:Nat)(p:Nat×AV)(v:Nat×Value),(ps.toList.map λx=>(x.1,(S.ag x.2).2))[i]?=some p->(ps.toList.map λx=>(x.1,a.eval x.2))[i]?=some v->p.1=v.1/\ai φ w (Fo G φ S.mem) p.2 v.2:=by
  intro φ G a w J i p v H O;simp only[XA,Xj]at H O;obtain⟨x,AJ,rfl⟩:=H;obtain⟨y,AK,rfl⟩:=O;rw[AJ]at AK;cases AK;exact⟨rfl,J.ag _ (AX x (Xk AJ))⟩
 unfold vL;split
 .rename_i zs AL;split
  .rename_i l I;split
   .rename_i c cs U;refine ak.j4 λM φ G a w J=>?_;obtain⟨z,A2,A3,H,A4⟩:=ij AL w;obtain⟨D,O,_,A5,A6,A7⟩:=sb (φ:=φ) (w:=w) (F:=Fo G φ S.mem) _ _ _ _ _ _ (ps.toList.map λx=>(x.1,a.eval x.2)) z.cells U M A3.symm H (λi x v h A=>A4 _ _ _ i x v h A) (by simp) (parts J);unfold aZ at I;split at I
    .rename_i fs hu;have hm:=um (P:=P) (w:=w) fs.toList l I;refine⟨.agg D,?_,?_⟩
     .have AY:(fs.mapM λf=>(do pure (f.offset,<-sizeOf f.type):Sem (Nat×Nat))).run P w=.ok l.toArray w:=by
       rw[Array.mapM_eq_mapM_toList];simp only[Sem.run_map,hm,Result.andThen_ok]
      simp only[execOp,AI,Instr.build,Sem.run_bind,A2,Result.andThen_ok,run_underlying hu,AY];have e:(λ(i:Nat)=>l.toArray[i]?)=λ(i:Nat)=>l[i]?:=by funext i;simp
      have A8:(Array.map (λx=>(x.1,a.eval x.2)) ps).toList=ps.toList.map λx=>(x.1,a.eval x.2):=by simp
      rw[e,A8,O];rfl
     .have:=rP (φ:=φ) (w:=w) (F:=Fo G φ S.mem) (cs:=cs) (vs:=D.toList) (by simpa using A5) (λv A9=>A6 v (by simpa using A9)) (λi c v h A=>A7 i c v h (by simpa using A));simpa using this
    .cases I
   .trivial
  .split
   .rename_i n e AZ;split
    .rename_i sz A1;split
     .rename_i c cs U;refine ak.j4 λM φ G a w J=>?_;obtain⟨z,A2,A3,H,A4⟩:=ij AL w;obtain⟨D,O,_,A5,A6,A7⟩:=sb (φ:=φ) (w:=w) (F:=Fo G φ S.mem) _ _ _ _ _ _ (ps.toList.map λx=>(x.1,a.eval x.2)) z.cells U M A3.symm H (λi x v h A=>A4 _ _ _ i x v h A) (by simp) (parts J);refine⟨.agg D,?_,?_⟩
      .simp only[execOp,AI,Instr.build,Sem.run_bind,A2,Result.andThen_ok,run_underlying (nt AZ),run_sizeOf A1];have A8:(Array.map (λx=>(x.1,a.eval x.2)) ps).toList=ps.toList.map λx=>(x.1,a.eval x.2):=by simp
       rw[A8,O];rfl
      .have:=rP (φ:=φ) (w:=w) (F:=Fo G φ S.mem) (cs:=cs) (vs:=D.toList) (by simpa using A5) (λv A9=>A6 v (by simpa using A9)) (λi c v h A=>A7 i c v h (by simpa using A));simpa using this
     .trivial
    .trivial
   .trivial
 .trivial
end Go.Am
end
