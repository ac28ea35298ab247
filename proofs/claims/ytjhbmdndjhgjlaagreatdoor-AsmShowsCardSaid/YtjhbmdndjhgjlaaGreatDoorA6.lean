/-
  Texts of one proof, one behind the other.
-/
import Derived.Test.YtjhbmdndjhgjlaaGreatDoorA1
import Derived.Test.YtjhbmdndjhgjlaaGreatDoorA2
import Derived.Test.YtjhbmdndjhgjlaaGreatDoorA3
import Derived.Test.YtjhbmdndjhgjlaaGreatDoorA4
import Derived.Test.YtjhbmdndjhgjlaaGreatDoorA5
import Derived.Test.YtjhbmdndjhgjlaaGreatDoorProg
import Derived.Shelf.LaysC
import Derived.KernelRfl
import Derived.Shelf.Strings.Split
import Derived.Shelf.Strings.FieldsFuncAny
import Derived.Shelf.Strconv.ParseIntPublic10
import Derived.Shelf.Strconv.Itoa4
import Derived.Shelf.Strconv.Itoa3
import Derived.ProofKit
set_option linter.all false
section
namespace Go.Am
open Go Go.Proofs Go.Proofs.Tryz
variable [Inhabited dx]
set_option maxRecDepth 20000
set_option maxHeartbeats 4000000
@[simp] def QI(a b:Tx):(a == b)=decide (a=b):=by by_cases h:a=b<;>simp[h]
def kB:D->Option Int
 | .agg [.int .i64 k,.str _,.str _,.str _,.int .i64 _]=>some k
 |_=>none
def tK{d:D}{k:Int}(h:kB d=some k):∃a b c n,d=.agg [.int .i64 k,.str a,.str b,.str c,.int .i64 n]:=by
 unfold kB at h;split at h
 .rename_i A' a b c n;cases h;exact⟨a,b,c,n,rfl⟩
 .cases h
def BJ:Option (Out×List (Nat×ax))->Option (List (Option Int))
 |some (.ret (.d (.list l)),[])=>some (l.map kB)
 |_=>none
def Mb:BJ (aH ctx 120 125 [] [])=some (dr.map some):=by kernel_rfl
def G3:∃l:List D,au ctx 125 [] []=some (.ret (.d (.list l)),[])/\l.map kB=dr.map some:=by
 have h:=Mb;generalize U:aH ctx 120 125 [] []=r at h;unfold BJ at h;split at h
 .rename_i l;exact⟨l,ez 120 U,by simpa using h⟩
 .cases h
def G4(d:D)(k b:Int)(E:kB d=some k):au ctx 127 [.d d,.ptr 0 0 0] [.box [.d (.int .i64 b)]]=some (.ret (.d (.bool (decide (k=b)))),[(0,.box [.d (.int .i64 b)])]):=by
 obtain⟨a,e,c,n,rfl⟩:=tK E;rw[Ma (by simp)];simp[f127]
def tL(b:Int):∀(rest pre:List D),(∀d∈rest,∃k,kB d=some k/\k≠b)->(pre++rest).length<1000->∀k:Kt,
 bj ctx 126 (.loop (Code.at (codeOf f126) [1,0,1,0,0])) ⟨19,b7,[(0,true,.d (.list (pre++rest))),(1,true,.fn 127 [.ptr 0 0 0]),(7,true,.d (.int .i64 (pre++rest).length)),(8,true,.d (.int .i64 pre.length))],[⟨0,0,.box [.d (.int .i64 b)]⟩]⟩ k=
  k (.exit 0) ⟨19,b7,[(0,true,.d (.list (pre++rest))),(1,true,.fn 127 [.ptr 0 0 0]),(7,true,.d (.int .i64 (pre++rest).length)),(8,true,.d (.int .i64 (pre++rest).length)),(9,true,.d (.bool false))],[⟨0,0,.box [.d (.int .i64 b)]⟩]⟩
 |[],pre,h,H,k=>by
  rw[az];simp[f126]
 |d::rest,pre,h,H,k=>by
  obtain⟨M,I,V⟩:=h d (by simp);have O:=G4 d M b I;obtain⟨W,a2,a3,a4,rfl⟩:=tK I;have ih:=tL b rest (pre++[.agg [.int .i64 M,.str W,.str a2,.str a3,.int .i64 a4]]) (λd E=>h d (by simp[E])) (by simpa using H) k;have J:(pre.length:Int)<pre.length+(rest.length+1):=by omega
  have Y:IntKind.i64.wrap ((pre.length:Int)+1)=pre.length+1:=jU (by unfold dw;simp at H;omega);simp[V]at O;rw[az];simp[f126]at ih⊢;simp[J,Y,O,ih]
def Dp(b:Int)(A:b∉dr):au ctx 116 [.d (.int .i64 b)] []=some (.ret (.d (.list [])),[]):=by
 obtain⟨l,H,hm⟩:=G3;have A0:l.length=21:=by have:=Xi List.length hm;simpa [dr]using this
 have Z:∀d∈l,∃k,kB d=some k/\k≠b:=by
  intro d E;have J:kB d∈l.map kB:=WW E;rw[hm]at J;obtain⟨k,I,he⟩:=WS.1 J;exact⟨k,he.symm,λh=>A (h▸I)⟩
 have T:=tL b l [] Z (by simp;omega);have q:au ctx 126 [.d (.list l),.fn 127 [.ptr 0 0 0]] [.box [.d (.int .i64 b)]]=some (.ret (.d (.int .i64 (-1))),[(0,.box [.d (.int .i64 b)])]):=by
  rw[L9 (by simp)];simp[f126]at T⊢;simp[T]
 have y:au ctx 89 [.d (.int .i64 b)] []=some (.ret (.bk [.d (.agg [.int .i64 0,.str [],.str [],.str [],.int .i64 0]),.d (.bool false)]),[]):=by
  rw[NN (by simp)];simp[f89,H,q]
 rw[L5 (by simp)];simp[f116,y]
def Je{b:Int}(A:b∈dr):au ctx 116 [.d (.int .i64 b)] []=some (.ret (.d (.list ((qw b).map Li))),[]):=by
 simp only[dr,WK,XH]at A;repeat' (obtain rfl|A:=A)
 all_goals exact ez 120 (by as_aux_lemma=>kernel_rfl)
def Jf(b:Int):au ctx 116 [.d (.int .i64 b)] []=some (.ret (.d (.list ((qw b).map Li))),[]):=by
 by_cases A:b∈dr
 .exact Je A
 .rw[mG A];exact Dp b A
@[simp] def cA(x:Ins):D:=.agg [.int .i64 x.op,.int .i64 x.a,.int .i64 x.b,.int .i64 x.n,.int .i64 x.m]
@[simp] def cu(ins:List Ins)(vars cells:Int)(x y:AV):ax:=.box [.d (.list (ins.map cA)),.d (.int .i64 vars),.d (.int .i64 cells),x,y]
@[simp] def bD(l:List Bool):List D:=l.map .bool
section
variable (ins:List Ins) (vars cells:Int) (s1 Z I s2 c J:Nat) (S T:List D)
theorem qy(at_ n:Int)(O:0<=cells/\cells<=8192)(q:dw n):
 au ctx 113 [.ptr 0 0 0,.d (.int .i64 at_),.d (.int .i64 n)] [cu ins vars cells (.vec 1 0 0 I) (.vec 2 0 0 J),.vec 1 S,.vec 1 T]=
  some (.ret (.d (.bool (jr cells at_ n))),[(0,cu ins vars cells (.vec 1 0 0 I) (.vec 2 0 0 J)),(0,.vec 1 S),(0,.vec 1 T)]):=by
 rw[LZ (by simp)];unfold jr;by_cases A:0<=at_<;>by_cases E:0<=n<;>by_cases H:n<=cells<;>simp[f113,A,E,H];rw[(cD _)]
theorem Fw(x:Ins)(O:0<=cells/\cells<=8192):
 au ctx 114 [.ptr 0 0 0,.d (cA x)] [cu ins vars cells (.vec 1 0 0 I) (.vec 2 0 0 J),.vec 1 S,.vec 1 T]=
  some (.ret (.d (.bool (BW cells x))),[(0,cu ins vars cells (.vec 1 0 0 I) (.vec 2 0 0 J)),(0,.vec 1 S),(0,.vec 1 T)]):=by
 rw[L3 (by simp)];unfold BW;by_cases A:0<=x.n
 .by_cases E:x.n<=x.m
  .by_cases H:x.m<=255
   .have h:=qy ins vars cells I J S T x.a (x.m-x.n+1) O (by unfold dw;omega);have V:=cD (x.m-x.n);have W:=cD (x.m-x.n+1);simp at h;simp[f114,A,E,H,V,W,h]
   .simp[f114,A,E,H]
  .simp[f114,A,E]
 .simp[f114,A]
theorem G5(x:Ins):au ctx 115 [.d (cA x)] []=some (.ret (.d (.bool (nM x))),[]):=by
 rw[L4 (by simp)];unfold nM;by_cases M:x.a=0
 .by_cases A:x.b=6
  .simp[f115,M,A]
  .by_cases E:8<=x.b<;>simp[f115,M,A,E]
 .by_cases A:x.a=1
  .by_cases E:x.b=7
   .simp[f115,A,E]
   .by_cases H:x.b=13
    .simp[f115,A,H]
    .by_cases U:x.b=14
     .simp[f115,A,U]
     .by_cases Y:19<=x.b<;>simp[f115,A,E,H,U,Y]
  .simp[f115,M,A]
end
def kC(f:Nat)(E:Int->Nat):Prop:=∀b:Int,∃l:List D,au ctx f [.d (.int .i64 b)] []=some (.ret (.d (.list l)),[])/\l.length=E b/\E b<=100
def G6(E:Int->Nat)(AC:kC 116 E)(ins:List Ins)(vars cells:Int)(I J:Nat)(S T:List D)(at_:Int)(x:Ins)(U:0<=cells/\cells<=8192)(AE:ins.length<=5000):
 au ctx 82 [.ptr 0 0 0,.d (.int .i64 at_),.d (cA x)] [cu ins vars cells (.vec 1 0 0 I) (.vec 2 0 0 J),.vec 1 S,.vec 1 T]=
  some (.ret (.d (.bool (ea E cells ((ins.length:Int)-1) at_ x))),[(0,cu ins vars cells (.vec 1 0 0 I) (.vec 2 0 0 J)),(0,.vec 1 S),(0,.vec 1 T)]):=by
 have M:=qy ins vars cells I J S T x.a 1 U (by unfold dw;omega);have A:=cD ((ins.length:Int)-1);rw[NJ (by simp)];unfold ea;simp at M;by_cases y:x.op=1
 .simp[f82,A,y]
 by_cases A':x.op=11
 .simp[f82,A,A']
 by_cases A0:x.op=2
 .simp[f82,A,A0,M]
 by_cases A1:x.op=3
 .simp[f82,A,A1,M]
 by_cases A2:x.op=6
 .simp[f82,A,A2,M]
 by_cases A3:x.op=14
 .simp[f82,A,A3,M]
 by_cases A4:x.op=13
 .have A5:=qy ins vars cells I J S T x.b 2 U (by unfold dw;omega);simp at A5;cases AD:jr cells x.a 1<;>simp[f82,A,A4,M,A5,AD]
 have H:=Fw ins vars cells I J S T x U;simp at H;by_cases V:x.op=4
 .simp[V]at H;simp[f82,A,V,H]
 by_cases W:x.op=5
 .simp[W]at H;simp[f82,A,W,H]
 by_cases Y:x.op=7
 .simp[Y]at H;simp[f82,A,Y,H]
 by_cases Z:x.op=8
 .have A6:=G5 x;simp[Z]at A6;simp[f82,A,Z,A6]
 by_cases A7:x.op=9
 .by_cases O:0<=x.a<;>simp[f82,A,A7,O]
 by_cases A8:x.op=10
 .by_cases O:0<=x.a<;>simp[f82,A,A8,O]
 by_cases c:x.op=12
 .obtain⟨l,A9,AA,AF⟩:=AC x.b;have q:=qy ins vars cells I J S T x.a (E x.b) U (by unfold dw;omega);simp at q;by_cases O:0<E x.b
  .simp[f82,A,c,O,A9,AA,q]
  .simp[f82,A,c,O,A9,AA,q]
 by_cases AB:x.op=15
 .simp[f82,A,AB]
 .simp[f82,A,y,A0,A1,V,W,A2,Y,Z,A7,A8,A',c,A4,A3,AB]
def BL:kC 116 fJ:=λb=>⟨_,Jf b,by simp[fJ],X5 (xM b) (by decide)⟩
def Jg(k:Int):au ctx 91 [.d (.int .i64 k)] []=some (.ret (.d (.list ((qw k).map Li))),[]):=by
 by_cases A:k∈19::dr
 .simp only[dr,WK,XH]at A;repeat' (obtain rfl|A:=A)
  all_goals exact ez 120 (by kernel_rfl)
 .rw[mG λh=>A (Xb _ h),NP (by simp)];simp only[dr,WK,XH,or_false]at A;by_cases D:k<10
  .simp[f91,D]
  .have E:31<k:=by omega
   simp[f91,D,E]
def G7:kC 91 fJ:=λb=>⟨_,Jg b,by simp[fJ],X5 (xM b) (by decide)⟩
def vW(E:Int->Nat)(A':kC 116 E)(vars cells:Int)(H I:Nat)(S T:List D)(B:ax)(A5:0<=cells/\cells<=8192)(L:Int):∀(rest pre:List Ins)(v:Nat)(A0:ax),((pre++rest).length:Int)-1=L->(pre++rest).length<=5000->∀k:Kt,
 ∃Y Z,bj ctx 49 (.loop (Code.at (codeOf f49) [1,1,1,1,0,1,0,0])) ⟨66,b7,[(0,true,.ptr 0 0 0),(53,true,.d (.list ((pre++rest).map cA))),(54,true,.d (.int .i64 (pre++rest).length)),(55,true,.d (.int .i64 pre.length))],
  [⟨0,0,cu (pre++rest) vars cells (.vec 1 0 0 H) (.vec 2 0 0 I)⟩,⟨1,0,.vec 1 S⟩,⟨2,0,.vec 1 T⟩,⟨250,1,B⟩,⟨400,v,A0⟩]⟩ k=
  if fU E cells L pre.length rest=true then
   k (.exit 0) ⟨66,b7,[(0,true,.ptr 0 0 0),(53,true,.d (.list ((pre++rest).map cA))),(54,true,.d (.int .i64 (pre++rest).length)),(55,true,.d (.int .i64 (pre++rest).length)),(56,true,.d (.bool false))],
   [⟨0,0,cu (pre++rest) vars cells (.vec 1 0 0 H) (.vec 2 0 0 I)⟩,⟨1,0,.vec 1 S⟩,⟨2,0,.vec 1 T⟩,⟨250,1,B⟩,⟨400,Y,Z⟩]⟩
  else k .ret ⟨66,b7,[(2,true,.d (.bool false))],[⟨0,0,cu (pre++rest) vars cells (.vec 1 0 0 H) (.vec 2 0 0 I)⟩,⟨1,0,.vec 1 S⟩,⟨2,0,.vec 1 T⟩,⟨250,1,B⟩,⟨400,Y,Z⟩]⟩
 |[],pre,v,A0,A3,U,k=>by
  refine⟨v,A0,?_⟩;rw[az];simp[f49,fU]
 |x::rest,pre,v,A0,A3,U,k=>by
  have c:=G6 E A' (pre++x::rest) vars cells H I S T pre.length x A5 U;rw[A3]at c;have y:(pre.length:Int)<pre.length+(rest.length+1):=by omega
  have J:IntKind.i64.wrap ((pre.length:Int)+1)=pre.length+1:=jU (by unfold dw;simp at U;omega);cases A1:ea E cells L pre.length x
  .refine⟨v+1,.box [.d (.int .i64 x.op),.d (.int .i64 x.a),.d (.int .i64 x.b),.d (.int .i64 x.n),.d (.int .i64 x.m)],?_⟩;rw[az];simp[A1]at c;simp[f49,fU,A1];simp[y,c]
  .obtain⟨Y,Z,ih⟩:=vW E A' vars cells H I S T B A5 L rest (pre++[x]) (v+1) (.box [.d (.int .i64 x.op),.d (.int .i64 x.a),.d (.int .i64 x.b),.d (.int .i64 x.n),.d (.int .i64 x.m)]) (by simpa using A3) (by simpa using U) k;refine⟨Y,Z,?_⟩;rw[az];simp[A1]at c;simp[f49,fU,A1]at ih⊢;simp[y,J,c,ih]
def Fy(E:Int->Nat)(A':kC 116 E)(ins:List Ins)(vars cells:Int)(H I:Nat)(S T:List D)(U:ins.length<=5000):
 au ctx 49 [.ptr 0 0 0] [cu ins vars cells (.vec 1 0 0 H) (.vec 2 0 0 I),.vec 1 S,.vec 1 T]=
  some (.ret (.d (.bool (dI E ins vars cells))),[(0,cu ins vars cells (.vec 1 0 0 H) (.vec 2 0 0 I)),(0,.vec 1 S),(0,.vec 1 T)]):=by
 rw[NB (by simp)];unfold dI mu;by_cases y:1<=(ins.length:Int)
 .have A6:¬((ins.length:Int)<1):=by omega
  obtain⟨A,last,rfl⟩:∃A last,ins=A++[last]:=⟨ins.dropLast,ins.getLast (by intro h;simp[h]at y),(List.dropLast_concat_getLast _).symm⟩;have A9:gF (A++[last])=last.op:=by simp[gF]
  rw[A9];have M:IntKind.i64.wrap ((A.length:Int)+1-1)=A.length:=by rw[jU (by unfold dw;simp at U;omega)];omega
  simp at M;simp only[WY,X1,XU]at U;by_cases J:(A.length:Int)+1<=4096;rotate_left
  .have O:(4096:Int)<(A.length:Int)+1:=by omega
   simp[f49,J,O,M]
  have O:¬((4096:Int)<(A.length:Int)+1):=by omega
  by_cases V:0<=cells;rotate_left
  .simp[f49,J,O,V,M]
  by_cases W:cells<=8192;rotate_left
  .simp[f49,J,O,V,W,M]
  by_cases A2:0<=vars;rotate_left
  .simp[f49,J,O,V,W,A2,M]
  by_cases A4:vars<=cells;rotate_left
  .simp[f49,J,O,V,W,A2,A4,M]
  by_cases A7:last.op=15;rotate_left
  .simp[f49,J,O,V,W,A2,A4,A7,M]
  have AA:(1:Int)<=(A.length:Int)+1:=by omega
  have A8:=λB=>vW E A' vars cells H I S T B ⟨V,W⟩ A.length (A++[last]) [] 0 .dead (by simp) (by simp;omega);simp[f49,J,O,V,W,A2,A4,A7,AA,M]at A8⊢;obtain⟨Y,Z,AB⟩:=A8 _ _;rw[AB];split
  .rename_i q;simp[q]
  .rename_i q;simp[q]
 .have A6:(ins.length:Int)<1:=by omega
  simp[f49,A6,y]
section
variable (ins:List Ins) (vars cells:Int) (E:Nat) (T:List D)
theorem nL(t:Bool)(S:List Bool)(M:S.length<=5000):
 au ctx 117 [.ptr 0 0 0,.d (.bool t)] [cu ins vars cells (.vec 1 0 0 S.length) (.vec 2 0 0 E),.vec 1 (bD S),.vec 1 T]=
  some (.ret (.d (.bool (decide (S.length<64)))),[(0,cu ins vars cells (.vec 1 1 0 (S.length+1)) (.vec 2 0 0 E)),(1,.vec 1 (bD (S++[t]))),(0,.vec 1 T)]):=by
 have g1:S.length+1<=140737488355328/\S.length<=4611686018427387903:=by omega
 have g2:((S.length:Int)+1<=64)=(S.length<64):=by simp;omega
 rw[L6 (by simp)];simp[f117,g1,g2]
theorem ss(S:List D)(O:Nat):
 au ctx 83 [.ptr 0 0 0] [cu ins vars cells (.vec 1 0 0 O) (.vec 2 0 0 E),.vec 1 S,.vec 1 T]=
  some (.ret (.d (.bool (decide (O=0)))),[(0,cu ins vars cells (.vec 1 0 0 O) (.vec 2 0 0 E)),(0,.vec 1 S),(0,.vec 1 T)]):=by
 rw[NK (by simp)];by_cases q:O=0<;>simp[f83,q]
theorem xQ(n:Nat)(t:Bool)(A:List Bool)(V:A.length<=5000):∀(rest pre:List Bool),(pre++rest).length=n->n<=5000->∀k:Kt,
 bj ctx 118 (.loop (Code.at (codeOf f118) [1,1,0,1,0,0])) ⟨54,b7,[(0,true,.ptr 0 0 0),(1,true,.d (.int .i64 n)),(2,true,.d (.bool t)),(27,true,.vec 1 0 A.length n),(28,true,.d (.int .i64 n)),(29,true,.d (.int .i64 pre.length))],
  [⟨0,0,cu ins vars cells (.vec 1 0 0 (A++(pre++rest)).length) (.vec 2 0 0 E)⟩,⟨1,0,.vec 1 (bD (A++(pre++rest)))⟩,⟨2,0,.vec 1 T⟩]⟩ k=
  if (t&&rest.any (λb=>!b))=true then k .ret ⟨54,b7,[(6,true,.d (.bool false))],[⟨0,0,cu ins vars cells (.vec 1 0 0 (A++(pre++rest)).length) (.vec 2 0 0 E)⟩,⟨1,0,.vec 1 (bD (A++(pre++rest)))⟩,⟨2,0,.vec 1 T⟩]⟩
  else k (.exit 0) ⟨54,b7,[(0,true,.ptr 0 0 0),(1,true,.d (.int .i64 n)),(2,true,.d (.bool t)),(27,true,.vec 1 0 A.length n),(28,true,.d (.int .i64 n)),(29,true,.d (.int .i64 n)),(30,true,.d (.bool false))],
  [⟨0,0,cu ins vars cells (.vec 1 0 0 (A++(pre++rest)).length) (.vec 2 0 0 E)⟩,⟨1,0,.vec 1 (bD (A++(pre++rest)))⟩,⟨2,0,.vec 1 T⟩]⟩
 |[],pre,I,M,k=>by
  subst I;rw[az];simp[f118]
 |x::rest,pre,I,M,k=>by
  have ih:=xQ n t A V rest (pre++[x]) (by simpa using I) M k;have J:(pre.length:Int)<n:=by simp at I;omega
  have H:pre.length<n:=by omega
  have W:=cD ((pre.length:Int)+1);rw[az];simp[f118]at ih⊢;cases t
  .simp[J,H,W]at ih⊢;exact ih
  .cases x
   .simp[J,H,W]
   .simp[J,H,W]at ih⊢;exact ih
theorem ou(n:Nat)(t:Bool)(S:List Bool)(M:S.length<=5000)(I:n<=5000):
 au ctx 118 [.ptr 0 0 0,.d (.int .i64 n),.d (.bool t)] [cu ins vars cells (.vec 1 0 0 S.length) (.vec 2 0 0 E),.vec 1 (bD S),.vec 1 T]=
  match dj n t S with
  |some Z=>some (.ret (.d (.bool true)),[(0,cu ins vars cells (.vec 1 1 0 Z.length) (.vec 2 0 0 E)),(1,.vec 1 (bD Z)),(0,.vec 1 T)])
  |none=>some (.ret (.d (.bool false)),[(0,cu ins vars cells (.vec 1 1 0 S.length) (.vec 2 0 0 E)),(1,.vec 1 (bD S)),(0,.vec 1 T)]):=by
 rw[L7 (by simp)];unfold dj;by_cases J:S.length<n
 .have H:(S.length:Int)<n:=by omega
  simp[f118,J,H]
 .have H:¬((S.length:Int)<n):=by omega
  obtain⟨A,B,rfl,a⟩:∃A B,S=A++B/\B.length=n:=⟨S.take (S.length-n),S.drop (S.length-n),(XV _ _).symm,by simp;omega⟩;have V:(A++B).length -n=A.length:=by simp;omega
  have U:IntKind.i64.wrap (((A++B).length:Int)-n)=A.length:=by rw[(cD _)];simp;omega
  have c:=xQ ins vars cells E T n t A (by simp at M;omega) B [] (by simpa using a) I;have y:A.length+B.length-A.length=n:=by omega
  have A':A.length+n-A.length=n:=by omega
  subst a;rw[V];have Y:¬((A.length:Int)+B.length<B.length):=by omega
  have c2:(A.length:Int)<=(A.length:Int)+B.length:=by omega
  have c3:((A.length:Int)+B.length).toNat -A.length=B.length:=by omega
  have c4:¬(A.length+B.length<B.length):=by omega
  simp at J H U;simp[f118]at c⊢;simp[U,Y,c2,c3,c4];rw[k9 (by kernel_rfl)];simp[Y,c2,c3,c4,c];by_cases q:t=true/\false∈B
  .simp[q]
  .rw[WO q,WO q];simp[U,Y,c2,c3,c4];rw[k9 (by kernel_rfl)];simp[U]
end
section
variable (ins:List Ins) (vars cells:Int) (H:Nat) (T:List D)
def BM(x:Ins)(S:List Bool)(r:dh):Prop:=∃V:List Bool,r=some (.ret (.d (.bool (ia x S).isSome)),[(0,cu ins vars cells (.vec 1 1 0 V.length) (.vec 2 0 0 H)),(1,.vec 1 (bD V)),(0,.vec 1 T)])/\∀A8,ia x S=some A8->A8=V
theorem ow{n:Nat}{t:Bool}{S V:List Bool}(h:dj n t S=some V):V.length<=S.length:=by
 unfold dj at h;split at h
 .cases h
 .split at h
  .cases h
  .cases h;simp
theorem Fz(x:Ins)(S:List Bool)(AF:S.length<=64):
 BM ins vars cells H T x S (au ctx 84 [.ptr 0 0 0,.d (cA x)] [cu ins vars cells (.vec 1 0 0 S.length) (.vec 2 0 0 H),.vec 1 (bD S),.vec 1 T]):=by
 rw[NL (by simp)];unfold BM ia;have W:=nL ins vars cells H T true S (by omega);have A6:=nL ins vars cells H T false S (by omega);have he:=ss ins vars cells H T (bD S) S.length;simp at W A6 he;by_cases Y:x.op=1
 .refine⟨S++[decide (x.n=0)||decide (x.n=1)],?_,?_⟩
  .by_cases q:x.n=0
   .simp[f84,Y,q,W,cx];split<;>simp[*]
   .by_cases q1:x.n=1
    .simp[f84,Y,q1,W,cx];split<;>simp[*]
    .simp[f84,Y,q,q1,A6,cx];split<;>simp[*]
  .simp[Y,cx]
 by_cases A1:x.op=2
 .refine⟨S++[false],?_,?_⟩
  .simp[f84,A1,A6,cx];split<;>simp[*]
  .simp[A1,cx]
 by_cases A2:x.op=3
 .refine⟨S++[true],?_,?_⟩
  .simp[f84,A2,W,cx];split<;>simp[*]
  .simp[A2,cx]
 by_cases A3:x.op=13
 .refine⟨S++[true],?_,?_⟩
  .simp[f84,A3,W,cx];split<;>simp[*]
  .simp[A3,cx]
 by_cases A4:x.op=14
 .refine⟨S++[true],?_,?_⟩
  .simp[f84,A4,W,cx];split<;>simp[*]
  .simp[A4,cx]
 have I:=ou ins vars cells H T 1 false S (by omega) (by omega);by_cases Z:x.op=4
 .cases q:dj 1 false S with
  |none=>
   simp[q]at I;refine⟨S,?_,?_⟩
   .simp[f84,Z,I,q]
   .simp[Z,q]
  |some S1=>
   have A9:=ow q;have M:=nL ins vars cells H T false S1 (by omega);simp[q]at I;simp at M;refine⟨S1++[false],?_,?_⟩
   .simp[f84,Z,I,M,q,cx];split<;>simp[*]
   .simp[Z,q,cx]
 by_cases c:x.op=5
 .cases q:dj 1 false S with
  |none=>
   simp[q]at I;refine⟨S,?_,?_⟩
   .simp[f84,c,I,q]
   .simp[c,q]
  |some S1=>
   have A9:=ow q;have M:=nL ins vars cells H T true S1 (by omega);simp[q]at I;simp at M;refine⟨S1++[true],?_,?_⟩
   .simp[f84,c,I,M,q,cx];split<;>simp[*]
   .simp[c,q,cx]
 by_cases y:x.op=6
 .cases q:dj 1 false S with
  |none=>
   simp[q]at I;refine⟨S,?_,?_⟩
   .simp[f84,y,I,q]
   .simp[y,q]
  |some S1=>
   simp[q]at I;refine⟨S1,?_,?_⟩
   .simp[f84,y,I,q]
   .simp[y,q]
 by_cases A':x.op=7
 .have A:=ou ins vars cells H T 2 false S (by omega) (by omega);cases q:dj 2 false S with
  |none=>
   simp[q]at A;refine⟨S,?_,?_⟩
   .simp[f84,A',A,q]
   .simp[A',q]
  |some S1=>
   simp[q]at A;refine⟨S1,?_,?_⟩
   .simp[f84,A',A,q]
   .simp[A',q]
 by_cases A0:x.op=10
 .have A:=ou ins vars cells H T 1 true S (by omega) (by omega);cases q:dj 1 true S with
  |none=>
   simp[q]at A;refine⟨S,?_,?_⟩
   .simp[f84,A0,A,q]
   .simp[A0,q]
  |some S1=>
   have AA:=ss ins vars cells H T (bD S1) S1.length;simp at AA;simp[q]at A;refine⟨S1,?_,?_⟩
   .simp[f84,A0,A,q,hZ,AA];split<;>simp[*]
   .simp[A0,q,hZ]
 by_cases J:x.op=8
 .obtain⟨n,A5⟩:∃n:Nat,n=(if x.b=6\/x.b=7 then 1 else 2):=⟨_,rfl⟩;obtain⟨g,A7⟩:∃g,g=(decide (x.b=7)||decide (13<=x.b)):=⟨_,rfl⟩;have AG:n<=2:=by rw[A5];split<;>omega
  have A:=ou ins vars cells H T n (decide (x.a=1)) S (by omega) (by omega);rw[<-A5,<-A7];have AB:(x.b=6/\n=1/\g=false)\/(x.b=7/\n=1/\g=true)\/(x.b≠6/\x.b≠7/\¬13<=x.b/\n=2/\g=false)\/(x.b≠6/\x.b≠7/\13<=x.b/\n=2/\g=true):=by
   rw[A5,A7];by_cases AC:x.b=6
   .simp[AC]
   .by_cases AD:x.b=7
    .simp[AD]
    .by_cases AE:13<=x.b<;>simp[AC,AD,AE]
  clear A5 A7;cases q:dj n (decide (x.a=1)) S with
  |none=>
   simp[q]at A;refine⟨S,?_,?_⟩
   .rcases AB with ⟨E,rfl,rfl⟩|⟨E,rfl,rfl⟩|⟨E,O,U,rfl,rfl⟩|⟨E,O,U,rfl,rfl⟩
    .simp at A;simp[f84,J,E,A,q]
    .simp at A;simp[f84,J,E,A,q]
    .simp at A;simp[f84,J,E,O,U,A,q]
    .simp at A;simp[f84,J,E,O,U,A,q]
   .simp[J,q]
  |some S1=>
   have A9:=ow q;have M:=nL ins vars cells H T g S1 (by omega);simp[q]at A;simp at M;refine⟨S1++[g],?_,?_⟩
   .rcases AB with ⟨E,rfl,rfl⟩|⟨E,rfl,rfl⟩|⟨E,O,U,rfl,rfl⟩|⟨E,O,U,rfl,rfl⟩
    .simp at A;simp[f84,J,E,A,M,q,cx];split<;>simp[*]
    .simp at A;simp[f84,J,E,A,M,q,cx];split<;>simp[*]
    .simp at A;simp[f84,J,E,O,U,A,M,q,cx];split<;>simp[*]
    .simp at A;simp[f84,J,E,O,U,A,M,q,cx];split<;>simp[*]
   .simp[J,q,cx]
 .refine⟨S,?_,?_⟩
  .simp[f84,Y,A1,A2,Z,c,y,A',J,A0,A3,A4,hZ,he];split<;>simp[*]
  .simp[Y,A1,A2,Z,c,y,A',J,A0,A3,A4,hZ]
end
def cn(l:List Bool)(x:Ins):List Bool:=if x.op=9\/x.op=10 then l.set x.a.toNat true else l
def jn(l:List Bool)(x:Ins):(cn l x).length=l.length:=by unfold cn;split<;>simp
def pz(l:List Bool)(i:Nat)(b:Bool):(bD l).set i (.bool b)=bD (l.set i b):=by simp[bD,List.map_set]
def qz{x:Ins}{S A:List Bool}(I:S.length<=64)(h:ia x S=some A):A.length<=64:=by
 have g:∀{t S A},cx t S=some A->A.length<=64:=by
  intro t S A h;unfold cx at h;split at h
  .cases h;simp;omega
  .cases h
 have e:∀{S A},hZ S=some A->A.length<=64:=by
  intro S A h;unfold hZ at h;split at h
  .cases h;simp
  .cases h
 have tk:∀{n t A},dj n t S=some A->A.length<=64:=λh=>X5 (ow h) I;unfold ia at h;repeat' split at h
 all_goals first
  |exact g h
  |exact e h
  |exact tk h
  |(obtain⟨y,_,E⟩:=Xr.1 h;exact g E)
  |(obtain⟨y,_,E⟩:=Xr.1 h;exact e E)
section
variable (ins:List Ins) (vars cells:Int)
theorem At(B:ax):∀(rest pre:List Ins)(T:List Bool)(v:Nat)(A1:ax),(pre++rest).length<=5000->(∀x∈rest,x.op=9\/x.op=10->0<=x.a/\x.a<T.length)->∀k:Kt,
 ∃O U,bj ctx 50 (.loop (Code.at (codeOf f50) [1,0,1,0,0])) ⟨63,b7,[(0,true,.ptr 0 0 0),(11,true,.d (.list ((pre++rest).map cA))),(12,true,.d (.int .i64 (pre++rest).length)),(13,true,.d (.int .i64 pre.length))],
  [⟨0,0,cu ins vars cells (.vec 1 0 0 0) (.vec 2 0 0 T.length)⟩,⟨1,0,.vec 1 []⟩,⟨2,0,.vec 1 (bD T)⟩,⟨300,v,A1⟩,⟨400,0,B⟩]⟩ k=
  k (.exit 0) ⟨63,b7,[(0,true,.ptr 0 0 0),(11,true,.d (.list ((pre++rest).map cA))),(12,true,.d (.int .i64 (pre++rest).length)),(13,true,.d (.int .i64 (pre++rest).length)),(14,true,.d (.bool false))],
   [⟨0,0,cu ins vars cells (.vec 1 0 0 0) (.vec 2 0 0 T.length)⟩,⟨1,0,.vec 1 []⟩,⟨2,0,.vec 1 (bD (rest.foldl cn T))⟩,⟨300,O,U⟩,⟨400,0,B⟩]⟩
 |[],pre,T,v,A1,I,A2,k=>by
  refine⟨v,A1,?_⟩;rw[az];simp[f50]
 |x::rest,pre,T,v,A1,I,A2,k=>by
  obtain⟨O,U,ih⟩:=At B rest (pre++[x]) (cn T x) (v+1) (.box [.d (.int .i64 x.op),.d (.int .i64 x.a),.d (.int .i64 x.b),.d (.int .i64 x.n),.d (.int .i64 x.m)]) (by simpa using I) (λy AD h=>by rw[jn];exact A2 y (by simp[AD]) h) k;refine⟨O,U,?_⟩;have H:(pre.length:Int)<pre.length+(rest.length+1):=by omega
  have E:IntKind.i64.wrap ((pre.length:Int)+1)=pre.length+1:=jU (by unfold dw;simp at I;omega);rw[jn]at ih;rw[az];by_cases A':x.op=9
  .obtain⟨A3,a2⟩:=A2 x (by simp) (.inl A');have a3:x.a.toNat<T.length:=by omega
   have e:cn T x=T.set x.a.toNat true:=by simp[cn,A']
   rw[e,<-pz]at ih;simp[f50,A']at ih⊢;simp[H,E,A3,a3];rw[k9 (by kernel_rfl)];simp[E,e,ih]
  .by_cases A0:x.op=10
   .obtain⟨A3,a2⟩:=A2 x (by simp) (.inr A0);have a3:x.a.toNat<T.length:=by omega
    have e:cn T x=T.set x.a.toNat true:=by simp[cn,A0]
    rw[e,<-pz]at ih;simp[f50,A0]at ih⊢;simp[H,E,A3,a3];rw[k9 (by kernel_rfl)];simp[E,e,ih]
   .have e:cn T x=T:=by simp[cn,A',A0]
    rw[e]at ih;simp[f50,A',A0]at ih⊢;simp[H,E,e,ih]
theorem uz(L:List Bool):∀(rest pre:List Ins)(S:List Bool)(v v1:Nat)(B:ax),(pre++rest).length=L.length->L.length<=5000->S.length<=64->∀(C:ax)(V:Nat)(k:Kt),
 ∃O Y U A,bj ctx 50 (.loop (Code.at (codeOf f50) [1,1,0,1,0,0])) ⟨63,b7,[(0,true,.ptr 0 0 0),(37,true,.d (.list ((pre++rest).map cA))),(38,true,.d (.int .i64 (pre++rest).length)),(39,true,.d (.int .i64 pre.length))],
  [⟨0,0,cu ins vars cells (.vec 1 v1 0 S.length) (.vec 2 0 0 L.length)⟩,⟨1,v1,.vec 1 (bD S)⟩,⟨2,0,.vec 1 (bD L)⟩,⟨300,V,C⟩,⟨400,v,B⟩]⟩ k=
  if c8 L pre.length rest S=true then
   k (.exit 2) ⟨63,b7,[(0,true,.ptr 0 0 0),(37,true,.d (.list ((pre++rest).map cA))),(38,true,.d (.int .i64 (pre++rest).length)),(39,true,.d (.int .i64 (pre++rest).length)),(40,true,.d (.bool false))],
    [⟨0,0,cu ins vars cells (.vec 1 Y 0 (A:List Bool).length) (.vec 2 0 0 L.length)⟩,⟨1,Y,.vec 1 (bD A)⟩,⟨2,0,.vec 1 (bD L)⟩,⟨300,V,C⟩,⟨400,O,U⟩]⟩
  else k .ret ⟨63,b7,[(2,true,.d (.bool false))],[⟨0,0,cu ins vars cells (.vec 1 Y 0 A.length) (.vec 2 0 0 L.length)⟩,⟨1,Y,.vec 1 (bD A)⟩,⟨2,0,.vec 1 (bD L)⟩,⟨300,V,C⟩,⟨400,O,U⟩]⟩
 |[],pre,S,v,v1,B,I,A6,A4,C,V,k=>by
  refine⟨v,v1,B,S,?_⟩;rw[az];simp[f50,c8]
 |x::rest,pre,S,v,v1,B,I,A6,A4,C,V,k=>by
  have H:(pre.length:Int)<pre.length+(rest.length+1):=by omega
  have E:IntKind.i64.wrap ((pre.length:Int)+1)=pre.length+1:=jU (by unfold dw;simp at I;omega);have q:pre.length<L.length:=by simp at I;omega
  obtain⟨A9,hm,AA⟩:=Fz ins vars cells L.length (bD L) x S A4;have he:=ss ins vars cells L.length (bD L) (bD S) S.length;have A7:(L.getD pre.length false)=L[pre.length]:=by simp[q]
  cases Z:L[pre.length]
  .cases J:ia x S with
   |none=>
    refine⟨v+1,v1+1,.box [.d (.int .i64 x.op),.d (.int .i64 x.a),.d (.int .i64 x.b),.d (.int .i64 x.n),.d (.int .i64 x.m)],A9,?_⟩;rw[az];have W:c8 L pre.length (x::rest) S=false:=by simp[c8,A7,Z,J]
    rw[W];simp[J]at hm;simp[f50,H,q,Z,hm]
   |some c=>
    have A8:=qz A4 J;obtain rfl:=AA c J;obtain⟨O,Y,U,A,ih⟩:=uz L rest (pre++[x]) c (v+1) (v1+1) (.box [.d (.int .i64 x.op),.d (.int .i64 x.a),.d (.int .i64 x.b),.d (.int .i64 x.n),.d (.int .i64 x.m)]) (by simpa using I) A6 A8 C V k;refine⟨O,Y,U,A,?_⟩;have W:c8 L pre.length (x::rest) S=c8 L (pre++[x]).length rest c:=by rw[c8,A7,Z];simp[J]
    rw[W,az];simp[J]at hm;simp[f50]at ih⊢;simp[H,E,q,Z,hm,ih]
  .cases S with
   |nil=>
    simp at he;cases J:ia x []with
    |none=>
     refine⟨v+1,v1+1,.box [.d (.int .i64 x.op),.d (.int .i64 x.a),.d (.int .i64 x.b),.d (.int .i64 x.n),.d (.int .i64 x.m)],A9,?_⟩;rw[az];have W:c8 L pre.length (x::rest) []=false:=by simp[c8,J]
     rw[W];simp[J]at hm;simp[f50,H,q,Z,hm,he]
    |some c=>
     have A8:=qz A4 J;obtain rfl:=AA c J;obtain⟨O,Y,U,A,ih⟩:=uz L rest (pre++[x]) c (v+1) (v1+1) (.box [.d (.int .i64 x.op),.d (.int .i64 x.a),.d (.int .i64 x.b),.d (.int .i64 x.n),.d (.int .i64 x.m)]) (by simpa using I) A6 A8 C V k;refine⟨O,Y,U,A,?_⟩;have W:c8 L pre.length (x::rest) []=c8 L (pre++[x]).length rest c:=by simp[c8,J]
     rw[W,az];simp[J]at hm;simp[f50]at ih⊢;simp[H,E,q,Z,hm,he,ih]
   |cons y S=>
    refine⟨v+1,v1,.box [.d (.int .i64 x.op),.d (.int .i64 x.a),.d (.int .i64 x.b),.d (.int .i64 x.n),.d (.int .i64 x.m)],y::S,?_⟩;have W:c8 L pre.length (x::rest) (y::S)=false:=by rw[c8,A7,Z];simp
    rw[W,az];simp at he;simp[f50,H,q,Z,he]
theorem Dq(I:ins.length<=5000)(AE:∀x∈ins,x.op=9\/x.op=10->0<=x.a/\x.a<ins.length):
 ∃A,au ctx 50 [.ptr 0 0 0] [cu ins vars cells (.vec 1 0 0 0) (.vec 2 0 0 ins.length),.vec 1 [],.vec 1 (bD (List.replicate ins.length false))]=
  some (.ret (.d (.bool (c8 (fu ins) 0 ins []))),[(0,cu ins vars cells (.vec 1 1 0 (A:List Bool).length) (.vec 2 1 0 ins.length)),(1,.vec 1 (bD A)),(1,.vec 1 (bD (fu ins)))]):=by
 have A5:(fu ins).length=ins.length:=by
  have:∀(l:List Ins)(T:List Bool),(l.foldl cn T).length=T.length:=by
   intro l;induction l with
   |nil=>intro T;rfl
   |cons x l ih=>intro T;simp only[List.foldl_cons];rw[ih,jn]
  rw[show fu ins=ins.foldl cn (List.replicate ins.length false)from rfl,this];simp
 have H:=λB=>At ins vars cells B ins [] (List.replicate ins.length false) 0 .dead I (by simpa using AE);rw[show ins.foldl cn (List.replicate ins.length false)=fu ins from rfl]at H;have E:=λC V=>uz ins vars cells (fu ins) ins [] [] 0 0 .dead (by simp[A5]) (by omega) (by simp) C V;generalize fu ins=L at A5 H E;generalize M:au ctx 50 _ _=r;rw[NC (by simp)]at M;simp[f50,A5]at H E M;obtain⟨f1,H⟩:=Xd (H .dead);obtain⟨f2,H⟩:=Xd H;rw[H]at M;clear H;generalize f1 _=a at M;generalize f2 _=b at M;simp at M;replace E:=E b a;obtain⟨g1,E⟩:=Xd E;obtain⟨g2,E⟩:=Xd E;obtain⟨g3,E⟩:=Xd E;obtain⟨g4,E⟩:=Xd E;rw[E]at M;clear E;generalize g1 _=A3 at M;generalize g2 _=a2 at M;generalize g3 _=a3 at M;generalize g4 _=A at M;refine⟨A,?_⟩;rw[<-M];have AB:ins.length<=L.length:=by omega
 have AC:List.take ins.length (List.map D.bool L)=List.map D.bool L:=by rw[<-A5];simp
 cases AF:c8 L 0 ins []
 .simp[AB,AC]
 .simp[AB,AC]
end
def oy(succ:Nat->List Nat):∀f:Nat,
 (∀at_ A,(eJ succ f at_ A).2.length=A.length/\fresh (eJ succ f at_ A).2<=fresh A)/\(∀l A,(et succ f l A).2.length=A.length/\fresh (et succ f l A).2<=fresh A)
 |0=>by
  have A6:∀at_ A,(eJ succ 0 at_ A).2.length=A.length/\fresh (eJ succ 0 at_ A).2<=fresh A:=λat_ A=>by unfold eJ;exact⟨rfl,Ds _⟩
  refine⟨A6,λl A=>?_⟩;cases l with
  |nil=>unfold et;exact⟨rfl,Ds _⟩
  |cons n r=>unfold et eJ;exact⟨rfl,Ds _⟩
 |f+1=>by
  have A0:∀at_ A,(eJ succ (f+1) at_ A).2.length=A.length/\fresh (eJ succ (f+1) at_ A).2<=fresh A:=by
   intro at_ A;unfold eJ;split
   .exact⟨rfl,Ds _⟩
   .have h:=(oy succ f).2 (succ at_) (A.set at_ 1);have U:=mO (l:=A) (i:=at_) (v:=1) (by decide);obtain⟨s,b,he⟩:∃s b,et succ f (succ at_) (A.set at_ 1)=(b,s):=⟨_,_,rfl⟩;rw[he]at h⊢;simp only[List.length_set]at h;cases b with
    |true=>exact⟨h.1,by simp only;omega⟩
    |false=>
     have E:=mO (l:=s) (i:=at_) (v:=2) (by decide);exact⟨by simp only[List.length_set];exact h.1,by simp only;omega⟩
  refine⟨A0,λl=>?_⟩;induction l with
  |nil=>intro A;unfold et;exact⟨rfl,Ds _⟩
  |cons n r ih=>
   intro A;unfold et;have h:=A0 n A;obtain⟨s,b,he⟩:∃s b,eJ succ (f+1) n A=(b,s):=⟨_,_,rfl⟩;rw[he]at h⊢;cases b with
   |true=>exact h
   |false=>
    have E:=ih s;simp only at h;exact⟨by simp only;rw[E.1,h.1],by simp only;omega⟩
@[simp] def iD(l:List Nat):List D:=l.map λ(n:Nat)=>D.int .i64 (n:Int)
def kE(i:Nat)(x:Ins):List Nat:=if x.op=9 then [x.a.toNat]else if x.op=10 then [i+1,x.a.toNat]else if x.op=15 then []else [i+1]
def FA(i:Nat)(x:Ins)(hi:i<5000)(A1:x.op=9\/x.op=10->0<=x.a):au ctx 119 [.d (.int .i64 i),.d (cA x)] []=some (.ret (.d (.list (iD (kE i x)))),[]):=by
 have w:=cD ((i:Int)+1);rw[L8 (by simp)];unfold kE;by_cases Y:x.op=9
 .have h:=A1 (.inl Y);have E:max x.a 0=x.a:=by omega
  simp[f119,Y,E]
 by_cases Z:x.op=10
 .have h:=A1 (.inr Z);have E:max x.a 0=x.a:=by omega
  simp[f119,Z,w,E,List.range']
 by_cases A2:x.op=15
 .simp[f119,A2]
 .simp[f119,Y,Z,A2,w]
section
variable (ins:List Ins) (vars cells:Int) (H I:Nat) (S T:List D)
def BO(f:Nat):Prop:=∀(at_:Nat)(A:List Nat),fresh A<f->at_<ins.length->A.length=ins.length->
 au ctx 85 [.ptr 0 0 0,.d (.int .i64 at_),.vec 1 0 0 ins.length] [cu ins vars cells (.vec 2 0 0 H) (.vec 3 0 0 I),.vec 1 (iD A),.vec 1 S,.vec 1 T]=
  some (.ret (.d (.bool (eJ (cU ins) f at_ A).1)),[(0,cu ins vars cells (.vec 2 0 0 H) (.vec 3 0 0 I)),(0,.vec 1 (iD (eJ (cU ins) f at_ A).2)),(0,.vec 1 S),(0,.vec 1 T)])
theorem qA(A3:ins.length<=5000)(f at_:Nat)(c:BO ins vars cells H I S T f):∀(rest pre:List Nat)(A:List Nat),fresh A<f->(pre++rest).length<5000->(∀n∈rest,n<ins.length)->A.length=ins.length->∀k:Kt,
 bj ctx 85 (.loop (Code.at (codeOf f85) [1,1,1,0,1,0,1,0,0])) ⟨67,b7,[(0,true,.ptr 0 0 0),(1,true,.d (.int .i64 at_)),(2,true,.vec 1 0 0 ins.length),(41,true,.d (.list (iD (pre++rest)))),(42,true,.d (.int .i64 (pre++rest).length)),(43,true,.d (.int .i64 pre.length))],
  [⟨0,0,cu ins vars cells (.vec 2 0 0 H) (.vec 3 0 0 I)⟩,⟨1,0,.vec 1 (iD A)⟩,⟨2,0,.vec 1 S⟩,⟨3,0,.vec 1 T⟩]⟩ k=
  if (et (cU ins) f (rest.filter λj=>!dN ins j) A).1=true then
   k .ret ⟨67,b7,[(6,true,.d (.bool true))],[⟨0,0,cu ins vars cells (.vec 2 0 0 H) (.vec 3 0 0 I)⟩,⟨1,0,.vec 1 (iD (et (cU ins) f (rest.filter λj=>!dN ins j) A).2)⟩,⟨2,0,.vec 1 S⟩,⟨3,0,.vec 1 T⟩]⟩
  else k (.exit 0) ⟨67,b7,[(0,true,.ptr 0 0 0),(1,true,.d (.int .i64 at_)),(2,true,.vec 1 0 0 ins.length),(41,true,.d (.list (iD (pre++rest)))),(42,true,.d (.int .i64 (pre++rest).length)),(43,true,.d (.int .i64 (pre++rest).length)),(44,true,.d (.bool false))],
   [⟨0,0,cu ins vars cells (.vec 2 0 0 H) (.vec 3 0 0 I)⟩,⟨1,0,.vec 1 (iD (et (cU ins) f (rest.filter λj=>!dN ins j) A).2)⟩,⟨2,0,.vec 1 S⟩,⟨3,0,.vec 1 T⟩]⟩
 |[],pre,A,q,V,W,y,k=>by
  rw[az];simp[f85,et]
 |n::rest,pre,A,q,V,W,y,k=>by
  have J:=W n (by simp);have A4:ins[n]?=some ins[n]:=by simp[J]
  have U:(pre.length:Int)<pre.length+(rest.length+1):=by omega
  have E:IntKind.i64.wrap ((pre.length:Int)+1)=pre.length+1:=jU (by unfold dw;simp at V;omega);by_cases M:ins[n].op=11
  .have A':dN ins n=true:=by simp[dN,A4,M]
   have ih:=qA A3 f at_ c rest (pre++[n]) A q (by simpa using V) (λm hm=>W m (by simp[hm])) y k;rw[az];simp[f85,A']at ih⊢;simp[U,E,J,M,ih]
  .have A':dN ins n=false:=by simp[dN,A4,M]
   have O:=c n A q J y;have A5:=(oy (cU ins) f).1 n A;have e:et (cU ins) f ((n::rest).filter λj=>!dN ins j) A=if (eJ (cU ins) f n A).1=true then (true,(eJ (cU ins) f n A).2)else et (cU ins) f (rest.filter λj=>!dN ins j) (eJ (cU ins) f n A).2:=by
    rw[List.filter_cons,A'];simp only[Bool.not_false,XO];rw[et];obtain⟨s,b,he⟩:∃s b,eJ (cU ins) f n A=(b,s):=⟨_,_,rfl⟩;rw[he];cases b<;>rfl
   rw[e];obtain⟨s,b,he⟩:∃s b,eJ (cU ins) f n A=(b,s):=⟨_,_,rfl⟩;rw[he]at O A5⊢;simp only at A5;rw[az];cases b
   .have ih:=qA A3 f at_ c rest (pre++[n]) s (by omega) (by simpa using V) (λm hm=>W m (by simp[hm])) (by omega) k;simp[f85]at ih O⊢;simp[U,E,J,M,O,ih]
   .simp at O;simp[f85];simp[U,E,J,M,O]
end
def l4(ins:List Ins):Prop:=∀i x,ins[i]?=some x->(x.op=9\/x.op=10->0<=x.a/\x.a<(ins.length:Int))/\(x.op≠9->x.op≠15->i+1<ins.length)
def xS{AE:Int->Nat}{ins:List Ins}{vars cells:Int}(h:dI AE ins vars cells=true):l4 ins:=by
 intro i x c;simp only[dI,WJ]at h;have y:=nN h.2 i _ c;have hi:i<ins.length:=(D1.1 c).1;simp only[Xt]at y;have AF:i+1=ins.length->x.op=15:=by
  intro H;have A':=h.1;simp only[mu,WJ,WV]at A';have A7:=A'.2;unfold gF at A7;rw[XK,show ins.length-1=i by omega,c]at A7;simpa using A7
 refine⟨λE=>?_,λA0 A8=>?_⟩
 .unfold ea at y;rcases E with E|E<;>simp[E]at y<;>omega
 .have:i+1≠ins.length:=λh=>A8 (AF h);omega
section
variable (ins:List Ins) (vars cells:Int) (J M:Nat) (S T:List D)
theorem FB(i:Nat)(x:Ins):(kE i x).length<=2:=by
 unfold kE;repeat' split
 all_goals simp
theorem Ji(I:l4 ins){i:Nat}(hi:i<ins.length):∀j∈kE i ins[i],j<ins.length:=by
 have h:=I i ins[i] (by simp[hi]);intro j E;unfold kE at E;split at E
 .rename_i A0;have:=h.1 (.inl A0);simp at E;omega
 .rename_i A0;split at E
  .rename_i AG;have:=h.1 (.inr AG);have:=h.2 A0 (by omega);simp at E;omega
  .split at E
   .simp at E
   .rename_i A8;have:=h.2 A0 A8;simp at E;omega
theorem Hd{i:Nat}(hi:i<ins.length):cU ins i=if ins[i].op=11 then []else (kE i ins[i]).filter λj=>!dN ins j:=by
 have c:ins[i]?=some ins[i]:=by simp[hi]
 unfold cU di dN x8 kE;rw[c];simp only[WV];split<;>rfl
theorem xT(O:ins.length<=5000)(I:l4 ins):∀f,BO ins vars cells J M S T f
 |0=>λat_ A y _ _=>by omega
 |f+1=>by
  intro at_ A y U A9;have Y:at_<A.length:=by omega
  have AA:A.getD at_ 0=A[at_]:=by simp[Y]
  rw[NM (by simp)];unfold eJ;rw[AA];by_cases V:A[at_]=0
  .rw[WO (by simp[V])];have AH:=wT (l:=A) (i:=at_) (v:=1) (by rw[AA];exact V) Y (by decide);have AI:(iD A).set at_ (.int .i64 1)=iD (A.set at_ 1):=by simp[iD,List.map_set]
   rw[Hd ins U];by_cases A1:ins[at_].op=11
   .rw[W2 A1];have AB:((iD A).set at_ (.int .i64 1)).set at_ (.int .i64 2)=iD ((A.set at_ 1).set at_ 2):=by simp[iD,List.map_set]
    simp at AB;simp[f85,Y,U,V,A1,et,AB]
   .rw[WO A1];have Z:=FA at_ ins[at_] (by omega) (λh=>((I at_ _ (by simp[U])).1 h).1);have W:=qA ins vars cells J M S T O f at_ (xT O I f) (kE at_ ins[at_]) [] (A.set at_ 1) (by omega) (by have:=FB at_ ins[at_];simp;omega) (Ji ins I U) (by simp;omega);simp only[List.nil_append,XU]at W;rw[<-AI]at W;have A2:=(oy (cU ins) f).2 ((kE at_ ins[at_]).filter λj=>!dN ins j) (A.set at_ 1);obtain⟨s,b,he⟩:∃s b,et (cU ins) f ((kE at_ ins[at_]).filter λj=>!dN ins j) (A.set at_ 1)=(b,s):=⟨_,_,rfl⟩;rw[he]at W A2⊢;have AC:(iD s).set at_ (.int .i64 2)=iD (s.set at_ 2):=by simp[iD,List.map_set]
    simp only[List.length_set]at A2;have AJ:at_<s.length:=by omega
    simp at AC;cases b
    .simp[f85]at Z W⊢;simp[Y,U,V,A1,Z,W,AJ,AC]
    .simp[f85]at Z W⊢;simp[Y,U,V,A1,Z,W]
  .rw[W2 V];simp[f85,Y,U,V];generalize A[at_]=z;by_cases q:z=1
   .subst q;rfl
   .have q2:¬((z:Int)=1):=by omega
    simp[q,q2]
theorem tM(O:ins.length<=5000)(I:l4 ins):∀(rest pre:List Nat)(A:List Nat),pre++rest=List.range ins.length->A.length=ins.length->∀(v:Nat)(k:Kt),
 ∃A3 A6,bj ctx 51 (.loop (Code.at (codeOf f51) [1,1,0,1,0,0])) ⟨26,b7,[(0,true,.ptr 0 0 0),(3,true,.vec 650 v 0 ins.length),(17,true,.d (.int .i64 ins.length)),(18,true,.d (.int .i64 pre.length))],
  [⟨0,0,cu ins vars cells (.vec 1 0 0 J) (.vec 2 0 0 M)⟩,⟨1,0,.vec 1 S⟩,⟨2,0,.vec 1 T⟩,⟨650,v,.vec 1 (iD A)⟩]⟩ k=
  if rounds (cU ins) (ins.length+1) rest A=true then
   k .ret ⟨26,b7,[(2,true,.d (.bool true))],[⟨0,0,cu ins vars cells (.vec 1 0 0 J) (.vec 2 0 0 M)⟩,⟨1,0,.vec 1 S⟩,⟨2,0,.vec 1 T⟩,⟨650,A3,.vec 1 (iD A6)⟩]⟩
  else k (.exit 0) ⟨26,b7,[(0,true,.ptr 0 0 0),(3,true,.vec 650 A3 0 ins.length),(17,true,.d (.int .i64 ins.length)),(18,true,.d (.int .i64 ins.length)),(19,true,.d (.bool false))],
   [⟨0,0,cu ins vars cells (.vec 1 0 0 J) (.vec 2 0 0 M)⟩,⟨1,0,.vec 1 S⟩,⟨2,0,.vec 1 T⟩,⟨650,A3,.vec 1 (iD A6)⟩]⟩
 |[],pre,A,A4,A9,v,k=>by
  refine⟨v,A,?_⟩;have AD:pre.length=ins.length:=by simpa using Xi List.length A4
  rw[az];simp[f51,rounds,AD]
 |n::rest,pre,A,A4,A9,v,k=>by
  have AD:pre.length+(rest.length+1)=ins.length:=by simpa using Xi List.length A4
  have Z:n=pre.length:=by
   have:=Xi (λl=>l[pre.length]?) A4;simp at this;rw[List.getElem?_range (by omega)]at this;simpa using this
  have H:pre.length<ins.length:=by omega
  have A':=cD ((pre.length:Int)+1);have AH:fresh A<=A.length:=X7;have A5:=xT ins vars cells J M S T O I (ins.length+1) pre.length A (by omega) (by omega) A9;have A2:=((oy (cU ins) (ins.length+1)).1 pre.length A).1;subst Z;rw[rounds];obtain⟨s,b,he⟩:∃s b,eJ (cU ins) (ins.length+1) pre.length A=(b,s):=⟨_,_,rfl⟩;rw[he]at A5 A2⊢;simp only at A2;cases b
  .obtain⟨A3,A6,ih⟩:=tM O I rest (pre++[pre.length]) s (by simpa using A4) (by omega) v k;refine⟨A3,A6,?_⟩;rw[az];simp[f51]at ih A5⊢;simp[H,A',A5,ih]
  .refine⟨v,s,?_⟩;rw[az];simp at A5;simp[f51];simp[H,A',A5]
theorem Dr(O:ins.length<=5000)(I:l4 ins):
 au ctx 51 [.ptr 0 0 0] [cu ins vars cells (.vec 1 0 0 J) (.vec 2 0 0 M),.vec 1 S,.vec 1 T]=
  some (.ret (.d (.bool (rounds (cU ins) (ins.length+1) (List.range ins.length) (List.replicate ins.length 0)))),[(0,cu ins vars cells (.vec 1 0 0 J) (.vec 2 0 0 M)),(0,.vec 1 S),(0,.vec 1 T)]):=by
 have H:=tM ins vars cells J M S T O I (List.range ins.length) [] (List.replicate ins.length 0) rfl (by simp) 1;obtain⟨f1,H⟩:=Xd H;obtain⟨f2,H⟩:=Xd H;have g1:(ins.length:Int)*8<=140737488355328/\(ins.length:Int)<=4611686018427387904:=by omega
 rw[ND (by simp)];simp[f51]at H⊢;simp[g1,H];cases AK:rounds (cU ins) (ins.length+1) (List.range ins.length) (List.replicate ins.length 0)<;>simp;trace_state
end
@[simp] def mH(ins:List Ins)(vars cells:Int):D:=.agg [.list (ins.map cA),.int .i64 vars,.int .i64 cells]
def qQ(A:Int->Nat)(U:kC 116 A)(ins:List Ins)(vars cells:Int)(H:ins.length<=5000):
 au ctx 26 [.d (mH ins vars cells)] []=some (.ret (.d (.bool (ja A ins vars cells))),[]):=by
 have E:=Fy A U ins vars cells 0 ins.length [] (bD (List.replicate ins.length false)) H;have g1:(ins.length:Int)<=140737488355328/\(ins.length:Int)<=4611686018427387904:=by omega
 rw[Nv (by simp)];unfold ja;cases I:dI A ins vars cells
 .simp[I]at E;simp[f26,g1];rw[k9 (by kernel_rfl)];simp[E]
 .have J:=xS I;obtain⟨M,O⟩:=Dq ins vars cells H (λx V h=>by
   obtain⟨i,hi,rfl⟩:=List.getElem_of_mem V;exact (J i _ (by simp[hi])).1 h)
  have T:=Dr ins vars cells M.length ins.length (bD M) (bD (fu ins)) H J;simp[I]at E O T;simp[f26,g1];rw[k9 (by kernel_rfl)];simp[E,O];cases W:c8 (fu ins) 0 ins []
  .simp
  .simp[T]
def FC(l:List D)(vars cells at_ n:Int):
 au ctx 90 [.d (.agg [.list l,.int .i64 vars,.int .i64 cells]),.d (.int .i64 at_),.d (.int .i64 n)] []=some (.ret (.d (.bool (decide (0<=at_)&&decide (at_<=8192)&&decide (IntKind.i64.wrap (at_+n)<=cells)))),[]):=by
 rw[NO (by simp)];simp[f90,bU]
def Dt(x:Ins):
 au ctx 58 [.d (cA x)] []=some (.ret (.bk [.d (.int .i64 (iX x).1),.d (.int .i64 (iX x).2.1),.d (.bool (iX x).2.2.1),.d (.bool (iX x).2.2.2)]),[]):=by
 rw[NG (by simp)];simp[f58,bU];grind (splits:=40) [iX]
def Du(A:Int->Nat)(I:kC 91 A)(ins:List Ins)(vars cells:Int)(i:Nat)(hi:i<ins.length)(O:ins.length<=5000):
 au ctx 57 [.d (mH ins vars cells),.d (.int .i64 i)] []=some (.ret (.d (.bool (jW A ins.length cells i ins[i]))),[]):=by
 obtain⟨l,E,H,T⟩:=I ins[i].b;rw[NF (by simp)];simp[f57,bU,hi,FC,E,H];generalize ins[i]=x at*;have w:∀y:Int, -9223372036854775808<=y->y<=9223372036854775807->IntKind.i64.wrap y=y:=λy J M=>jU ⟨J,M⟩;clear E H;simp only[Lo,GY];grind (splits:=60) [jW,iZ,nM]
end Go.Am
end
section
namespace Go.Am
open Go
set_option maxRecDepth 20000
set_option maxHeartbeats 4000000
def Qf:Nat->Nat
 |129=>141
 |138=>109
 |143=>94
 |146=>44
 |171=>169
 |173=>53
 |174=>137
 |195=>134
 |197=>135
 |205=>168
 |217=>129
 |218=>136
 |219=>130
 |221=>79
 |224=>148
 |225=>147
 |229=>45
 |243=>171
 |245=>152
 |246=>87
 |247=>151
 |260=>150
 |266=>146
 |267=>149
 |268=>108
 |279=>160
 |280=>161
 |281=>162
 |282=>163
 |283=>120
 |284=>121
 |285=>122
 |286=>123
 |287=>159
 |314=>158
 |316=>167
 |317=>140
 |318=>142
 |319=>143
 |320=>144
 |321=>165
 |322=>166
 |337=>154
 |338=>155
 |_=>0
def Qg:Nat->Nat
 |0=>0
 |2=>2
 |3=>3
 |4=>4
 |5=>5
 |9=>9
 |20=>20
 |21=>21
 |31=>43
 |37=>51
 |40=>100
 |46=>204
 |51=>201
 |53=>92
 |75=>74
 |80=>64
 |85=>195
 |105=>193
 |119=>182
 |127=>88
 |138=>226
 |139=>227
 |143=>242
 |145=>244
 |146=>223
 |152=>136
 |154=>138
 |167=>228
 |168=>231
 |171=>177
 |173=>180
 |175=>229
 |210=>240
 |212=>200
 |213=>202
 |232=>234
 |233=>235
 |_=>0
def Qh:Nat->Nat
 |1=>3
 |3=>4
 |4=>5
 |15=>8
 |16=>9
 |17=>1
 |18=>6
 |19=>7
 |_=>0
def FK:Go.Shelf.Ren:=⟨Qf,Qg,Qh⟩
def Jo:Go.Proofs.Lays.n146 Go.Proofs.Tryz.prog FK where
 mixed:=by kernel_rfl
 f138:=by kernel_rfl
 f143:=by kernel_rfl
 f146:=by kernel_rfl
 f195:=by kernel_rfl
 f197:=by kernel_rfl
 f217:=by kernel_rfl
 f218:=by kernel_rfl
 f219:=by kernel_rfl
 f221:=by kernel_rfl
 f224:=by kernel_rfl
 f225:=by kernel_rfl
 f260:=by kernel_rfl
 f266:=by kernel_rfl
 f267:=by kernel_rfl
 f268:=by kernel_rfl
 f314:=by kernel_rfl
 t0:=by kernel_rfl
 a0:=by intro w;kernel_rfl
 z0:=by intro w;kernel_rfl
 v0:=by intro w;kernel_rfl
 t3:=by kernel_rfl
 a3:=by intro w;kernel_rfl
 z3:=by intro w;kernel_rfl
 v3:=by intro w;kernel_rfl
 t4:=by kernel_rfl
 a4:=by intro w;kernel_rfl
 z4:=by intro w;kernel_rfl
 v4:=by intro w;kernel_rfl
 t5:=by kernel_rfl
 a5:=by intro w;kernel_rfl
 z5:=by intro w;kernel_rfl
 v5:=by intro w;kernel_rfl
 t9:=by kernel_rfl
 a9:=by intro w;kernel_rfl
 z9:=by intro w;kernel_rfl
 v9:=by intro w;kernel_rfl
 t21:=by kernel_rfl
 a21:=by intro w;kernel_rfl
 z21:=by intro w;kernel_rfl
 v21:=by intro w;kernel_rfl
 t31:=by kernel_rfl
 a31:=by intro w;kernel_rfl
 z31:=by intro w;kernel_rfl
 v31:=by intro w;kernel_rfl
 t46:=by kernel_rfl
 a46:=by intro w;kernel_rfl
 z46:=by intro w;kernel_rfl
 v46:=by intro w;kernel_rfl
 t51:=by kernel_rfl
 a51:=by intro w;kernel_rfl
 z51:=by intro w;kernel_rfl
 v51:=by intro w;kernel_rfl
 t105:=by kernel_rfl
 a105:=by intro w;kernel_rfl
 z105:=by intro w;kernel_rfl
 v105:=by intro w;kernel_rfl
 t119:=by kernel_rfl
 a119:=by intro w;kernel_rfl
 z119:=by intro w;kernel_rfl
 t138:=by kernel_rfl
 a138:=by intro w;kernel_rfl
 z138:=by intro w;kernel_rfl
 v138:=by intro w;kernel_rfl
 t139:=by kernel_rfl
 a139:=by intro w;kernel_rfl
 z139:=by intro w;kernel_rfl
 v139:=by intro w;kernel_rfl
 t146:=by kernel_rfl
 a146:=by intro w;kernel_rfl
 z146:=by intro w;kernel_rfl
 v146:=by intro w;kernel_rfl
 g1:=by kernel_rfl
 g3:=by kernel_rfl
 g4:=by kernel_rfl
def Jp:Go.Proofs.Lays.n229 Go.Proofs.Tryz.prog FK where
 mixed:=by kernel_rfl
 f229:=by kernel_rfl
 t0:=by kernel_rfl
 a0:=by intro w;kernel_rfl
 z0:=by intro w;kernel_rfl
 v0:=by intro w;kernel_rfl
 t3:=by kernel_rfl
 a3:=by intro w;kernel_rfl
 z3:=by intro w;kernel_rfl
 v3:=by intro w;kernel_rfl
 t4:=by kernel_rfl
 a4:=by intro w;kernel_rfl
 z4:=by intro w;kernel_rfl
 v4:=by intro w;kernel_rfl
 t9:=by kernel_rfl
 a9:=by intro w;kernel_rfl
 z9:=by intro w;kernel_rfl
 v9:=by intro w;kernel_rfl
 t21:=by kernel_rfl
 a21:=by intro w;kernel_rfl
 z21:=by intro w;kernel_rfl
 v21:=by intro w;kernel_rfl
 t31:=by kernel_rfl
 a31:=by intro w;kernel_rfl
 z31:=by intro w;kernel_rfl
 v31:=by intro w;kernel_rfl
 t40:=by kernel_rfl
 a40:=by intro w;kernel_rfl
 z40:=by intro w;kernel_rfl
 v40:=by intro w;kernel_rfl
 t152:=by kernel_rfl
 a152:=by intro w;kernel_rfl
 z152:=by intro w;kernel_rfl
 v152:=by intro w;kernel_rfl
 t154:=by kernel_rfl
 a154:=by intro w;kernel_rfl
 z154:=by intro w;kernel_rfl
 v154:=by intro w;kernel_rfl
def Hg:Go.Proofs.LaysM.n173 Go.Proofs.Tryz.prog FK where
 mixed:=by kernel_rfl
 f129:=by kernel_rfl
 f173:=by kernel_rfl
 f246:=by kernel_rfl
 f283:=by kernel_rfl
 f284:=by kernel_rfl
 f285:=by kernel_rfl
 f286:=by kernel_rfl
 f317:=by kernel_rfl
 f318:=by kernel_rfl
 f319:=by kernel_rfl
 f320:=by kernel_rfl
 f337:=by kernel_rfl
 f338:=by kernel_rfl
 t0:=by kernel_rfl
 a0:=by intro w;kernel_rfl
 z0:=by intro w;kernel_rfl
 v0:=by intro w;kernel_rfl
 t2:=by kernel_rfl
 a2:=by intro w;kernel_rfl
 z2:=by intro w;kernel_rfl
 v2:=by intro w;kernel_rfl
 t3:=by kernel_rfl
 a3:=by intro w;kernel_rfl
 z3:=by intro w;kernel_rfl
 v3:=by intro w;kernel_rfl
 t4:=by kernel_rfl
 a4:=by intro w;kernel_rfl
 z4:=by intro w;kernel_rfl
 v4:=by intro w;kernel_rfl
 t5:=by kernel_rfl
 a5:=by intro w;kernel_rfl
 z5:=by intro w;kernel_rfl
 v5:=by intro w;kernel_rfl
 t9:=by kernel_rfl
 a9:=by intro w;kernel_rfl
 z9:=by intro w;kernel_rfl
 v9:=by intro w;kernel_rfl
 t20:=by kernel_rfl
 a20:=by intro w;kernel_rfl
 z20:=by intro w;kernel_rfl
 v20:=by intro w;kernel_rfl
 t37:=by kernel_rfl
 a37:=by intro w;kernel_rfl
 z37:=by intro w;kernel_rfl
 v37:=by intro w;kernel_rfl
 t46:=by kernel_rfl
 a46:=by intro w;kernel_rfl
 z46:=by intro w;kernel_rfl
 v46:=by intro w;kernel_rfl
 t51:=by kernel_rfl
 a51:=by intro w;kernel_rfl
 z51:=by intro w;kernel_rfl
 v51:=by intro w;kernel_rfl
 t53:=by kernel_rfl
 a53:=by intro w;kernel_rfl
 z53:=by intro w;kernel_rfl
 v53:=by intro w;kernel_rfl
 t171:=by kernel_rfl
 a171:=by intro w;kernel_rfl
 z171:=by intro w;kernel_rfl
 v171:=by intro w;kernel_rfl
 t173:=by kernel_rfl
 a173:=by intro w;kernel_rfl
 z173:=by intro w;kernel_rfl
 v173:=by intro w;kernel_rfl
 t212:=by kernel_rfl
 a212:=by intro w;kernel_rfl
 z212:=by intro w;kernel_rfl
 v212:=by intro w;kernel_rfl
 t213:=by kernel_rfl
 a213:=by intro w;kernel_rfl
 z213:=by intro w;kernel_rfl
 t232:=by kernel_rfl
 a232:=by intro w;kernel_rfl
 z232:=by intro w;kernel_rfl
 v232:=by intro w;kernel_rfl
 t233:=by kernel_rfl
 a233:=by intro w;kernel_rfl
 z233:=by intro w;kernel_rfl
 v233:=by intro w;kernel_rfl
 g17:=by kernel_rfl
 g18:=by kernel_rfl
 g19:=by kernel_rfl
 i0:=by kernel_rfl
 i2:=by kernel_rfl
 i3:=by kernel_rfl
 i4:=by kernel_rfl
 i5:=by kernel_rfl
 i9:=by kernel_rfl
 i20:=by kernel_rfl
 i37:=by kernel_rfl
 i46:=by kernel_rfl
 i51:=by kernel_rfl
 i53:=by kernel_rfl
 i171:=by kernel_rfl
 i173:=by kernel_rfl
 i212:=by kernel_rfl
 i232:=by kernel_rfl
 i233:=by kernel_rfl
 m17:=by kernel_rfl
 m18:=by kernel_rfl
 m19:=by kernel_rfl
def uB:Go.Proofs.LaysC.n174 Go.Proofs.Tryz.prog FK where
 mixed:=by kernel_rfl
 f129:=by kernel_rfl
 f171:=by kernel_rfl
 f174:=by kernel_rfl
 f205:=by kernel_rfl
 f243:=by kernel_rfl
 f245:=by kernel_rfl
 f246:=by kernel_rfl
 f247:=by kernel_rfl
 f279:=by kernel_rfl
 f280:=by kernel_rfl
 f281:=by kernel_rfl
 f282:=by kernel_rfl
 f283:=by kernel_rfl
 f284:=by kernel_rfl
 f285:=by kernel_rfl
 f286:=by kernel_rfl
 f287:=by kernel_rfl
 f316:=by kernel_rfl
 f317:=by kernel_rfl
 f318:=by kernel_rfl
 f319:=by kernel_rfl
 f320:=by kernel_rfl
 f321:=by kernel_rfl
 f322:=by kernel_rfl
 f337:=by kernel_rfl
 f338:=by kernel_rfl
 t0:=by kernel_rfl
 a0:=by intro w;kernel_rfl
 z0:=by intro w;kernel_rfl
 v0:=by intro w;kernel_rfl
 t2:=by kernel_rfl
 a2:=by intro w;kernel_rfl
 z2:=by intro w;kernel_rfl
 v2:=by intro w;kernel_rfl
 t3:=by kernel_rfl
 a3:=by intro w;kernel_rfl
 z3:=by intro w;kernel_rfl
 v3:=by intro w;kernel_rfl
 t4:=by kernel_rfl
 a4:=by intro w;kernel_rfl
 z4:=by intro w;kernel_rfl
 v4:=by intro w;kernel_rfl
 t5:=by kernel_rfl
 a5:=by intro w;kernel_rfl
 z5:=by intro w;kernel_rfl
 v5:=by intro w;kernel_rfl
 t9:=by kernel_rfl
 a9:=by intro w;kernel_rfl
 z9:=by intro w;kernel_rfl
 v9:=by intro w;kernel_rfl
 t20:=by kernel_rfl
 a20:=by intro w;kernel_rfl
 z20:=by intro w;kernel_rfl
 v20:=by intro w;kernel_rfl
 t21:=by kernel_rfl
 a21:=by intro w;kernel_rfl
 z21:=by intro w;kernel_rfl
 v21:=by intro w;kernel_rfl
 t37:=by kernel_rfl
 a37:=by intro w;kernel_rfl
 z37:=by intro w;kernel_rfl
 v37:=by intro w;kernel_rfl
 t46:=by kernel_rfl
 a46:=by intro w;kernel_rfl
 z46:=by intro w;kernel_rfl
 v46:=by intro w;kernel_rfl
 t51:=by kernel_rfl
 a51:=by intro w;kernel_rfl
 z51:=by intro w;kernel_rfl
 v51:=by intro w;kernel_rfl
 t53:=by kernel_rfl
 a53:=by intro w;kernel_rfl
 z53:=by intro w;kernel_rfl
 v53:=by intro w;kernel_rfl
 t75:=by kernel_rfl
 a75:=by intro w;kernel_rfl
 z75:=by intro w;kernel_rfl
 v75:=by intro w;kernel_rfl
 t85:=by kernel_rfl
 a85:=by intro w;kernel_rfl
 z85:=by intro w;kernel_rfl
 v85:=by intro w;kernel_rfl
 t127:=by kernel_rfl
 a127:=by intro w;kernel_rfl
 z127:=by intro w;kernel_rfl
 v127:=by intro w;kernel_rfl
 t143:=by kernel_rfl
 a143:=by intro w;kernel_rfl
 z143:=by intro w;kernel_rfl
 v143:=by intro w;kernel_rfl
 t145:=by kernel_rfl
 a145:=by intro w;kernel_rfl
 z145:=by intro w;kernel_rfl
 v145:=by intro w;kernel_rfl
 t167:=by kernel_rfl
 a167:=by intro w;kernel_rfl
 z167:=by intro w;kernel_rfl
 v167:=by intro w;kernel_rfl
 t168:=by kernel_rfl
 a168:=by intro w;kernel_rfl
 z168:=by intro w;kernel_rfl
 v168:=by intro w;kernel_rfl
 t171:=by kernel_rfl
 a171:=by intro w;kernel_rfl
 z171:=by intro w;kernel_rfl
 v171:=by intro w;kernel_rfl
 t173:=by kernel_rfl
 a173:=by intro w;kernel_rfl
 z173:=by intro w;kernel_rfl
 v173:=by intro w;kernel_rfl
 t175:=by kernel_rfl
 a175:=by intro w;kernel_rfl
 z175:=by intro w;kernel_rfl
 v175:=by intro w;kernel_rfl
 t210:=by kernel_rfl
 a210:=by intro w;kernel_rfl
 z210:=by intro w;kernel_rfl
 v210:=by intro w;kernel_rfl
 t212:=by kernel_rfl
 a212:=by intro w;kernel_rfl
 z212:=by intro w;kernel_rfl
 v212:=by intro w;kernel_rfl
 t213:=by kernel_rfl
 a213:=by intro w;kernel_rfl
 z213:=by intro w;kernel_rfl
 t232:=by kernel_rfl
 a232:=by intro w;kernel_rfl
 z232:=by intro w;kernel_rfl
 v232:=by intro w;kernel_rfl
 t233:=by kernel_rfl
 a233:=by intro w;kernel_rfl
 z233:=by intro w;kernel_rfl
 v233:=by intro w;kernel_rfl
 g15:=by kernel_rfl
 g16:=by kernel_rfl
 g17:=by kernel_rfl
 g18:=by kernel_rfl
 g19:=by kernel_rfl
 t80:=by kernel_rfl
 a80:=by intro w;kernel_rfl
 z80:=by intro w;kernel_rfl
 v80:=by intro w;kernel_rfl
 i0:=by kernel_rfl
 i2:=by kernel_rfl
 i3:=by kernel_rfl
 i4:=by kernel_rfl
 i5:=by kernel_rfl
 i9:=by kernel_rfl
 i20:=by kernel_rfl
 i21:=by kernel_rfl
 i37:=by kernel_rfl
 i46:=by kernel_rfl
 i51:=by kernel_rfl
 i53:=by kernel_rfl
 i75:=by kernel_rfl
 i80:=by kernel_rfl
 i85:=by kernel_rfl
 i127:=by kernel_rfl
 i143:=by kernel_rfl
 i145:=by kernel_rfl
 i167:=by kernel_rfl
 i168:=by kernel_rfl
 i171:=by kernel_rfl
 i173:=by kernel_rfl
 i175:=by kernel_rfl
 i210:=by kernel_rfl
 i212:=by kernel_rfl
 i232:=by kernel_rfl
 i233:=by kernel_rfl
 m15:=by kernel_rfl
 m16:=by kernel_rfl
 m17:=by kernel_rfl
 m18:=by kernel_rfl
 m19:=by kernel_rfl
 c0:=by kernel_rfl
 c2:=by kernel_rfl
 c3:=by kernel_rfl
 c4:=by kernel_rfl
 c5:=by kernel_rfl
 c9:=by kernel_rfl
 c20:=by kernel_rfl
 c21:=by kernel_rfl
 c37:=by kernel_rfl
 c46:=by kernel_rfl
 c51:=by kernel_rfl
 c53:=by kernel_rfl
 c75:=by kernel_rfl
 c80:=by kernel_rfl
 c85:=by kernel_rfl
 c127:=by kernel_rfl
 c143:=by kernel_rfl
 c145:=by kernel_rfl
 c167:=by kernel_rfl
 c168:=by kernel_rfl
 c171:=by kernel_rfl
 c173:=by kernel_rfl
 c175:=by kernel_rfl
 c210:=by kernel_rfl
 c212:=by kernel_rfl
 c213:=by kernel_rfl
 c232:=by kernel_rfl
 c233:=by kernel_rfl
def Hh:Go.Proofs.LaysM.n171 Go.Proofs.Tryz.prog FK where
 mixed:=by kernel_rfl
 f129:=by kernel_rfl
 f171:=by kernel_rfl
 f243:=by kernel_rfl
 f246:=by kernel_rfl
 f283:=by kernel_rfl
 f284:=by kernel_rfl
 f285:=by kernel_rfl
 f286:=by kernel_rfl
 f317:=by kernel_rfl
 f318:=by kernel_rfl
 f319:=by kernel_rfl
 f320:=by kernel_rfl
 f337:=by kernel_rfl
 f338:=by kernel_rfl
 t0:=by kernel_rfl
 a0:=by intro w;kernel_rfl
 z0:=by intro w;kernel_rfl
 v0:=by intro w;kernel_rfl
 t2:=by kernel_rfl
 a2:=by intro w;kernel_rfl
 z2:=by intro w;kernel_rfl
 v2:=by intro w;kernel_rfl
 t3:=by kernel_rfl
 a3:=by intro w;kernel_rfl
 z3:=by intro w;kernel_rfl
 v3:=by intro w;kernel_rfl
 t4:=by kernel_rfl
 a4:=by intro w;kernel_rfl
 z4:=by intro w;kernel_rfl
 v4:=by intro w;kernel_rfl
 t5:=by kernel_rfl
 a5:=by intro w;kernel_rfl
 z5:=by intro w;kernel_rfl
 v5:=by intro w;kernel_rfl
 t9:=by kernel_rfl
 a9:=by intro w;kernel_rfl
 z9:=by intro w;kernel_rfl
 v9:=by intro w;kernel_rfl
 t20:=by kernel_rfl
 a20:=by intro w;kernel_rfl
 z20:=by intro w;kernel_rfl
 v20:=by intro w;kernel_rfl
 t37:=by kernel_rfl
 a37:=by intro w;kernel_rfl
 z37:=by intro w;kernel_rfl
 v37:=by intro w;kernel_rfl
 t46:=by kernel_rfl
 a46:=by intro w;kernel_rfl
 z46:=by intro w;kernel_rfl
 v46:=by intro w;kernel_rfl
 t51:=by kernel_rfl
 a51:=by intro w;kernel_rfl
 z51:=by intro w;kernel_rfl
 v51:=by intro w;kernel_rfl
 t53:=by kernel_rfl
 a53:=by intro w;kernel_rfl
 z53:=by intro w;kernel_rfl
 v53:=by intro w;kernel_rfl
 t171:=by kernel_rfl
 a171:=by intro w;kernel_rfl
 z171:=by intro w;kernel_rfl
 v171:=by intro w;kernel_rfl
 t173:=by kernel_rfl
 a173:=by intro w;kernel_rfl
 z173:=by intro w;kernel_rfl
 v173:=by intro w;kernel_rfl
 t212:=by kernel_rfl
 a212:=by intro w;kernel_rfl
 z212:=by intro w;kernel_rfl
 v212:=by intro w;kernel_rfl
 t213:=by kernel_rfl
 a213:=by intro w;kernel_rfl
 z213:=by intro w;kernel_rfl
 t232:=by kernel_rfl
 a232:=by intro w;kernel_rfl
 z232:=by intro w;kernel_rfl
 v232:=by intro w;kernel_rfl
 t233:=by kernel_rfl
 a233:=by intro w;kernel_rfl
 z233:=by intro w;kernel_rfl
 v233:=by intro w;kernel_rfl
 g17:=by kernel_rfl
 g18:=by kernel_rfl
 g19:=by kernel_rfl
 i0:=by kernel_rfl
 i2:=by kernel_rfl
 i3:=by kernel_rfl
 i4:=by kernel_rfl
 i5:=by kernel_rfl
 i9:=by kernel_rfl
 i20:=by kernel_rfl
 i37:=by kernel_rfl
 i46:=by kernel_rfl
 i51:=by kernel_rfl
 i53:=by kernel_rfl
 i171:=by kernel_rfl
 i173:=by kernel_rfl
 i212:=by kernel_rfl
 i232:=by kernel_rfl
 i233:=by kernel_rfl
 m17:=by kernel_rfl
 m18:=by kernel_rfl
 m19:=by kernel_rfl
end Go.Am
end
section
namespace Go.Am
open Go Go.Proofs
variable [Inhabited dx]
open Go.RowKit
set_option maxRecDepth 20000
def jo{P:Program}{g:FuncId}{fn:Func}(A3:P.funcs[g]?=some fn)(A':fn.body.isSome=true)(AE:(fn.name == "runtime.NumGoroutine")=false):dF P g=true:=by
 unfold dF;rw[A3];simp only[A',AE];rfl
def sW{w F s v}(h:ar w F (.str s) v):∃b:ByteArray,v=.string b/\b.data.toList=s:=by
 cases h with
 |str b s h=>exact⟨b,rfl,h⟩
def ld{w F k n v}(h:ar w F (.int k n) v):v=.int k n:=by cases h;rfl
def AA{Z:List D}{a b:D}{w F}{vs:Array Value}(E:Z=[a,b])(I:Z.length=vs.size)(H:∀(i:Nat) x v,Z[i]?=some x->vs[i]?=some v->ar w F x v):
 ∃x y,vs=#[x,y]/\ar w F a x/\ar w F b y:=by
 subst E;obtain⟨l⟩:=vs;match l,I with
 |[x,y],_=>exact⟨x,y,rfl,H 0 a x rfl rfl,H 1 b y rfl rfl⟩
def Jq{Z:List D}{a:D}{w F}{vs:Array Value}(E:Z=[a])(I:Z.length=vs.size)(H:∀(i:Nat) x v,Z[i]?=some x->vs[i]?=some v->ar w F x v):
 ∃x,vs=#[x]/\ar w F a x:=by
 subst E;obtain⟨l⟩:=vs;match l,I with
 |[x],_=>exact⟨x,rfl,H 0 a x rfl rfl⟩
def Jr{w:World}{F}(M:bY w F b7):∃m,w.cell? ⟨3,0,none⟩=some (.int .i64 m):=by
 obtain⟨_,_,A7,J,T⟩:=M (3,.int .i64 (id (α:=Int) (default:dx))) (by simp[b7]);generalize id (α:=Int) (default:dx)=z at J;obtain rfl:=ld J;exact⟨z,T 0 _ (by simp[Value.cells])⟩
def AB{w:World}{F}{g:Nat}(M:bY w F b7)(hm:(g,D.jb)∈b7):∃v,w.cell? ⟨g,0,none⟩=some v/\(v=.nilIface\/∃t p,v=.iface t p):=by
 obtain⟨_,_,A7,J,T⟩:=M _ hm;cases J with
 |jb _ h=>
  refine⟨A7,T 0 A7 ?_,h⟩;rcases h with rfl|⟨t,p,rfl⟩<;>rfl
def Hi:kA=Go.Lib.pow10Tab:=by decide
def FL{w:World}{F}(M:bY w F b7):Go.Lib.TabIs Tryz.prog w "internal/strconv.uint64pow10" .u64 Go.Lib.pow10Tab:=by
 obtain⟨⟨_,AH⟩,_,A7,J,T⟩:=M (1,.agg (kA.map λz=>.int .u64 z)) (by simp[b7]);obtain⟨cur,e,AY,hh,O⟩:=AH _ rfl;have AI:Tryz.prog.globalNamed "internal/strconv.uint64pow10" =some 1:=by kernel_rfl
 unfold Go.Lib.TabIs World.var?;rw[AI];simp only[Xz];rw[hh];simp only[WR];cases J with
 |agg cs a I A3 V=>
  rw[<-Hi];simp only[List.length_map]at I O;apply Array.ext
  .simp;omega
  .intro i AZ AJ;have hi:i<kA.length:=by simpa using AJ
   have A0:∃v,a[i]?=some v:=⟨a[i]'(by omega),by simp[show i<a.size by omega]⟩
   obtain⟨v,U⟩:=A0;have q1:=V i (.int .u64 kA[i]) v (by simp[hi]) U;obtain rfl:=ld q1;have q2:=T i _ (by simpa [Value.cells]using U);unfold World.cell? at q2;simp only[hh]at q2;have q3:cur[i]?=some (.int .u64 kA[i]):=by simpa using q2
   have AK:=(WU.1 q3).2;simp only[AK];simp
def xW{w:World}{F:Nat->Prop}(l:List ByteArray)(b cap:Nat)(A':b<w.heap.size)(AL:¬F b)(AM:l.length<=cap)
 (V:∀(i:Nat) s,l[i]?=some s->w.cell? ⟨b,i,none⟩=some (.string s)):ar w F (.list (l.map λs=>.str s.data.toList)) (.slice (some ⟨b,0,none⟩) l.length cap):=by
 have:=ar.list (w:=w) (F:=F) (l.map λs=>.str s.data.toList) b 0 cap 1 (λi=>.string (l[i]?.getD ⟨#[]⟩)) (by simpa using AM) A' AL (by simp[D.size]) (λi d E=>by
  simp only[WZ,WH]at E;obtain⟨s,O,rfl⟩:=E;rw[O];exact .str s _ rfl) (λi j c hi A5=>by
  have hi:i<l.length:=by simpa using hi
  cases j with
  |zero=>
   simp[Value.cells]at A5;subst A5;have:=V i l[i] (by simp[hi]);simpa [hi]using this
  |succ j=>simp[Value.cells]at A5)
 simpa using this
def Hj:jC ctx 44 (jB sk):=by
 refine jC.lift ⟨jo Tryz.func44 (by kernel_rfl) (by kernel_rfl),λZ d E F w vs M A4 I H=>?_⟩;unfold sk at E;split at E
 .split at E
  .rename_i O;obtain⟨x,y,rfl,J,T⟩:=AA rfl I H;obtain⟨a,rfl,rfl⟩:=sW J;obtain⟨b,rfl,rfl⟩:=sW T;obtain⟨m,hm⟩:=Jr M;refine (Any.strings_Split Jo (by kernel_rfl) a b m w (by simpa using O.1) hm (by simpa using O.2)).mono ?_;rintro e w' ⟨rfl,rfl⟩;cases E;refine⟨_,rfl,Below.alloc (Below.refl _ _) (Ds _) _,?_⟩;have A1:=Go.Lib.splitB_all b (by simpa using O.2) 0 _ a rfl;have AF:=Go.Lib.splitB_data b 0 (Go.Lib.countB a b) a;generalize A_:Go.Lib.splitB b 0 (Go.Lib.countB a b) a=L at A1 AF⊢;have he:(Go.Lib.split a.data.toList b.data.toList).map D.str=L.map λs=>.str s.data.toList:=by
    unfold Go.Lib.split;rw[show Go.Lib.count a.data.toList b.data.toList=Go.Lib.countB a b from rfl,<-AF];simp
   rw[he];rw[show Go.Lib.countB a b+1=L.length from A1.symm];refine xW L _ _ ?_ ?_ (Ds _) ?_
   .exact (WU.1 (heap_alloc_new w _)).1
   .intro A3;exact absurd (A4 _ A3) (by omega)
   .intro i s AN;simp only[World.cell?,heap_alloc_new];simp[AN]
  .cases E
 .cases E
def v7(w:World)(k:Nat)(os:Array Obj):Below w.heap.size w (Go.Sort.grow (w.drewN k) os):=
 ⟨rfl,rfl,rfl,by show w.heap.size<=(w.heap++os).size;rw[Array.size_append];omega,λj A5=>by show (w.heap++os)[j]?=_;exact Xm A5⟩
def NW:jC ctx 53 (jB E9):=by
 refine jC.lift ⟨jo Tryz.func53 (by kernel_rfl) (by kernel_rfl),λZ d E F w vs M A4 I H=>?_⟩;unfold E9 at E;split at E
 .split at E
  .rename_i O;obtain⟨rfl,AO,AP⟩:=O;obtain⟨x,y,rfl,J,T⟩:=AA rfl I H;obtain rfl:=ld J;obtain rfl:=ld T;refine (Any.strconv_FormatInt_10 Hg _ AO AP w (FL M)).mono ?_;rintro e w' ⟨rfl,k,os,rfl⟩;cases E;exact⟨_,rfl,v7 w k os,.str _ _ (by simp)⟩
  .cases E
 .cases E
def NX:jC ctx 169 (jB Fa):=by
 refine jC.lift ⟨jo Tryz.func169 (by kernel_rfl) (by kernel_rfl),λZ d E F w vs M A4 I H=>?_⟩;unfold Fa at E;split at E
 .split at E
  .rename_i O;obtain⟨x,rfl,J⟩:=Jq rfl I H;obtain rfl:=ld J;refine (Any.strconv_Itoa Hh _ O.1 O.2 w (FL M)).mono ?_;rintro e w' ⟨rfl,k,os,rfl⟩;cases E;exact⟨_,rfl,v7 w k os,.str _ _ (by simp)⟩
  .cases E
 .cases E
def Hk{A2:List AV}{a b c:AV}{φ w F}{vs:Array Value}(E:A2=[a,b,c])(I:A2.length=vs.size)(H:∀(i:Nat) x v,A2[i]?=some x->vs[i]?=some v->ai φ w F x v):
 ∃x y z,vs=#[x,y,z]/\ai φ w F a x/\ai φ w F b y/\ai φ w F c z:=by
 subst E;obtain⟨l⟩:=vs;match l,I with
 |[x,y,z],_=>exact⟨x,y,z,rfl,H 0 a x rfl rfl,H 1 b y rfl rfl,H 2 c z rfl rfl⟩
def Mv{A2:List AV}{a b:AV}{φ w F}{vs:Array Value}(E:A2=[a,b])(I:A2.length=vs.size)(H:∀(i:Nat) x v,A2[i]?=some x->vs[i]?=some v->ai φ w F x v):
 ∃x y,vs=#[x,y]/\ai φ w F a x/\ai φ w F b y:=by
 subst E;obtain⟨l⟩:=vs;match l,I with
 |[x,y],_=>exact⟨x,y,rfl,H 0 a x rfl rfl,H 1 b y rfl rfl⟩
def DA{φ w F x v}(h:ai φ w F (.d x) v):ar w F x v:=by cases h;assumption
def Hl{φ w F a b x y}(J:ai φ w F a x)(T:ai φ w F b y):ai φ w F (.bk [a,b]) (.tuple #[x,y]):=by
 refine .bk _ _ rfl λi c v V U=>?_;match i,V,U with
 |0,V,U=>simp at V U;subst V;subst U;exact J
 |1,V,U=>simp at V U;subst V;subst U;exact T
 |i+2,V,_=>simp at V
def NY:jC ctx 137 Fb:=by
 refine⟨jo Tryz.func137 (by kernel_rfl) (by kernel_rfl),λA2 a Y φ F w vs M A4 I H=>?_⟩;unfold Fb at Y;split at Y
 .split at Y
  .rename_i O;obtain⟨rfl,rfl,A1⟩:=O;obtain⟨x,y,z,rfl,J,T,AQ⟩:=Hk rfl I H;obtain⟨s,rfl,rfl⟩:=sW (DA J);obtain rfl:=ld (DA T);obtain rfl:=ld (DA AQ);have A1:s.size<=281474976710656:=by simpa using A1
   cases Y;unfold Oy;rcases A9:Go.Lib.parseIntB 64 s.data.toList with n|_|_
   .refine (Any.strconv_ParseInt_10_at64_ok uB s (by omega) n A9 w).mono ?_;rintro e w' ⟨rfl,hw⟩;refine⟨_,rfl,?_,Hl (.d _ _ (.int _ _)) (.lit _ rfl)⟩;rcases hw with rfl|⟨t,rfl⟩
    .exact Below.refl _ _
    .exact Go.Lib.bytesWorld_below _ _ _
   .obtain⟨AC,U,AD⟩:=AB (g:=8) M (by simp[b7]);refine (Any.strconv_ParseInt_10_at64_syntax uB s A1 A9 AC w U AD).mono ?_;rintro e w' ⟨N,rfl,_,_,A'⟩;exact⟨_,rfl,A',Hl (.d _ _ (.int _ _)) (.err _ _)⟩
   .obtain⟨AC,U,AD⟩:=AB (g:=9) M (by simp[b7]);refine (Any.strconv_ParseInt_10_at64_range uB s A1 A9 AC w U AD).mono ?_;rintro e w' ⟨N,rfl,_,_,A'⟩;exact⟨_,rfl,A',Hl (.d _ _ (.int _ _)) (.err _ _)⟩
  .cases Y
 .cases Y
def Bb(w:World):PredAt Tryz.prog 46 #[] encR (λr=>decide ((r:Int)=32)) w:=λW r _=>by
 unfold FnGives;go_enter Tryz.func46,Tryz.ntmps46
 go_wp2
 refine⟨rfl,_,results_tmp (t:=2) (by rw[Tryz.results46]) _ _ _,?_⟩;exact⟨rfl,0,rfl⟩
def Hm{w:World}{base:Nat}{e:TypeId}{A n cap:Nat}{xs:List Value}(h:w.ownsRow base e 1 (.slice (some ⟨A,0,none⟩) n cap) n xs):A<w.heap.size/\∀(i:Nat) x,xs[i]?=some x->w.cell? ⟨A,i,none⟩=some x:=by
 obtain⟨I,h⟩:=h;rcases h with ⟨h,_⟩|⟨g,Aa,cur,U,_,hh,AE,_,O,AR⟩
 .cases h
 .cases U;refine⟨(WU.1 hh).1,λi x A0=>?_⟩;rw[<-AR]at A0;rw[WM]at A0;split at A0
  .simp only[World.cell?,hh];simpa using A0
  .cases A0
def NZ:jC ctx 45 (Fc 46 32):=by
 refine⟨jo Tryz.func45 (by kernel_rfl) (by kernel_rfl),λA2 a Y φ F w vs M A4 I H=>?_⟩;unfold Fc at Y;split at Y
 .split at Y
  .rename_i O;obtain⟨rfl,A1⟩:=O;obtain⟨x,y,rfl,J,T⟩:=Mv rfl I H;obtain⟨s,rfl,rfl⟩:=sW (DA J);have AS:y=.func (.func 46) #[] #[]:=by
    generalize A6:AV.fn 46 []=q at T;cases T with
    |fn f cap a Ab AG AT=>
     simp only[AV.fn.injEq]at A6;obtain⟨rfl,rfl⟩:=A6;have:a=#[]:=by
      apply Array.eq_empty_of_size_eq_zero;simpa using AG.symm
     subst this;rfl
    |lA f cap a AG AT=>
     simp only[AV.fn.injEq]at A6;have e:Nat.add f 1000000=46:=A6.1.symm;simp only[Nat.add_eq]at e;exact absurd e (Nat.ne_of_gt (XA (by decide) (XM _ _)))
    |_=>cases A6
   subst AS;cases Y;refine (Any.strings_FieldsFunc Jp 46 #[] (enters_of Tryz.func46 (by kernel_rfl) rfl) (λr=>decide ((r:Int)=32)) s w (by simpa using A1) (Bb w) (by kernel_rfl) (by kernel_rfl)).mono ?_;rintro e w' ⟨A,rfl,Ac,AU,A'⟩;refine⟨_,rfl,A',.d _ _ ?_⟩;obtain⟨AW,V⟩:=Hm AU;have AX:(⟨s.data.toList.toArray⟩:ByteArray)=s:=by simp
   rw[AX];refine xW _ A _ AW (λA3=>absurd (A4 _ A3) (by omega)) (Ds _) (λi x A0=>V i _ (by simp[A0]))
  .cases Y
 .cases Y
def Js:∀g h,ctx.qK g=some h->jC ctx g h:=by
 intro g h M;have A8:G2 g=some h:=M;unfold G2 at A8;split at A8;all_goals first|(cases A8;first|exact Hj|exact NZ|exact NX|exact NW|exact NY)|cases A8
end Go.Am
end
