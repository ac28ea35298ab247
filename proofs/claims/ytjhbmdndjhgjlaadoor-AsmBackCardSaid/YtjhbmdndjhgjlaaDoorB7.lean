/-
  Texts of one proof, one behind the other.
-/
import Derived.Test.YtjhbmdndjhgjlaaDoorB1
import Derived.Test.YtjhbmdndjhgjlaaDoorB2
import Derived.Test.YtjhbmdndjhgjlaaDoorB3
import Derived.Test.YtjhbmdndjhgjlaaDoorB5
import Derived.Test.YtjhbmdndjhgjlaaDoorB6
set_option linter.all false
section
namespace Go.Am
open Go Go.Proofs Go.Proofs.Tryd
variable [Inhabited dI]
set_option maxRecDepth 20000
set_option maxHeartbeats 4000000
@[simp] def cU(x:Ins):D:=.agg [.int .i64 x.op,.int .i64 x.a,.int .i64 x.b,.int .i64 x.n,.int .i64 x.m]
@[simp] def cr(ins:List Ins)(vars cells:Int)(x y:AV):ay:=.box [.d (.list (ins.map cU)),.d (.int .i64 vars),.d (.int .i64 cells),x,y]
@[simp] def bD(l:List Bool):List D:=l.map .bool
section
variable (ins:List Ins) (vars cells:Int) (s1 Y I s2 Z J:Nat) (S T:List D)
theorem qX(at_ n:Int)(N:0<=cells/\cells<=8192)(q:bQ n):
 ar ctx 43 [.ptr 0 0 0,.d (.int .i64 at_),.d (.int .i64 n)] [cr ins vars cells (.vec 1 0 0 I) (.vec 2 0 0 J),.vec 1 S,.vec 1 T]=
  some (.ret (.d (.bool (eD cells at_ n))),[(0,cr ins vars cells (.vec 1 0 0 I) (.vec 2 0 0 J)),(0,.vec 1 S),(0,.vec 1 T)]):=by
 rw[OP (by simp)];unfold eD;by_cases A:0<=at_<;>by_cases E:0<=n<;>by_cases H:n<=cells<;>simp[f43,A,E,H];rw[(dE _)]
theorem GB(x:Ins)(N:0<=cells/\cells<=8192):
 ar ctx 44 [.ptr 0 0 0,.d (cU x)] [cr ins vars cells (.vec 1 0 0 I) (.vec 2 0 0 J),.vec 1 S,.vec 1 T]=
  some (.ret (.d (.bool (jY cells x))),[(0,cr ins vars cells (.vec 1 0 0 I) (.vec 2 0 0 J)),(0,.vec 1 S),(0,.vec 1 T)]):=by
 rw[OQ (by simp)];unfold jY;by_cases A:0<=x.n
 .by_cases E:x.n<=x.m
  .by_cases H:x.m<=255
   .have h:=qX ins vars cells I J S T x.a (x.m-x.n+1) N (by unfold bQ;omega);have U:=dE (x.m-x.n);have V:=dE (x.m-x.n+1);simp at h;simp[f44,A,E,H,U,V,h]
   .simp[f44,A,E,H]
  .simp[f44,A,E]
 .simp[f44,A]
theorem Ii(x:Ins):ar ctx 45 [.d (cU x)] []=some (.ret (.d (.bool (vt x))),[]):=by
 rw[OR (by simp)];unfold vt;by_cases M:x.a=0
 .by_cases A:x.b=6
  .simp[f45,M,A]
  .by_cases E:8<=x.b<;>simp[f45,M,A,E]
 .by_cases A:x.a=1
  .by_cases E:x.b=7
   .simp[f45,A,E]
   .by_cases H:x.b=13
    .simp[f45,A,H]
    .by_cases O:x.b=14
     .simp[f45,A,O]
     .by_cases W:19<=x.b<;>simp[f45,A,E,H,O,W]
  .simp[f45,M,A]
end
def tc(f:Nat)(E:Int->Nat):Prop:=∀b:Int,∃l:List D,ar ctx f [.d (.int .i64 b)] []=some (.ret (.d (.list l)),[])/\l.length=E b/\E b<=100
def Ij(E:Int->Nat)(AC:tc 46 E)(ins:List Ins)(vars cells:Int)(I J:Nat)(S T:List D)(at_:Int)(x:Ins)(O:0<=cells/\cells<=8192)(AE:ins.length<=5000):
 ar ctx 29 [.ptr 0 0 0,.d (.int .i64 at_),.d (cU x)] [cr ins vars cells (.vec 1 0 0 I) (.vec 2 0 0 J),.vec 1 S,.vec 1 T]=
  some (.ret (.d (.bool (cV E cells ((ins.length:Int)-1) at_ x))),[(0,cr ins vars cells (.vec 1 0 0 I) (.vec 2 0 0 J)),(0,.vec 1 S),(0,.vec 1 T)]):=by
 have M:=qX ins vars cells I J S T x.a 1 O (by unfold bQ;omega);have A:=dE ((ins.length:Int)-1);rw[OH (by simp)];unfold cV;simp at M;by_cases y:x.op=1
 .simp[f29,A,y]
 by_cases A':x.op=11
 .simp[f29,A,A']
 by_cases A0:x.op=2
 .simp[f29,A,A0,M]
 by_cases A1:x.op=3
 .simp[f29,A,A1,M]
 by_cases A2:x.op=6
 .simp[f29,A,A2,M]
 by_cases A3:x.op=14
 .simp[f29,A,A3,M]
 by_cases A4:x.op=13
 .have A5:=qX ins vars cells I J S T x.b 2 O (by unfold bQ;omega);simp at A5;cases AD:eD cells x.a 1<;>simp[f29,A,A4,M,A5,AD]
 have H:=GB ins vars cells I J S T x O;simp at H;by_cases U:x.op=4
 .simp[U]at H;simp[f29,A,U,H]
 by_cases V:x.op=5
 .simp[V]at H;simp[f29,A,V,H]
 by_cases W:x.op=7
 .simp[W]at H;simp[f29,A,W,H]
 by_cases Y:x.op=8
 .have A6:=Ii x;simp[Y]at A6;simp[f29,A,Y,A6]
 by_cases A7:x.op=9
 .by_cases N:0<=x.a<;>simp[f29,A,A7,N]
 by_cases A8:x.op=10
 .by_cases N:0<=x.a<;>simp[f29,A,A8,N]
 by_cases Z:x.op=12
 .obtain⟨l,A9,AA,AF⟩:=AC x.b;have q:=qX ins vars cells I J S T x.a (E x.b) O (by unfold bQ;omega);simp at q;by_cases N:0<E x.b
  .simp[f29,A,Z,N,A9,AA,q]
  .simp[f29,A,Z,N,A9,AA,q]
 by_cases AB:x.op=15
 .simp[f29,A,AB]
 .simp[f29,A,y,A0,A1,U,V,A2,W,Y,A7,A8,A',Z,A4,A3,AB]
def xU:tc 46 ew:=λb=>⟨_,Kf b,by simp[ew],YH (Gr b) (by decide)⟩
def xb(E:Int->Nat)(A':tc 46 E)(vars cells:Int)(H I:Nat)(S T:List D)(B:ay)(A5:0<=cells/\cells<=8192)(L:Int):∀(rest pre:List Ins)(v:Nat)(A0:ay),((pre++rest).length:Int)-1=L->(pre++rest).length<=5000->∀k:Kt,
 ∃W Y,bn ctx 18 (.loop (Code.at (codeOf f18) [1,1,1,1,0,1,0,0])) ⟨66,cB,[(0,true,.ptr 0 0 0),(53,true,.d (.list ((pre++rest).map cU))),(54,true,.d (.int .i64 (pre++rest).length)),(55,true,.d (.int .i64 pre.length))],
  [⟨0,0,cr (pre++rest) vars cells (.vec 1 0 0 H) (.vec 2 0 0 I)⟩,⟨1,0,.vec 1 S⟩,⟨2,0,.vec 1 T⟩,⟨250,1,B⟩,⟨400,v,A0⟩]⟩ k=
  if lG E cells L pre.length rest=true then
   k (.exit 0) ⟨66,cB,[(0,true,.ptr 0 0 0),(53,true,.d (.list ((pre++rest).map cU))),(54,true,.d (.int .i64 (pre++rest).length)),(55,true,.d (.int .i64 (pre++rest).length)),(56,true,.d (.bool false))],
   [⟨0,0,cr (pre++rest) vars cells (.vec 1 0 0 H) (.vec 2 0 0 I)⟩,⟨1,0,.vec 1 S⟩,⟨2,0,.vec 1 T⟩,⟨250,1,B⟩,⟨400,W,Y⟩]⟩
  else k .ret ⟨66,cB,[(2,true,.d (.bool false))],[⟨0,0,cr (pre++rest) vars cells (.vec 1 0 0 H) (.vec 2 0 0 I)⟩,⟨1,0,.vec 1 S⟩,⟨2,0,.vec 1 T⟩,⟨250,1,B⟩,⟨400,W,Y⟩]⟩
 |[],pre,v,A0,A3,O,k=>by
  refine⟨v,A0,?_⟩;rw[aN];simp[f18,lG]
 |x::rest,pre,v,A0,A3,O,k=>by
  have Z:=Ij E A' (pre++x::rest) vars cells H I S T pre.length x A5 O;rw[A3]at Z;have y:(pre.length:Int)<pre.length+(rest.length+1):=by omega
  have J:IntKind.i64.wrap ((pre.length:Int)+1)=pre.length+1:=jW (by unfold bQ;simp at O;omega);cases A1:cV E cells L pre.length x
  .refine⟨v+1,.box [.d (.int .i64 x.op),.d (.int .i64 x.a),.d (.int .i64 x.b),.d (.int .i64 x.n),.d (.int .i64 x.m)],?_⟩;rw[aN];simp[A1]at Z;simp[f18,lG,A1];simp[y,Z]
  .obtain⟨W,Y,ih⟩:=xb E A' vars cells H I S T B A5 L rest (pre++[x]) (v+1) (.box [.d (.int .i64 x.op),.d (.int .i64 x.a),.d (.int .i64 x.b),.d (.int .i64 x.n),.d (.int .i64 x.m)]) (by simpa using A3) (by simpa using O) k;refine⟨W,Y,?_⟩;rw[aN];simp[A1]at Z;simp[f18,lG,A1]at ih⊢;simp[y,J,Z,ih]
def GF(E:Int->Nat)(A':tc 46 E)(ins:List Ins)(vars cells:Int)(H I:Nat)(S T:List D)(O:ins.length<=5000):
 ar ctx 18 [.ptr 0 0 0] [cr ins vars cells (.vec 1 0 0 H) (.vec 2 0 0 I),.vec 1 S,.vec 1 T]=
  some (.ret (.d (.bool (iJ E ins vars cells))),[(0,cr ins vars cells (.vec 1 0 0 H) (.vec 2 0 0 I)),(0,.vec 1 S),(0,.vec 1 T)]):=by
 rw[OC (by simp)];unfold iJ vu;by_cases y:1<=(ins.length:Int)
 .have A6:¬((ins.length:Int)<1):=by omega
  obtain⟨A,last,rfl⟩:∃A last,ins=A++[last]:=⟨ins.dropLast,ins.getLast (by intro h;simp[h]at y),(Yz _).symm⟩;have A9:pe (A++[last])=last.op:=by simp[pe]
  rw[A9];have M:IntKind.i64.wrap ((A.length:Int)+1-1)=A.length:=by rw[jW (by unfold bQ;simp at O;omega)];omega
  simp at M;simp only[Xx,Yk,Yr]at O;by_cases J:(A.length:Int)+1<=4096;rotate_left
  .have N:(4096:Int)<(A.length:Int)+1:=by omega
   simp[f18,J,N,M]
  have N:¬((4096:Int)<(A.length:Int)+1):=by omega
  by_cases U:0<=cells;rotate_left
  .simp[f18,J,N,U,M]
  by_cases V:cells<=8192;rotate_left
  .simp[f18,J,N,U,V,M]
  by_cases A2:0<=vars;rotate_left
  .simp[f18,J,N,U,V,A2,M]
  by_cases A4:vars<=cells;rotate_left
  .simp[f18,J,N,U,V,A2,A4,M]
  by_cases A7:last.op=15;rotate_left
  .simp[f18,J,N,U,V,A2,A4,A7,M]
  have AA:(1:Int)<=(A.length:Int)+1:=by omega
  have A8:=λB=>xb E A' vars cells H I S T B ⟨U,V⟩ A.length (A++[last]) [] 0 .dead (by simp) (by simp;omega);simp[f18,J,N,U,V,A2,A4,A7,AA,M]at A8⊢;obtain⟨W,Y,AB⟩:=A8 _ _;rw[AB];split
  .rename_i q;simp[q]
  .rename_i q;simp[q]
 .have A6:(ins.length:Int)<1:=by omega
  simp[f18,A6,y]
section
variable (ins:List Ins) (vars cells:Int) (E:Nat) (T:List D)
theorem n3(t:Bool)(S:List Bool)(M:S.length<=5000):
 ar ctx 47 [.ptr 0 0 0,.d (.bool t)] [cr ins vars cells (.vec 1 0 0 S.length) (.vec 2 0 0 E),.vec 1 (bD S),.vec 1 T]=
  some (.ret (.d (.bool (decide (S.length<64)))),[(0,cr ins vars cells (.vec 1 1 0 (S.length+1)) (.vec 2 0 0 E)),(1,.vec 1 (bD (S++[t]))),(0,.vec 1 T)]):=by
 have g1:S.length+1<=140737488355328/\S.length<=4611686018427387903:=by omega
 have g2:((S.length:Int)+1<=64)=(S.length<64):=by simp;omega
 rw[OT (by simp)];simp[f47,g1,g2]
theorem tg(S:List D)(N:Nat):
 ar ctx 30 [.ptr 0 0 0] [cr ins vars cells (.vec 1 0 0 N) (.vec 2 0 0 E),.vec 1 S,.vec 1 T]=
  some (.ret (.d (.bool (decide (N=0)))),[(0,cr ins vars cells (.vec 1 0 0 N) (.vec 2 0 0 E)),(0,.vec 1 S),(0,.vec 1 T)]):=by
 rw[OI (by simp)];by_cases q:N=0<;>simp[f30,q]
theorem yR(n:Nat)(t:Bool)(A:List Bool)(U:A.length<=5000):∀(rest pre:List Bool),(pre++rest).length=n->n<=5000->∀k:Kt,
 bn ctx 48 (.loop (Code.at (codeOf f48) [1,1,0,1,0,0])) ⟨54,cB,[(0,true,.ptr 0 0 0),(1,true,.d (.int .i64 n)),(2,true,.d (.bool t)),(27,true,.vec 1 0 A.length n),(28,true,.d (.int .i64 n)),(29,true,.d (.int .i64 pre.length))],
  [⟨0,0,cr ins vars cells (.vec 1 0 0 (A++(pre++rest)).length) (.vec 2 0 0 E)⟩,⟨1,0,.vec 1 (bD (A++(pre++rest)))⟩,⟨2,0,.vec 1 T⟩]⟩ k=
  if (t&&rest.any (λb=>!b))=true then k .ret ⟨54,cB,[(6,true,.d (.bool false))],[⟨0,0,cr ins vars cells (.vec 1 0 0 (A++(pre++rest)).length) (.vec 2 0 0 E)⟩,⟨1,0,.vec 1 (bD (A++(pre++rest)))⟩,⟨2,0,.vec 1 T⟩]⟩
  else k (.exit 0) ⟨54,cB,[(0,true,.ptr 0 0 0),(1,true,.d (.int .i64 n)),(2,true,.d (.bool t)),(27,true,.vec 1 0 A.length n),(28,true,.d (.int .i64 n)),(29,true,.d (.int .i64 n)),(30,true,.d (.bool false))],
  [⟨0,0,cr ins vars cells (.vec 1 0 0 (A++(pre++rest)).length) (.vec 2 0 0 E)⟩,⟨1,0,.vec 1 (bD (A++(pre++rest)))⟩,⟨2,0,.vec 1 T⟩]⟩
 |[],pre,I,M,k=>by
  subst I;rw[aN];simp[f48]
 |x::rest,pre,I,M,k=>by
  have ih:=yR n t A U rest (pre++[x]) (by simpa using I) M k;have J:(pre.length:Int)<n:=by simp at I;omega
  have H:pre.length<n:=by omega
  have V:=dE ((pre.length:Int)+1);rw[aN];simp[f48]at ih⊢;cases t
  .simp[J,H,V]at ih⊢;exact ih
  .cases x
   .simp[J,H,V]
   .simp[J,H,V]at ih⊢;exact ih
theorem oH(n:Nat)(t:Bool)(S:List Bool)(M:S.length<=5000)(I:n<=5000):
 ar ctx 48 [.ptr 0 0 0,.d (.int .i64 n),.d (.bool t)] [cr ins vars cells (.vec 1 0 0 S.length) (.vec 2 0 0 E),.vec 1 (bD S),.vec 1 T]=
  match hY n t S with
  |some Y=>some (.ret (.d (.bool true)),[(0,cr ins vars cells (.vec 1 1 0 Y.length) (.vec 2 0 0 E)),(1,.vec 1 (bD Y)),(0,.vec 1 T)])
  |none=>some (.ret (.d (.bool false)),[(0,cr ins vars cells (.vec 1 1 0 S.length) (.vec 2 0 0 E)),(1,.vec 1 (bD S)),(0,.vec 1 T)]):=by
 rw[OU (by simp)];unfold hY;by_cases J:S.length<n
 .have H:(S.length:Int)<n:=by omega
  simp[f48,J,H]
 .have H:¬((S.length:Int)<n):=by omega
  obtain⟨A,B,rfl,Z⟩:∃A B,S=A++B/\B.length=n:=⟨S.take (S.length-n),S.drop (S.length-n),(Yn _ _).symm,by simp;omega⟩;have U:(A++B).length -n=A.length:=by simp;omega
  have O:IntKind.i64.wrap (((A++B).length:Int)-n)=A.length:=by rw[(dE _)];simp;omega
  have a:=yR ins vars cells E T n t A (by simp at M;omega) B [] (by simpa using Z) I;have y:A.length+B.length-A.length=n:=by omega
  have A':A.length+n-A.length=n:=by omega
  subst Z;rw[U];have W:¬((A.length:Int)+B.length<B.length):=by omega
  have c2:(A.length:Int)<=(A.length:Int)+B.length:=by omega
  have c3:((A.length:Int)+B.length).toNat -A.length=B.length:=by omega
  have c4:¬(A.length+B.length<B.length):=by omega
  simp at J H O;simp[f48]at a⊢;simp[O,W,c2,c3,c4];rw[lh (by kernel_rfl)];simp[W,c2,c3,c4,a];by_cases q:t=true/\false∈B
  .simp[q]
  .rw[Xq q,Xq q];simp[O,W,c2,c3,c4];rw[lh (by kernel_rfl)];simp[O]
end
section
variable (ins:List Ins) (vars cells:Int) (H:Nat) (T:List D)
def CN(x:Ins)(S:List Bool)(r:dR):Prop:=∃U:List Bool,r=some (.ret (.d (.bool (lI x S).isSome)),[(0,cr ins vars cells (.vec 1 1 0 U.length) (.vec 2 0 0 H)),(1,.vec 1 (bD U)),(0,.vec 1 T)])/\∀A8,lI x S=some A8->A8=U
theorem oI{n:Nat}{t:Bool}{S U:List Bool}(h:hY n t S=some U):U.length<=S.length:=by
 unfold hY at h;split at h
 .cases h
 .split at h
  .cases h
  .cases h;simp
theorem GG(x:Ins)(S:List Bool)(AF:S.length<=64):
 CN ins vars cells H T x S (ar ctx 31 [.ptr 0 0 0,.d (cU x)] [cr ins vars cells (.vec 1 0 0 S.length) (.vec 2 0 0 H),.vec 1 (bD S),.vec 1 T]):=by
 rw[OJ (by simp)];unfold CN lI;have V:=n3 ins vars cells H T true S (by omega);have A6:=n3 ins vars cells H T false S (by omega);have he:=tg ins vars cells H T (bD S) S.length;simp at V A6 he;by_cases W:x.op=1
 .refine⟨S++[decide (x.n=0)||decide (x.n=1)],?_,?_⟩
  .by_cases q:x.n=0
   .simp[f31,W,q,V,cE];split<;>simp[*]
   .by_cases q1:x.n=1
    .simp[f31,W,q1,V,cE];split<;>simp[*]
    .simp[f31,W,q,q1,A6,cE];split<;>simp[*]
  .simp[W,cE]
 by_cases A1:x.op=2
 .refine⟨S++[false],?_,?_⟩
  .simp[f31,A1,A6,cE];split<;>simp[*]
  .simp[A1,cE]
 by_cases A2:x.op=3
 .refine⟨S++[true],?_,?_⟩
  .simp[f31,A2,V,cE];split<;>simp[*]
  .simp[A2,cE]
 by_cases A3:x.op=13
 .refine⟨S++[true],?_,?_⟩
  .simp[f31,A3,V,cE];split<;>simp[*]
  .simp[A3,cE]
 by_cases A4:x.op=14
 .refine⟨S++[true],?_,?_⟩
  .simp[f31,A4,V,cE];split<;>simp[*]
  .simp[A4,cE]
 have I:=oH ins vars cells H T 1 false S (by omega) (by omega);by_cases Y:x.op=4
 .cases q:hY 1 false S with
  |none=>
   simp[q]at I;refine⟨S,?_,?_⟩
   .simp[f31,Y,I,q]
   .simp[Y,q]
  |some S1=>
   have A9:=oI q;have M:=n3 ins vars cells H T false S1 (by omega);simp[q]at I;simp at M;refine⟨S1++[false],?_,?_⟩
   .simp[f31,Y,I,M,q,cE];split<;>simp[*]
   .simp[Y,q,cE]
 by_cases Z:x.op=5
 .cases q:hY 1 false S with
  |none=>
   simp[q]at I;refine⟨S,?_,?_⟩
   .simp[f31,Z,I,q]
   .simp[Z,q]
  |some S1=>
   have A9:=oI q;have M:=n3 ins vars cells H T true S1 (by omega);simp[q]at I;simp at M;refine⟨S1++[true],?_,?_⟩
   .simp[f31,Z,I,M,q,cE];split<;>simp[*]
   .simp[Z,q,cE]
 by_cases y:x.op=6
 .cases q:hY 1 false S with
  |none=>
   simp[q]at I;refine⟨S,?_,?_⟩
   .simp[f31,y,I,q]
   .simp[y,q]
  |some S1=>
   simp[q]at I;refine⟨S1,?_,?_⟩
   .simp[f31,y,I,q]
   .simp[y,q]
 by_cases A':x.op=7
 .have A:=oH ins vars cells H T 2 false S (by omega) (by omega);cases q:hY 2 false S with
  |none=>
   simp[q]at A;refine⟨S,?_,?_⟩
   .simp[f31,A',A,q]
   .simp[A',q]
  |some S1=>
   simp[q]at A;refine⟨S1,?_,?_⟩
   .simp[f31,A',A,q]
   .simp[A',q]
 by_cases A0:x.op=10
 .have A:=oH ins vars cells H T 1 true S (by omega) (by omega);cases q:hY 1 true S with
  |none=>
   simp[q]at A;refine⟨S,?_,?_⟩
   .simp[f31,A0,A,q]
   .simp[A0,q]
  |some S1=>
   have AA:=tg ins vars cells H T (bD S1) S1.length;simp at AA;simp[q]at A;refine⟨S1,?_,?_⟩
   .simp[f31,A0,A,q,lH,AA];split<;>simp[*]
   .simp[A0,q,lH]
 by_cases J:x.op=8
 .obtain⟨n,A5⟩:∃n:Nat,n=(if x.b=6\/x.b=7 then 1 else 2):=⟨_,rfl⟩;obtain⟨g,A7⟩:∃g,g=(decide (x.b=7)||decide (13<=x.b)):=⟨_,rfl⟩;have AG:n<=2:=by rw[A5];split<;>omega
  have A:=oH ins vars cells H T n (decide (x.a=1)) S (by omega) (by omega);rw[<-A5,<-A7];have AB:(x.b=6/\n=1/\g=false)\/(x.b=7/\n=1/\g=true)\/(x.b≠6/\x.b≠7/\¬13<=x.b/\n=2/\g=false)\/(x.b≠6/\x.b≠7/\13<=x.b/\n=2/\g=true):=by
   rw[A5,A7];by_cases AC:x.b=6
   .simp[AC]
   .by_cases AD:x.b=7
    .simp[AD]
    .by_cases AE:13<=x.b<;>simp[AC,AD,AE]
  clear A5 A7;cases q:hY n (decide (x.a=1)) S with
  |none=>
   simp[q]at A;refine⟨S,?_,?_⟩
   .rcases AB with ⟨E,rfl,rfl⟩|⟨E,rfl,rfl⟩|⟨E,N,O,rfl,rfl⟩|⟨E,N,O,rfl,rfl⟩
    .simp at A;simp[f31,J,E,A,q]
    .simp at A;simp[f31,J,E,A,q]
    .simp at A;simp[f31,J,E,N,O,A,q]
    .simp at A;simp[f31,J,E,N,O,A,q]
   .simp[J,q]
  |some S1=>
   have A9:=oI q;have M:=n3 ins vars cells H T g S1 (by omega);simp[q]at A;simp at M;refine⟨S1++[g],?_,?_⟩
   .rcases AB with ⟨E,rfl,rfl⟩|⟨E,rfl,rfl⟩|⟨E,N,O,rfl,rfl⟩|⟨E,N,O,rfl,rfl⟩
    .simp at A;simp[f31,J,E,A,M,q,cE];split<;>simp[*]
    .simp at A;simp[f31,J,E,A,M,q,cE];split<;>simp[*]
    .simp at A;simp[f31,J,E,N,O,A,M,q,cE];split<;>simp[*]
    .simp at A;simp[f31,J,E,N,O,A,M,q,cE];split<;>simp[*]
   .simp[J,q,cE]
 .refine⟨S,?_,?_⟩
  .simp[f31,W,A1,A2,Y,Z,y,A',J,A0,A3,A4,lH,he];split<;>simp[*]
  .simp[W,A1,A2,Y,Z,y,A',J,A0,A3,A4,lH]
end
def eP(l:List Bool)(x:Ins):List Bool:=if x.op=9\/x.op=10 then l.set x.a.toNat true else l
def pd(l:List Bool)(x:Ins):(eP l x).length=l.length:=by unfold eP;split<;>simp
def GH(l:List Bool)(i:Nat)(b:Bool):(bD l).set i (.bool b)=bD (l.set i b):=by simp[bD,List.map_set]
def xc{x:Ins}{S A:List Bool}(I:S.length<=64)(h:lI x S=some A):A.length<=64:=by
 have g:∀{t S A},cE t S=some A->A.length<=64:=by
  intro t S A h;unfold cE at h;split at h
  .cases h;simp;omega
  .cases h
 have e:∀{S A},lH S=some A->A.length<=64:=by
  intro S A h;unfold lH at h;split at h
  .cases h;simp
  .cases h
 have tk:∀{n t A},hY n t S=some A->A.length<=64:=λh=>YH (oI h) I;unfold lI at h;repeat' split at h
 all_goals first
  |exact g h
  |exact e h
  |exact tk h
  |(obtain⟨y,_,E⟩:=X5.1 h;exact g E)
  |(obtain⟨y,_,E⟩:=X5.1 h;exact e E)
section
variable (ins:List Ins) (vars cells:Int)
theorem BB(B:ay):∀(rest pre:List Ins)(T:List Bool)(v:Nat)(A1:ay),(pre++rest).length<=5000->(∀x∈rest,x.op=9\/x.op=10->0<=x.a/\x.a<T.length)->∀k:Kt,
 ∃N O,bn ctx 19 (.loop (Code.at (codeOf f19) [1,0,1,0,0])) ⟨63,cB,[(0,true,.ptr 0 0 0),(11,true,.d (.list ((pre++rest).map cU))),(12,true,.d (.int .i64 (pre++rest).length)),(13,true,.d (.int .i64 pre.length))],
  [⟨0,0,cr ins vars cells (.vec 1 0 0 0) (.vec 2 0 0 T.length)⟩,⟨1,0,.vec 1 []⟩,⟨2,0,.vec 1 (bD T)⟩,⟨300,v,A1⟩,⟨400,0,B⟩]⟩ k=
  k (.exit 0) ⟨63,cB,[(0,true,.ptr 0 0 0),(11,true,.d (.list ((pre++rest).map cU))),(12,true,.d (.int .i64 (pre++rest).length)),(13,true,.d (.int .i64 (pre++rest).length)),(14,true,.d (.bool false))],
   [⟨0,0,cr ins vars cells (.vec 1 0 0 0) (.vec 2 0 0 T.length)⟩,⟨1,0,.vec 1 []⟩,⟨2,0,.vec 1 (bD (rest.foldl eP T))⟩,⟨300,N,O⟩,⟨400,0,B⟩]⟩
 |[],pre,T,v,A1,I,A2,k=>by
  refine⟨v,A1,?_⟩;rw[aN];simp[f19]
 |x::rest,pre,T,v,A1,I,A2,k=>by
  obtain⟨N,O,ih⟩:=BB B rest (pre++[x]) (eP T x) (v+1) (.box [.d (.int .i64 x.op),.d (.int .i64 x.a),.d (.int .i64 x.b),.d (.int .i64 x.n),.d (.int .i64 x.m)]) (by simpa using I) (λy AD h=>by rw[pd];exact A2 y (by simp[AD]) h) k;refine⟨N,O,?_⟩;have H:(pre.length:Int)<pre.length+(rest.length+1):=by omega
  have E:IntKind.i64.wrap ((pre.length:Int)+1)=pre.length+1:=jW (by unfold bQ;simp at I;omega);rw[pd]at ih;rw[aN];by_cases A':x.op=9
  .obtain⟨A3,a2⟩:=A2 x (by simp) (.inl A');have a3:x.a.toNat<T.length:=by omega
   have e:eP T x=T.set x.a.toNat true:=by simp[eP,A']
   rw[e,<-GH]at ih;simp[f19,A']at ih⊢;simp[H,E,A3,a3];rw[lh (by kernel_rfl)];simp[E,e,ih]
  .by_cases A0:x.op=10
   .obtain⟨A3,a2⟩:=A2 x (by simp) (.inr A0);have a3:x.a.toNat<T.length:=by omega
    have e:eP T x=T.set x.a.toNat true:=by simp[eP,A0]
    rw[e,<-GH]at ih;simp[f19,A0]at ih⊢;simp[H,E,A3,a3];rw[lh (by kernel_rfl)];simp[E,e,ih]
   .have e:eP T x=T:=by simp[eP,A',A0]
    rw[e]at ih;simp[f19,A',A0]at ih⊢;simp[H,E,e,ih]
theorem vo(L:List Bool):∀(rest pre:List Ins)(S:List Bool)(v v1:Nat)(B:ay),(pre++rest).length=L.length->L.length<=5000->S.length<=64->∀(C:ay)(U:Nat)(k:Kt),
 ∃N W O A,bn ctx 19 (.loop (Code.at (codeOf f19) [1,1,0,1,0,0])) ⟨63,cB,[(0,true,.ptr 0 0 0),(37,true,.d (.list ((pre++rest).map cU))),(38,true,.d (.int .i64 (pre++rest).length)),(39,true,.d (.int .i64 pre.length))],
  [⟨0,0,cr ins vars cells (.vec 1 v1 0 S.length) (.vec 2 0 0 L.length)⟩,⟨1,v1,.vec 1 (bD S)⟩,⟨2,0,.vec 1 (bD L)⟩,⟨300,U,C⟩,⟨400,v,B⟩]⟩ k=
  if dp L pre.length rest S=true then
   k (.exit 2) ⟨63,cB,[(0,true,.ptr 0 0 0),(37,true,.d (.list ((pre++rest).map cU))),(38,true,.d (.int .i64 (pre++rest).length)),(39,true,.d (.int .i64 (pre++rest).length)),(40,true,.d (.bool false))],
    [⟨0,0,cr ins vars cells (.vec 1 W 0 (A:List Bool).length) (.vec 2 0 0 L.length)⟩,⟨1,W,.vec 1 (bD A)⟩,⟨2,0,.vec 1 (bD L)⟩,⟨300,U,C⟩,⟨400,N,O⟩]⟩
  else k .ret ⟨63,cB,[(2,true,.d (.bool false))],[⟨0,0,cr ins vars cells (.vec 1 W 0 A.length) (.vec 2 0 0 L.length)⟩,⟨1,W,.vec 1 (bD A)⟩,⟨2,0,.vec 1 (bD L)⟩,⟨300,U,C⟩,⟨400,N,O⟩]⟩
 |[],pre,S,v,v1,B,I,A6,A4,C,U,k=>by
  refine⟨v,v1,B,S,?_⟩;rw[aN];simp[f19,dp]
 |x::rest,pre,S,v,v1,B,I,A6,A4,C,U,k=>by
  have H:(pre.length:Int)<pre.length+(rest.length+1):=by omega
  have E:IntKind.i64.wrap ((pre.length:Int)+1)=pre.length+1:=jW (by unfold bQ;simp at I;omega);have q:pre.length<L.length:=by simp at I;omega
  obtain⟨A9,hm,AA⟩:=GG ins vars cells L.length (bD L) x S A4;have he:=tg ins vars cells L.length (bD L) (bD S) S.length;have A7:(L.getD pre.length false)=L[pre.length]:=by simp[q]
  cases Y:L[pre.length]
  .cases J:lI x S with
   |none=>
    refine⟨v+1,v1+1,.box [.d (.int .i64 x.op),.d (.int .i64 x.a),.d (.int .i64 x.b),.d (.int .i64 x.n),.d (.int .i64 x.m)],A9,?_⟩;rw[aN];have V:dp L pre.length (x::rest) S=false:=by simp[dp,A7,Y,J]
    rw[V];simp[J]at hm;simp[f19,H,q,Y,hm]
   |some Z=>
    have A8:=xc A4 J;obtain rfl:=AA Z J;obtain⟨N,W,O,A,ih⟩:=vo L rest (pre++[x]) Z (v+1) (v1+1) (.box [.d (.int .i64 x.op),.d (.int .i64 x.a),.d (.int .i64 x.b),.d (.int .i64 x.n),.d (.int .i64 x.m)]) (by simpa using I) A6 A8 C U k;refine⟨N,W,O,A,?_⟩;have V:dp L pre.length (x::rest) S=dp L (pre++[x]).length rest Z:=by rw[dp,A7,Y];simp[J]
    rw[V,aN];simp[J]at hm;simp[f19]at ih⊢;simp[H,E,q,Y,hm,ih]
  .cases S with
   |nil=>
    simp at he;cases J:lI x []with
    |none=>
     refine⟨v+1,v1+1,.box [.d (.int .i64 x.op),.d (.int .i64 x.a),.d (.int .i64 x.b),.d (.int .i64 x.n),.d (.int .i64 x.m)],A9,?_⟩;rw[aN];have V:dp L pre.length (x::rest) []=false:=by simp[dp,J]
     rw[V];simp[J]at hm;simp[f19,H,q,Y,hm,he]
    |some Z=>
     have A8:=xc A4 J;obtain rfl:=AA Z J;obtain⟨N,W,O,A,ih⟩:=vo L rest (pre++[x]) Z (v+1) (v1+1) (.box [.d (.int .i64 x.op),.d (.int .i64 x.a),.d (.int .i64 x.b),.d (.int .i64 x.n),.d (.int .i64 x.m)]) (by simpa using I) A6 A8 C U k;refine⟨N,W,O,A,?_⟩;have V:dp L pre.length (x::rest) []=dp L (pre++[x]).length rest Z:=by simp[dp,J]
     rw[V,aN];simp[J]at hm;simp[f19]at ih⊢;simp[H,E,q,Y,hm,he,ih]
   |cons y S=>
    refine⟨v+1,v1,.box [.d (.int .i64 x.op),.d (.int .i64 x.a),.d (.int .i64 x.b),.d (.int .i64 x.n),.d (.int .i64 x.m)],y::S,?_⟩;have V:dp L pre.length (x::rest) (y::S)=false:=by rw[dp,A7,Y];simp
    rw[V,aN];simp at he;simp[f19,H,q,Y,he]
theorem Eu(I:ins.length<=5000)(AE:∀x∈ins,x.op=9\/x.op=10->0<=x.a/\x.a<ins.length):
 ∃A,ar ctx 19 [.ptr 0 0 0] [cr ins vars cells (.vec 1 0 0 0) (.vec 2 0 0 ins.length),.vec 1 [],.vec 1 (bD (List.replicate ins.length false))]=
  some (.ret (.d (.bool (dp (ll ins) 0 ins []))),[(0,cr ins vars cells (.vec 1 1 0 (A:List Bool).length) (.vec 2 1 0 ins.length)),(1,.vec 1 (bD A)),(1,.vec 1 (bD (ll ins)))]):=by
 have A5:(ll ins).length=ins.length:=by
  have:∀(l:List Ins)(T:List Bool),(l.foldl eP T).length=T.length:=by
   intro l;induction l with
   |nil=>intro T;rfl
   |cons x l ih=>intro T;simp only[List.foldl_cons];rw[ih,pd]
  rw[show ll ins=ins.foldl eP (List.replicate ins.length false)from rfl,this];simp
 have H:=λB=>BB ins vars cells B ins [] (List.replicate ins.length false) 0 .dead I (by simpa using AE);rw[show ins.foldl eP (List.replicate ins.length false)=ll ins from rfl]at H;have E:=λC U=>vo ins vars cells (ll ins) ins [] [] 0 0 .dead (by simp[A5]) (by omega) (by simp) C U;generalize ll ins=L at A5 H E;generalize M:ar ctx 19 _ _=r;rw[OD (by simp)]at M;simp[f19,A5]at H E M;obtain⟨f1,H⟩:=XP (H .dead);obtain⟨f2,H⟩:=XP H;rw[H]at M;clear H;generalize f1 _=a at M;generalize f2 _=b at M;simp at M;replace E:=E b a;obtain⟨g1,E⟩:=XP E;obtain⟨g2,E⟩:=XP E;obtain⟨g3,E⟩:=XP E;obtain⟨g4,E⟩:=XP E;rw[E]at M;clear E;generalize g1 _=A3 at M;generalize g2 _=a2 at M;generalize g3 _=a3 at M;generalize g4 _=A at M;refine⟨A,?_⟩;rw[<-M];have AB:ins.length<=L.length:=by omega
 have AC:List.take ins.length (List.map D.bool L)=List.map D.bool L:=by rw[<-A5];simp
 cases AF:dp L 0 ins []
 .simp[AB,AC]
 .simp[AB,AC]
end
def oJ(succ:Nat->List Nat):∀f:Nat,
 (∀at_ A,(jc succ f at_ A).2.length=A.length/\fresh (jc succ f at_ A).2<=fresh A)/\(∀l A,(gQ succ f l A).2.length=A.length/\fresh (gQ succ f l A).2<=fresh A)
 |0=>by
  have A6:∀at_ A,(jc succ 0 at_ A).2.length=A.length/\fresh (jc succ 0 at_ A).2<=fresh A:=λat_ A=>by unfold jc;exact⟨rfl,Ds _⟩
  refine⟨A6,λl A=>?_⟩;cases l with
  |nil=>unfold gQ;exact⟨rfl,Ds _⟩
  |cons n r=>unfold gQ jc;exact⟨rfl,Ds _⟩
 |f+1=>by
  have A0:∀at_ A,(jc succ (f+1) at_ A).2.length=A.length/\fresh (jc succ (f+1) at_ A).2<=fresh A:=by
   intro at_ A;unfold jc;split
   .exact⟨rfl,Ds _⟩
   .have h:=(oJ succ f).2 (succ at_) (A.set at_ 1);have O:=rK (l:=A) (i:=at_) (v:=1) (by decide);obtain⟨s,b,he⟩:∃s b,gQ succ f (succ at_) (A.set at_ 1)=(b,s):=⟨_,_,rfl⟩;rw[he]at h⊢;simp only[List.length_set]at h;cases b with
    |true=>exact⟨h.1,by simp only;omega⟩
    |false=>
     have E:=rK (l:=s) (i:=at_) (v:=2) (by decide);exact⟨by simp only[List.length_set];exact h.1,by simp only;omega⟩
  refine⟨A0,λl=>?_⟩;induction l with
  |nil=>intro A;unfold gQ;exact⟨rfl,Ds _⟩
  |cons n r ih=>
   intro A;unfold gQ;have h:=A0 n A;obtain⟨s,b,he⟩:∃s b,jc succ (f+1) n A=(b,s):=⟨_,_,rfl⟩;rw[he]at h⊢;cases b with
   |true=>exact h
   |false=>
    have E:=ih s;simp only at h;exact⟨by simp only;rw[E.1,h.1],by simp only;omega⟩
@[simp] def iD(l:List Nat):List D:=l.map λ(n:Nat)=>D.int .i64 (n:Int)
def kE(i:Nat)(x:Ins):List Nat:=if x.op=9 then [x.a.toNat]else if x.op=10 then [i+1,x.a.toNat]else if x.op=15 then []else [i+1]
def GI(i:Nat)(x:Ins)(hi:i<5000)(A1:x.op=9\/x.op=10->0<=x.a):ar ctx 49 [.d (.int .i64 i),.d (cU x)] []=some (.ret (.d (.list (iD (kE i x)))),[]):=by
 have w:=dE ((i:Int)+1);rw[OV (by simp)];unfold kE;by_cases W:x.op=9
 .have h:=A1 (.inl W);have E:max x.a 0=x.a:=by omega
  simp[f49,W,E]
 by_cases Y:x.op=10
 .have h:=A1 (.inr Y);have E:max x.a 0=x.a:=by omega
  simp[f49,Y,w,E,List.range']
 by_cases A2:x.op=15
 .simp[f49,A2]
 .simp[f49,W,Y,A2,w]
section
variable (ins:List Ins) (vars cells:Int) (H I:Nat) (S T:List D)
def CO(f:Nat):Prop:=∀(at_:Nat)(A:List Nat),fresh A<f->at_<ins.length->A.length=ins.length->
 ar ctx 32 [.ptr 0 0 0,.d (.int .i64 at_),.vec 1 0 0 ins.length] [cr ins vars cells (.vec 2 0 0 H) (.vec 3 0 0 I),.vec 1 (iD A),.vec 1 S,.vec 1 T]=
  some (.ret (.d (.bool (jc (dq ins) f at_ A).1)),[(0,cr ins vars cells (.vec 2 0 0 H) (.vec 3 0 0 I)),(0,.vec 1 (iD (jc (dq ins) f at_ A).2)),(0,.vec 1 S),(0,.vec 1 T)])
theorem qY(A3:ins.length<=5000)(f at_:Nat)(Z:CO ins vars cells H I S T f):∀(rest pre:List Nat)(A:List Nat),fresh A<f->(pre++rest).length<5000->(∀n∈rest,n<ins.length)->A.length=ins.length->∀k:Kt,
 bn ctx 32 (.loop (Code.at (codeOf f32) [1,1,1,0,1,0,1,0,0])) ⟨67,cB,[(0,true,.ptr 0 0 0),(1,true,.d (.int .i64 at_)),(2,true,.vec 1 0 0 ins.length),(41,true,.d (.list (iD (pre++rest)))),(42,true,.d (.int .i64 (pre++rest).length)),(43,true,.d (.int .i64 pre.length))],
  [⟨0,0,cr ins vars cells (.vec 2 0 0 H) (.vec 3 0 0 I)⟩,⟨1,0,.vec 1 (iD A)⟩,⟨2,0,.vec 1 S⟩,⟨3,0,.vec 1 T⟩]⟩ k=
  if (gQ (dq ins) f (rest.filter λj=>!eQ ins j) A).1=true then
   k .ret ⟨67,cB,[(6,true,.d (.bool true))],[⟨0,0,cr ins vars cells (.vec 2 0 0 H) (.vec 3 0 0 I)⟩,⟨1,0,.vec 1 (iD (gQ (dq ins) f (rest.filter λj=>!eQ ins j) A).2)⟩,⟨2,0,.vec 1 S⟩,⟨3,0,.vec 1 T⟩]⟩
  else k (.exit 0) ⟨67,cB,[(0,true,.ptr 0 0 0),(1,true,.d (.int .i64 at_)),(2,true,.vec 1 0 0 ins.length),(41,true,.d (.list (iD (pre++rest)))),(42,true,.d (.int .i64 (pre++rest).length)),(43,true,.d (.int .i64 (pre++rest).length)),(44,true,.d (.bool false))],
   [⟨0,0,cr ins vars cells (.vec 2 0 0 H) (.vec 3 0 0 I)⟩,⟨1,0,.vec 1 (iD (gQ (dq ins) f (rest.filter λj=>!eQ ins j) A).2)⟩,⟨2,0,.vec 1 S⟩,⟨3,0,.vec 1 T⟩]⟩
 |[],pre,A,q,U,V,y,k=>by
  rw[aN];simp[f32,gQ]
 |n::rest,pre,A,q,U,V,y,k=>by
  have J:=V n (by simp);have A4:ins[n]?=some ins[n]:=by simp[J]
  have O:(pre.length:Int)<pre.length+(rest.length+1):=by omega
  have E:IntKind.i64.wrap ((pre.length:Int)+1)=pre.length+1:=jW (by unfold bQ;simp at U;omega);by_cases M:ins[n].op=11
  .have A':eQ ins n=true:=by simp[eQ,A4,M]
   have ih:=qY A3 f at_ Z rest (pre++[n]) A q (by simpa using U) (λm hm=>V m (by simp[hm])) y k;rw[aN];simp[f32,A']at ih⊢;simp[O,E,J,M,ih]
  .have A':eQ ins n=false:=by simp[eQ,A4,M]
   have N:=Z n A q J y;have A5:=(oJ (dq ins) f).1 n A;have e:gQ (dq ins) f ((n::rest).filter λj=>!eQ ins j) A=if (jc (dq ins) f n A).1=true then (true,(jc (dq ins) f n A).2)else gQ (dq ins) f (rest.filter λj=>!eQ ins j) (jc (dq ins) f n A).2:=by
    rw[List.filter_cons,A'];simp only[Bool.not_false,Yh];rw[gQ];obtain⟨s,b,he⟩:∃s b,jc (dq ins) f n A=(b,s):=⟨_,_,rfl⟩;rw[he];cases b<;>rfl
   rw[e];obtain⟨s,b,he⟩:∃s b,jc (dq ins) f n A=(b,s):=⟨_,_,rfl⟩;rw[he]at N A5⊢;simp only at A5;rw[aN];cases b
   .have ih:=qY A3 f at_ Z rest (pre++[n]) s (by omega) (by simpa using U) (λm hm=>V m (by simp[hm])) (by omega) k;simp[f32]at ih N⊢;simp[O,E,J,M,N,ih]
   .simp at N;simp[f32];simp[O,E,J,M,N]
end
def th(ins:List Ins):Prop:=∀i x,ins[i]?=some x->(x.op=9\/x.op=10->0<=x.a/\x.a<(ins.length:Int))/\(x.op≠9->x.op≠15->i+1<ins.length)
def GJ{AE:Int->Nat}{ins:List Ins}{vars cells:Int}(h:iJ AE ins vars cells=true):th ins:=by
 intro i x Z;simp only[iJ,Xl]at h;have y:=rL h.2 i _ Z;have hi:i<ins.length:=(D1.1 Z).1;simp only[X8]at y;have AF:i+1=ins.length->x.op=15:=by
  intro H;have A':=h.1;simp only[vu,Xl,XK]at A';have A7:=A'.2;unfold pe at A7;rw[List.getLast?_eq_getElem?,show ins.length-1=i by omega,Z]at A7;simpa using A7
 refine⟨λE=>?_,λA0 A8=>?_⟩
 .unfold cV at y;rcases E with E|E<;>simp[E]at y<;>omega
 .have:i+1≠ins.length:=λh=>A8 (AF h);omega
section
variable (ins:List Ins) (vars cells:Int) (J M:Nat) (S T:List D)
theorem GK(i:Nat)(x:Ins):(kE i x).length<=2:=by
 unfold kE;repeat' split
 all_goals simp
theorem Kh(I:th ins){i:Nat}(hi:i<ins.length):∀j∈kE i ins[i],j<ins.length:=by
 have h:=I i ins[i] (by simp[hi]);intro j E;unfold kE at E;split at E
 .rename_i A0;have:=h.1 (.inl A0);simp at E;omega
 .rename_i A0;split at E
  .rename_i AG;have:=h.1 (.inr AG);have:=h.2 A0 (by omega);simp at E;omega
  .split at E
   .simp at E
   .rename_i A8;have:=h.2 A0 A8;simp at E;omega
theorem Im{i:Nat}(hi:i<ins.length):dq ins i=if ins[i].op=11 then []else (kE i ins[i]).filter λj=>!eQ ins j:=by
 have Z:ins[i]?=some ins[i]:=by simp[hi]
 unfold dq IF eQ IE kE;rw[Z];simp only[XK];split<;>rfl
theorem yT(N:ins.length<=5000)(I:th ins):∀f,CO ins vars cells J M S T f
 |0=>λat_ A y _ _=>by omega
 |f+1=>by
  intro at_ A y O A9;have W:at_<A.length:=by omega
  have AA:A.getD at_ 0=A[at_]:=by simp[W]
  rw[OK (by simp)];unfold jc;rw[AA];by_cases U:A[at_]=0
  .rw[Xq (by simp[U])];have AH:=ED (l:=A) (i:=at_) (v:=1) (by rw[AA];exact U) W (by decide);have AI:(iD A).set at_ (.int .i64 1)=iD (A.set at_ 1):=by simp[iD,List.map_set]
   rw[Im ins O];by_cases A1:ins[at_].op=11
   .rw[Xz A1];have AB:((iD A).set at_ (.int .i64 1)).set at_ (.int .i64 2)=iD ((A.set at_ 1).set at_ 2):=by simp[iD,List.map_set]
    simp at AB;simp[f32,W,O,U,A1,gQ,AB]
   .rw[Xq A1];have Y:=GI at_ ins[at_] (by omega) (λh=>((I at_ _ (by simp[O])).1 h).1);have V:=qY ins vars cells J M S T N f at_ (yT N I f) (kE at_ ins[at_]) [] (A.set at_ 1) (by omega) (by have:=GK at_ ins[at_];simp;omega) (Kh ins I O) (by simp;omega);simp only[Yy,Yr]at V;rw[<-AI]at V;have A2:=(oJ (dq ins) f).2 ((kE at_ ins[at_]).filter λj=>!eQ ins j) (A.set at_ 1);obtain⟨s,b,he⟩:∃s b,gQ (dq ins) f ((kE at_ ins[at_]).filter λj=>!eQ ins j) (A.set at_ 1)=(b,s):=⟨_,_,rfl⟩;rw[he]at V A2⊢;have AC:(iD s).set at_ (.int .i64 2)=iD (s.set at_ 2):=by simp[iD,List.map_set]
    simp only[List.length_set]at A2;have AJ:at_<s.length:=by omega
    simp at AC;cases b
    .simp[f32]at Y V⊢;simp[W,O,U,A1,Y,V,AJ,AC]
    .simp[f32]at Y V⊢;simp[W,O,U,A1,Y,V]
  .rw[Xz U];simp[f32,W,O,U];generalize A[at_]=z;by_cases q:z=1
   .subst q;rfl
   .have q2:¬((z:Int)=1):=by omega
    simp[q,q2]
theorem uK(N:ins.length<=5000)(I:th ins):∀(rest pre:List Nat)(A:List Nat),pre++rest=List.range ins.length->A.length=ins.length->∀(v:Nat)(k:Kt),
 ∃A3 A6,bn ctx 20 (.loop (Code.at (codeOf f20) [1,1,0,1,0,0])) ⟨26,cB,[(0,true,.ptr 0 0 0),(3,true,.vec 650 v 0 ins.length),(17,true,.d (.int .i64 ins.length)),(18,true,.d (.int .i64 pre.length))],
  [⟨0,0,cr ins vars cells (.vec 1 0 0 J) (.vec 2 0 0 M)⟩,⟨1,0,.vec 1 S⟩,⟨2,0,.vec 1 T⟩,⟨650,v,.vec 1 (iD A)⟩]⟩ k=
  if rounds (dq ins) (ins.length+1) rest A=true then
   k .ret ⟨26,cB,[(2,true,.d (.bool true))],[⟨0,0,cr ins vars cells (.vec 1 0 0 J) (.vec 2 0 0 M)⟩,⟨1,0,.vec 1 S⟩,⟨2,0,.vec 1 T⟩,⟨650,A3,.vec 1 (iD A6)⟩]⟩
  else k (.exit 0) ⟨26,cB,[(0,true,.ptr 0 0 0),(3,true,.vec 650 A3 0 ins.length),(17,true,.d (.int .i64 ins.length)),(18,true,.d (.int .i64 ins.length)),(19,true,.d (.bool false))],
   [⟨0,0,cr ins vars cells (.vec 1 0 0 J) (.vec 2 0 0 M)⟩,⟨1,0,.vec 1 S⟩,⟨2,0,.vec 1 T⟩,⟨650,A3,.vec 1 (iD A6)⟩]⟩
 |[],pre,A,A4,A9,v,k=>by
  refine⟨v,A,?_⟩;have AD:pre.length=ins.length:=by simpa using XR List.length A4
  rw[aN];simp[f20,rounds,AD]
 |n::rest,pre,A,A4,A9,v,k=>by
  have AD:pre.length+(rest.length+1)=ins.length:=by simpa using XR List.length A4
  have Y:n=pre.length:=by
   have:=XR (λl=>l[pre.length]?) A4;simp at this;rw[List.getElem?_range (by omega)]at this;simpa using this
  have H:pre.length<ins.length:=by omega
  have A':=dE ((pre.length:Int)+1);have AH:fresh A<=A.length:=List.countP_le_length;have A5:=yT ins vars cells J M S T N I (ins.length+1) pre.length A (by omega) (by omega) A9;have A2:=((oJ (dq ins) (ins.length+1)).1 pre.length A).1;subst Y;rw[rounds];obtain⟨s,b,he⟩:∃s b,jc (dq ins) (ins.length+1) pre.length A=(b,s):=⟨_,_,rfl⟩;rw[he]at A5 A2⊢;simp only at A2;cases b
  .obtain⟨A3,A6,ih⟩:=uK N I rest (pre++[pre.length]) s (by simpa using A4) (by omega) v k;refine⟨A3,A6,?_⟩;rw[aN];simp[f20]at ih A5⊢;simp[H,A',A5,ih]
  .refine⟨v,s,?_⟩;rw[aN];simp at A5;simp[f20];simp[H,A',A5]
theorem Ew(N:ins.length<=5000)(I:th ins):
 ar ctx 20 [.ptr 0 0 0] [cr ins vars cells (.vec 1 0 0 J) (.vec 2 0 0 M),.vec 1 S,.vec 1 T]=
  some (.ret (.d (.bool (rounds (dq ins) (ins.length+1) (List.range ins.length) (List.replicate ins.length 0)))),[(0,cr ins vars cells (.vec 1 0 0 J) (.vec 2 0 0 M)),(0,.vec 1 S),(0,.vec 1 T)]):=by
 have H:=uK ins vars cells J M S T N I (List.range ins.length) [] (List.replicate ins.length 0) rfl (by simp) 1;obtain⟨f1,H⟩:=XP H;obtain⟨f2,H⟩:=XP H;have g1:(ins.length:Int)*8<=140737488355328/\(ins.length:Int)<=4611686018427387904:=by omega
 rw[OE (by simp)];simp[f20]at H⊢;simp[g1,H];cases AK:rounds (dq ins) (ins.length+1) (List.range ins.length) (List.replicate ins.length 0)<;>simp;trace_state
end
@[simp] def kF(ins:List Ins)(vars cells:Int):D:=.agg [.list (ins.map cU),.int .i64 vars,.int .i64 cells]
def mw(A:Int->Nat)(T:tc 46 A)(ins:List Ins)(vars cells:Int)(H:ins.length<=5000):
 ar ctx 8 [.d (kF ins vars cells)] []=some (.ret (.d (.bool (fx A ins vars cells))),[]):=by
 have E:=GF A T ins vars cells 0 ins.length [] (bD (List.replicate ins.length false)) H;have g1:(ins.length:Int)<=140737488355328/\(ins.length:Int)<=4611686018427387904:=by omega
 rw[Rb (by simp)];unfold fx;cases I:iJ A ins vars cells
 .simp[I]at E;simp[f8,g1];rw[lh (by kernel_rfl)];simp[E]
 .have J:=GJ I;obtain⟨M,N⟩:=Eu ins vars cells H (λx U h=>by
   obtain⟨i,hi,rfl⟩:=List.getElem_of_mem U;exact (J i _ (by simp[hi])).1 h)
  have O:=Ew ins vars cells M.length ins.length (bD M) (bD (ll ins)) H J;simp[I]at E N O;simp[f8,g1];rw[lh (by kernel_rfl)];simp[E,N];cases V:dp (ll ins) 0 ins []
  .simp
  .simp[O]
def CV(x y:Ins):x=y↔x.op=y.op/\x.a=y.a/\x.b=y.b/\x.n=y.n/\x.m=y.m:=by
 constructor
 .rintro rfl;simp
 .intro h;cases x;cases y;simp_all
instance:DecidableEq Ins:=λx y=>decidable_of_iff _ (CV x y).symm
def xm(a b:List Ins)(D E H I:Int)(Z:a.length<=1000000)(A:a.length=b.length)(k:Kt)(N O:dR)
 (T:∀M,k .ret ⟨45,cB,[(4,true,.d (.bool false))],M⟩=N) (U:∀(Y:Env) M,k (.exit 0) ⟨45,cB,Y,M⟩=O):∀(V J:List Ins)(i:Nat),a.drop i=V->b.drop i=J->i+V.length=a.length->
 bn ctx 7 (.loop (Code.at (codeOf f7) [1,1,0,1,0,0])) ⟨45,cB,[(2,true,.ptr 200 1 0),(3,true,.ptr 250 1 0),(5,true,.d (.int .i64 i))],
  [⟨200,1,.box [.d (.list (a.map cU)),.d (.int .i64 D),.d (.int .i64 E)]⟩,⟨250,1,.box [.d (.list (b.map cU)),.d (.int .i64 H),.d (.int .i64 I)]⟩]⟩ k=if V=J then O else N
 |[],J,i,q,A',hi=>by
  have hi:i=a.length:=by simpa using hi
  subst hi;have:J=[]:=by rw[<-A',A];simp
  subst this;rw[aN];simp[f7,U]
 |x::V,J,i,q,A',hi=>by
  have A1:i<a.length:=by simp at hi;omega
  have A4:(i:Int)<a.length:=by omega
  have A2:i<b.length:=by omega
  have A5:(i:Int)<b.length:=by omega
  have A6:a[i]=x:=by
   have:=XR (·[0]?) q;simp at this;simpa [A1]using this
  obtain⟨y,A3⟩:∃y,y=b[i]:=⟨_,rfl⟩;have A7:J=y::b.drop (i+1):=by rw[<-A',A3];exact List.drop_eq_getElem_cons A2
  have ih:=xm a b D E H I Z A k N O T U V (b.drop (i+1)) (i+1) (by rw[<-List.tail_drop,q];rfl) rfl (by simp at hi;omega);have A8:=dE ((i:Int)+1);rw[A7,aN];simp[f7]at ih;simp[f7];simp[A1,A4,A2,A5,A6,<-A3,A8,ih,T,eA];have he:=CV x y;clear ih T U;by_cases q0:x.op=y.op<;>by_cases q1:x.a=y.a<;>by_cases q2:x.b=y.b<;>by_cases q3:x.n=y.n<;>by_cases A9:x.m=y.m<;>simp[q0,q1,q2,q3,A9]at he⊢<;>simp[he]
def yY(a b:List Ins)(D E H I:Int)(Z:a.length<=1000000):ar ctx 7 [.d (kF a D E),.d (kF b H I)] []=some (.ret (.d (.bool (decide (a=b)&&decide (D=H)&&decide (E=I)))),[]):=by
 rw[Ra (by simp)];by_cases A:a.length=b.length
 .have h:=λk N O T U=>xm a b D E H I Z A k N O T U a b 0 rfl rfl (by simp);simp[f7]at h;by_cases W:D=H
  .by_cases A0:E=I
   .simp[f7,A,W,A0];rw[W,A0]at h;rw[h _ (some (.ret (.d (.bool false)),[])) (some (.ret (.d (.bool true)),[])) (by simp) (by simp)];by_cases e:a=b<;>simp[e]
   .simp[f7,A,W,A0]
  .simp[f7,A,W]
 .have AA:¬((a.length:Int)=b.length):=by omega
  have AB:a≠b:=λh=>A (by rw[h]);simp[f7,AA,AB,A]
end Go.Am
end
