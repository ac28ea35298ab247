/-
  Texts of one proof, one behind the other.
-/
import Derived.Test.YtogaccfhfhdfpaaGreatDoorC1
import Derived.Test.YtogaccfhfhdfpaaGreatDoorC2
import Derived.Test.YtogaccfhfhdfpaaGreatDoorC3
import Derived.Test.YtogaccfhfhdfpaaGreatDoorC4
import Derived.Test.YtogaccfhfhdfpaaGreatDoorC5
import Derived.Test.YtogaccfhfhdfpaaGreatDoorC6
import Derived.Test.YtogaccfhfhdfpaaGreatDoorC7
import Derived.Test.YtogaccfhfhdfpaaGreatDoorC8
import Derived.Test.YtogaccfhfhdfpaaGreatDoorC9
set_option linter.all false
section
namespace Go.Am
open Go
set_option maxRecDepth 100000
set_option maxHeartbeats 8000000
def OV(l:List Ex):(iu l).length=l.length:=by rw[vU];simp
def Aw(x:Ex):eH (bJ x)=b8 (z8 x)+1:=by rw[L5];rfl
mutual
def OW:∀x:Ex,eH (bJ x)<100000000->Au x
 | .mk op n name field sub line,h=>by
  simp only[bJ,eH,b8]at h;have E:=oF (iu sub);rw[OV]at E;simp only[Au];exact⟨⟨by omega,by omega,by omega⟩,JS sub (by omega)⟩
def JS:∀l:List Ex,b8 (iu l)<100000000->rP l
 |[],_=>by simp only[rP]
 |x::r,h=>by
  simp only[iu,b8]at h;simp only[rP];exact⟨OW x (by omega),JS r (by omega)⟩
end
def BJ{α:Type}(f:α->D)(l:List α):l.length<=b8 (l.map f):=by
 have:=oF (l.map f);simpa using this
def aa8(l:List Int):l.length<=eH (mQ l):=by
 have:=BJ (λn=>D.int .i64 n) l;simp only[mQ,eH];omega
def Zt(l:List (List Sm)):(nN l).length=l.length:=by rw[EA];simp
def GD(l:List Sm):(nO l).length=l.length:=by rw[Aa];simp
mutual
def aid:∀x:Sm,eH (bZ x)<100000000->xw x/\RL x<=eH (bZ x)
 | .mk op name to val conds J fields blocks line,h=>by
  simp only[bZ,eH,b8,sY]at h⊢;have U:=Aw to;have V:=Aw val;have E:=oF (iu conds);rw[OV]at E;have Z:=BJ mQ J;have y:=BJ D.str fields;have M:=oF (nN blocks);rw[Zt]at M;have N:=RR blocks (by omega);simp only[xw,RL];refine⟨⟨⟨OW to (by omega),OW val (by omega),⟨by omega,JS conds (by omega)⟩,⟨by omega,λl O=>?_⟩,by omega,by omega⟩,N.1⟩,by omega⟩;have A':=Oe (abb (f:=mQ) O);have A0:=aa8 l;omega
def JT:∀l:List Sm,b8 (nO l)<100000000->mJ l/\uU l<=b8 (nO l)
 |[],_=>by simp only[mJ,uU];exact⟨trivial,amO _⟩
 |x::r,h=>by
  simp only[nO,b8]at h⊢;have H:=aid x (by omega);have E:=JT r (by omega);simp only[mJ,uU];exact⟨⟨H.1,E.1⟩,by omega⟩
def RR:∀l:List (List Sm),b8 (nN l)<100000000->mI l/\zy l<=b8 (nN l)
 |[],_=>by simp only[mI,zy];exact⟨trivial,amO _⟩
 |b::r,h=>by
  simp only[nN,b8,eH]at h⊢;have I:=oF (nO b);rw[GD]at I;have H:=JT b (by omega);have E:=RR r (by omega);simp only[mI,zy];exact⟨⟨⟨by omega,H.1⟩,E.1⟩,by omega⟩
end
def GF{p:Pg}(h:eH (.agg [.str p.name,.list (p.vars.map bx),.list (p.body.map bZ)])<50000000):p.body.length<100000000/\mJ p.body/\uU p.body<50000000:=by
 simp only[eH,b8]at h;rw[<-Aa]at h;have I:=oF (nO p.body);rw[GD]at I;have H:=JT p.body (by omega);exact⟨by omega,H.1,by omega⟩
end Go.Am
end
section
namespace Go.Am
open Go Go.Proofs Go.Proofs.Tryz
variable [Inhabited bP]
set_option maxRecDepth 100000
set_option maxHeartbeats 8000000
def jt:List Vr->Int->List Int
 |[],_=>[]
 |v::r,n=>n::jt r (n+bR v)
def nf:List Vr->List Int
 |[]=>[]
 |v::r=>(if v.arr=false/\v.ty<=2 then [v.init]else List.replicate (bR v).toNat 0)++nf r
@[simp] def aiD(v1 v2 v3:Nat)(E:aE)(S:List Int)(n:Int)(F:List Int):List cL:=[⟨250,1,.box [.vec 251 v1 0 S.length,.d (.int .i64 n),.vec 252 v2 0 F.length]⟩,⟨251,v1,.vec 1 (S.map du)⟩,⟨252,v2,.vec 1 (F.map du)⟩,⟨350,v3,E⟩]
def Pq(l:List Vr)(V:l.length<=1000)(I:∀v∈l,cJ v=true)(B C:cL)(J:B.key=150)(M:C.key=200)(k:Kt)(Q:List Int->Int->List Int->bU->Prop)
 (U:∀(Y:Env) S n F v1 v2 v3 E,Q S n F (k (.exit 0) ⟨51,aC,(2,true,.ptr 200 1 0)::(3,true,.ptr 250 1 0)::Y,B::C::aiD v1 v2 v3 E S n F⟩)):∀(rest pre:List Vr)(S:List Int)(n:Int)(F:List Int)(v1 v2 v3:Nat)(E:aE),l=pre++rest->0<=n->n<=1000*pre.length->S.length=pre.length->(F.length:Int)=n->
 Q (S++jt rest n) (n+bH rest) (F++nf rest) (aK ctx 28 (.loop (Code.at (aU f28) [1,1,0,1,0,0])) ⟨51,aC,[(2,true,.ptr 200 1 0),(3,true,.ptr 250 1 0),(8,true,.d (.list (l.map bx))),(9,true,.d (.int .i64 l.length)),(10,true,.d (.int .i64 pre.length))],B::C::aiD v1 v2 v3 E S n F⟩ k)
 |[],pre,S,n,F,v1,v2,v3,E,H,AA,AB,A2,A3=>by
  have AC:pre.length=l.length:=by rw[H];simp
  have:=U [(8,true,.d (.list (l.map bx))),(9,true,.d (.int .i64 l.length)),(10,true,.d (.int .i64 l.length)),(11,true,.d (.bool false))] S n F v1 v2 v3 E;simp[jt,bH,nf]at this⊢;rw[AC,ag];simp[f28,this]
 |w::rest,pre,S,n,F,v1,v2,v3,E,H,AA,AB,A2,A3=>by
  have A4:pre.length<l.length:=by rw[H];simp
  have A5:l[pre.length]=w:=by simp[H]
  have N:=OI (I w (by rw[H];simp));have AD:=ku (I w (by rw[H];simp));have ih:=λF' h v1 v2 v3 E=>Pq l V I B C J M k Q U rest (pre++[w]) (S++[n]) (n+bR w) F' v1 v2 v3 E (by simp[H]) (by omega) (by simp;omega) (by simp[A2]) h;have A6:=bu ((pre.length:Int)+1);have Z:=bu (n+bR w);have A7:S.length<=4611686018427387903:=by omega
  have A8:(S.length+1)*8<=140737488355328:=by omega
  rw[ag];simp only[jt,bH,nf];rw[<-Int.add_assoc];by_cases O:w.arr=false/\w.ty<=2
  .have y:bR w=1:=by unfold bR;rw[aaf (by simp[O.1]),aaf (by omega)]
   rw[y]at N ih Z AD⊢;have ih:=ih (F++[w.init]) (by simp;omega);have A':F.length<=4611686018427387903:=by omega
   have A0:(F.length+1)*8<=140737488355328:=by omega
   have A1:IntKind.i64.wrap n=F.length:=by rw[<-A3];exact (bu _)
   have AE:(F.map du++[D.int .i64 0]).set F.length (D.int .i64 w.init)=F.map du++[D.int .i64 w.init]:=by
    rw[List.set_append_right _ _ (by simp)];simp
   simp[f28,bx,cZ,O,du]at ih N⊢;simp[A4,A5,J,M,bx,cZ,O,N,A6,Z,A7,A8,A',A0,A1,AE,ih,du]
  .have ih:=ih (F++List.replicate (bR w).toNat 0) (by simp;omega);have A1:0<=bR w/\bR w<=4611686018427387904:=by omega
   have A':F.length+(bR w).toNat<=4611686018427387904:=by omega
   have A0:(F.length+(bR w).toNat)*8<=140737488355328:=by omega
   simp[f28,bx,cZ,O,du]at ih N⊢;simp[A4,A5,J,M,bx,cZ,O,N,A6,Z,A7,A8,A',A0,A1,ih,du]
def adp(p:Pg)(V:p.vars.length<=1000)(I:∀v∈p.vars,cJ v=true):ak ctx 28 [.d (gO p)] []=some (.ret (.d (.agg [.list ((jt p.vars 0).map du),.int .i64 (bH p.vars),.list ((nf p.vars).map du)])),[]):=by
 have A9:=λB C J M k Q U v1 v2 v3 E=>Pq p.vars V I B C J M k Q U p.vars [] [] 0 [] v1 v2 v3 E rfl (by omega) (by simp) rfl rfl;rw[alj (by simp)];simp[f28]at A9⊢;refine A9 _ _ ?_ ?_ _ (λS n F r=>S=jt p.vars 0->n=bH p.vars->F=nf p.vars->r=some (.ret (.d (.agg [.list ((jt p.vars 0).map du),.int .i64 (bH p.vars),.list ((nf p.vars).map du)])),[])) (λY S n F v1 v2 v3 E y AF AG=>?_) _ _ _ _ rfl rfl rfl
 .rfl
 .rfl
 .subst y AF AG;simp
def ZL(p:Pg)(A0:p.vars.length<=1000)(A1:∀v∈p.vars,cJ v=true)
 (I:ak ctx 30 [.d (gO p)] []=some (.ret (.d (gO (WA p))),[]))
 (M:Mk) (D:gX p M 0 (.ret (.bh [])) (ak ctx 29 [.ptr 0 0 0,.d (.list ((cy p.body).map bZ))] (gW p ⟨[],bH p.vars,0,[],[]⟩ 0))) (A4:M.out.length<99999990) (A2:M.lv.length<100000000) (J:Pl M.out.length M.lv):
 ak ctx 10 [.d (gO p)] []=(if 4096<(((M.cS M.lv).put (ins 15 0 0 0 0) 0).out.length:Int)\/64<((M.cS M.lv).put (ins 15 0 0 0 0) 0).most then some (.ret (.bh [.d (.agg [.list [],.int .i64 0,.int .i64 0]),.d (.int .i64 13)]),[])else some (.ret (.bh [.d (.agg [.list (((M.cS M.lv).put (ins 15 0 0 0 0) 0).out.map aZ),.int .i64 (bH p.vars),.int .i64 M.cells]),.d (.int .i64 0)]),[])):=by
 have A3:=adp p A0 A1;obtain⟨A5,a2,a3,D⟩:=D;have H:=ZB p M 0 A2 (by omega) J;have O:(M.cS M.lv).out.length=M.out.length:=by
  have:∀(ps:List Int)(m:Mk),(m.cS ps).out.length=m.out.length:=by
   intro ps;induction ps with
   |nil=>intro m;rfl
   |cons i r ih=>intro m;rw[xy,ih,GI]
  exact this _ _
 obtain⟨A6,A7,A8,E⟩:=kQ p (M.cS M.lv) 0 0 (ins 15 0 0 0 0) (by rw[O];omega) (by decide);rw[ak8 (by simp)];simp[WA]at I;simp at D H;simp[ins]at E;have U:(M.cS M.lv).ex=M.ex:=rfl;have V:(M.cS M.lv).lv=M.lv:=rfl;have Z:(M.cS M.lv).most=M.most:=rfl;have y:(M.cS M.lv).cells=M.cells:=rfl;simp[U,V,Z,y]at H E;have A':((M.cS M.lv).put (ins 15 0 0 0 0) 0).cells=M.cells:=rfl;rw[<-A'];simp only[ins]at E⊢;clear U V Z y A' O J;generalize M.cS M.lv=N at*;simp[f10,A3,I,D,H,E,ai];split<;>rename_i h<;>first|simp[h]|simp_all
end Go.Am
end
section
namespace Go.Am
open Go
set_option maxRecDepth 100000
set_option maxHeartbeats 8000000
def apw{x:ax}(h:x.op=9\/x.op=10->0<=x.a):lY 0 x=x:=by
 unfold lY;split
 .rename_i D;have:=h D;rw[aav this];obtain⟨op,a,b,n,m⟩:=x;simp
 .rfl
def apx{l:List ax}(h:∀x∈l,x.op=9\/x.op=10->0<=x.a):di 0 l=l:=by
 unfold di;exact (ai7 (g:=id) (λx E=>apw (h x E))).trans (List.map_id l)
def adq{l:List ax}(J:Jf false l):kM (di 0 l) (db (-2) 0 l) l.length=l.map (vh l.length):=by
 have h:=uB (k:= -2) (to:=(l.length:Int)) (by decide) (by omega) 0 l [] [] 0 rfl;simp only[aba,aee]at h;rw[show ((l.length:Int)+((0:Nat):Int))=(l.length:Int) by omega]at h;rw[h];have e:(λx=>kI (-2) (l.length:Int) x)=vh (l.length:Int):=rfl;rw[show l.map (kI (-2) (l.length:Int))=l.map (vh (l.length:Int))from rfl];refine apx (λx E D=>?_);obtain⟨y,M,rfl⟩:=aaD.1 E;have H:=J y M;unfold vh at D⊢;split
 .show 0<=(l.length:Int);omega
 .rename_i I;rw[aaf I]at D;rcases D with D|D
  .rcases H.2 D with h|h|h
   .exact h
   .exact absurd ⟨D,h⟩ I
   .exact absurd h.1 (by decide)
  .exact H.1 D
section
variable {vs:List Vr}
mutual
theorem AF:∀x:Ex,(aj vs x).1.length<=eH (bJ x)
 | .mk op n name field sub line=>by
  have E:=JX sub;have H:=Xt sub;unfold aj;simp only[bJ,eH,b8];split
  .simp only[aao,aay];omega
  .split
   .simp only[aao,aay];omega
   .split
    .simp only[aao,aay];omega
    .split
     .simp only[aal,aao,aay];omega
     .simp only[aal,aao,aay];omega
theorem JX:∀l:List Ex,(gd vs l).1.length<=b8 (iu l)
 |[]=>by simp[gd]
 |[x]=>by
  have:=AF x;simp only[gd,iu,b8];omega
 |x::y::r=>by
  have E:=AF x;have H:=JX (y::r);simp only[iu,b8]at H;simp only[gd,iu,b8,aal]at H⊢;omega
theorem Xt:∀l:List Ex,(pE vs l).length<=b8 (iu l)
 |[]=>by simp[pE]
 |x::r=>by
  have:=AF x;simp only[pE,iu,b8];omega
end
theorem aiE(x:Ex):(aj vs x).1.length<=b8 (z8 x)+1:=by
 have:=AF (vs:=vs) x;rw[Aw]at this;exact this
theorem adr(x:Ex):(pE vs (da x)).length<=b8 (z8 x):=by
 obtain⟨op,n,name,field,sub,line⟩:=x;have:=Xt (vs:=vs) sub;simp only[z8,pW,b8,eH];omega
end
def Md(x:Ex):7<=eH (bJ x):=by
 obtain⟨op,n,name,field,sub,line⟩:=x;simp only[bJ,eH,b8];omega
def abh(x:Ex):6<=b8 (z8 x):=by
 have:=Md x;rw[Aw]at this;omega
def aiF(n:Int)(t:Bool)(line:Int):eH (bJ (jX n t line))<=14:=by
 unfold jX;split
 .simp[bJ,iu,eH,b8]
 .split
  .simp[bJ,iu,eH,b8]
  .simp[bJ,iu,eH,b8]
def ama(x:Ex):eH (bJ (im x))<=eH (bJ x):=by
 unfold im;split
 .omega
 .split
  .omega
  .rename_i l J;split
   .omega
   .rename_i r N;split
    .omega
    .have hm:=λO=>aiF r.1 r.2.1 O;obtain⟨op,n,name,field,sub,line⟩:=x;simp only[pW]at J;cases sub with
     |nil=>
      simp only[kP,aaT]at J;subst J;simp[Fy]at N
     |cons y q=>
      have:=Md y;refine ajf (hm _) ?_;simp only[bJ,iu,eH,b8];omega
mutual
def abi:∀x:Ex,eH (bJ (cC x))<=eH (bJ x)
 | .mk op n name field sub line=>by
  have h:=Pr sub;have E:=ama (.mk op n name field (cx sub) line);unfold cC;refine ajf E ?_;simp only[bJ,eH,b8];omega
def Pr:∀l:List Ex,b8 (iu (cx l))<=b8 (iu l)
 |[]=>by simp[cx]
 |x::r=>by
  have E:=abi x;have H:=Pr r;simp only[cx,iu,b8];omega
end
def abj(x:Ex):b8 (z8 (cC x))<=b8 (z8 x):=by
 have:=abi x;rw[Aw,Aw]at this;omega
mutual
def amb:∀x:Sm,eH (bZ (pY x))<=eH (bZ x)
 | .mk op name to val conds I fields blocks line=>by
  have E:=abj to;have H:=abj val;have M:=Pr conds;have U:=Xu blocks;simp only[pY,bZ,eH,b8,sY];omega
def Ps:∀l:List Sm,b8 (nO (cy l))<=b8 (nO l)
 |[]=>by simp[cy]
 |x::r=>by
  have E:=amb x;have H:=Ps r;simp only[cy,nO,b8];omega
def Xu:∀l:List (List Sm),b8 (nN (gS l))<=b8 (nN l)
 |[]=>by simp[gS]
 |b::r=>by
  have E:=Ps b;have H:=Xu r;simp only[gS,nN,b8,eH];omega
end
def rT(l:List (List ax)):Nat:=(l.map λt=>t.length+1).sum
def Me:∀(ts bs:List (List ax)),(ck ts bs).length<=rT ts+rT bs
 |[],[]=>by simp[ck]
 |_::_,[]=>by simp[ck]
 |[],b::r=>by
  have ih:=Me [] r;rw[JM];simp only[rT,aaK,ajr,amH,List.sum_nil]at ih⊢;split
  .omega
  .simp only[cv,aal,aao,aay];omega
 |t::ts,b::r=>by
  have ih:=Me ts r;rw[ck];simp only[rT,aaK,ajr]at ih⊢;generalize ck ts r=out at ih⊢;rw[cv];simp only[aal,aao,aay,nI];split
  .omega
  .simp only[aal,aao,aay];omega
def Xv(c:Int):∀l:List Int,(cK c l).length<=l.length
 |[]=>by simp[cK]
 |[_]=>by simp[cK]
 |a::b::r=>by
  have:=Xv c r;simp only[cK,aao];omega
def Xw(c:Int):∀l:List (List Int),rT (l.map λl=>ins 1 0 0 0 0::cK c l)<=2*b8 (l.map mQ)
 |[]=>by simp[rT]
 |x::r=>by
  have E:=Xw c r;have H:=Xv c x;have M:=aa8 x;have U:1+x.length<=eH (mQ x):=by
   have:=BJ (λn=>D.int .i64 n) x;simp only[mQ,eH];omega
  simp only[rT,aaK,ajr,b8,aao]at E⊢;omega
section
variable {vs:List Vr}
theorem Sa:∀l:List Ex,rT (l.map λx=>(aj vs x).1)<=2*b8 (iu l)
 |[]=>by simp[rT]
 |x::r=>by
  have E:=Sa r;have H:=AF (vs:=vs) x;have M:=Md x;simp only[rT,aaK,ajr,iu,b8]at E⊢;omega
theorem Sb(name:Tx):∀(fs:List Tx)(xs:List Ex),(cV vs name fs xs).length<=2*b8 (iu xs)
 |[],xs=>by cases xs<;>simp[cV]
 |_::_,[]=>by simp[cV]
 |f::fs,x::xs=>by
  have E:=Sb name fs xs;have H:=AF (vs:=vs) x;have M:=Md x;simp only[cV,aal,aao,iu,b8];omega
mutual
theorem aiG:∀(s:Sm)(c:Int),(b6 vs s c).1.length+1<=2*eH (bZ s)
 | .mk op name to val conds I fields blocks line,c=>by
  have E:=λc=>Sc blocks c;have H:=λc=>aiH blocks c;have V:=abh to;have a2:=abh val;have a3:=aiE (vs:=vs) val;have a4:=adr (vs:=vs) to;have a5:=Sa (vs:=vs) conds;have Z:=JX (vs:=vs) conds;have A':=Sb (vs:=vs) name fields conds;simp only[bZ,eH,b8,sY];unfold b6;split
  .split
   .simp only[aal,aao,aay];omega
   .simp only[aal,aao,aay];omega
  .split
   .have q1:=E c;have q2:=Me (conds.map λx=>(aj vs x).1) (ay vs blocks c).1;simp only;omega
   .split
    .have q1:=E (c+1);have q2:=Me (I.map λl=>ins 1 0 0 0 0::cK c l) (ay vs blocks (c+1)).1;have q3:=Xw c I;simp only[cv,aal,aao,aay];omega
    .split
     .have q1:=H (c+2);simp only[cv,jI,qp,nI,aal,aao,aay];omega
     .split
      .have q1:=H c;simp only[ig,qp,nI,aal,aao,aay];omega
      .split
       .have q1:=H c;simp only[lP,qp,nI,aal,aao,aay];omega
       .split
        .simp only[aao,aay];omega
        .split
         .simp only[aao,aay];omega
         .simp only[aal,aao,aay];omega
theorem ES:∀(l:List Sm)(c:Int),(ah vs l c).1.length<=2*b8 (nO l)
 |[],c=>by simp[ah]
 |x::r,c=>by
  have E:=aiG x c;have H:=ES r (b6 vs x c).2;simp only[ah,nO,b8,cv,aao,aay];omega
theorem Sc:∀(l:List (List Sm))(c:Int),rT (ay vs l c).1<=2*b8 (nN l)
 |[],c=>by simp[ay,rT]
 |b::r,c=>by
  have E:=ES b c;have H:=Sc r (ah vs b c).2;simp only[rT]at H;simp only[ay,nN,b8,eH,rT,aaK,ajr];omega
theorem aiH:∀(l:List (List Sm))(c:Int),(lR vs l c).1.length<=2*b8 (nN l)
 |[],c=>by simp[lR]
 |b::r,c=>by
  have E:=ES b c;simp only[lR,nN,b8,eH];omega
end
end
mutual
def amc:∀s:Sm,AA s<=eH (bZ s)
 | .mk op name to val conds I fields blocks line=>by
  have:=Xx blocks;simp only[AA,bZ,eH,b8,sY];omega
def Pt:∀l:List Sm,jL l<=b8 (nO l)
 |[]=>by simp[jL]
 |x::r=>by
  have E:=amc x;have H:=Pt r;simp only[jL,nO,b8];omega
def Xx:∀l:List (List Sm),zz l<=b8 (nN l)
 |[]=>by simp[zz]
 |b::r=>by
  have E:=Pt b;have H:=Xx r;simp only[zz,nN,b8,eH];omega
end
def I8(p:Pg){n:Nat}(h:eH (.agg [.str p.name,.list (p.vars.map bx),.list (p.body.map bZ)])<n):
 (∀c,(ah p.vars (cy p.body) c).1.length<2*n)/\jL (cy p.body)<n/\(cy p.body).length<n:=by
 simp only[eH,b8]at h;rw[<-Aa]at h;have A0:=Ps p.body;have E:=Pt (cy p.body);have H:=oF (nO (cy p.body));rw[GD]at H;refine⟨λc=>?_,by omega,by omega⟩;have:=ES (vs:=p.vars) (cy p.body) c;omega
end Go.Am
end
section
namespace Go.Am
open Go Go.Proofs Go.Proofs.Tryz
variable [Inhabited bP]
set_option maxRecDepth 100000
set_option maxHeartbeats 8000000
@[simp] def Ln(p:Int×Bool):AV:=.bh [.d (.int .i64 p.1),.d (.bool p.2)]
@[simp] def UB(p:Int×Int):AV:=.bh [.d (.int .i64 p.1),.d (.int .i64 p.2)]
def ZM(a b:Int)(H:dE a)(A':dE b):ak ctx 214 [.d (.int .i64 a),.d (.int .i64 b)] []=some (.ret (Ln (gj (a+b))),[]):=by
 have hw:IntKind.i64.wrap (a+b)=(a+b+9223372036854775808)%18446744073709551616-9223372036854775808:=IntKind.wrap_i64 _;unfold dE at H A';rw[ahk (by simp)];unfold gj;by_cases E:0<=a<;>by_cases D:0<=b<;>by_cases U:0<=IntKind.i64.wrap (a+b)<;>by_cases O:(-9223372036854775808<=a+b/\a+b<=9223372036854775807)<;>
  first
  |(exfalso;omega)
  |(simp[f214,E,D,U,O];try omega)
def Pu(a b:Int)(H:dE a)(A':dE b):ak ctx 213 [.d (.int .i64 a),.d (.int .i64 b)] []=some (.ret (Ln (gj (a-b))),[]):=by
 have hw:IntKind.i64.wrap (a-b)=(a-b+9223372036854775808)%18446744073709551616-9223372036854775808:=IntKind.wrap_i64 _;unfold dE at H A';rw[ahj (by simp)];unfold gj;by_cases E:0<=a<;>by_cases D:0<=b<;>by_cases U:0<=IntKind.i64.wrap (a-b)<;>by_cases O:(-9223372036854775808<=a-b/\a-b<=9223372036854775807)<;>
  first
  |(exfalso;omega)
  |(simp[f213,E,D,U,O];try omega)
def Lo(a:Int)(H:dE a):ak ctx 245 [.d (.int .i64 a)] []=some (.ret (.d (.int .u64 (a.natAbs:Nat))),[]):=by
 unfold dE at H;rw[ahy (by simp)];have E:=IntKind.wrap_u64 a;by_cases h:a<0
 .have D:IntKind.u64.wrap (-IntKind.u64.wrap a)=(a.natAbs:Nat):=by rw[E,IntKind.wrap_u64];omega
  simp[f245,h,D]
 .have D:IntKind.u64.wrap a=(a.natAbs:Nat):=by rw[E];omega
  simp[f245,h,D]
def QI(n:Nat)(Ar:n<18446744073709551616)(s:Bool):ak ctx 246 [.d (.int .u64 n),.d (.bool s)] []=some (.ret (Ln (gj (if s=true then-(n:Int)else n))),[]):=by
 rw[ahz (by simp)];have E:=IntKind.wrap_i64 (n:Int);unfold gj;cases s
 .by_cases h:n<=9223372036854775807
  .have D:(n:Int)<=9223372036854775807:=by omega
   have U:IntKind.i64.wrap (n:Int)=n:=by rw[E];omega
   have O: -9223372036854775808<=(n:Int):=by omega
   simp[f246,D,U,O]
  .have D:¬(n:Int)<=9223372036854775807:=by omega
   simp[f246,D]
 .by_cases h:n<=9223372036854775808
  .have D:(n:Int)<=9223372036854775808:=by omega
   have U:IntKind.i64.wrap (-(IntKind.i64.wrap (n:Int)))= -(n:Int):=by rw[E,IntKind.wrap_i64];omega
   have O: -9223372036854775808<= -(n:Int):=by omega
   have Ab: -(n:Int)<=9223372036854775807:=by omega
   simp[f246,D,U,O,Ab]
  .have D:¬(n:Int)<=9223372036854775808:=by omega
   have O:¬ -9223372036854775808<= -(n:Int):=by omega
   simp[f246,D,O]
def BS(k:IntKind)(a b:Int):Int:=k.wrap (BitVec.ofInt k.bits a &&& BitVec.ofInt k.bits b).toNat
def Pv(k:IntKind)(a b:Int):Int:=k.wrap (BitVec.ofInt k.bits a ||| BitVec.ofInt k.bits b).toNat
def I9(k:IntKind)(a b:Int):fY .and k a b=some (true,.int k (BS k a b)):=rfl
def Xy(k:IntKind)(a b:Int):fY .or k a b=some (true,.int k (Pv k a b)):=rfl
def amd(a:Nat)(H:a<18446744073709551616):BS .u64 (a:Int) 4294967295=((a%4294967296:Nat):Int):=by
 show IntKind.u64.wrap (BitVec.ofInt 64 (a:Int) &&& BitVec.ofInt 64 4294967295).toNat=_;have e:(BitVec.ofInt 64 (a:Int) &&& BitVec.ofInt 64 4294967295).toNat=a%4294967296:=by
  rw[BitVec.toNat_and,BitVec.toNat_ofInt,BitVec.toNat_ofInt];have Ac:((a:Int)%((2^64:Nat):Int)).toNat=a:=by omega
  have Ad:((4294967295:Int)%((2^64:Nat):Int)).toNat=4294967295:=by decide
  rw[Ac,Ad];exact Nat.and_two_pow_sub_one_eq_mod a 32
 rw[e,IntKind.wrap_u64];omega
def Xz(x y:Nat)(A7:x<18446744073709551616)(A8:y<18446744073709551616):
 ak ctx 244 [.d (.int .u64 x),.d (.int .u64 y)] []=some (.ret (.bh [.d (.int .u64 (x*y/18446744073709551616:Nat)),.d (.int .u64 (x*y%18446744073709551616:Nat))]),[]):=by
 have A9:∀a:Nat,a<18446744073709551616->BS .u64 (a:Int) 4294967295=((a%4294967296:Nat):Int):=λa H=>amd a H;have A1:∀a:Nat,(a:Int).fdiv 4294967296=((a/4294967296:Nat):Int):=λa=>by rw[Int.fdiv_eq_ediv_of_nonneg _ (by decide)];omega
 have mul':∀a b:Nat,(a:Int)*(b:Int)=((a*b:Nat):Int):=λa b=>(Int.natCast_mul a b).symm;have A4:∀a b:Nat,(a:Int)+(b:Int)=((a+b:Nat):Int):=λa b=>(Int.natCast_add a b).symm;have V:∀a:Nat,a<18446744073709551616->IntKind.u64.wrap (a:Int)=(a:Int):=λa h=>by rw[IntKind.wrap_u64];omega
 have AM:∀a:Nat,IntKind.u64.wrap (a:Int)=((a%18446744073709551616:Nat):Int):=λa=>by rw[IntKind.wrap_u64];omega
 obtain⟨A5,A2,A3,Z⟩:=Lib.mul64_hi x y A7 A8;have AA:=Lib.half_mul_le (a:=x/4294967296) (b:=y/4294967296) (by omega) (by omega);have AB:=Lib.half_mul_le (a:=x/4294967296) (b:=y%4294967296) (by omega) (by omega);have AC:=Lib.half_mul_le (a:=x%4294967296) (b:=y/4294967296) (by omega) (by omega);have AN:=A9 x A7;have AO:=A9 y A8;have f1:=A1 x;have f2:=A1 y;have Ae:x%4294967296<4294967296:=by omega
 have Af:x/4294967296<4294967296:=by omega
 have Ag:y%4294967296<4294967296:=by omega
 have Ah:y/4294967296<4294967296:=by omega
 have AP:IntKind.u64.wrap ((x:Int)*(y:Int))=((x*y%18446744073709551616:Nat):Int):=by rw[mul',AM]
 have AQ:x*y/18446744073709551616<18446744073709551616:=by
  have:x*y<18446744073709551616*18446744073709551616:=Nat.mul_lt_mul_of_lt_of_lt A7 A8;omega
 generalize x*y%18446744073709551616=lo at AP⊢;generalize x*y/18446744073709551616=hi at Z AQ⊢;generalize x%4294967296=I at A5 A2 A3 Z AA AB AC AN Ae;generalize x/4294967296=J at A5 A2 A3 Z AA AB AC f1 Af;generalize y%4294967296=M at A5 A2 A3 Z AA AB AC AO Ag;generalize y/4294967296=N at A5 A2 A3 Z AA AB AC f2 Ah;generalize AR:J*M+I*M/4294967296=t at A2 A3 Z;generalize AS:t%4294967296+I*N=AD at A3 Z;have AT:IntKind.u64.wrap ((I:Int)*(M:Int))=((I*M:Nat):Int):=by rw[mul',V _ A5]
 have AU:IntKind.u64.wrap ((J:Int)*(M:Int))=((J*M:Nat):Int):=by rw[mul',V _ (by omega)]
 have AG:IntKind.u64.wrap (((J*M:Nat):Int)+((I*M/4294967296:Nat):Int))=(t:Int):=by rw[A4,AR,V _ A2]
 have AW:IntKind.u64.wrap ((I:Int)*(N:Int))=((I*N:Nat):Int):=by rw[mul',V _ (by omega)]
 have AH:IntKind.u64.wrap (((t%4294967296:Nat):Int)+((I*N:Nat):Int))=(AD:Int):=by rw[A4,AS,V _ A3]
 have AX:IntKind.u64.wrap ((J:Int)*(N:Int))=((J*N:Nat):Int):=by rw[mul',V _ (by omega)]
 have AE:IntKind.u64.wrap (((J*N:Nat):Int)+((t/4294967296:Nat):Int))=((J*N+t/4294967296:Nat):Int):=by rw[A4,V _ (by omega)]
 have AF:IntKind.u64.wrap (((J*N+t/4294967296:Nat):Int)+((AD/4294967296:Nat):Int))=(hi:Int):=by rw[A4,Z,V _ AQ]
 have Ai:=λa=>A1 a;have mt:=A9 t A2;rw[ahx (by simp)];have f3:=A1 t;have f4:=A1 AD;have f5:=A1 (I*M);clear Ai A9 A1 A4 V AM AR AS Z;generalize As:I*M/4294967296=At at AG f5;generalize Au:I*M=Av at AT f5;generalize Aw:J*M=Ax at AU AG;generalize Ay:I*N=Az at AW AH;generalize B':t/4294967296=Aj at AE AF f3;generalize B0:t%4294967296=B2 at AH mt;generalize B3:AD/4294967296=wd at AF f4;generalize B4:J*N+Aj=B5 at AE AF;generalize B6:J*N=B7 at AX AE;simp[f244, -fY.eq_6,I9,wh,IntKind.bits,AN,AO,f1,f2,f3,f4,f5,mt,AT,AU,AG,AW,AH,AX,AE,AF,AP]
def ZN(a b:Int)(H:dE a)(A':dE b):ak ctx 215 [.d (.int .i64 a),.d (.int .i64 b)] []=some (.ret (Ln (gj (a*b))),[]):=by
 have AY:=Lo a H;have AZ:=Lo b A';unfold dE at H A';have Ak:a.natAbs<18446744073709551616:=by omega
 have Al:b.natAbs<18446744073709551616:=by omega
 have hm:=Xz _ _ Ak Al;have A_:=Ri a b;have Aa:=λs=>QI (a.natAbs*b.natAbs%18446744073709551616) (by omega) s;generalize A7:a.natAbs=x at*;generalize A8:b.natAbs=y at*;have mul':((x*y:Nat):Int)=(x:Int)*(y:Int):=Int.natCast_mul x y;generalize x*y=p at*;have A6:(a<0↔b<0)=(decide (a<0)=decide (b<0)):=by simp
 rw[ahl (by simp)];have AI:¬p/18446744073709551616=0->gj (a*b)=(0,false):=by
  intro h;unfold gj;rw[aaf];rw[A_];split<;>omega
 by_cases AJ:p/18446744073709551616=0
 .have An:p%18446744073709551616=p:=by omega
  rw[An]at Aa hm;rw[AJ]at hm;have e:(if (decide (a<0) != decide (b<0))=true then-(p:Int)else (p:Int))=a*b:=by
   rw[A_];by_cases h:decide (a<0)=decide (b<0)<;>simp[h]
  have AK:=Aa (decide (a<0) != decide (b<0));rw[e]at AK;try simp at hm
  try simp at AK
  simp[f215,AY,AZ,hm,AK]
 .have AI:=AI AJ;have Ao:¬((p/18446744073709551616:Nat):Int)=0:=by omega
  generalize p/18446744073709551616=q at*;generalize p%18446744073709551616=r at*;try simp at hm
  simp[f215,AY,AZ,hm,AI,AJ,Ao]
def ZO(a b:Int)(H:dE a)(A':dE b):ak ctx 216 [.d (.int .i64 a),.d (.int .i64 b)] []=some (.ret (UB (sV a b)),[]):=by
 rw[ahm (by simp)];unfold sV;by_cases A0:b=0
 .simp[f216,A0]
 .by_cases E:a= -9223372036854775808
  .by_cases D:b= -1
   .simp[f216,A0,E,D]
   .have w:IntKind.i64.wrap (a.tdiv b)=a.tdiv b:=qL (by
     have AL:=Bt a b;unfold dE at*;have hle:a.natAbs/b.natAbs<=9223372036854775808:=by
      have:=ajn a.natAbs b.natAbs;omega
     have Ap:decide (a<0)=decide (b<0)->a.natAbs/b.natAbs<=4611686018427387904:=by
      intro A6;rw[E]at A6;simp at A6;have Aq:2<=b.natAbs:=by omega
      have U:=Nat.div_le_div_left Aq (by decide) (a:=a.natAbs);have O:a.natAbs=9223372036854775808:=by omega
      rw[O]at U⊢;exact U
     generalize a.natAbs/b.natAbs=q at*;split at AL
     .rename_i A6;have:=Ap A6;omega
     .omega)
    rw[E]at w;simp at w;simp[f216,A0,E,D,w]
  .have w:IntKind.i64.wrap (a.tdiv b)=a.tdiv b:=qL (by
    have AL:=Bt a b;unfold dE at*;have hle:a.natAbs/b.natAbs<=a.natAbs:=ajn _ _;generalize a.natAbs/b.natAbs=q at*;split at AL<;>omega)
   simp[f216,A0,E,w]
def ZP(a b:Int)(H:dE a)(A':dE b):ak ctx 217 [.d (.int .i64 a),.d (.int .i64 b)] []=some (.ret (UB (zu a b)),[]):=by
 rw[ahn (by simp)];unfold zu;by_cases A0:b=0
 .simp[f217,A0]
 .by_cases D:b= -1
  .simp[f217,A0,D]
  .simp[f217,A0,D]
def Sk(x y:ax):x=y↔x.op=y.op/\x.a=y.a/\x.b=y.b/\x.n=y.n/\x.m=y.m:=by
 constructor
 .rintro rfl;simp
 .intro h;cases x;cases y;simp_all
instance:DecidableEq ax:=λx y=>decidable_of_iff _ (Sk x y).symm
def Jc(a b:List ax)(E H I J:Int)(A':a.length<=1000000)(D:a.length=b.length)(k:Kt)(R1 R2:bU)
 (O:∀M,k .ret ⟨45,aC,[(4,true,.d (.bool false))],M⟩=R1) (U:∀(Y:Env) M,k (.exit 0) ⟨45,aC,Y,M⟩=R2):∀(V N:List ax)(i:Nat),a.drop i=V->b.drop i=N->i+V.length=a.length->
 aK ctx 18 (.loop (Code.at (aU f18) [1,1,0,1,0,0])) ⟨45,aC,[(2,true,.ptr 200 1 0),(3,true,.ptr 250 1 0),(5,true,.d (.int .i64 i))],
  [⟨200,1,.box [.d (.list (a.map aZ)),.d (.int .i64 E),.d (.int .i64 H)]⟩,⟨250,1,.box [.d (.list (b.map aZ)),.d (.int .i64 I),.d (.int .i64 J)]⟩]⟩ k=if V=N then R2 else R1
 |[],N,i,A0,A1,hi=>by
  have hi:i=a.length:=by simpa using hi
  subst hi;have:N=[]:=by rw[<-A1,D];simp
  subst this;rw[ag];simp[f18,U]
 |x::V,N,i,A0,A1,hi=>by
  have A3:i<a.length:=by simp at hi;omega
  have A6:(i:Int)<a.length:=by omega
  have A4:i<b.length:=by omega
  have A7:(i:Int)<b.length:=by omega
  have A8:a[i]=x:=by
   have:=aeH (·[0]?) A0;simp at this;simpa [A3]using this
  obtain⟨y,A5⟩:∃y,y=b[i]:=⟨_,rfl⟩;have A9:N=y::b.drop (i+1):=by rw[<-A1,A5];exact aej A4
  have ih:=Jc a b E H I J A' D k R1 R2 O U V (b.drop (i+1)) (i+1) (by rw[<-List.tail_drop,A0];rfl) rfl (by simp at hi;omega);have AA:=bu ((i:Int)+1);rw[A9,ag];simp[f18]at ih;simp[f18];simp[A3,A6,A4,A7,A8,<-A5,AA,ih,O,ai];have he:=Sk x y;clear ih O U;by_cases q0:x.op=y.op<;>by_cases q1:x.a=y.a<;>by_cases q2:x.b=y.b<;>by_cases q3:x.n=y.n<;>by_cases AB:x.m=y.m<;>simp[q0,q1,q2,q3,AB]at he⊢<;>simp[he]
def Lt(a b:List ax)(E H I J:Int)(A':a.length<=1000000):ak ctx 18 [.d (Mf a E H),.d (Mf b I J)] []=some (.ret (.d (.bool (decide (a=b)&&decide (E=I)&&decide (H=J)))),[]):=by
 rw[alb (by simp)];by_cases D:a.length=b.length
 .have h:=λk R1 R2 O U=>Jc a b E H I J A' D k R1 R2 O U a b 0 rfl rfl (by simp);simp[f18]at h;by_cases Z:E=I
  .by_cases A2:H=J
   .simp[f18,D,Z,A2];rw[Z,A2]at h;rw[h _ (some (.ret (.d (.bool false)),[])) (some (.ret (.d (.bool true)),[])) (by simp) (by simp)];by_cases e:a=b<;>simp[e]
   .simp[f18,D,Z,A2]
  .simp[f18,D,Z]
 .have AC:¬((a.length:Int)=b.length):=by omega
  have AD:a≠b:=λh=>D (by rw[h]);simp[f18,AC,AD,D]
def rX(w:Vr):Int:=if w.arr=false/\w.ty<=2 then w.init else 0
@[simp] def Z1(p:Pg):aE:=.box [.d (.str p.name),.d (.list (p.vars.map bx)),.d (.list (p.body.map bZ))]
@[simp] def Mg(v1 v2 v3:Nat)(D:aE)(S:List Int)(F:List Int):List cL:=[⟨250,1,.box [.vec 251 v1 0 S.length,.d (.int .i64 0),.vec 252 v2 0 F.length]⟩,⟨251,v1,.vec 1 (S.map du)⟩,⟨252,v2,.vec 1 (F.map du)⟩,⟨350,v3,D⟩]
def XM(w:Vr)(B C:cL)(V:B.key=150)(E:C.key=200)(i:Int)(S:List Int)(v1 v3:Nat)(k:Kt)(Q:List Int->bU->Prop)
 (H:∀(Y:Env) F v2,Q F (k (.exit 2) ⟨55,aC,(1,true,.ptr 150 1 0)::(2,true,.ptr 200 1 0)::(3,true,.ptr 250 1 0)::(4,true,.d (.int .i64 i))::Y,B::C::Mg v1 v2 v3 (fF w) S F⟩)):∀(c:Nat)(F:List Int)(v2:Nat),F.length+c<=1000000->
 Q (F++List.replicate c (rX w)) (aK ctx 40 (.loop (Code.at (aU f40) [1,1,0,1,0,0,1,0,0,1,1,1,0,0])) ⟨55,aC,[(1,true,.ptr 150 1 0),(2,true,.ptr 200 1 0),(3,true,.ptr 250 1 0),(4,true,.d (.int .i64 i)),(5,true,.ptr 350 v3 0),(6,true,.d (.int .i64 c))],B::C::Mg v1 v2 v3 (fF w) S F⟩ k)
 |0,F,v2,Z=>by
  have:=H [(5,true,.ptr 350 v3 0),(6,true,.d (.int .i64 0)),(31,true,.d (.bool false))] F v2;simp at this⊢;rw[ag];simp[f40,this]
 |c+1,F,v2,Z=>by
  have ih:=λv2=>XM w B C V E i S v1 v3 k Q H c (F++[rX w]) v2 (by simp;omega);have e:F++List.replicate (c+1) (rX w)=(F++[rX w])++List.replicate c (rX w):=by simp[List.replicate_succ]
  rw[e];clear e;generalize F++[rX w]++List.replicate c (rX w)=q at*;have O:=bu (c:Int);have g1:(0:Int)<(c:Int)+1:=by omega
  have A':F.length+1<=4611686018427387904:=by omega
  have A0:F.length<=4611686018427387903:=by omega
  have A1:(F.length+1)*8<=140737488355328:=by omega
  rw[ag];unfold rX at ih;by_cases J:w.arr=false
  .by_cases A7:w.ty<=2
   .have A2:w.ty<3:=by omega
    rw[aav ⟨J,A7⟩]at ih;simp[f40]at ih⊢;simp[V,E,J,A2,g1,O,A',A0,A1,du]at ih⊢;exact ih _
   .have A2:¬w.ty<3:=by omega
    rw[aaf (λh=>A7 h.2)]at ih;simp[f40]at ih⊢;simp[V,E,J,A2,g1,O,A',A0,A1,du]at ih⊢;exact ih _
  .rw[aaf (λh=>J h.1)]at ih;simp only[Bool.not_eq_false]at J;simp[f40]at ih⊢;simp[V,E,J,g1,O,A',A0,A1,du]at ih⊢;exact ih _
def adB{w:Vr}(M:cJ w=true):List.replicate (bR w).toNat (rX w)=if w.arr=false/\w.ty<=2 then [w.init]else List.replicate (bR w).toNat 0:=by
 unfold rX;by_cases h:w.arr=false/\w.ty<=2
 .have y:bR w=1:=by unfold bR;rw[aaf (by simp[h.1]),aaf (by omega)]
  rw[aav h,aav h,y];rfl
 .rw[aaf h,aaf h]
def Sl(p:Pg)(A3:p.vars.length<=1000)(M:∀v∈p.vars,cJ v=true)(C:cL)(E:C.key=200)(k:Kt)(Q:List Int->List Int->bU->Prop)
 (H:∀(Y:Env) S F v1 v2 v3 D,Q S F (k (.exit 0) ⟨55,aC,(1,true,.ptr 150 1 0)::(2,true,.ptr 200 1 0)::(3,true,.ptr 250 1 0)::Y,⟨150,1,Z1 p⟩::C::Mg v1 v2 v3 D S F⟩)):∀(rest pre:List Vr)(S F:List Int)(n:Int)(v1 v2 v3:Nat)(D:aE),p.vars=pre++rest->0<=n->n<=1000*pre.length->S.length=pre.length->(F.length:Int)=n->
 Q (S++jt rest n) (F++nf rest) (aK ctx 40 (.loop (Code.at (aU f40) [1,1,0,1,0,0])) ⟨55,aC,[(1,true,.ptr 150 1 0),(2,true,.ptr 200 1 0),(3,true,.ptr 250 1 0),(4,true,.d (.int .i64 pre.length))],⟨150,1,Z1 p⟩::C::Mg v1 v2 v3 D S F⟩ k)
 |[],pre,S,F,n,v1,v2,v3,D,N,AE,AF,A8,Z=>by
  have AG:pre.length=p.vars.length:=by rw[N];simp
  have:=H [(4,true,.d (.int .i64 pre.length)),(12,true,.d (.bool false))] S F v1 v2 v3 D;simp[jt,nf,AG]at this⊢;rw[ag];simp[f40,this]
 |w::rest,pre,S,F,n,v1,v2,v3,D,N,AE,AF,A8,Z=>by
  have AH:pre.length<p.vars.length:=by rw[N];simp
  have AI:p.vars[pre.length]=w:=by simp[N]
  have A4:=M w (by rw[N];simp);have U:=PG (w:=w) (λJ=>by
   simp only[cJ,Ds,J,ad1,aaw]at A4;omega)
  have AQ:=ku A4;obtain⟨I,A5⟩:∃I:Nat,bR w=I:=⟨(bR w).toNat,by omega⟩;have A9:=adB A4;have ih:=λF' h v1 v2 v3 D=>Sl p A3 M C E k Q H rest (pre++[w]) (S++[n]) F' (n+bR w) v1 v2 v3 D (by simp[N]) (by omega) (by simp;omega) (by simp[A8]) h;have O:=bu ((pre.length:Int)+1);have AJ:S.length<=4611686018427387903:=by omega
  have AK:(S.length+1)*8<=140737488355328:=by omega
  have A6:=λv1 v3 k Q H v2=>XM w ⟨150,1,Z1 p⟩ C rfl E pre.length (S++[n]) v1 v3 k Q H I F v2 (by omega);rw[ag];simp only[jt,nf];rw[<-A9,A5,Int.toNat_natCast];rw[A5]at U;have AA:S++n::jt rest (n+I)=(S++[n])++jt rest (n+I):=by simp
  have AB:F++(List.replicate I (rX w)++nf rest)=(F++List.replicate I (rX w))++nf rest:=by simp
  rw[AA,AB];have ih:=ih (F++List.replicate I (rX w)) (by simp;omega);rw[A5]at ih;clear AA AB A9 H;generalize jt rest (n+I)=AL at*;generalize nf rest=T2 at*;generalize F++List.replicate I (rX w)=AC at*;rw[<-Z]at A6 ih⊢;simp[f40,cZ,du]at ih U A6⊢;simp[AH,AI,E,bx,cZ,U,AJ,AK,du];refine A6 _ _ _ (λX r=>X=AC->Q (S++(F.length:Int)::AL) (AC++T2) r) (λY AR v2 AM=>?_) _ rfl;subst AM;simp[O];exact ih _ _ _ _
def PU:∀l:List Vr,(∀v∈l,cJ v=true)->((nf l).length:Int)=bH l
 |[],_=>rfl
 |v::r,h=>by
  have ih:=PU r λw hw=>h w (by simp[hw]);have U:=ku (h v (by simp));simp only[nf,bH,aal];split
  .rename_i AN;have y:bR v=1:=by unfold bR;rw[aaf (by simp[AN.1]),aaf (by omega)]
   simp only[aao,aay];omega
  .simp only[List.length_replicate];omega
def Lu:∀l:List Vr,(∀v∈l,cJ v=true)->bH l<=256*l.length
 |[],_=>by simp[bH]
 |v::r,h=>by
  have ih:=Lu r λw hw=>h w (by simp[hw]);have U:=ku (h v (by simp));simp only[bH,aao];omega
def XN(p:Pg)(A3:p.vars.length<=1000)(M:∀v∈p.vars,cJ v=true):ak ctx 40 [.d (gO p)] []=some (.ret (.d (.agg [.list ((jt p.vars 0).map du),.int .i64 (bH p.vars),.list ((nf p.vars).map du)])),[]):=by
 have AD:=λC E k Q H v1 v2 v3 D=>Sl p A3 M C E k Q H p.vars [] [] [] 0 v1 v2 v3 D rfl (by omega) (by simp) rfl rfl;have AO:=PU p.vars M;have hle:=Lu p.vars M;rw[aln (by simp)];simp[f40]at AD⊢;refine AD _ ?_ _ (λS F r=>S=jt p.vars 0->F=nf p.vars->r=some (.ret (.d (.agg [.list ((jt p.vars 0).map du),.int .i64 (bH p.vars),.list ((nf p.vars).map du)])),[])) (λY S F v1 v2 v3 D y AP=>?_) _ _ _ _ rfl rfl
 .rfl
 .subst y AP;rw[<-AO];simp
end Go.Am
end
