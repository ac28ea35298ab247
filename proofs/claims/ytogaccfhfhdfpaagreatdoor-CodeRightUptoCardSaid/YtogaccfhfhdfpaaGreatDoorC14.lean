/-
  Texts of one proof, one behind the other.
-/
import Derived.Test.YtogaccfhfhdfpaaGreatDoorC1
import Derived.Test.YtogaccfhfhdfpaaGreatDoorC2
import Derived.Test.YtogaccfhfhdfpaaGreatDoorC3
import Derived.Test.YtogaccfhfhdfpaaGreatDoorC4
import Derived.Test.YtogaccfhfhdfpaaGreatDoorC5
import Derived.Test.YtogaccfhfhdfpaaGreatDoorC6
import Derived.Test.YtogaccfhfhdfpaaGreatDoorC7
import Derived.Test.YtogaccfhfhdfpaaGreatDoorC8
import Derived.Test.YtogaccfhfhdfpaaGreatDoorC9
import Derived.Test.YtogaccfhfhdfpaaGreatDoorC10
import Derived.Test.YtogaccfhfhdfpaaGreatDoorC11
import Derived.Test.YtogaccfhfhdfpaaGreatDoorC13
set_option linter.all false
section
namespace Go.Am
open Go Go.Proofs Go.Proofs.Tryz
variable [Inhabited bP]
set_option maxRecDepth 100000
set_option maxHeartbeats 8000000
def BV(p:Pg)(w:Vr):Mem:=[⟨200,1,.box [.d (.str p.name),.d (.list (p.vars.map bx)),.d (.list (p.body.map bZ))]⟩,⟨350,1,fF w⟩,⟨450,1,.box [.d (.list ((jt p.vars 0).map du)),.d (.int .i64 (bH p.vars)),.d (.list ((nf p.vars).map du))]⟩]
def PV:∀(l:List Vr)(n:Int),(jt l n).length=l.length
 |[],_=>rfl
 |v::r,n=>by simp[jt,PV r]
def Jd(p:Pg)(J:p.vars.length<=1000)(s:Tx)(k:Kt)(D:bU)(R1:Int->Vr->bU)
 (M:∀(n:Int)(w:Vr),k .ret ⟨37,aC,[(4,true,.d (.int .i64 n)),(5,true,.ptr 350 1 0),(6,true,.d (.bool true))],BV p w⟩=R1 n w)
 (E:∀(Y:Env),k (.exit 0) ⟨37,aC,(1,true,.d (.str s))::(2,true,.ptr 200 1 0)::(5,true,.ptr 350 1 0)::(7,true,.ptr 450 1 0)::Y,BV p so⟩=D):
 ∀(rest pre:List Vr)(n:Int),p.vars=pre++rest->(jt p.vars 0).drop pre.length=jt rest n->
 aK ctx 132 (.loop (Code.at (aU f132) [1,1,0,1,0,0])) ⟨37,aC,[(1,true,.d (.str s)),(2,true,.ptr 200 1 0),(5,true,.ptr 350 1 0),(7,true,.ptr 450 1 0),(8,true,.d (.int .i64 pre.length))],BV p so⟩ k
  =if (bk rest s).isSome=true then R1 (lX rest s n).1 (lX rest s n).2 else D
 |[],pre,n,H,I=>by
  have A0:pre.length=p.vars.length:=by rw[H];simp
  simp[BV]at E;rw[A0,ag];simp[f132,BV,bk];exact E _
 |w::rest,pre,n,H,I=>by
  have O:pre.length<p.vars.length:=by rw[H];simp
  have U:p.vars[pre.length]=w:=by simp[H]
  have A1:=PV p.vars 0;have N:pre.length<(jt p.vars 0).length:=by omega
  have A2:(jt p.vars 0)[pre.length]=n:=by
   rw[aej N,jt]at I;exact (List.cons.inj I).1
  have A3:(jt p.vars 0).drop (pre++[w]).length=jt rest (n+bR w):=by
   rw[aej N,jt]at I;simpa using (List.cons.inj I).2
  have ih:=Jd p J s k D R1 M E rest (pre++[w]) (n+bR w) (by simp[H]) A3;have A4:=bu ((pre.length:Int)+1);have V:=M n w;simp[BV,bx,cZ]at V;rw[ag];by_cases Z:w.name=s
  .simp[f132,BV,so];simp[O,U,N,A1,A2,bx,cZ,Z,bk,lX,ai,<-V]
  .simp[f132,BV,so]at ih⊢;simp[O,U,bx,cZ,Z,bk,lX,A4,ih]
def PW:∀(l:List Vr)(s:Tx)(n:Int),(bk l s).isSome=false->lX l s n=(0,so)
 |[],_,_,_=>rfl
 |v::r,s,n,h=>by
  simp only[bk,lX]at h⊢;split at h
  .cases h
  .rename_i A5;rw[aaf A5];exact PW r s _ h
def ju(p:Pg)(J:p.vars.length<=1000)(A6:∀v∈p.vars,cJ v=true)(s:Tx):ak ctx 132 [.d (gO p),.d (.str s)] []=
 some (.ret (.bh [.d (.int .i64 (bA p.vars s).1),.d (bx (bA p.vars s).2),.d (.bool (bk p.vars s).isSome)]),[]):=by
 have y:=XN p J A6;have A':=λk D R1 M E=>Jd p J s k D R1 M E p.vars [] 0 rfl rfl;rw[agF (by simp)];simp[gO]at y;simp[f132,BV,so,gO]at A'⊢;simp[y];rw[A' _ (some (.ret (.bh [.d (.int .i64 0),.d (bx so),.d (.bool false)]),[])) (λn w=>some (.ret (.bh [.d (.int .i64 n),.d (bx w),.d (.bool true)]),[]))]
 .unfold bA;cases h:(bk p.vars s).isSome with
  |true=>simp
  |false=>rw[PW _ _ _ h];simp
 .intro n w;simp[bx,cZ]
 .intro Y;simp[bx,cZ,so,ai]
@[simp] def bxQ(q:Pn):aE:=.box [.d (.str q.name),.d (.int .i64 q.ty),.d (.bool q.N9)]
def FL(l:List Pn)(A6:l.length<1000)(fl:Tx)(at_:Int)(A7:0<=at_/\at_<=10000000)(A C:cL)(E:A.key=250)(H:C.key=600)(k:Kt)(I:bU)(R1:Int->Pn->bU)
 (M:∀(n:Int)(q:Pn),k .ret ⟨57,aC,[(6,true,.d (.int .i64 n)),(7,true,.ptr 450 1 0),(8,true,.d (.bool true))],[A,⟨450,1,bxQ q⟩,C]⟩=R1 n q)
 (N:∀(Y:Env),k (.exit 0) ⟨57,aC,(2,true,.d (.str fl))::(7,true,.ptr 450 1 0)::Y,[A,⟨450,1,bxQ kU⟩,C]⟩=I):
 ∀(rest pre:List Pn),l=pre++rest->
 aK ctx 136 (.loop (Code.at (aU f136) [1,1,1,1,0,1,0,0])) ⟨57,aC,[(2,true,.d (.str fl)),(7,true,.ptr 450 1 0),(9,true,.d (.int .i64 at_)),(12,true,.d (.list (l.map gp))),(13,true,.d (.int .i64 pre.length))],[A,⟨450,1,bxQ kU⟩,C]⟩ k
  =if fl=[]then I else match rM rest fl pre.length with|some (i,q)=>R1 (at_+i) q|none=>I
 |[],pre,J=>by
  have A8:pre.length=l.length:=by rw[J];simp
  have:=N [(9,true,.d (.int .i64 at_)),(12,true,.d (.list (l.map gp))),(13,true,.d (.int .i64 l.length)),(35,true,.d (.bool false))];simp[kU]at this;rw[A8,ag];simp[f136,rM,kU,this]
 |q::rest,pre,J=>by
  have U:pre.length<l.length:=by rw[J];simp
  have A0:l[pre.length]=q:=by simp[J]
  have ih:=FL l A6 fl at_ A7 A C E H k I R1 M N rest (pre++[q]) (by simp[J]);have A1:=bu ((pre.length:Int)+1);have A9:=bu (at_+(pre.length:Int));have A2:=M (at_+pre.length) q;simp at A2;rw[ag];by_cases D:fl=[]
  .simp[f136,kU,D]at ih⊢;simp[U,D,E,H,A1,ih]
  .by_cases V:q.name=fl
   .simp[f136,kU];simp[U,A0,D,E,H,A9,gp,V,rM,ai,<-A2]
   .simp[f136,kU,D]at ih⊢;simp[U,A0,D,E,H,A1,gp,V,rM,ih]
def Lv:∀(l:List Vr),(∀v∈l,cJ v=true)->∀(s:Tx)(n:Int),0<=n->0<=(lX l s n).1/\(lX l s n).1<=n+256*l.length
 |[],_,_,n,h=>by simp[lX];omega
 |v::r,D,s,n,h=>by
  have AC:=ku (D v (by simp));have ih:=Lv r (λw hw=>D w (by simp[hw])) s (n+bR v) (by omega);simp only[lX];split
  .simp;omega
  .simp only[aao];omega
def PX(p:Pg)(AA:p.vars.length<=1000)(D:∀v∈p.vars,cJ v=true)(s fl:Tx):∃b,ak ctx 136 [.d (gO p),.d (.str s),.d (.str fl)] []=
 some (.ret (.bh [.d (.int .i64 (fL p.vars s fl).1),.d (gp (fL p.vars s fl).2),.d (.bool b)]),[]):=by
 have O:=ju p AA D s;have AD:=Lv p.vars D s 0 (by omega);have A3:=JR (bA p.vars s).2.ty;have AE:=yq (bA p.vars s).2.ty;have A4:=λA C E H k I R1 M N=>FL (eI (bA p.vars s).2.ty) (by omega) fl (bA p.vars s).1 (by unfold bA;omega) A C E H k I R1 M N (eI (bA p.vars s).2.ty) [] rfl;have AB:fL p.vars s fl=if (bk p.vars s).isSome=true/\2<(bA p.vars s).2.ty/\fl≠[]then (match rM (eI (bA p.vars s).2.ty) fl 0 with|some (i,q)=>((bA p.vars s).1+i,q)|none=>(0,kU))else (0,kU):=rfl
 rw[AB];generalize bA p.vars s=av at*;obtain⟨a,v⟩:=av;generalize (bk p.vars s).isSome=b at*;rw[agJ (by simp)];simp[gO,bx,cZ]at O A3;simp[f136,kU,gO]at A4⊢;by_cases A5:b=true/\2<v.ty
 .obtain⟨rfl,Z⟩:=A5;have y:¬v.ty<3:=by omega
  simp[O,A3,Z,y];rw[A4 _ _ rfl rfl _ (some (.ret (.bh [.d (.int .i64 0),.d (gp kU),.d (.bool false)]),[])) (λn q=>some (.ret (.bh [.d (.int .i64 n),.d (gp q),.d (.bool true)]),[]))]
  .by_cases A':fl=[]
   .exact .inl (by simp[A',kU])
   .cases V:rM (eI v.ty) fl 0 with
    |none=>exact .inl (by simp[A',kU])
    |some x=>exact .inr (by simp[A'])
  .intro n q;simp[gp]
  .intro Y;simp[gp,kU,ai]
 .cases b with
  |false=>simp[O,gp,kU]
  |true=>
   have Z:¬2<v.ty:=λh=>A5 ⟨rfl,h⟩;have y:v.ty<3:=by omega
   simp[O,Z,y,gp,kU]
def FM(l:List ax)(D:Nat)(A7:D<100000000)(A8:l.length<100000000)(k:Kt)(Q:List ax->bU->Prop)
 (H:∀(Y:Env)(out:List ax) v v3 M,Q out (k (.exit 0) ⟨41,aC,(0,true,.d (.list (l.map aZ)))::(1,true,.d (.int .i64 D))::(5,true,.vec 350 v 0 out.length)::Y,[⟨350,v,.vec 5 (out.map aZ)⟩,⟨450,v3,M⟩]⟩)):
 ∀(rest pre out:List ax)(v v3:Nat)(M:aE),l=pre++rest->out.length=pre.length->(∀x∈rest,(x.op=9\/x.op=10)->x.a<100000000)->
 Q (out++dK D rest) (aK ctx 131 (.loop (Code.at (aU f131) [1,1,0,1,0,0])) ⟨41,aC,[(0,true,.d (.list (l.map aZ))),(1,true,.d (.int .i64 D)),(5,true,.vec 350 v 0 out.length),(6,true,.d (.int .i64 pre.length))],[⟨350,v,.vec 5 (out.map aZ)⟩,⟨450,v3,M⟩]⟩ k)
 |[],pre,out,v,v3,M,E,AB,N=>by
  have A5:pre.length=l.length:=by rw[E];simp
  have:=H [(6,true,.d (.int .i64 l.length)),(11,true,.d (.bool false))] out v v3 M;simp[dK]at this⊢;rw[A5,ag];simp[f131,this]
 |x::rest,pre,out,v,v3,M,E,AB,N=>by
  have O:pre.length<l.length:=by rw[E];simp
  have A0:l[pre.length]=x:=by simp[E]
  have ih:=λv v3 M=>FM l D A7 A8 k Q H rest (pre++[x]) (out++[iK D x]) v v3 M (by simp[E]) (by simp[AB]) (λy A9=>N y (by simp[A9]));have U:=bu ((pre.length:Int)+1);have A1:out.length<=4611686018427387903:=by omega
  have A2:(out.length+1)*40<=140737488355328:=by omega
  have e:out++dK D (x::rest)=out++[iK D x]++dK D rest:=by simp[dK]
  rw[e,ag];by_cases I:(x.op=9\/x.op=10)/\0<=x.a
  .have AF:=N x (by simp) I.1;have AD:=bu (x.a+D);have em:iK D x={x with a:=x.a+D}:=by unfold iK;rw[aav I]
   rw[em]at ih⊢;obtain⟨J|J,Z⟩:=I<;>
   .simp[f131,J]at ih⊢;simp[O,A0,J,Z,U,A1,A2,AD,ih]
  .have em:iK D x=x:=by unfold iK;rw[aaf I]
   rw[em]at ih⊢;simp[f131]at ih⊢;by_cases J:x.op=9
   .have Z:¬0<=x.a:=λh=>I ⟨.inl J,h⟩;simp[J]at ih;simp[O,A0,J,Z,U,A1,A2,ih]
   .by_cases A6:x.op=10
    .have Z:¬0<=x.a:=λh=>I ⟨.inr A6,h⟩;simp[A6]at ih;simp[O,A0,A6,Z,U,A1,A2,ih]
    .simp[O,A0,J,A6,U,A1,A2,ih]
def Z2(l:List ax)(D:Nat)(A7:D<100000000)(A8:l.length<100000000)(N:∀x∈l,(x.op=9\/x.op=10)->x.a<100000000):
 ak ctx 131 [.d (.list (l.map aZ)),.d (.int .i64 D)] []=some (.ret (.d (.list ((dK D l).map aZ))),[]):=by
 have V:=λk Q H v v3 M=>FM l D A7 A8 k Q H l [] [] v v3 M rfl rfl N;rw[agE (by simp)];simp[f131]at V⊢;refine V _ (λout r=>out=dK D l->r=some (.ret (.d (.list ((dK D l).map aZ))),[])) (λY out v v3 M h=>?_) _ _ _ rfl;subst h;simp
def iG(x:ax):ak ctx 80 [.d (aZ x)] []=some (.ret (.vec 0 0 0 1),[(0,.vec 5 [aZ x])]):=by
 rw[alF (by simp)];simp[f80]
def Z3(l:List ax):Out×List (Nat×aE):=(.ret (.vec 0 0 0 l.length),[(0,.vec 5 (l.map aZ))])
def uG(l:List ax):Prop:=∀x∈l,(x.op=9\/x.op=10)->x.a<100000000
def FN(L:List (List ax)):List ax:=L.foldl jn []
def Je(L:List (List ax))(AA:L.length<100000000)(k:Kt)(Q:List ax->bU->Prop)
 (H:∀(Y:Env)(out:List ax) v,Q out (k (.exit 0) ⟨21,aC,(0,true,.d (.list (L.map λl=>.list (l.map aZ))))::(3,true,.vec 250 v 0 out.length)::Y,[⟨200,1,.vec 5 []⟩,⟨250,v,.vec 5 (out.map aZ)⟩]⟩)):
 ∀(rest pre:List (List ax))(out:List ax)(v:Nat),L=pre++rest->(rest.foldl jn out).length<100000000->(∀l∈rest,uG l)->
 Q (rest.foldl jn out) (aK ctx 79 (.loop (Code.at (aU f79) [1,1,0,1,0,0])) ⟨21,aC,[(0,true,.d (.list (L.map λl=>.list (l.map aZ)))),(3,true,.vec 250 v 0 out.length),(4,true,.d (.int .i64 pre.length))],[⟨200,1,.vec 5 []⟩,⟨250,v,.vec 5 (out.map aZ)⟩]⟩ k)
 |[],pre,out,v,E,A',N=>by
  have A5:pre.length=L.length:=by rw[E];simp
  have:=H [(4,true,.d (.int .i64 L.length)),(8,true,.d (.bool false))] out v;simp at this⊢;rw[A5,ag];simp[f79,this]
 |l::rest,pre,out,v,E,A',N=>by
  have O:pre.length<L.length:=by rw[E];simp
  have A0:L[pre.length]=l:=by simp[E]
  have hle:∀(r:List (List ax))(o:List ax),o.length<=(r.foldl jn o).length:=by
   intro r;induction r with
   |nil=>intro o;simp
   |cons a r ih=>intro o;have:=ih (jn o a);rw[cv]at this;simp only[ajp];omega
  have AC:=hle rest (jn out l);simp only[ajp]at A';have AG:=cv out l;have ih:=λv=>Je L AA k Q H rest (pre++[l]) (jn out l) v (by simp[E]) A' (λy A9=>N y (by simp[A9]));have hm:=Z2 l out.length (by omega) (by omega) (N l (by simp));have w0:=bu (out.length:Int);have U:=bu ((pre.length:Int)+1);have A1:out.length+l.length<=4611686018427387904:=by omega
  have A2:(out.length+l.length)*40<=140737488355328:=by omega
  simp only[ajp];rw[ag];simp[f79,jn]at ih hm⊢;simp[O,A0,w0,U,A1,A2,hm,ih]
def J1(L:List (List ax))(AA:L.length<100000000)(A':(FN L).length<100000000)(N:∀l∈L,uG l):
 ak ctx 79 [.d (.list (L.map λl=>.list (l.map aZ)))] []=some (Z3 (FN L)):=by
 have V:=λk Q H v=>Je L AA k Q H L [] [] v rfl A' N;rw[alE (by simp)];simp[f79]at V⊢;refine V _ (λout r=>out=FN L->r=some (Z3 (FN L))) (λY out v h=>?_) _ rfl;subst h;simp[Z3]
def FO(to:Int)(n:Nat)(A':n<100000000)(k:Kt)(Q:List ax->bU->Prop)
 (H:∀(Y:Env)(out:List ax) v,out.length=n->Q out (k (.exit 0) ⟨32,aC,(0,true,.vec 0 v 0 n)::(1,true,.d (.int .i64 to))::Y,[⟨0,v,.vec 5 (out.map aZ)⟩]⟩)):
 ∀(rest pre:List ax)(v:Nat),(pre++rest).length=n->
 Q (pre++rest.map (kg to)) (aK ctx 135 (.loop (Code.at (aU f135) [1,0,1,0,0])) ⟨32,aC,[(0,true,.vec 0 v 0 n),(1,true,.d (.int .i64 to)),(5,true,.d (.int .i64 pre.length))],[⟨0,v,.vec 5 ((pre++rest).map aZ)⟩]⟩ k)
 |[],pre,v,E=>by
  have:=H [(5,true,.d (.int .i64 n)),(9,true,.d (.bool false))] pre v (by simpa using E);have A5:pre.length=n:=by simpa using E
  simp at this⊢;rw[A5,ag];simp[f135,this]
 |x::rest,pre,v,E=>by
  have O:pre.length<n:=by rw[<-E];simp
  have ih:=λv=>FO to n A' k Q H rest (pre++[kg to x]) v (by simpa using E);have U:=bu ((pre.length:Int)+1);have A3:((pre++x::rest).map aZ)[pre.length]?=some (aZ x):=by simp
  have A4:∀y,((pre++x::rest).map aZ).set pre.length (aZ y)=(pre++y::rest).map aZ:=λy=>by simp
  rw[show pre++(x::rest).map (kg to)=pre++[kg to x]++rest.map (kg to) by simp,ag];by_cases I:x.op=9/\x.a= -1
  .have em:kg to x={x with a:=to}:=by unfold kg;rw[aav I]
   rw[em]at ih⊢;simp[f135,I.1]at ih A3 A4⊢;simp[O,A3,A4,I.1,I.2,U,ih]
  .have em:kg to x=x:=by unfold kg;rw[aaf I]
   rw[em]at ih⊢;by_cases J:x.op=9
   .have Z:¬x.a= -1:=λh=>I ⟨J,h⟩;simp[f135,J]at ih A3 A4⊢;simp[O,A3,A4,J,Z,U,ih]
   .simp[f135]at ih A3 A4⊢;simp[O,A3,A4,J,U,ih]
def GX(l:List ax)(to:Int)(AE:l.length<100000000):ak ctx 135 [.vec 0 0 0 l.length,.d (.int .i64 to)] [.vec 5 (l.map aZ)]=some (.ret (.d (.list ((l.map (kg to)).map aZ))),[(1,.dead)]):=by
 have V:=λk Q H v=>FO to l.length AE k Q H l [] v (by simp);obtain⟨e,he⟩:∃e,e=l.map (kg to):=⟨_,rfl⟩;rw[<-he];rw[agI (by simp)];simp[f135,<-he]at V⊢;refine V _ (λout r=>out=e->r=some (.ret (.d (.list (e.map aZ))),[(1,.dead)])) (λY out v AC h=>?_) _ rfl;subst h;simp[<-AC]
@[simp] def mS(l:List ax):D:=.list (l.map aZ)
def oN(last:Bool)(b out:List ax):List ax:=if last=true then b else b++[ins 9 (b.length+1+out.length) 0 0 0]
def rY(t p:List ax):List ax:=t++[ins 10 (t.length+1+p.length) 0 0 0]++dK (t.length+1) p
def BW{T B:List (List ax)}{i:Nat}(hi:i<B.length):
 ck (T.drop i) (B.drop i)=(if h:i<T.length then jn (rY T[i] (oN (decide (i+1=B.length)) B[i] (ck (T.drop (i+1)) (B.drop (i+1))))) (ck (T.drop (i+1)) (B.drop (i+1)))
  else jn (oN (decide (i+1=B.length)) B[i] (ck (T.drop (i+1)) (B.drop (i+1)))) (ck (T.drop (i+1)) (B.drop (i+1)))):=by
 rw[aej hi];have J:B.drop (i+1)=[]↔i+1=B.length:=by rw[List.drop_eq_nil_iff];omega
 by_cases h:i<T.length
 .rw[dif_pos h,aej h];simp only[ck,oN,rY,J,aaw]
 .rw[dif_neg h,amJ (by omega:T.length<=i),amJ (by omega:T.length<=i+1)];simp only[ck,oN,J,aaw];by_cases M:i+1=B.length
  .rw[aav M,aav M,J.2 M];simp[ck,WB]
  .rw[aaf M,aaf M]
def ajc(a b:List ax):FN [a,b]=jn a b:=by simp[FN,Ai]
def ajd(a b c:List ax):FN [a,b,c]=jn (jn a b) c:=by simp[FN,Ai]
def gD{a b:List ax}(U:a.length+b.length<100000000)(N:uG a)(I:uG b):
 ak ctx 79 [.d (.list [mS a,mS b])] []=some (.ret (.vec 0 0 0 (jn a b).length),[(0,.vec 5 ((jn a b).map aZ))]):=by
 have:=J1 [a,b] (by simp) (by rw[ajc,cv];exact U) (by simp[N,I]);rw[ajc]at this;exact this
def qu{a b c:List ax}(U:a.length+b.length+c.length<100000000)(N:uG a)(I:uG b)(Z:uG c):
 ak ctx 79 [.d (.list [mS a,mS b,mS c])] []=some (.ret (.vec 0 0 0 (jn (jn a b) c).length),[(0,.vec 5 ((jn (jn a b) c).map aZ))]):=by
 have:=J1 [a,b,c] (by simp) (by rw[ajd,cv,cv];exact U) (by simp[N,I,Z]);rw[ajd]at this;exact this
def Mh{x:ax}(h:x.a<100000000):uG [x]:=by intro y O;simp at O;subst O;exact λ_=>h
def ix(l:List ax):Prop:=∀x∈l,(x.op=9\/x.op=10)->x.a<=l.length
def ix.ok{l:List ax}(h:ix l)(A3:l.length<100000000):uG l:=λx E H=>by have:=h x E H;omega
def tj{k n:Nat}{l:List ax}(h:∀x∈l,(x.op=9\/x.op=10)->x.a<=n):∀x∈dK k l,(x.op=9\/x.op=10)->x.a<=k+n:=by
 intro x E H;unfold dK at E;obtain⟨y,O,rfl⟩:=aaD.1 E;rw[ID]at H;have:=h y O H;unfold iK;split
 .simp only;omega
 .omega
def AH{a b:List ax}(N:ix a)(I:ix b):ix (jn a b):=by
 intro x E H;rw[cv];unfold jn at E;rcases aaA.1 E with E|E
 .have:=N x E H;omega
 .have:=tj I x E H;omega
def Sn{last:Bool}{b out:List ax}(I:ix b):∀x∈oN last b out,(x.op=9\/x.op=10)->x.a<=(oN last b out).length+out.length:=by
 intro x E H;unfold oN at E⊢;split at E
 .rename_i h;rw[aav h];have:=I x E H;omega
 .rename_i h;rw[aaf h];rcases aaA.1 E with E|E
  .have:=I x E H;simp;omega
  .simp at E;subst E;simp[ins]
def EV(last:Bool)(b out:List ax):(oN last b out).length<=b.length+1/\b.length<=(oN last b out).length:=by
 unfold oN;split<;>simp
def J2{T B:List (List ax)}(A':∀t∈T,∀x∈t,¬(x.op=9\/x.op=10))(A0:∀b∈B,ix b):∀n i,i+n=B.length->ix (ck (T.drop i) (B.drop i)):=by
 intro n;induction n with
 |zero=>intro i hi;rw[amJ (by omega:B.length<=i)];cases T.drop i<;>simp[ck,ix]
 |succ n ih=>
  intro i hi;have J:=ih (i+1) (by omega);rw[BW (by omega:i<B.length)];generalize A4:ck (T.drop (i+1)) (B.drop (i+1))=out at*;have I:=A0 B[i] (aec _);have V:=Sn (last:=decide (i+1=B.length)) (out:=out) I;have A5:=EV (decide (i+1=B.length)) B[i] out;split
  .rename_i h;have A1:=A' T[i] (aec _);intro x E H;rw[cv];have A2:(rY T[i] (oN (decide (i+1=B.length)) B[i] out)).length=T[i].length+1+(oN (decide (i+1=B.length)) B[i] out).length:=by simp[rY];omega
   unfold jn at E;rcases aaA.1 E with E|E
   .unfold rY at E;rcases aaA.1 E with E|E
    .rcases aaA.1 E with E|E
     .exact absurd H (A1 x E)
     .simp at E;subst E;rw[A2];simp[ins];omega
    .have:=tj (n:=(oN (decide (i+1=B.length)) B[i] out).length+out.length) (λx E H=>by have:=V x E H;omega) x E H;omega
   .have:=tj J x E H;omega
  .intro x E H;rw[cv];unfold jn at E;rcases aaA.1 E with E|E
   .have:=V x E H;omega
   .have:=tj J x E H;omega
def nA:List.range' 0 2=[0,1]:=rfl
def uH:List.range' 0 3=[0,1,2]:=rfl
def abl(t p:List ax):∃P:List ax,jn (jn t [ins 10 (-2) 0 0 0]) p=P/\P.length=t.length+1+p.length/\(rY t p).length=t.length+1+p.length/\
 (∀h:t.length<P.length,P[t.length]=ins 10 (-2) 0 0 0)/\t.length<t.length+1+p.length/\
 (P.map aZ).set t.length (D.agg [.int .i64 10,.int .i64 ((t.length:Int)+1+p.length),.int .i64 0,.int .i64 0,.int .i64 0])=(rY t p).map aZ:=by
 refine⟨_,rfl,?_,?_,?_,by omega,?_⟩
 .rw[cv,cv];simp
 .simp[rY];omega
 .intro h;simp[jn,dK,iK,ins]
 .simp[jn,dK,iK,ins,rY]
def abm{t p:List ax}(Z:∀x∈t,¬(x.op=9\/x.op=10)){n:Nat}(I:∀x∈p,(x.op=9\/x.op=10)->x.a<=n)(Ar:t.length+1+p.length<100000000/\t.length+1+n<100000000):uG (rY t p):=by
 intro x E J;unfold rY at E;rcases aaA.1 E with E|E
 .rcases aaA.1 E with E|E
  .exact absurd J (Z x E)
  .simp at E;subst E;simp[ins];omega
 .have:=tj I x E J;omega
def D6(T B:List (List ax))(AK:T.length<=B.length)(AL:B.length<100000000)(AB:∀i,i<=B.length->(ck (T.drop i) (B.drop i)).length<99999990)
 (AG:∀i,i<=B.length->ix (ck (T.drop i) (B.drop i))) (AC:∀b∈B,ix b) (AD:∀t∈T,∀x∈t,¬(x.op=9\/x.op=10)) (k:Kt) (Q:bU->Prop)
 (E:∀(Y:Env) v1 v2 X5,(X5=.d (.list ((ck T B).map aZ))\/(X5=.lit (.slice none 0 0)/\B=[]))->Q (k (.exit 0) ⟨71,aC,(0,true,.vec 0 0 0 T.length)::(1,true,.vec 1 0 0 B.length)::(5,true,X5)::Y,[⟨0,0,.vec 1 (T.map mS)⟩,⟨1,0,.vec 1 (B.map mS)⟩,⟨1651,v1,.dead⟩,⟨2851,v2,.dead⟩]⟩)):
 ∀(i v1 v2:Nat)(X5:AV),i<=B.length->(X5=.d (.list ((ck (T.drop i) (B.drop i)).map aZ))\/(X5=.lit (.slice none 0 0)/\i=B.length))->
 Q (aK ctx 134 (.loop (Code.at (aU f134) [1,1,0,1,0,0])) ⟨71,aC,[(0,true,.vec 0 0 0 T.length),(1,true,.vec 1 0 0 B.length),(5,true,X5),(6,true,.d (.int .i64 ((i:Int)-1)))],[⟨0,0,.vec 1 (T.map mS)⟩,⟨1,0,.vec 1 (B.map mS)⟩,⟨1651,v1,.dead⟩,⟨2851,v2,.dead⟩]⟩ k)
 |0,v1,v2,X5,hi,A5=>by
  have:=E [(6,true,.d (.int .i64 (-1))),(12,true,.d (.bool false))] v1 v2 X5 (A5.imp id λh=>⟨h.1,aaB h.2.symm⟩);simp at this⊢;rw[ag];simp[f134,this]
 |i+1,v1,v2,X5,hi,A5=>by
  have ih:=λv1 v2=>D6 T B AK AL AB AG AC AD k Q E i v1 v2 _ (by omega) (.inl rfl);have A6:=AB i (by omega);have AM:=AG (i+1) hi;have As:=AB (i+1) hi;have AN:=AC B[i] (aec _);have A1:i<B.length:=by omega
  rw[BW A1]at ih A6;have AW:i+1=B.length->ck (T.drop (i+1)) (B.drop (i+1))=[]:=λh=>by rw[h,List.drop_length];cases T.drop B.length<;>rfl
  generalize ck (T.drop (i+1)) (B.drop (i+1))=out at*;obtain⟨b,N⟩:∃b,B[i]=b:=⟨_,rfl⟩;rw[N]at ih A6 AN;have Ah:((i+1:Nat):Int)-1=i:=by omega
  rw[Ah,ag];have Ai:b.length+out.length<99999990/\∀h:i<T.length,T[i].length+1+(oN (decide (i+1=B.length)) b out).length+out.length<99999990:=by
   have Aj:=EV (decide (i+1=B.length)) b out;split at A6
   .rename_i h;rw[cv]at A6;simp[rY]at A6;exact⟨by omega,λ_=>by omega⟩
   .rename_i h;rw[cv]at A6;exact⟨by omega,λAk=>absurd Ak h⟩
  obtain⟨At,Al⟩:=Ai;have Aj:=EV (decide (i+1=B.length)) b out;have A2:=Sn (last:=decide (i+1=B.length)) (out:=out) AN;have AH:=iG (ins 9 (1+(out.length:Int)) 0 0 0);have A7:=iG (ins 10 (-2) 0 0 0);have A8:=gD (a:=b) (b:=[ins 9 (1+(out.length:Int)) 0 0 0]) (by simp;omega) (AN.ok (by omega)) (Mh (by simp[ins];omega));have An:jn b [ins 9 (1+(out.length:Int)) 0 0 0]=b++[ins 9 (b.length+1+out.length) 0 0 0]:=by
   have:(0:Int)<=1+out.length:=by omega
   simp[jn,dK,iK,ins,this];omega
  rw[An]at A8;have A9:=bu ((i:Int)-1);have A':=bu ((B.length:Int)-1);have AX:=bu (1+(out.length:Int));have AY:=bu (b.length:Int);have AZ:(b.map aZ++[D.agg [.int .i64 9,.int .i64 ((b.length:Int)+1+out.length),.int .i64 0,.int .i64 0,.int .i64 0]])[b.length]?=some (D.agg [.int .i64 9,.int .i64 ((b.length:Int)+1+out.length),.int .i64 0,.int .i64 0,.int .i64 0]):=by simp
  have A_:∀y,(b.map aZ++[D.agg [.int .i64 9,.int .i64 ((b.length:Int)+1+out.length),.int .i64 0,.int .i64 0,.int .i64 0]]).set b.length y=b.map aZ++[y]:=λy=>by simp
  have Aa:=bu ((b.length:Int)+1+out.length);have Ab:(b.length:Int)+1-1=b.length:=by omega
  have Ac:=λp (I:p=oN (decide (i+1=B.length)) b out)=>gD (a:=p) (b:=out) (by rw[I];omega) (λx E J=>by rw[I]at E;have:=A2 x E J;omega) (AM.ok (by omega));by_cases O:i<T.length
  .obtain⟨t,Z⟩:∃t,T[i]=t:=⟨_,rfl⟩;have AO:=Al O;rw[Z]at AO;have AI:=AD T[i] (aec _);rw[Z]at AI;rw[dif_pos O,Z]at ih;have Ad:uG t:=λx E J=>absurd J (AI x E);have AP:=bu (t.length:Int);by_cases U:i+1=B.length
   .have V:¬(i:Int)<(B.length:Int)-1:=by omega
    have I:b=oN (decide (i+1=B.length)) b out:=by simp[oN,U]
    rw[<-I]at ih A2 AO;have AE:=bu ((t.length:Int)+1+b.length);have M:=qu (a:=t) (b:=[ins 10 (-2) 0 0 0]) (c:=b) (by simp;omega) Ad (Mh (by simp[ins])) (λx E J=>by have:=A2 x E J;omega);obtain⟨P,AQ,AA,Ao,A3,AF,A0⟩:=abl t b;have H:=gD (a:=rY t b) (b:=out) (by omega) (abm (n:=b.length+out.length) AI (λx E J=>by have:=A2 x E J;omega) (by omega)) (AM.ok (by omega));rw[AQ]at M;generalize jn (rY t b) out=AR at*;generalize rY t b=A4 at*;have hle:t.length+1+b.length<=A4.length:=by omega
    have AJ:(A4.map aZ).take (t.length+1+b.length)=A4.map aZ:=aeJ (by simp;omega);rcases A5 with rfl|⟨rfl,Ap⟩
    .simp[f134,ins,nA,uH]at ih A7 H M A3 A0⊢;simp[A1,N,Z,V,O,A9,A',AE,AP,A7,H,M,ih,nA,uH,A3,A0,AA,AF,hle,AJ,ai]
    .have AS:=AW U;subst AS;simp[f134,ins,nA,uH]at ih A7 H M A3 A0⊢;simp[A1,N,Z,V,O,A9,A',AE,AP,A7,H,M,ih,nA,uH,A3,A0,AA,AF,hle,AJ,ai]
   .obtain rfl:=A5.resolve_right λh=>U h.2;have V:(i:Int)<(B.length:Int)-1:=by omega
    have I:b++[ins 9 (b.length+1+out.length) 0 0 0]=oN (decide (i+1=B.length)) b out:=by simp[oN,U]
    rw[<-I]at ih A2 AO;generalize Ae:b++[ins 9 (b.length+1+out.length) 0 0 0]=q at*;have AT:q.length=b.length+1:=by rw[<-Ae];simp
    have Af:q.map aZ=b.map aZ++[D.agg [.int .i64 9,.int .i64 ((b.length:Int)+1+out.length),.int .i64 0,.int .i64 0,.int .i64 0]]:=by rw[<-Ae];simp[ins]
    have AE:=bu ((t.length:Int)+1+q.length);have M:=qu (a:=t) (b:=[ins 10 (-2) 0 0 0]) (c:=q) (by simp;omega) Ad (Mh (by simp[ins])) (λx E J=>by have:=A2 x E J;omega);obtain⟨P,AQ,AA,Ao,A3,AF,A0⟩:=abl t q;have H:=gD (a:=rY t q) (b:=out) (by omega) (abm (n:=q.length+out.length) AI (λx E J=>by have:=A2 x E J;omega) (by omega)) (AM.ok (by omega));rw[AQ]at M;generalize jn (rY t q) out=AR at*;generalize rY t q=A4 at*;have hle:t.length+1+(b.length+1)<=A4.length:=by omega
    have AJ:(A4.map aZ).take (t.length+1+(b.length+1))=A4.map aZ:=aeJ (by simp;omega);simp only[mS,Af]at M;rw[AA,AT]at M;rw[AT]at AA A0 AF AE;rw[Af,AT]at A8;simp[f134,ins,nA,uH]at ih AH A7 A8 H M A3 A0⊢;simp[A1,N,Z,V,O,A9,A',AX,AY,Aa,Ab,AE,AP,AH,A7,A8,H,M,ih,nA,uH,AZ,A_,A3,A0,AA,AF,hle,AJ,ai]
  .rw[dif_neg O]at ih;have Au:¬(i:Int)<(T.length:Int):=by omega
   by_cases U:i+1=B.length
   .have V:¬(i:Int)<(B.length:Int)-1:=by omega
    have I:b=oN (decide (i+1=B.length)) b out:=by simp[oN,U]
    have H:=Ac _ I;rw[<-I]at ih;generalize jn b out=AR at*;rcases A5 with rfl|⟨rfl,Ap⟩
    .simp[f134]at ih H⊢;simp[A1,N,V,O,A9,A',H,ih,nA,uH]
    .have AS:=AW U;subst AS;simp[f134]at ih H⊢;simp[A1,N,V,O,A9,A',H,ih,nA,uH]
   .obtain rfl:=A5.resolve_right λh=>U h.2;have V:(i:Int)<(B.length:Int)-1:=by omega
    have I:b++[ins 9 (b.length+1+out.length) 0 0 0]=oN (decide (i+1=B.length)) b out:=by simp[oN,U]
    have H:=Ac _ I;rw[<-I]at ih;generalize jn (b++[ins 9 (b.length+1+out.length) 0 0 0]) out=AR at*;simp[f134,ins,nA,uH]at ih AH A8 H⊢;simp[A1,N,V,O,A9,A',AX,AY,Aa,Ab,AH,A8,H,ih,nA,uH,AZ,A_]
def LA(T B:List (List ax))(AK:T.length<=B.length)(AL:B.length<100000000)(AB:∀i,i<=B.length->(ck (T.drop i) (B.drop i)).length<99999990)
 (AC:∀b∈B,ix b) (AD:∀t∈T,∀x∈t,¬(x.op=9\/x.op=10)):∃v1 v2,ak ctx 134 [.vec 0 0 0 T.length,.vec 1 0 0 B.length] [.vec 1 (T.map mS),.vec 1 (B.map mS)]=
  some (.ret (.d (.list ((ck T B).map aZ))),[(v1,.vec 1 (T.map mS)),(v2,.vec 1 (B.map mS))]):=by
 have AG:∀i,i<=B.length->ix (ck (T.drop i) (B.drop i)):=λi hi=>J2 AD AC (B.length-i) i (by omega);have AU:=λk Q E v1 v2=>D6 T B AK AL AB AG AC AD k Q E B.length v1 v2 (.lit (.slice none 0 0)) (by omega) (.inr ⟨rfl,rfl⟩);have A':=bu ((B.length:Int)-1);have Ag:B=[]->ck T B=[]:=λh=>by rw[h];cases T<;>rfl
 rw[agH (by simp)];obtain⟨C,Aq⟩:∃C,C=ck T B:=⟨_,rfl⟩;rw[<-Aq]at AU Ag⊢;simp[f134,A']at AU⊢;refine AU _ (λr=>∃v1 v2,r=some (.ret (.d (.list (C.map aZ))),[(v1,.vec 1 (T.map mS)),(v2,.vec 1 (B.map mS))])) (λY v1 v2=>⟨?_,λN=>?_⟩) _ _
 .simp
 .rw[Ag N];simp
@[simp] def p7(p:Pg)(c t:Int):aE:=.box [.d (.str p.name),.d (.list (p.vars.map bx)),.d (.list (p.body.map bZ)),.d (.int .i64 c),.d (.int .i64 t)]
def jY(l:List ax):Prop:=∀x∈l,¬(x.op=9\/x.op=10)
def jY.ok{l:List ax}(h:jY l):uG l:=λx U I=>absurd I (h x U)
def jY.low{l:List ax}(h:jY l):ix l:=λx U I=>absurd I (h x U)
def jY.app{a b:List ax}(AF:jY a)(AG:jY b):jY (a++b):=λx U=>(aaA.1 U).elim (AF x) (AG x)
def lG{x:ax}(h:¬(x.op=9\/x.op=10)):jY [x]:=by intro y D;simp at D;subst D;exact h
def jY.mv{l:List ax}(h:jY l)(k:Nat):dK k l=l:=by
 unfold dK;conv=>rhs;rw[<-List.map_id l]
 refine ai7 λx U=>?_;unfold iK;rw[aaf λAH=>h x U AH.1];rfl
structure KR(p:Pg)(x:Ex):Prop where
 nj:jY (aj p.vars x).1
 call:∀(c t h:Int),0<=t->0<=h->h+(aj p.vars x).1.length<=100000000->(aj p.vars x).1.length<99999990->
  ak ctx 195 [.ptr 0 0 0,.d (.agg [.int .i64 (bO x),.int .i64 (il x),.str (dI x),.str (fQ x),.list ((da x).map bJ),.int .i64 (jH x)]),.d (.int .i64 h)] [p7 p c t]=
   some (.ret (.bh [.d (.list ((aj p.vars x).1.map aZ)),.d (.bool (aj p.vars x).2)]),[(0,p7 p c (max t (az h x)))])
section
variable {p:Pg} (M:p.vars.length<=1000) (N:∀v∈p.vars,cJ v=true)
theorem XP{op n line:Int}(Z:op=1\/op=2):KR p (.mk op n [] [] [] line):=by
 refine⟨?_,λc t h E A3 hh V=>?_⟩
 .rcases Z with rfl|rfl<;>exact lG (by simp[ins])
 .have O:=bu (h+1);have H:=iG (ins 1 0 0 n 0);rw[At (by simp)];simp[ins]at H;rcases Z with rfl|rfl<;>simp[f195,H,aj,az,ins,O,DX,ai]
include M N
theorem ajg{name:Tx}{line:Int}{v:Vr}(J:bk p.vars name=some v)(E:v.ty<=2):KR p (.mk 3 0 name [] [] line):=by
 have AO:=Uw M N J E;have A':=iX J;refine⟨?_,λc t h E A3 hh V=>?_⟩
 .simp only[aj];refine lG ?_;simp[ins,A'];omega
 .have O:=bu (h+1);have A0:=ju p M N name;rw[A']at A0;have A1:=bu (1+v.ty);have H:=iG (ins (1+v.ty) (bA p.vars name).1 0 0 0);rw[At (by simp)];simp[ins]at H;simp[gO,bx,cZ]at A0;simp[f195,A0,bx,cZ,H,aj,az,ins,O,A1,A',DX,ai]
theorem ajh{name field:Tx}{line:Int}{v:Vr}{q:Pn}(J:bk p.vars name=some v)(E:2<v.ty)(AE:mE v.ty field=some q)(AP:dz field=true):KR p (.mk 5 0 name field [] line):=by
 have A':(fL p.vars name field).2=q:=(s7 J E AE).1;have AO:q.ty=1\/q.ty=2:=R4 (s7 J E AE).2.1;refine⟨?_,λc t h E A3 hh V=>?_⟩
 .simp only[aj];refine lG ?_;simp[ins,A'];omega
 .have O:=bu (h+1);have A0:=ju p M N name;obtain⟨b,AI⟩:=PX p M N name field;rw[A']at AI;have A1:=bu (1+q.ty);have H:=iG (ins (1+q.ty) (fL p.vars name field).1 0 0 0);rw[At (by simp)];simp[ins]at H;simp[gO,bx,cZ]at A0;simp[gO,gp]at AI;simp[f195,A0,AI,bx,cZ,H,aj,az,ins,O,A1,A',DX,ai]
theorem aji{name:Tx}{line:Int}{v:Vr}{y:Ex}(J:bk p.vars name=some v)(E:v.ty<=2)(D:KR p y):KR p (.mk 4 0 name [] [y] line):=by
 have AO:=Uw M N J E;have A':=iX J;have A6:(aj p.vars (.mk 4 0 name [] [y] line))=((aj p.vars y).1++[ins (3+v.ty) (bA p.vars name).1 0 v.lo v.hi],decide (v.ty=2)):=by simp[aj,pE,A']
 have A2:jY [ins (3+v.ty) (bA p.vars name).1 0 v.lo v.hi]:=lG (by simp[ins];omega);refine⟨?_,λc t h E A3 hh V=>?_⟩
 .rw[A6];exact D.nj.app A2
 .rw[A6]at V hh⊢;simp at V;have O:=bu (h+1);have A0:=ju p M N name;rw[A']at A0;have A1:=bu (3+v.ty);have H:=iG (ins (3+v.ty) (bA p.vars name).1 0 v.lo v.hi);have A4:=D.call c (max t (h+1)) h (by omega) A3 (by simp at hh;omega) (by omega);have I:=gD (a:=(aj p.vars y).1) (b:=[ins (3+v.ty) (bA p.vars name).1 0 v.lo v.hi]) (by simp;omega) D.nj.ok A2.ok;have AS:jn (aj p.vars y).1 [ins (3+v.ty) (bA p.vars name).1 0 v.lo v.hi]=(aj p.vars y).1++[ins (3+v.ty) (bA p.vars name).1 0 v.lo v.hi]:=by unfold jn;rw[A2.mv]
  rw[AS]at I;have A7:max t (az h (.mk 4 0 name [] [y] line))=max (max t (h+1)) (az h y):=by simp[az,fE];omega
  rw[A7];generalize aj p.vars y=g at*;generalize az h y=T at*;rw[At (by simp)];simp[ins]at H I;simp[gO,bx,cZ]at A0;simp at A4;simp[f195,A0,bx,cZ,aw,H,A4,I,ins,O,A1,DX,ai,nA]
end
def XQ{p:Pg}{op line:Int}{sub:List Ex}(Z:6<=op)(AY:sub≠[])(AT:jY (gd p.vars sub).1):jY (aj p.vars (.mk op 0 [] [] sub line)).1:=by
 have e:aj p.vars (.mk op 0 [] [] sub line)=((gd p.vars sub).1++[ins 8 (if (gd p.vars sub).2=true then 1 else 0) op 0 0],decide (op=7\/12<op)):=by
  rw[aj,aaf (by omega),aaf (by omega),aaf (by omega),aaf (by omega)]
 rw[e];exact AT.app (lG (by simp[ins]))
def me{a b:List ax}(AG:jY b):jn a b=a++b:=by unfold jn;rw[AG.mv]
def ajj{p:Pg}{op line:Int}{y:Ex}(Z:op=6\/op=7)(D:KR p y):KR p (.mk op 0 [] [] [y] line):=by
 refine⟨XQ (by omega) (by simp) (by simpa [gd]using D.nj),λc t h E A3 hh V=>?_⟩;have AJ:¬(op=1\/op=2):=by omega
 have A8:¬op=3:=by omega
 have A9:¬op=4:=by omega
 have AA:¬op=5:=by omega
 have AK:¬op=1:=by omega
 have AL:¬op=2:=by omega
 have A6:(aj p.vars (.mk op 0 [] [] [y] line))=((aj p.vars y).1++[ins 8 (if (aj p.vars y).2=true then 1 else 0) op 0 0],decide (op=7\/12<op)):=by
  rw[aj,aaf AJ,aaf A8,aaf AA,aaf A9];simp only[gd];rfl
 rw[A6]at V hh⊢;simp at V;have O:=bu (h+1);have A1:=bu h;have v0:IntKind.i64.wrap 0=0:=rfl;have v1:IntKind.i64.wrap 1=1:=rfl;have v2:IntKind.i64.wrap 2=2:=rfl;have A4:=D.call c (max t (h+1)) h (by omega) A3 (by simp at hh;omega) (by omega);have A5:=gD (a:=[]) (b:=(aj p.vars y).1) (by simp;omega) (by intro x U;cases U) D.nj.ok;rw[Ai]at A5;have A2:jY [ins 8 (if (aj p.vars y).2=true then 1 else 0) op 0 0]:=lG (by simp[ins]);have I:=gD (a:=(aj p.vars y).1) (b:=[ins 8 (if (aj p.vars y).2=true then 1 else 0) op 0 0]) (by simp;omega) D.nj.ok A2.ok;rw[me A2]at I;have H:=iG (ins 8 (if (aj p.vars y).2=true then 1 else 0) op 0 0);have A7:max t (az h (.mk op 0 [] [] [y] line))=max (max t (h+1)) (az h y):=by
  have AM:¬(op=1\/op=2\/op=3\/op=5):=by omega
  simp[az,fE,AM];omega
 rw[A7];generalize (aj p.vars y).2=B at*;generalize (aj p.vars y).1=g at*;generalize az h y=T at*;have AQ:(op=7\/12<op)↔op=7:=by omega
 rw[At (by simp)];cases B<;>
 .simp[ins]at H I A5 A4;simp[f195,AK,AL,A8,A9,AA,aw,O,DX];rw[ag];simp[f195,aw,A4,A1,v0,v1,A5,nA];rw[ag];rcases Z with rfl|rfl<;>simp[f195,aw,v0,v1,H,I,nA,ins,ai]
def ajk{p:Pg}{op line:Int}{y z:Ex}(Z:8<=op)(D:KR p y)(AB:KR p z):KR p (.mk op 0 [] [] [y,z] line):=by
 refine⟨XQ (by omega) (by simp) (by simpa [gd]using D.nj.app AB.nj),λc t h E A3 hh V=>?_⟩;have AJ:¬(op=1\/op=2):=by omega
 have A8:¬op=3:=by omega
 have A9:¬op=4:=by omega
 have AA:¬op=5:=by omega
 have AK:¬op=1:=by omega
 have AL:¬op=2:=by omega
 have AU:¬op=7:=by omega
 have A6:(aj p.vars (.mk op 0 [] [] [y,z] line))=((aj p.vars y).1++(aj p.vars z).1++[ins 8 (if (aj p.vars z).2=true then 1 else 0) op 0 0],decide (op=7\/12<op)):=by
  rw[aj,aaf AJ,aaf A8,aaf AA,aaf A9];simp only[gd];rfl
 rw[A6]at V hh⊢;simp at V;have O:=bu (h+1);have A1:=bu h;have v0:IntKind.i64.wrap 0=0:=rfl;have v1:IntKind.i64.wrap 1=1:=rfl;have v2:IntKind.i64.wrap 2=2:=rfl;have A4:=D.call c (max t (h+1)) h (by omega) A3 (by simp at hh;omega) (by omega);have AR:=AB.call c (max (max t (h+1)) (az h y)) (h+1) (by omega) (by omega) (by have:=j7 p.vars y;simp at hh;omega) (by omega);have A5:=gD (a:=[]) (b:=(aj p.vars y).1) (by simp;omega) (by intro x U;cases U) D.nj.ok;rw[Ai]at A5;have AN:=gD (a:=(aj p.vars y).1) (b:=(aj p.vars z).1) (by omega) D.nj.ok AB.nj.ok;rw[me AB.nj]at AN;have A2:jY [ins 8 (if (aj p.vars z).2=true then 1 else 0) op 0 0]:=lG (by simp[ins]);have I:=gD (a:=(aj p.vars y).1++(aj p.vars z).1) (b:=[ins 8 (if (aj p.vars z).2=true then 1 else 0) op 0 0]) (by simp;omega) (D.nj.app AB.nj).ok A2.ok;rw[me A2]at I;have H:=iG (ins 8 (if (aj p.vars z).2=true then 1 else 0) op 0 0);have A7:max t (az h (.mk op 0 [] [] [y,z] line))=max (max (max t (h+1)) (az h y)) (az (h+1) z):=by
  have AM:¬(op=1\/op=2\/op=3\/op=5):=by omega
  simp[az,fE,AM];omega
 rw[A7];generalize (aj p.vars z).2=B at*;generalize (aj p.vars y).2=AZ at*;generalize (aj p.vars y).1=g at*;generalize (aj p.vars z).1=g2 at*;generalize az (h+1) z=T2 at*;generalize az h y=T at*;have AQ:decide (op=7\/12<op)=decide (12<op):=by rw[aeI];omega
 rw[AQ];rw[At (by simp)];cases B<;>
 .simp[ins]at H I A5 AN A4 AR;simp[f195,AK,AL,A8,A9,AA,aw,O,DX];rw[ag];simp[f195,aw,A4,A1,v0,v1,A5,nA];rw[ag];simp[f195,aw,AR,O,A1,v0,v1,v2,AN,nA];rw[ag];simp[f195,aw,v0,v1,v2,H,I,nA,ins,AU,ai]
def XR{p:Pg}(M:p.vars.length<=1000)(N:∀v∈p.vars,cJ v=true):∀x:Ex,bE x=true->(aJ p.vars x).e=0->KR p x
 | .mk op n name field sub line,AV,ex=>by
  have ih:∀y∈sub,bE y=true->(aJ p.vars y).e=0->KR p y:=λy D=>XR M N y;have AH:=Ao AV ex;cases AH with
  |num h=>exact XP (.inl rfl)
  |sk h=>exact XP (.inr rfl)
  |var J AF E=>exact ajg M N J E
  |idx J AF E AC AD ty=>exact aji M N J E (ih _ (by simp) AC AD)
  |Rx J E AE AP=>exact ajh M N J E AE AP
  |one Z AC AD ty=>exact ajj Z (ih _ (by simp) AC AD)
  |two Z AC AD AW AX ty A_=>exact ajk Z.1 (ih _ (by simp) AC AD) (ih _ (by simp) AW AX)
termination_by x=>SizeOf.sizeOf x
decreasing_by all_goals (simp_wf;have:=amM D;omega)
def oO{p:Pg}{x:Ex}(D:KR p x)(c t h:Int)(I:0<=t)(A4:0<=h)(hh:h+(aj p.vars x).1.length<=100000000)(A5:(aj p.vars x).1.length<99999990):
 ak ctx 133 [.ptr 0 0 0,.d (.agg [.int .i64 (bO x),.int .i64 (il x),.str (dI x),.str (fQ x),.list ((da x).map bJ),.int .i64 (jH x)]),.d (.int .i64 h)] [p7 p c t]=
  some (.ret (.d (.list ((aj p.vars x).1.map aZ))),[(0,p7 p c (max t (az h x)))]):=by
 have A0:=D.call c t h I A4 hh A5;generalize aj p.vars x=g at*;generalize max t (az h x)=T at*;rw[agG (by simp)];simp at A0;simp[f133,A0]
structure uJ(p:Pg)(x:Sm):Prop where
 low:∀c,0<=c->ix (b6 p.vars x c).1
 call:∀(c t:Int),0<=c->0<=t->(b6 p.vars x c).1.length<99999980->(b6 p.vars x c).2<99999980->
  ak ctx 81 [.ptr 0 0 0,.d (bZ x)] [p7 p c t]=
   some (.ret (.d (.list ((b6 p.vars x c).1.map aZ))),[(0,p7 p (b6 p.vars x c).2 (max t (dN x)))])
def P0{p:Pg}{x:Sm}(h:uJ p x){c:Int}(E:0<=c):ix (lS p.vars x c):=by
 unfold lS;exact AH (lG (x:=ins 11 0 0 0 0) (by simp[ins])).low (h.low c E)
def FP{p:Pg}(l:List Sm)(U:l.length<100000000)(k:Kt)(Q:List ax->Int->Int->bU->Prop)
 (D:∀(Y:Env)(out:List ax) c t v v3 v4,Q out c t (k (.exit 0) ⟨25,aC,(0,true,.ptr 0 0 0)::(1,true,.d (.list (l.map bZ)))::(5,true,.vec 350 v 0 out.length)::Y,[⟨0,0,p7 p c t⟩,⟨300,v3,.vec 5 []⟩,⟨350,v,.vec 5 (out.map aZ)⟩,⟨1251,v4,.dead⟩]⟩)):
 ∀(rest pre:List Sm)(out:List ax)(c t:Int)(v v3 v4:Nat),l=pre++rest->(∀x∈rest,uJ p x)->0<=c->0<=t->ix out->out.length+(ah p.vars rest c).1.length<99999980->(ah p.vars rest c).2<99999980->
 Q (jn out (ah p.vars rest c).1) (ah p.vars rest c).2 (max t (aM rest)) (aK ctx 44 (.loop (Code.at (aU f44) [1,1,0,1,0,0])) ⟨25,aC,[(0,true,.ptr 0 0 0),(1,true,.d (.list (l.map bZ))),(5,true,.vec 350 v 0 out.length),(6,true,.d (.int .i64 pre.length))],[⟨0,0,p7 p c t⟩,⟨300,v3,.vec 5 []⟩,⟨350,v,.vec 5 (out.map aZ)⟩,⟨1251,v4,.dead⟩]⟩ k)
 |[],pre,out,c,t,v,v3,v4,N,O,E,I,H,J,M=>by
  have A6:pre.length=l.length:=by rw[N];simp
  have:=D [(6,true,.d (.int .i64 l.length)),(10,true,.d (.bool false))] out c t v v3 v4;have e:max t (aM [])=t:=by simp[aM];omega
  rw[e];simp[ah,WB]at this⊢;rw[A6,ag];simp[f44,this]
 |x::rest,pre,out,c,t,v,v3,v4,N,O,E,I,H,J,M=>by
  have V:=O x (by simp);have A7:pre.length<l.length:=by rw[N];simp
  have A8:l[pre.length]=x:=by simp[N]
  have AK:=uC (vs:=p.vars) x c;have AL:=fm (vs:=p.vars) rest (b6 p.vars x c).2;have A9:ah p.vars (x::rest) c=(jn (lS p.vars x c) (ah p.vars rest (b6 p.vars x c).2).1,(ah p.vars rest (b6 p.vars x c).2).2):=by simp only[ah,lS]
  rw[A9]at J M⊢;simp only at J M⊢;rw[cv,Gy]at J;have AA:=AH H (P0 V E);have AM:(jn out (lS p.vars x c)).length=out.length+((b6 p.vars x c).1.length+1):=by rw[cv,Gy]
  have A1:=V.call c t E I (by omega) (by omega);have Z:=qu (a:=out) (b:=[ins 11 0 0 0 0]) (c:=(b6 p.vars x c).1) (by simp;omega) (H.ok (by omega)) (lG (x:=ins 11 0 0 0 0) (by simp[ins])).ok ((V.low c E).ok (by omega));have AB:jn (jn out [ins 11 0 0 0 0]) (b6 p.vars x c).1=jn out (lS p.vars x c):=by rw[Oh];rfl
  rw[AB]at Z;have AC:0<=max t (dN x):=by omega
  have ih:=λv v3 v4=>FP l U k Q D rest (pre++[x]) (jn out (lS p.vars x c)) (b6 p.vars x c).2 (max t (dN x)) v v3 v4 (by simp[N]) (λy AD=>O y (by simp[AD])) (by omega) AC AA (by omega) M;have AE:max (max t (dN x)) (aM rest)=max t (aM (x::rest)):=by simp only[aM];omega
  rw[AE,Oh]at ih;generalize max t (aM (x::rest))=TT at*;generalize max t (dN x)=T at*;generalize jn out (lS p.vars x c)=AN at*;generalize jn (lS p.vars x c) (ah p.vars rest (b6 p.vars x c).2).1=AO at*;generalize (ah p.vars rest (b6 p.vars x c).2).2=A' at*;have A2:=iG (ins 11 0 0 0 0);have AF:=bu ((pre.length:Int)+1);generalize b6 p.vars x c=g at*;rw[ag];simp[ins]at A2 Z;simp[dk]at A1;simp[f44,dk]at ih⊢;simp[A7,A8,AF,A2,Z,A1,ih,uH,ai,dk]
def oP{p:Pg}(l:List Sm)(O:∀x∈l,uJ p x)(c t:Int)(E:0<=c)(I:0<=t)(J:(ah p.vars l c).1.length<99999980)(M:(ah p.vars l c).2<99999980):
 ak ctx 44 [.ptr 0 0 0,.d (.list (l.map bZ))] [p7 p c t]=
  some (.ret (.vec 1 0 0 (ah p.vars l c).1.length),[(0,p7 p (ah p.vars l c).2 (max t (aM l))),(0,.vec 5 ((ah p.vars l c).1.map aZ))]):=by
 have U:l.length<100000000:=by have:=JW p.vars l c;omega
 have H:=λk Q D v v3 v4=>FP l U k Q D l [] [] c t v v3 v4 rfl O E I (by intro x D;cases D) (by simpa using J) M;rw[Ai]at H;generalize ah p.vars l c=g at*;generalize max t (aM l)=T at*;obtain⟨g1,A'⟩:=g;rw[alq (by simp)];simp[f44]at H⊢;refine H _ (λout A3 t2 r=>out=g1->A3=A'->t2=T->r=some (.ret (.vec 1 0 0 g1.length),[(0,p7 p A' T),(0,.vec 5 (g1.map aZ))])) (λY out A3 t2 v v3 v4 AG AI AJ=>?_) _ _ _ rfl rfl rfl;subst AG AI AJ;simp
section
variable {p:Pg} (M:p.vars.length<=1000) (N:∀v∈p.vars,cJ v=true)
include M N
theorem XS{op line:Int}{to val:Ex}(A3:op=7\/op=8):uJ p (.mk op [] to val [] [] [] [] line):=by
 refine⟨λc U=>?_,λc t U A0 O A4=>?_⟩
 .rcases A3 with rfl|rfl<;>(simp only[b6];intro x A5 _;simp at A5;subst A5;simp[ins])
 .have D:=ju p M N [];have A6:=iG (ins 9 (-1) 0 0 0);have A7:=iG (ins 9 (-2) 0 0 0);simp[gO,bx,cZ]at D;simp[ins]at A6 A7;rw[vL (by simp)];rcases A3 with rfl|rfl<;>simp[f81,dk,bx,cZ,D,A6,A7,b6,dN,ins,ai]<;>omega
theorem adC{name:Tx}{val:Ex}{H line:Int}(E:KR p val):uJ p (.mk 1 [] (.mk 3 0 name [] [] H) val [] [] [] [] line):=by
 have e:∀c,b6 p.vars (.mk 1 [] (.mk 3 0 name [] [] H) val [] [] [] [] line) c=((aj p.vars val).1++[ins 6 (bA p.vars name).1 0 0 0],c):=λc=>by simp[b6,bO,dI]
 have A1:dN (.mk 1 [] (.mk 3 0 name [] [] H) val [] [] [] [] line)=az 0 val:=by simp[dN,bO]
 have I:jY [ins 6 (bA p.vars name).1 0 0 0]:=lG (by simp[ins]);refine⟨λc U=>?_,λc t U A0 O A4=>?_⟩
 .rw[e];exact (E.nj.app I).low
 .rw[e]at O⊢;rw[A1];simp at O;have D:=ju p M N [];have V:=ju p M N name;have Z:=oO E c t 0 A0 (by omega) (by omega) (by omega);have A':=iG (ins 6 (bA p.vars name).1 0 0 0);have J:=gD (a:=(aj p.vars val).1) (b:=[ins 6 (bA p.vars name).1 0 0 0]) (by simp;omega) E.nj.ok I.ok;rw[me I]at J;generalize aj p.vars val=g at*;generalize max t (az 0 val)=T at*;simp[gO,bx,cZ]at D V;simp[ins]at A' J;simp at Z;rw[vL (by simp)];simp[f81,dk,aw,bx,cZ,D,V,A',Z,J,ins,nA,ai]
theorem adD{name:Tx}{val y:Ex}{H line:Int}(E:KR p val)(A2:KR p y):uJ p (.mk 1 [] (.mk 4 0 name [] [y] H) val [] [] [] [] line):=by
 have e:∀c,b6 p.vars (.mk 1 [] (.mk 4 0 name [] [y] H) val [] [] [] [] line) c=((aj p.vars y).1++(aj p.vars val).1++[ins 7 (bA p.vars name).1 0 (bA p.vars name).2.lo (bA p.vars name).2.hi],c):=λc=>by simp[b6,bO,dI,da,pE]
 have A1:dN (.mk 1 [] (.mk 4 0 name [] [y] H) val [] [] [] [] line)=max (max (az 0 y) 0) (az 1 val):=by simp[dN,bO,da,fE]
 have I:jY [ins 7 (bA p.vars name).1 0 (bA p.vars name).2.lo (bA p.vars name).2.hi]:=lG (by simp[ins]);refine⟨λc U=>?_,λc t U A0 O A4=>?_⟩
 .rw[e];exact ((A2.nj.app E.nj).app I).low
 .rw[e]at O⊢;rw[A1,show max t (max (max (az 0 y) 0) (az 1 val))=max (max t (az 0 y)) (az 1 val) by omega];simp at O;have D:=ju p M N [];have V:=ju p M N name;have A8:=oO A2 c t 0 A0 (by omega) (by omega) (by omega);have Z:=oO E c (max t (az 0 y)) 1 (by omega) (by omega) (by omega) (by omega);have A':=iG (ins 7 (bA p.vars name).1 0 (bA p.vars name).2.lo (bA p.vars name).2.hi);have J:=qu (a:=(aj p.vars y).1) (b:=(aj p.vars val).1) (c:=[ins 7 (bA p.vars name).1 0 (bA p.vars name).2.lo (bA p.vars name).2.hi]) (by simp;omega) A2.nj.ok E.nj.ok I.ok;rw[me I,me E.nj]at J;generalize aj p.vars val=g at*;generalize aj p.vars y=g2 at*;generalize max (max t (az 0 y)) (az 1 val)=T at*;generalize max t (az 0 y)=T2 at*;simp[gO,bx,cZ]at D V;simp[ins]at A' J;simp at Z A8;rw[vL (by simp)];simp[f81,dk,aw,bx,cZ,D,V,A',Z,A8,J,ins,uH,ai]
end
def vN(T B:List (List ax)):∀i,i<=B.length->(ck (T.drop i) (B.drop i)).length<=(ck T B).length
 |0,_=>by simp
 |i+1,h=>by
  have ih:=vN T B i (by omega);rw[BW (by omega:i<B.length)]at ih;refine ajf ?_ ih;split<;>(rw[cv];omega)
def tt(b:List Sm):dr b=.list (b.map bZ):=rfl
structure FQ(p:Pg)(b:List Sm):Prop where
 low:∀c,0<=c->ix (ah p.vars b c).1
 all:∀x∈b,uJ p x
def GY{p:Pg}{s:Sm}(AE:(bS s).length<100000000)(AC:(aV s).length<100000000)(E:aE)(k:Kt)(Q:List (List ax)->List (List ax)->Int->Int->bU->Prop)
 (H:∀(Y:Env) T B c t v1 v2,Q T B c t (k (.exit 1) ⟨427,aC,(0,true,.ptr 0 0 0)::(3,true,.ptr 250 1 0)::(9,true,.vec 550 v1 0 T.length)::(10,true,.vec 600 v2 0 B.length)::Y,[⟨0,0,p7 p c t⟩,⟨250,1,bB s⟩,⟨400,1,E⟩,⟨550,v1,.vec 1 (T.map mS)⟩,⟨600,v2,.vec 1 (B.map mS)⟩,⟨800,0,.dead⟩,⟨850,0,.dead⟩,⟨1600,0,.dead⟩,⟨8351,0,.dead⟩,⟨15051,0,.dead⟩,⟨16851,0,.dead⟩,⟨18451,0,.dead⟩]⟩)):
 ∀(D:List (List Sm))(rc:List Ex)(I:List (List Sm))(O:List Ex)(T B:List (List ax))(c t:Int)(v1 v2:Nat),aV s=I++D->bS s=O++rc->rc.length<=D.length->(rc≠[]->O.length=I.length)->O.length<=I.length->
 T.length=O.length->B.length=I.length->(∀x∈rc,KR p x)->(∀b∈D,FQ p b)->0<=c->0<=t->(∀x∈rc,(aj p.vars x).1.length<99999980)->(∀b∈(ay p.vars D c).1,b.length<99999980)->(ay p.vars D c).2<99999980->
 Q (T++rc.map λx=>(aj p.vars x).1) (B++(ay p.vars D c).1) (ay p.vars D c).2 (max t (max (eL rc) (bz D))) (aK ctx 81 (.loop (Code.at (aU f81) [1,1,0,1,0,1,1,1,0,1,0,1,0,0])) ⟨427,aC,[(0,true,.ptr 0 0 0),(3,true,.ptr 250 1 0),(9,true,.vec 550 v1 0 T.length),(10,true,.vec 600 v2 0 B.length),(11,true,.d (.int .i64 I.length))],[⟨0,0,p7 p c t⟩,⟨250,1,bB s⟩,⟨400,1,E⟩,⟨550,v1,.vec 1 (T.map mS)⟩,⟨600,v2,.vec 1 (B.map mS)⟩,⟨800,0,.dead⟩,⟨850,0,.dead⟩,⟨1600,0,.dead⟩,⟨8351,0,.dead⟩,⟨15051,0,.dead⟩,⟨16851,0,.dead⟩,⟨18451,0,.dead⟩]⟩ k)
 |[],rc,I,O,T,B,c,t,v1,v2,A',A0,hle,A5,AU,A1,A2,A3,V,M,N,A6,Z,U=>by
  have AV:rc=[]:=aaB (by simpa using hle);subst AV;have AW:I.length=(aV s).length:=by rw[A'];simp
  have:=H [(11,true,.d (.int .i64 (aV s).length)),(99,true,.d (.bool false))] T B c t v1 v2;have e:max t (max (eL []) (bz []))=t:=by simp[eL,bz];omega
  rw[e];simp[ay,bB]at this⊢;rw[AW,ag];simp[f81,this]
 |b::D,rc,I,O,T,B,c,t,v1,v2,A',A0,hle,A5,AU,A1,A2,A3,V,M,N,A6,Z,U=>by
  have AF:I.length<(aV s).length:=by rw[A'];simp
  have AG:(aV s)[I.length]=b:=by simp[A']
  have AH:=V b (by simp);have hm:=fm (vs:=p.vars) b c;have Aj:=lF (vs:=p.vars) D (ah p.vars b c).2;have AX:ay p.vars (b::D) c=((ah p.vars b c).1::(ay p.vars D (ah p.vars b c).2).1,(ay p.vars D (ah p.vars b c).2).2):=by simp[ay]
  rw[AX]at Z U⊢;simp only at U⊢;have AI:=Z _ (List.mem_cons_self ..);have AJ:=bu ((I.length:Int)+1);have AK:B.length<=4611686018427387903:=by omega
  have AL:(B.length+1)*24<=140737488355328:=by omega
  have AY:T.length<=4611686018427387903:=by omega
  have AZ:(T.length+1)*24<=140737488355328:=by omega
  cases rc with
  |nil=>
   have Ak:¬(I.length:Int)<(bS s).length:=by rw[A0];simp;omega
   have A_:¬I.length<(bS s).length:=by omega
   have A7:=oP b AH.all c t M N AI (by omega);have ih:=λv1 v2=>GY AE AC E k Q H D [] (I++[b]) O T (B++[(ah p.vars b c).1]) (ah p.vars b c).2 (max t (aM b)) v1 v2 (by simp[A']) A0 (by simp) (λh=>absurd rfl h) (by simp;omega) A1 (by simp[A2]) (λx H=>by cases H) (λb J=>V b (by simp[J])) (by omega) (by omega) (λx H=>by cases H) (λb J=>Z b (by simp[J])) U;have A8:max (max t (aM b)) (max (eL []) (bz D))=max t (max (eL []) (bz (b::D))):=by simp only[bz];omega
   rw[A8]at ih;generalize max t (max (eL []) (bz (b::D)))=TT at*;generalize max t (aM b)=Aa at*;generalize ah p.vars b c=g at*;rw[ag];simp at A7;simp[f81]at ih⊢;simp[AF,AG,A_,AJ,A7,ih,AK,AL,tt]
  |cons x rc=>
   have A5:=A5 (by simp);have Ab:I.length<(bS s).length:=by rw[A0];simp;omega
   have Ac:(bS s)[I.length]=x:=by simp[A0,<-A5]
   have Ad:=A3 x (by simp);have Al:=A6 x (by simp);have AM:=oO Ad c t 0 N (by omega) (by omega) (by omega);have A7:=oP b AH.all c (max t (az 0 x)) M (by omega) AI (by omega);have ih:=λv1 v2=>GY AE AC E k Q H D rc (I++[b]) (O++[x]) (T++[(aj p.vars x).1]) (B++[(ah p.vars b c).1]) (ah p.vars b c).2 (max (max t (az 0 x)) (aM b)) v1 v2 (by simp[A']) (by simp[A0]) (by simpa using hle) (λh=>by simp[A5]) (by simp;omega) (by simp[A1]) (by simp[A2]) (λx H=>A3 x (by simp[H])) (λb J=>V b (by simp[J])) (by omega) (by omega) (λx H=>A6 x (by simp[H])) (λb J=>Z b (by simp[J])) U;have A8:max (max (max t (az 0 x)) (aM b)) (max (eL rc) (bz D))=max t (max (eL (x::rc)) (bz (b::D))):=by simp only[bz,eL];omega
   rw[A8]at ih;rw[aaK];generalize max t (max (eL (x::rc)) (bz (b::D)))=TT at*;generalize max (max t (az 0 x)) (aM b)=Aa at*;generalize max t (az 0 x)=T2 at*;generalize ah p.vars b c=g at*;generalize (aj p.vars x)=g2 at*;rw[ag];simp at A7 AM;simp[f81]at ih⊢;simp[AF,AG,Ab,Ac,aw,AJ,AM,A7,ih,AK,AL,AY,AZ,tt]
def xE(vs:List Vr):∀(l:List (List Sm))(c:Int),(ay vs l c).1.length=l.length
 |[],c=>by simp[ay]
 |b::r,c=>by simp[ay,xE vs r]
def D8{vs:List Vr}{P:List ax->Prop}:∀(l:List (List Sm))(c:Int),0<=c->(∀b∈l,∀c,0<=c->P (ah vs b c).1)->∀g∈(ay vs l c).1,P g
 |[],c,_,_,g,A4=>by simp[ay]at A4
 |b::r,c,M,h,g,A4=>by
  have hm:=fm (vs:=vs) b c;simp only[ay,aam]at A4;rcases A4 with rfl|A4
  .exact h b (by simp) c M
  .exact D8 r _ (by omega) (λb J=>h b (by simp[J])) g A4
def XV:∀l:List Ex,0<=eL l
 |[]=>by simp[eL]
 |x::r=>by have:=XV r;simp only[eL];omega
def EY{T B:List (List ax)}:∀i,(h:i<B.length)->B[i].length<=(ck T B).length/\∀A9:i<T.length,T[i].length<=(ck T B).length:=by
 intro i h;have y:=vN T B i (by omega);rw[BW h]at y;have A9:=EV (decide (i+1=B.length)) B[i] (ck (T.drop (i+1)) (B.drop (i+1)));split at y
 .rw[cv]at y;simp[rY]at y;exact⟨by omega,λ_=>by omega⟩
 .rename_i Ae;rw[cv]at y;exact⟨by omega,λh=>absurd h Ae⟩
def ajo{p:Pg}(Af:p.vars.length<=1000)(Ag:∀v∈p.vars,cJ v=true){to val:Ex}{conds:List Ex}{blocks:List (List Sm)}{line:Int}(A9:conds.length<=blocks.length)(AN:blocks.length<=conds.length+1)
 (A3:∀x∈conds,KR p x) (V:∀b∈blocks,FQ p b):uJ p (.mk 2 [] to val conds [] [] blocks line):=by
 have e:∀c,b6 p.vars (.mk 2 [] to val conds [] [] blocks line) c=(ck (conds.map λx=>(aj p.vars x).1) (ay p.vars blocks c).1,(ay p.vars blocks c).2):=λc=>by simp[b6]
 have A8:dN (.mk 2 [] to val conds [] [] blocks line)=max (eL conds) (bz blocks):=by simp[dN]
 have A1:∀t∈conds.map (λx=>(aj p.vars x).1),jY t:=λt N=>by
  obtain⟨x,H,rfl⟩:=aaD.1 N;exact (A3 x H).nj
 have A2:∀c,0<=c->∀b∈(ay p.vars blocks c).1,ix b:=λc M=>D8 blocks c M λb J=>(V b J).low;refine⟨λc M=>?_,λc t M N AA U=>?_⟩
 .rw[e];exact J2 (T:=conds.map λx=>(aj p.vars x).1) (B:=(ay p.vars blocks c).1) A1 (A2 c M) _ 0 (aeF _)
 .rw[e]at AA U⊢;rw[A8];have AO:=ju p Af Ag [];have An:=xE p.vars blocks c;have AC:blocks.length<100000000:=by
   have:=I7 (conds.map λx=>(aj p.vars x).1) (ay p.vars blocks c).1 (λt N=>by
    obtain⟨x,H,rfl⟩:=aaD.1 N;have:=j7 p.vars x;omega) (by simp;omega)
   simp only at AA;omega
  have A6:∀x∈conds,(aj p.vars x).1.length<99999980:=λx H=>by
   obtain⟨i,hi,rfl⟩:=List.getElem_of_mem H;have:=(EY (T:=conds.map λx=>(aj p.vars x).1) (B:=(ay p.vars blocks c).1) i (by omega)).2 (by simpa using hi);simp at this AA;omega
  have Z:∀b∈(ay p.vars blocks c).1,b.length<99999980:=λb J=>by
   obtain⟨i,hi,rfl⟩:=List.getElem_of_mem J;have:=(EY (T:=conds.map λx=>(aj p.vars x).1) (B:=(ay p.vars blocks c).1) i hi).1;simp at AA;omega
  have AB:=LA (conds.map λx=>(aj p.vars x).1) (ay p.vars blocks c).1 (by simp;omega) (by omega) (λi hi=>Nat.lt_of_le_of_lt (vN _ _ i hi) (by simp at AA;omega)) (A2 c M) A1;obtain⟨Ao,Ap,AB⟩:=AB;have AD:=λE k Q H v1 v2=>GY (p:=p) (s:=.mk 2 [] to val conds [] [] blocks line) (by simp[bS];omega) (by simpa [aV]using AC) E k Q H blocks conds [] [] [] [] c t v1 v2 rfl rfl A9 (λ_=>rfl) (by simp) rfl rfl A3 V M N A6 Z U;have Aq:=XV conds;simp only[aba]at AD;generalize max t (max (eL conds) (bz blocks))=TT at*;generalize (conds.map λx=>(aj p.vars x).1)=T at*;generalize ay p.vars blocks c=g at*;obtain⟨B,AP⟩:=g;simp only at AB AD⊢;obtain⟨R,Ah⟩:∃R,R=ck T B:=⟨_,rfl⟩;rw[<-Ah]at AB⊢;rw[vL (by simp)];simp[gO,bx,cZ]at AO;simp[f81,dk,bx,cZ,AO,bM,eG,dJ,dq,bS,aV,dy,dn,jA,ai]at AD⊢;refine AD _ _ (λAQ AR AS AT r=>AQ=T->AR=B->AS=AP->AT=TT->r=some (.ret (.d (.list (R.map aZ))),[(0,p7 p AP TT)])) (λY AQ AR AS AT v1 v2 y A9 AN Ai=>?_) _ _ rfl rfl rfl rfl;subst y A9 AN Ai;simp[AB]
@[simp] def UG(p:Pg)(s:Sm)(c t:Int)(w:Vr)(T B:List (List ax))(v1 v2 v3:Nat)(X:aE):Mem:=[⟨0,0,p7 p c t⟩,⟨250,1,bB s⟩,⟨400,1,fF w⟩,⟨550,0,.dead⟩,⟨600,0,.dead⟩,⟨800,v1,.vec 1 (T.map mS)⟩,⟨850,v2,.vec 1 (B.map mS)⟩,⟨1600,0,.dead⟩,⟨8351,v3,X⟩,⟨15051,0,.dead⟩,⟨16851,0,.dead⟩,⟨18451,0,.dead⟩]
def LB{p:Pg}{s:Sm}{i:Nat}{l:List Int}(hi:i<(dn s).length)(N:(dn s)[i]=l)(AF:l.length<100000000)(c cell:Int)(H:List ax)(T B:List (List ax))(w:Vr)(v1 v2:Nat)(k:Kt)(Q:List ax->Int->bU->Prop)
 (D:∀(Y:Env) out t v,Q out t (k (.exit 5) ⟨427,aC,(0,true,.ptr 0 0 0)::(3,true,.ptr 250 1 0)::(12,true,.d (.int .i64 cell))::(13,true,.d (.list (H.map aZ)))::(14,true,.vec 800 v1 0 T.length)::(15,true,.vec 850 v2 0 B.length)::(16,true,.d (.int .i64 i))::(17,true,.d (.list (out.map aZ)))::Y,UG p s c t w T B v1 v2 v .dead⟩)):
 ∀(n:Nat)(rest pre:List Int)(out:List ax)(t:Int)(v:Nat),rest.length=2*n->l=pre++rest->0<=t->out.length+rest.length<100000010->
 Q (out++cK cell rest) (if rest=[]then t else max t 2) (aK ctx 81 (.loop (Code.at (aU f81) [1,1,0,1,0,1,1,1,1,1,0,1,1,1,1,0,1,0,0,1,0,0,0,1,0,1,0,1,0,0])) ⟨427,aC,[(0,true,.ptr 0 0 0),(3,true,.ptr 250 1 0),(12,true,.d (.int .i64 cell)),(13,true,.d (.list (H.map aZ))),(14,true,.vec 800 v1 0 T.length),(15,true,.vec 850 v2 0 B.length),(16,true,.d (.int .i64 i)),(17,true,.vec 8351 v 0 out.length),(18,true,.d (.int .i64 pre.length))],UG p s c t w T B v1 v2 v (.vec 5 (out.map aZ))⟩ k)
 |0,rest,pre,out,t,v,AG,A',O,AI=>by
  have Ap:rest=[]:=aaB (by omega);subst Ap;have A2:pre.length=l.length:=by rw[A'];simp
  have:=D [(18,true,.d (.int .i64 l.length)),(173,true,.d (.bool false))] out t (v+1);simp[cK,fF]at this⊢;rw[A2,ag];simp[f81,hi,N,mQ,this]
 |n+1,rest,pre,out,t,v,AG,A',O,AI=>by
  match rest,AG with
  |a::b::rest,AG=>
   have A8:pre.length<l.length:=by rw[A'];simp
   have Aq:pre.length+1<l.length:=by rw[A'];simp
   have AJ:l[pre.length]=a:=by simp[A']
   have Ar:l[pre.length+1]=b:=by simp[A',List.getElem_append_right]
   have A3:=bu ((pre.length:Int)+1);have As:=bu ((pre.length:Int)+2);have At:(pre.length:Int)+1<l.length:=by omega
   have A0:((pre.length:Int)+1).toNat=pre.length+1:=by omega
   have Au:(0:Int)<=(pre.length:Int)+1:=by omega
   have Av:out.length+2<=4611686018427387904:=by simp at AI;omega
   have Aw:(out.length+2)*40<=140737488355328:=by simp at AI;omega
   have ih:=λv=>LB hi N AF c cell H T B w v1 v2 k Q D n rest (pre++[a,b]) (out++[ins 14 cell 0 a b,ins 8 1 21 0 0]) (max t 2) v (by simp at AG;omega) (by simp[A']) (by omega) (by simp at AI⊢;omega);have Ax:(if rest=[]then max t 2 else max (max t 2) 2)=max t 2:=by split<;>omega
   have Ay:out++cK cell (a::b::rest)=out++[ins 14 cell 0 a b,ins 8 1 21 0 0]++cK cell rest:=by simp[cK]
   rw[Ax]at ih;rw[Ay,aaf (by simp),ag];simp[f81,ins,fF]at ih⊢;simp[hi,N,mQ,A8,AJ,Aq,Ar,A3,As,Av,Aw,At,A0,Au,DX,ih,ai,nA]
def BX{p:Pg}{s:Sm}(AF:(dn s).length<100000000)(AK:(aV s).length<100000000)(w:Vr)(cell:Int)(H:List ax)(k:Kt)(Q:List (List ax)->List (List ax)->Int->Int->bU->Prop)
 (D:∀(Y:Env) T B c t v1 v2 v3,Q T B c t (k (.exit 3) ⟨427,aC,(0,true,.ptr 0 0 0)::(3,true,.ptr 250 1 0)::(12,true,.d (.int .i64 cell))::(13,true,.d (.list (H.map aZ)))::(14,true,.vec 800 v1 0 T.length)::(15,true,.vec 850 v2 0 B.length)::Y,UG p s c t w T B v1 v2 v3 .dead⟩)):
 ∀(I:List (List Sm))(J:List (List Int))(M:List (List Sm))(pl:List (List Int))(T B:List (List ax))(c t:Int)(v1 v2 v3:Nat),aV s=M++I->dn s=pl++J->J.length<=I.length->(J≠[]->pl.length=M.length)->pl.length<=M.length->
 T.length=pl.length->B.length=M.length->(∀l∈J,oE l=true)->(∀l∈J,l.length<100000000)->(∀b∈I,FQ p b)->0<=c->0<=t->(∀b∈(ay p.vars I c).1,b.length<99999980)->(ay p.vars I c).2<99999980->
 Q (T++J.map λl=>ins 1 0 0 0 0::cK cell l) (B++(ay p.vars I c).1) (ay p.vars I c).2 (max t (max (if J=[]then 0 else 2) (bz I))) (aK ctx 81 (.loop (Code.at (aU f81) [1,1,0,1,0,1,1,1,1,1,0,1,1,1,1,0,1,0,0])) ⟨427,aC,[(0,true,.ptr 0 0 0),(3,true,.ptr 250 1 0),(12,true,.d (.int .i64 cell)),(13,true,.d (.list (H.map aZ))),(14,true,.vec 800 v1 0 T.length),(15,true,.vec 850 v2 0 B.length),(16,true,.d (.int .i64 M.length))],UG p s c t w T B v1 v2 v3 .dead⟩ k)
 |[],J,M,pl,T,B,c,t,v1,v2,v3,A4,A5,hle,A9,Az,A6,A7,AP,AQ,A1,V,O,y,Z=>by
  have B':J=[]:=aaB (by simpa using hle);subst B';have A2:M.length=(aV s).length:=by rw[A4];simp
  have:=D [(16,true,.d (.int .i64 (aV s).length)),(156,true,.d (.bool false))] T B c t v1 v2 v3;have e:max t (max (if ([]:List (List Int))=[]then 0 else 2) (bz []))=t:=by simp[bz];omega
  rw[e];simp[ay,fF]at this⊢;rw[A2,ag];simp[f81,this]
 |b::I,J,M,pl,T,B,c,t,v1,v2,v3,A4,A5,hle,A9,Az,A6,A7,AP,AQ,A1,V,O,y,Z=>by
  have A8:M.length<(aV s).length:=by rw[A4];simp
  have AJ:(aV s)[M.length]=b:=by simp[A4]
  have AX:=A1 b (by simp);have hm:=fm (vs:=p.vars) b c;have BE:=lF (vs:=p.vars) I (ah p.vars b c).2;have B0:ay p.vars (b::I) c=((ah p.vars b c).1::(ay p.vars I (ah p.vars b c).2).1,(ay p.vars I (ah p.vars b c).2).2):=by simp[ay]
  rw[B0]at y Z⊢;simp only at Z⊢;have AY:=y _ (List.mem_cons_self ..);have A3:=bu ((M.length:Int)+1);have AZ:B.length<=4611686018427387903:=by omega
  have A_:(B.length+1)*24<=140737488355328:=by omega
  have B2:T.length<=4611686018427387903:=by omega
  have B3:(T.length+1)*24<=140737488355328:=by omega
  cases J with
  |nil=>
   have B4:¬M.length<(dn s).length:=by rw[A5];simp;omega
   have AA:=oP b AX.all c t V O AY (by omega);have ih:=λv1 v2 v3=>BX AF AK w cell H k Q D I [] (M++[b]) pl T (B++[(ah p.vars b c).1]) (ah p.vars b c).2 (max t (aM b)) v1 v2 v3 (by simp[A4]) A5 (by simp) (λh=>absurd rfl h) (by simp;omega) A6 (by simp[A7]) (λx D=>by cases D) (λx D=>by cases D) (λb U=>A1 b (by simp[U])) (by omega) (by omega) (λb U=>y b (by simp[U])) Z;have A0:max (max t (aM b)) (max (if ([]:List (List Int))=[]then 0 else 2) (bz I))=max t (max (if ([]:List (List Int))=[]then 0 else 2) (bz (b::I))):=by simp only[bz];simp;omega
   rw[A0]at ih;generalize max t (max (if ([]:List (List Int))=[]then 0 else 2) (bz (b::I)))=TT at*;generalize max t (aM b)=Aa at*;generalize ah p.vars b c=g at*;rw[ag];simp at AA;simp[f81,fF]at ih⊢;simp[A8,AJ,B4,A3,AA,ih,AZ,A_,tt]
  |cons l J=>
   have A9:=A9 (by simp);have Ab:M.length<(dn s).length:=by rw[A5];simp;omega
   have B5:(dn s)[M.length]=l:=by simp[A5,<-A9]
   have AB:=AP l (by simp);simp[oE]at AB;have B6:=AQ l (by simp);have AR:=λk Q D v=>LB (p:=p) Ab B5 B6 c cell H T B w v1 v2 k Q D (l.length/2) l [] [ins 1 0 0 0 0] t v (by omega) rfl O (by simp;omega);have AC:=iG (ins 1 0 0 0 0);have AA:=oP b AX.all c (max t 2) V (by omega) AY (by omega);have ih:=λv1 v2 v3=>BX AF AK w cell H k Q D I J (M++[b]) (pl++[l]) (T++[ins 1 0 0 0 0::cK cell l]) (B++[(ah p.vars b c).1]) (ah p.vars b c).2 (max (max t 2) (aM b)) v1 v2 v3 (by simp[A4]) (by simp[A5]) (by simpa using hle) (λh=>by simp[A9]) (by simp;omega) (by simp[A6]) (by simp[A7]) (λx D=>AP x (by simp[D])) (λx D=>AQ x (by simp[D])) (λb U=>A1 b (by simp[U])) (by omega) (by omega) (λb U=>y b (by simp[U])) Z;have A0:max (max (max t 2) (aM b)) (max (if J=[]then 0 else 2) (bz I))=max t (max (if l::J=[]then 0 else 2) (bz (b::I))):=by simp only[bz];simp;split<;>omega
   rw[A0]at ih;rw[aaK];rw[aaf AB.1]at AR;obtain⟨A,AS⟩:∃A,T++(ins 1 0 0 0 0::cK cell l)::J.map (λl=>ins 1 0 0 0 0::cK cell l)=A:=⟨_,rfl⟩;have Ac:T++[ins 1 0 0 0 0::cK cell l]++J.map (λl=>ins 1 0 0 0 0::cK cell l)=A:=by rw[<-AS];simp
   obtain⟨AL,AT⟩:∃AL,B++(ah p.vars b c).1::(ay p.vars I (ah p.vars b c).2).1=AL:=⟨_,rfl⟩;have Ad:B++[(ah p.vars b c).1]++(ay p.vars I (ah p.vars b c).2).1=AL:=by rw[<-AT];simp
   rw[AS,AT];rw[Ac,Ad]at ih;generalize (ay p.vars I (ah p.vars b c).2).2=B7 at*;clear AS Ac AT Ad;generalize max t (max (if l::J=[]then 0 else 2) (bz (b::I)))=TT at*;generalize max (max t 2) (aM b)=Aa at*;generalize max t 2=T2 at*;generalize ah p.vars b c=g at*;rw[ag];simp at AA;simp[ins]at AC;simp[f81,fF,ins]at ih AR⊢;simp[A8,Ab,AC];refine AR _ (λo t3 r=>o=ins 1 0 0 0 0::cK cell l->t3=T2->Q A AL B7 TT r) (λY o t3 v AU AD=>?_) _ rfl rfl;subst AU AD;simp[ins]at ih⊢;simp[A8,AJ,A3,AA,ih,AZ,A_,B2,B3,tt]
def Z5{p:Pg}(B8:p.vars.length<=1000)(B9:∀v∈p.vars,cJ v=true){to val:Ex}{E:List (List Int)}{blocks:List (List Sm)}{line:Int}(AD:E.length<=blocks.length)(AM:blocks.length<=E.length+1)
 (AN:KR p val) (AB:E.all oE=true) (A1:∀b∈blocks,FQ p b):uJ p (.mk 3 [] to val [] E [] blocks line):=by
 have e:∀c,b6 p.vars (.mk 3 [] to val [] E [] blocks line) c=(jn ((aj p.vars val).1++[ins 6 c 0 0 0]) (ck (E.map λl=>ins 1 0 0 0 0::cK c l) (ay p.vars blocks (c+1)).1),(ay p.vars blocks (c+1)).2):=λc=>by simp[b6]
 have A0:dN (.mk 3 [] to val [] E [] blocks line)=max (az 0 val) (max (if E=[]then 0 else 2) (bz blocks)):=by simp[dN]
 have y:∀(cell:Int)(n:Nat)(l:List Int),l.length=2*n->jY (cK cell l)/\(cK cell l).length=l.length:=by
  intro cell n;induction n with
  |zero=>intro l h;have:l=[]:=aaB (by omega);subst this;simp[cK,jY]
  |succ n ih=>
   intro l h;match l,h with
   |a::b::r,h=>
    obtain⟨i1,i2⟩:=ih r (by simp at h;omega);refine⟨?_,by simp[cK,i2]⟩;intro x D;simp only[cK,aam]at D;rcases D with rfl|rfl|D
    .simp[ins]
    .simp[ins]
    .exact i1 x D
 have Ae:∀l∈E,l.length=2*(l.length/2):=λl N=>by
  have:=aaR.1 AB l N;simp[oE]at this;omega
 have A6:∀c,∀t∈E.map (λl=>ins 1 0 0 0 0::cK c l),jY t:=λc t O=>by
  obtain⟨l,N,rfl⟩:=aaD.1 O;intro x D;simp only[aam]at D;rcases D with rfl|D
  .simp[ins]
  .exact (y c _ l (Ae l N)).1 x D
 have A7:∀c,0<=c->∀b∈(ay p.vars blocks c).1,ix b:=λc V=>D8 blocks c V λb U=>(A1 b U).low;have AO:∀c,jY [ins 6 c 0 0 0]:=λc=>lG (by simp[ins]);have Af:∀c,0<=c->ix (ck (E.map λl=>ins 1 0 0 0 0::cK c l) (ay p.vars blocks (c+1)).1):=λc V=>J2 (T:=E.map λl=>ins 1 0 0 0 0::cK c l) (B:=(ay p.vars blocks (c+1)).1) (A6 c) (A7 (c+1) (by omega)) _ 0 (aeF _);refine⟨λc V=>?_,λc t V O N Z=>?_⟩
 .rw[e];exact AH (AN.nj.app (AO c)).low (Af c V)
 .rw[e]at N Z⊢;rw[A0];have BF:=lF (vs:=p.vars) blocks (c+1);simp only[cv,aal,aao,aay]at N Z;have Ag:=ju p B8 B9 [];have BG:=xE p.vars blocks (c+1);have Ah:=oO AN (c+1) t 0 O (by omega) (by omega) (by omega);have A3:=bu (c+1);have AC:=iG (ins 6 c 0 0 0);have AV:=gD (a:=(aj p.vars val).1) (b:=[ins 6 c 0 0 0]) (by simp;omega) AN.nj.ok (AO c).ok;rw[me (AO c)]at AV;have BA:∀l∈E,l.length<100000000:=λl A2=>by
   obtain⟨i,hi,rfl⟩:=List.getElem_of_mem A2;have:=(EY (T:=E.map λl=>ins 1 0 0 0 0::cK c l) (B:=(ay p.vars blocks (c+1)).1) i (by omega)).2 (by simpa using hi);have AM:=(y c _ E[i] (Ae _ A2)).2;simp[AM]at this;omega
  have AK:blocks.length<100000000:=by
   have:=I7 (E.map λl=>ins 1 0 0 0 0::cK c l) (ay p.vars blocks (c+1)).1 (λt O=>by
    obtain⟨x,D,rfl⟩:=aaD.1 O;simp) (by simp;omega)
   omega
  have BB:∀b∈(ay p.vars blocks (c+1)).1,b.length<99999980:=λb U=>by
   obtain⟨i,hi,rfl⟩:=List.getElem_of_mem U;have:=(EY (T:=E.map λl=>ins 1 0 0 0 0::cK c l) (B:=(ay p.vars blocks (c+1)).1) i hi).1;omega
  obtain⟨BH,BI,Ai⟩:=LA (E.map λl=>ins 1 0 0 0 0::cK c l) (ay p.vars blocks (c+1)).1 (by simp;omega) (by omega) (λi hi=>Nat.lt_of_le_of_lt (vN _ _ i hi) (by omega)) (A7 (c+1) (by omega)) (A6 c);have AW:=gD (a:=(aj p.vars val).1++[ins 6 c 0 0 0]) (b:=ck (E.map λl=>ins 1 0 0 0 0::cK c l) (ay p.vars blocks (c+1)).1) (by simp;omega) (AN.nj.app (AO c)).ok ((Af c V).ok (by omega));have AE:=λk Q D v1 v2 v3=>BX (p:=p) (s:=.mk 3 [] to val [] E [] blocks line) (by simp[dn];omega) (by simpa [aV]using AK) (bA p.vars []).2 c ((aj p.vars val).1++[ins 6 c 0 0 0]) k Q D blocks E [] [] [] [] (c+1) (max t (az 0 val)) v1 v2 v3 rfl rfl AD (λ_=>rfl) (by simp) rfl rfl (λl N=>aaR.1 AB l N) BA A1 (by omega) (by omega) BB Z;have BC:max (max t (az 0 val)) (max (if E=[]then 0 else 2) (bz blocks))=max t (max (az 0 val) (max (if E=[]then 0 else 2) (bz blocks))):=by omega
  rw[BC]at AE;simp only[aba]at AE;generalize max t (max (az 0 val) (max (if E=[]then 0 else 2) (bz blocks)))=TT at*;generalize max t (az 0 val)=Aa at*;generalize (E.map λl=>ins 1 0 0 0 0::cK c l)=T at*;generalize ay p.vars blocks (c+1)=g at*;obtain⟨B,Aj⟩:=g;simp only at Ai AE AW⊢;generalize jn ((aj p.vars val).1++[ins 6 c 0 0 0]) (ck T B)=R at*;generalize ck T B=R2 at*;generalize aj p.vars val=BJ at*;rw[vL (by simp)];simp[gO,bx,cZ]at Ag;simp at Ah;simp[ins]at AC AV AW;simp[f81,dk,bx,cZ,Ag,aw,bM,eG,dJ,dq,bS,aV,dy,dn,jA,fF,ins,ai]at AE⊢;simp[A3,Ah,AC,AV,nA];refine AE _ (λAk Al An Ao r=>Ak=T->Al=B->An=Aj->Ao=TT->r=some (.ret (.d (.list (R.map aZ))),[(0,p7 p Aj TT)])) (λY Ak Al An Ao v1 v2 v3 AU AD AM BD=>?_) _ _ _ rfl rfl rfl rfl;subst AU AD AM BD;simp[Ai,AW,nA]
def GZ{l:List ax}(h:ix l):ix (qo l):=by
 intro x H M;unfold qo at H⊢;obtain⟨y,AP,rfl⟩:=aaD.1 H;rw[Og]at M;have:=h y AP M;unfold kg;split<;>simp<;>omega
def AJ:∀l:List Sm,0<=aM l
 |[]=>by simp[aM]
 |x::r=>by have:=AJ r;simp only[aM];omega
def adE{p:Pg}(AC:p.vars.length<=1000)(AD:∀v∈p.vars,cJ v=true){to val:Ex}{b:List Sm}{line:Int}(O:KR p val)(Z:FQ p b):uJ p (.mk 5 [] to val [] [] [] [b] line):=by
 have e:∀c,b6 p.vars (.mk 5 [] to val [] [] [] [b] line) c=(ig (aj p.vars val).1 (ah p.vars b c).1,(ah p.vars b c).2):=λc=>by simp[b6,lR]
 have AE:dN (.mk 5 [] to val [] [] [] [b] line)=max (az 0 val) (max (aM b) 0):=by simp[dN,bz]
 have AF:∀(t m:List ax),jY t->ix m->ix (ins 11 0 0 0 0::t++[ins 10 (t.length+3+m.length) 0 0 0]++dK (t.length+2) m++[ins 9 0 0 0 0]):=by
  intro t m A' hm x H M;simp only[aaA,aam,aaH,ajl]at H;have N:(ins 11 0 0 0 0::t++[ins 10 (t.length+3+m.length) 0 0 0]++dK (t.length+2) m++[ins 9 0 0 0 0]).length=t.length+3+m.length:=by simp;omega
  rw[N];rcases H with (((rfl|H)|rfl)|H)|rfl
  .simp[ins]at M
  .exact absurd M (A' x H)
  .simp[ins]
  .have:=tj hm x H M;omega
  .simp[ins];omega
 refine⟨λc U=>?_,λc t U A' N A0=>?_⟩
 .rw[e];exact GZ (AF _ _ O.nj (Z.low c U))
 .rw[e]at N A0⊢;rw[AE];simp[ig]at N;have A5:=ju p AC AD [];have V:=oO O c t 0 A' (by omega) (by omega) (by omega);have AQ:=AJ b;have A1:=oP b Z.all c (max t (az 0 val)) U (by omega) (by omega) A0;have A6:=iG (ins 11 0 0 0 0);have AN:=iG (ins 10 0 0 0 0);have A8:=Z.low c U;have AR:jn (jn [ins 11 0 0 0 0] (aj p.vars val).1) [ins 10 0 0 0 0]=ins 11 0 0 0 0::(aj p.vars val).1++[ins 10 ((aj p.vars val).1.length+1) 0 0 0]:=by
   rw[me O.nj];simp[jn,dK,iK,ins]
  have I:=qu (a:=[ins 11 0 0 0 0]) (b:=(aj p.vars val).1) (c:=[ins 10 0 0 0 0]) (by simp;omega) (lG (x:=ins 11 0 0 0 0) (by simp[ins])).ok O.nj.ok (Mh (by simp[ins]));rw[AR]at I;have AO:=O.nj;rw[show max t (max (az 0 val) (max (aM b) 0))=max (max t (az 0 val)) (aM b) by omega];generalize max (max t (az 0 val)) (aM b)=TT at*;generalize max t (az 0 val)=AS at*;generalize (ah p.vars b c)=g at*;obtain⟨m,AT⟩:=g;simp only at A8 A1 N A0⊢;generalize aj p.vars val=AG at*;obtain⟨E,tb⟩:=AG;simp only at V I AO N⊢;obtain⟨A4,A9⟩:∃A4,A4=ins 11 0 0 0 0::E++[ins 10 (E.length+1) 0 0 0]:=⟨_,rfl⟩;have AA:A4.length=E.length+2:=by rw[A9];simp
  rw[<-A9]at I;have AU:uG A4:=by
   rw[A9];intro x H M;simp only[aaA,aam,aaH,ajl]at H;rcases H with (rfl|H)|rfl
   .simp[ins]at M
   .exact absurd M (AO x H)
   .simp[ins];omega
  have AB:=gD (a:=A4) (b:=m) (by omega) AU (A8.ok (by omega));obtain⟨J,A2⟩:∃J,J=jn A4 m:=⟨_,rfl⟩;have A7:J.length=E.length+2+m.length:=by rw[A2,cv,AA]
  have AH:J=ins 11 0 0 0 0::E++[ins 10 (E.length+1) 0 0 0]++dK (E.length+2) m:=by rw[A2];unfold jn;rw[AA,A9]
  obtain⟨P,A3⟩:∃P,P=ins 11 0 0 0 0::E++[ins 10 (E.length+3+m.length) 0 0 0]++dK (E.length+2) m++[ins 9 0 0 0 0]:=⟨_,rfl⟩;have AI:P.length=E.length+2+m.length+1:=by rw[A3];simp;omega
  have hw:ig E m=P.map (kg P.length):=by unfold ig;rw[<-A3];rfl
  have hex:=GX P P.length (by omega);rw[hw];have AV:(J.map aZ++[D.agg [.int .i64 9,.int .i64 0,.int .i64 0,.int .i64 0,.int .i64 0]]).set (E.length+1) (D.agg [.int .i64 10,.int .i64 ((E.length:Int)+2+m.length+1),.int .i64 0,.int .i64 0,.int .i64 0])=P.map aZ:=by
   rw[AH,A3,show (E.length:Int)+2+m.length+1=E.length+3+m.length by omega];simp[ins]
  have AZ:∀h:E.length+1<J.length,J[E.length+1]=ins 10 (E.length+1) 0 0 0:=λh=>by simp[AH]
  rw[<-A2]at AB;obtain⟨R,AK⟩:∃R,R=P.map (kg P.length):=⟨_,rfl⟩;rw[<-AK]at hex⊢;have AW:=bu ((E.length:Int)+2-1);have AL:=bu ((E.length:Int)+2+m.length+1);rw[A7]at AB;rw[AI]at hex;rw[show ((E.length+2+m.length+1:Nat):Int)=(E.length:Int)+2+m.length+1 by omega]at hex;rw[AA]at I;have AM:(E.length+2+m.length+1)*40<=140737488355328:=by omega
  have a2:E.length+2+m.length<=4611686018427387903:=by omega
  have a3:(1:Int)<=(E.length:Int)+2:=by omega
  have a4:((E.length:Int)+2).toNat -1=E.length+1:=by omega
  have a5:E.length+1<E.length+2+m.length+1:=by omega
  have AX:∀h:E.length+1<(J.map aZ++[D.agg [.int .i64 9,.int .i64 0,.int .i64 0,.int .i64 0,.int .i64 0]]).length,(J.map aZ++[D.agg [.int .i64 9,.int .i64 0,.int .i64 0,.int .i64 0,.int .i64 0]])[E.length+1]=D.agg [.int .i64 10,.int .i64 ((E.length:Int)+1),.int .i64 0,.int .i64 0,.int .i64 0]:=λh=>by
   simp[AH,ins,List.getElem_append]
  rw[vL (by simp)];simp[gO,bx,cZ]at A5;simp at V A1;simp[ins]at A6 AN I AB;simp[f81,dk,bx,cZ,A5,aw,bM,eG,dJ,dq,bS,aV,dy,dn,jA,fF,ins,A6,AN,V,I,A1,AB,AX,AV,hex,AW,AL,AM,a2,a3,a4,a5,AA,A7,tt,nA,uH,ai]
def adF{p:Pg}(AC:p.vars.length<=1000)(AD:∀v∈p.vars,cJ v=true){to val:Ex}{b:List Sm}{line:Int}(O:KR p val)(Z:FQ p b):uJ p (.mk 6 [] to val [] [] [] [b] line):=by
 have e:∀c,b6 p.vars (.mk 6 [] to val [] [] [] [b] line) c=(lP (aj p.vars val).1 (ah p.vars b c).1,(ah p.vars b c).2):=λc=>by simp[b6,lR]
 have AE:dN (.mk 6 [] to val [] [] [] [b] line)=max (az 0 val) (max (aM b) 0):=by simp[dN,bz]
 have AF:∀(t m:List ax),jY t->ix m->ix (m++ins 11 0 0 0 0::t++[ins 10 0 0 0 0]):=by
  intro t m A' hm x H M;simp only[aaA,aam,aaH,ajl]at H;have N:(m++ins 11 0 0 0 0::t++[ins 10 0 0 0 0]).length=t.length+2+m.length:=by simp;omega
  rw[N];rcases H with (H|rfl|H)|rfl
  .have:=hm x H M;omega
  .simp[ins]at M
  .exact absurd M (A' x H)
  .simp[ins];omega
 refine⟨λc U=>?_,λc t U A' N A0=>?_⟩
 .rw[e];exact GZ (AF _ _ O.nj (Z.low c U))
 .rw[e]at N A0⊢;rw[AE];simp[lP]at N;have A5:=ju p AC AD [];have AQ:=AJ b;have A1:=oP b Z.all c t U A' (by omega) A0;have V:=oO O (ah p.vars b c).2 (max t (aM b)) 0 (by omega) (by omega) (by omega) (by omega);have A6:=iG (ins 11 0 0 0 0);have A8:=Z.low c U;have I:=qu (a:=(ah p.vars b c).1) (b:=[ins 11 0 0 0 0]) (c:=(aj p.vars val).1) (by simp;omega) (A8.ok (by omega)) (lG (x:=ins 11 0 0 0 0) (by simp[ins])).ok O.nj.ok;rw[me O.nj,me (lG (x:=ins 11 0 0 0 0) (by simp[ins]))]at I;rw[show max t (max (az 0 val) (max (aM b) 0))=max (max t (aM b)) (az 0 val) by omega];generalize max (max t (aM b)) (az 0 val)=TT at*;generalize max t (aM b)=AS at*;generalize (ah p.vars b c)=g at*;obtain⟨m,AT⟩:=g;simp only at A1 V I N A0⊢;generalize aj p.vars val=AG at*;obtain⟨E,tb⟩:=AG;simp only at V I N⊢;obtain⟨J,A2⟩:∃J,J=m++[ins 11 0 0 0 0]++E:=⟨_,rfl⟩;have A7:J.length=m.length+1+E.length:=by rw[A2];simp;omega
  rw[<-A2]at I;obtain⟨P,A3⟩:∃P,P=m++ins 11 0 0 0 0::E++[ins 10 0 0 0 0]:=⟨_,rfl⟩;have AI:P.length=m.length+1+E.length+1:=by rw[A3];simp;omega
  have hw:lP E m=P.map (kg P.length):=by unfold lP;rw[<-A3];rfl
  have hex:=GX P P.length (by omega);rw[hw];have AY:J.map aZ++[D.agg [.int .i64 10,.int .i64 0,.int .i64 0,.int .i64 0,.int .i64 0]]=P.map aZ:=by rw[A2,A3];simp[ins]
  obtain⟨R,AK⟩:∃R,R=P.map (kg P.length):=⟨_,rfl⟩;rw[<-AK]at hex⊢;rw[A7]at I;rw[AI]at hex;rw[show ((m.length+1+E.length+1:Nat):Int)=(m.length:Int)+1+E.length+1 by omega]at hex;have AM:(m.length+1+E.length+1)*40<=140737488355328:=by omega
  have a2:m.length+1+E.length<=4611686018427387903:=by omega
  have AL:=bu ((m.length:Int)+1+E.length+1);rw[vL (by simp)];simp[gO,bx,cZ]at A5;simp at V A1;simp[ins]at A6 I;simp[f81,dk,bx,cZ,A5,aw,bM,eG,dJ,dq,bS,aV,dy,dn,jA,fF,ins,A6,V,I,A1,AY,hex,AL,AM,a2,A7,tt,nA,uH,ai]
def rg4:List.range' 0 4=[0,1,2,3]:=rfl
def rg5:List.range' 0 5=[0,1,2,3,4]:=rfl
def Z6{a b c d:List ax}(AE:a.length+b.length+c.length+d.length<100000000)(AF:uG a)(N:uG b)(M:uG c)(AG:uG d):
 ak ctx 79 [.d (.list [mS a,mS b,mS c,mS d])] []=some (.ret (.vec 0 0 0 (jn (jn (jn a b) c) d).length),[(0,.vec 5 ((jn (jn (jn a b) c) d).map aZ))]):=by
 have e:FN [a,b,c,d]=jn (jn (jn a b) c) d:=by simp[FN,Ai]
 have:=J1 [a,b,c,d] (by simp) (by rw[e,cv,cv,cv];exact AE) (by simp[AF,N,M,AG]);rw[e]at this;exact this
def adG{p:Pg}(AI:p.vars.length<=1000)(AK:∀v∈p.vars,cJ v=true){name:Tx}{to val x y z:Ex}{b:List Sm}{line:Int}(E:KR p x)(Z:KR p y)(A':KR p z)(N:FQ p b):uJ p (.mk 4 name to val [x,y,z] [] [] [b] line):=by
 have e:∀c,b6 p.vars (.mk 4 name to val [x,y,z] [] [] [b] line) c=(jn ((aj p.vars x).1++(aj p.vars y).1++(aj p.vars z).1++[ins 6 (c+1) 0 0 0,ins 6 c 0 0 0,ins 6 (bA p.vars name).1 0 0 0]) (jI (bA p.vars name).1 c (ah p.vars b (c+2)).1),(ah p.vars b (c+2)).2):=λc=>by simp[b6,lR,gd]
 have AL:dN (.mk 4 name to val [x,y,z] [] [] [b] line)=max (max (max (az 0 x) (max (az 1 y) (max (az 2 z) 0))) 3) (max (aM b) 0):=by simp[dN,bz,fE]
 have AM:∀(at_ c:Int)(m:List ax),ix m->ix ([ins 11 0 0 0 0,ins 13 at_ c 0 0,ins 10 (m.length+8) 0 0 0]++dK 3 m++[ins 2 at_ 0 0 0,ins 2 (c+1) 0 0 0,ins 8 0 8 0 0,ins 6 at_ 0 0 0,ins 9 0 0 0 0]):=by
  intro at_ c m hm x E O;have U:([ins 11 0 0 0 0,ins 13 at_ c 0 0,ins 10 (m.length+8) 0 0 0]++dK 3 m++[ins 2 at_ 0 0 0,ins 2 (c+1) 0 0 0,ins 8 0 8 0 0,ins 6 at_ 0 0 0,ins 9 0 0 0 0]).length=m.length+8:=by simp
  rw[U];rcases aaA.1 E with E|E
  .rcases aaA.1 E with E|E
   .simp at E;rcases E with rfl|rfl|rfl<;>simp[ins]at O⊢
   .have:=tj hm x E O;omega
  .simp at E;rcases E with rfl|rfl|rfl|rfl|rfl<;>simp[ins]at O⊢;omega
 have A2:∀c,jY [ins 6 (c+1) 0 0 0,ins 6 c 0 0 0,ins 6 (bA p.vars name).1 0 0 0]:=λc i hi=>by simp at hi;rcases hi with rfl|rfl|rfl<;>simp[ins]
 have A7:=λc=>((E.nj.app Z.nj).app A'.nj).app (A2 c);have A8:∀c,0<=c->ix (jI (bA p.vars name).1 c (ah p.vars b (c+2)).1):=λc M=>GZ (AM _ _ _ (N.low (c+2) (by omega)));refine⟨λc M=>?_,λc t M AN U A3=>?_⟩
 .rw[e];exact AH (A7 c).low (A8 c M)
 .rw[e]at U A3⊢;rw[AL];have AO:=A8 c M;have AP:=A7 c;have Ac:=fm (vs:=p.vars) b (c+2);have A0:(jI (bA p.vars name).1 c (ah p.vars b (c+2)).1).length=(ah p.vars b (c+2)).1.length+8:=by simp[jI]
  simp only[cv,A0,aal,aao,aay]at U;have A9:=ju p AI AK name;have Ad:=AJ b;have AA:=oO E (c+2) t 0 AN (by omega) (by omega) (by omega);have AB:=oO Z (c+2) (max t (az 0 x)) 1 (by omega) (by omega) (by omega) (by omega);have AC:=oO A' (c+2) (max (max t (az 0 x)) (az 1 y)) 2 (by omega) (by omega) (by omega) (by omega);have A4:=oP b N.all (c+2) (max (max (max (max t (az 0 x)) (az 1 y)) (az 2 z)) 3) (by omega) (by omega) (by omega) A3;have AD:=N.low (c+2) (by omega);have V:=Z6 (a:=(aj p.vars x).1) (b:=(aj p.vars y).1) (c:=(aj p.vars z).1) (d:=[ins 6 (c+1) 0 0 0,ins 6 c 0 0 0,ins 6 (bA p.vars name).1 0 0 0]) (by simp;omega) E.nj.ok Z.nj.ok A'.nj.ok (A2 c).ok;rw[me (A2 c),me A'.nj,me Z.nj]at V;have J:=gD (a:=(aj p.vars x).1++(aj p.vars y).1++(aj p.vars z).1++[ins 6 (c+1) 0 0 0,ins 6 c 0 0 0,ins 6 (bA p.vars name).1 0 0 0]) (b:=jI (bA p.vars name).1 c (ah p.vars b (c+2)).1) (by rw[A0];simp;omega) AP.ok (AO.ok (by omega));have I:=gD (a:=[ins 11 0 0 0 0,ins 13 (bA p.vars name).1 c 0 0,ins 10 0 0 0 0]) (b:=(ah p.vars b (c+2)).1) (by simp;omega) (λi hi O=>by simp at hi;rcases hi with rfl|rfl|rfl<;>simp[ins]at O⊢) (AD.ok (by omega));rw[show max t (max (max (max (az 0 x) (max (az 1 y) (max (az 2 z) 0))) 3) (max (aM b) 0))=max (max (max (max (max t (az 0 x)) (az 1 y)) (az 2 z)) 3) (aM b) by omega];generalize max (max (max (max (max t (az 0 x)) (az 1 y)) (az 2 z)) 3) (aM b)=TT at*;have Ae:max (max (max (max t (az 0 x)) (az 1 y)) (az 2 z)) 3=max 3 (max (max (max t (az 0 x)) (az 1 y)) (az 2 z)):=by omega
  generalize Af:max (max (max t (az 0 x)) (az 1 y)) (az 2 z)=T3 at*;generalize max (max t (az 0 x)) (az 1 y)=T2 at*;generalize max t (az 0 x)=Ag at*;generalize (ah p.vars b (c+2))=g at*;obtain⟨m,Ah⟩:=g;simp only at A4 AD J I A0 U A3⊢;generalize (aj p.vars x).1=AQ at*;generalize (aj p.vars y).1=AR at*;generalize (aj p.vars z).1=AS at*;generalize (bA p.vars name)=av at*;obtain⟨at_,vv⟩:=av;simp only at V J I A0⊢;obtain⟨A1,A5⟩:∃A1,A1=jn [ins 11 0 0 0 0,ins 13 at_ c 0 0,ins 10 0 0 0 0] m:=⟨_,rfl⟩;have AT:A1.length=m.length+3:=by rw[A5,cv];simp;omega
  have AU:A1=ins 11 0 0 0 0::ins 13 at_ c 0 0::ins 10 0 0 0 0::dK 3 m:=by rw[A5];rfl
  rw[<-A5]at I;obtain⟨P,A6⟩:∃P,P=[ins 11 0 0 0 0,ins 13 at_ c 0 0,ins 10 (m.length+8) 0 0 0]++dK 3 m++[ins 2 at_ 0 0 0,ins 2 (c+1) 0 0 0,ins 8 0 8 0 0,ins 6 at_ 0 0 0,ins 9 0 0 0 0]:=⟨_,rfl⟩;have AV:P.length=m.length+3+5:=by rw[A6];simp
  have hw:jI at_ c m=P.map (kg P.length):=by unfold jI;rw[<-A6];rfl
  have hex:=GX P P.length (by omega);rw[hw]at J⊢;have AW:P.map aZ=D.agg [.int .i64 11,.int .i64 0,.int .i64 0,.int .i64 0,.int .i64 0]::D.agg [.int .i64 13,.int .i64 at_,.int .i64 c,.int .i64 0,.int .i64 0]::D.agg [.int .i64 10,.int .i64 ((m.length:Int)+3+5),.int .i64 0,.int .i64 0,.int .i64 0]::((dK 3 m).map aZ++[D.agg [.int .i64 2,.int .i64 at_,.int .i64 0,.int .i64 0,.int .i64 0],D.agg [.int .i64 2,.int .i64 (c+1),.int .i64 0,.int .i64 0,.int .i64 0],D.agg [.int .i64 8,.int .i64 0,.int .i64 8,.int .i64 0,.int .i64 0],D.agg [.int .i64 6,.int .i64 at_,.int .i64 0,.int .i64 0,.int .i64 0],D.agg [.int .i64 9,.int .i64 0,.int .i64 0,.int .i64 0,.int .i64 0]]):=by
   rw[A6];simp[ins];omega
  obtain⟨R,AX⟩:∃R,R=P.map (kg P.length):=⟨_,rfl⟩;rw[<-AX]at hex J⊢;obtain⟨H,AY⟩:∃H,H=AQ++AR++AS++[ins 6 (c+1) 0 0 0,ins 6 c 0 0 0,ins 6 at_ 0 0 0]:=⟨_,rfl⟩;rw[<-AY]at V J⊢;rw[AT]at I;rw[AV]at hex;rw[show ((m.length+3+5:Nat):Int)=(m.length:Int)+3+5 by omega]at hex;have AZ:(m.length+3+5)*40<=140737488355328:=by omega
  have a2:m.length+3+5<=4611686018427387904:=by omega
  have A_:=bu (c+1);have Aa:=bu (c+2);have Ab:=bu ((m.length:Int)+3+5);rw[vL (by simp)];simp[gO,bx,cZ]at A9;simp at AA AB AC A4;simp[ins]at V I J;rw[AU]at I;simp[ins]at I;rw[AW]at hex;simp[f81,dk,bx,cZ,A9,aw,bM,eG,dJ,dq,bS,aV,dy,dn,jA,fF,ins,AA,AB,AC,A4,V,I,J,hex,DX,A_,Aa,Ab,AZ,a2,tt,nA,uH,rg4,rg5,ai]
def P6{p:Pg}{name:Tx}:∀(fs:List Tx)(xs:List Ex),(∀x∈xs,KR p x)->jY (cV p.vars name fs xs)
 |[],_,_=>by simp[cV,jY]
 |_::_,[],_=>by simp[cV,jY]
 |f::fs,x::xs,h=>by
  have ih:=P6 (name:=name) fs xs (λy J=>h y (by simp[J]));simp only[cV];refine (h x (by simp)).nj.app ?_;intro y J;simp only[aam]at J;rcases J with rfl|J
  .simp[ins]
  .exact ih y J
def FR{p:Pg}(Z:p.vars.length<=1000)(A':∀v∈p.vars,cJ v=true){s:Sm}(A6:(dy s).length<100000000)(at_:Int)(w:Vr)(c:Int)(k:Kt)(Q:List ax->Int->bU->Prop)
 (U:∀(Y:Env) out t v H X,(H=.d (.list (out.map aZ))\/(H=.lit (.slice none 0 0)/\out=[]))->Q out t (k (.exit 7) ⟨427,aC,(0,true,.ptr 0 0 0)::(3,true,.ptr 250 1 0)::(5,true,.d (.int .i64 at_))::(6,true,.ptr 400 1 0)::(27,true,H)::Y,[⟨0,0,p7 p c t⟩,⟨250,1,bB s⟩,⟨400,1,fF w⟩,⟨550,0,.dead⟩,⟨600,0,.dead⟩,⟨800,0,.dead⟩,⟨850,0,.dead⟩,⟨1600,v,X⟩,⟨8351,0,.dead⟩,⟨15051,0,.dead⟩,⟨16851,0,.dead⟩,⟨18451,0,.dead⟩]⟩)):
 ∀(I:List Tx)(rx:List Ex)(E:List Tx)(A0:List Ex)(out:List ax)(t:Int)(v:Nat)(H:AV)(X:aE),dy s=E++I->bS s=A0++rx->rx.length=I.length->A0.length=E.length->(H=.d (.list (out.map aZ))\/(H=.lit (.slice none 0 0)/\out=[]))->jY out->(∀x∈rx,KR p x)->0<=t->out.length+(cV p.vars (eG s) I rx).length<99999980->
 Q (out++cV p.vars (eG s) I rx) (max t (eL rx)) (aK ctx 81 (.loop (Code.at (aU f81) [1,1,1,1,0,1,0,0])) ⟨427,aC,[(0,true,.ptr 0 0 0),(3,true,.ptr 250 1 0),(5,true,.d (.int .i64 at_)),(6,true,.ptr 400 1 0),(27,true,H),(28,true,.d (.int .i64 E.length))],[⟨0,0,p7 p c t⟩,⟨250,1,bB s⟩,⟨400,1,fF w⟩,⟨550,0,.dead⟩,⟨600,0,.dead⟩,⟨800,0,.dead⟩,⟨850,0,.dead⟩,⟨1600,v,X⟩,⟨8351,0,.dead⟩,⟨15051,0,.dead⟩,⟨16851,0,.dead⟩,⟨18451,0,.dead⟩]⟩ k)
 |[],rx,E,A0,out,t,v,H,X,A1,A3,hle,A7,A2,A8,V,A4,AD=>by
  have AP:rx=[]:=aaB (by simpa using hle);subst AP;have AQ:E.length=(dy s).length:=by rw[A1];simp
  have:=U [(28,true,.d (.int .i64 (dy s).length)),(387,true,.d (.bool false))] out t v H X A2;have e:max t (eL [])=t:=by simp[eL];omega
  rw[e];simp[cV,fF]at this⊢;rw[AQ,ag];simp[f81,this]
 |f::I,rx,E,A0,out,t,v,H,X,A1,A3,hle,A7,A2,A8,V,A4,AD=>by
  match rx,hle with
  |x::rx,hle=>
   have AE:E.length<(dy s).length:=by rw[A1];simp
   have AF:(dy s)[E.length]=f:=by simp[A1]
   have AG:E.length<(bS s).length:=by rw[A3];simp;omega
   have AH:(bS s)[E.length]=x:=by simp[A3,<-A7]
   have A5:=V x (by simp);simp only[cV,aal,aao]at AD;have A9:=oO A5 c t 0 A4 (by omega) (by omega) (by omega);obtain⟨AX,AA⟩:=PX p Z A' (eG s) f;have M:=iG (ins 6 (fL p.vars (eG s) f).1 0 0 0);have N:jY [ins 6 (fL p.vars (eG s) f).1 0 0 0]:=lG (by simp[ins]);have D:=qu (a:=out) (b:=(aj p.vars x).1) (c:=[ins 6 (fL p.vars (eG s) f).1 0 0 0]) (by simp;omega) A8.ok A5.nj.ok N.ok;rw[me N,me A5.nj]at D;have AI:=bu ((E.length:Int)+1);have ih:=λv X=>FR Z A' A6 at_ w c k Q U I rx (E++[f]) (A0++[x]) (out++(aj p.vars x).1++[ins 6 (fL p.vars (eG s) f).1 0 0 0]) (max t (az 0 x)) v _ X (by simp[A1]) (by simp[A3]) (by simpa using hle) (by simp[A7]) (.inl rfl) ((A8.app A5.nj).app N) (λy J=>V y (by simp[J])) (by omega) (by simp;omega);have e:out++cV p.vars (eG s) (f::I) (x::rx)=out++(aj p.vars x).1++[ins 6 (fL p.vars (eG s) f).1 0 0 0]++cV p.vars (eG s) I rx:=by simp[cV]
   have AB:max (max t (az 0 x)) (eL rx)=max t (eL (x::rx)):=by simp only[eL];omega
   rw[AB]at ih;rw[e];generalize out++(aj p.vars x).1++[ins 6 (fL p.vars (eG s) f).1 0 0 0]++cV p.vars (eG s) I rx=AY at*;generalize max t (eL (x::rx))=TT at*;generalize max t (az 0 x)=AZ at*;generalize A_:out++(aj p.vars x).1++[ins 6 (fL p.vars (eG s) f).1 0 0 0]=Aa at*;generalize fL p.vars (eG s) f=AR at*;obtain⟨Ab,Ac⟩:=AR;generalize aj p.vars x=Ad at*;rw[ag];simp[gO,gp]at AA;simp at A9;simp[ins]at M D;simp[f81,fF]at ih⊢;rcases A2 with rfl|⟨rfl,rfl⟩
   .simp[AE,AF,AG,AH,aw,gp,AI,A9,AA,M,D,ih,uH,ai]
   .simp at D;simp[AE,AF,AG,AH,aw,gp,AI,A9,AA,M,D,ih,uH,ai]
def Sp{vs:List Vr}{name:Tx}:∀(fs:List Tx)(xs:List Ex),xs.length=fs.length->fs.length<=(cV vs name fs xs).length
 |[],_,_=>by simp
 |f::fs,x::xs,h=>by
  have:=Sp (vs:=vs) (name:=name) fs xs (by simpa using h);simp only[cV,aal,aao];omega
def adH{p:Pg}(Z:p.vars.length<=1000)(A':∀v∈p.vars,cJ v=true){name:Tx}{to val:Ex}{conds:List Ex}{fields:List Tx}{line:Int}(AJ:conds.length=fields.length)(V:∀x∈conds,KR p x):uJ p (.mk 9 name to val conds [] fields [] line):=by
 have e:∀c,b6 p.vars (.mk 9 name to val conds [] fields [] line) c=(cV p.vars name fields conds++[ins 12 (bA p.vars name).1 (bA p.vars name).2.ty 0 0],c):=λc=>by simp[b6]
 have AB:dN (.mk 9 name to val conds [] fields [] line)=eL conds:=by simp[dN]
 have AK:=P6 (p:=p) (name:=name) fields conds V;have N:jY [ins 12 (bA p.vars name).1 (bA p.vars name).2.ty 0 0]:=lG (by simp[ins]);refine⟨λc AS=>?_,λc t AS A4 AL Ae=>?_⟩
 .rw[e];exact (AK.app N).low
 .rw[e]at AL⊢;rw[AB];simp only[aal,aao,aay]at AL;have A6:fields.length<100000000:=by have:=Sp (vs:=p.vars) (name:=name) fields conds AJ;omega
  have AM:=ju p Z A' name;have M:=iG (ins 12 (bA p.vars name).1 (bA p.vars name).2.ty 0 0);have D:=gD (a:=cV p.vars name fields conds) (b:=[ins 12 (bA p.vars name).1 (bA p.vars name).2.ty 0 0]) (by simp;omega) AK.ok N.ok;rw[me N]at D;have AC:=λk Q U v X=>FR (p:=p) Z A' (s:=.mk 9 name to val conds [] fields [] line) (by simpa [dy]using A6) (bA p.vars name).1 (bA p.vars name).2 c k Q U fields conds [] [] [] t v (.lit (.slice none 0 0)) X rfl rfl AJ rfl (.inr ⟨rfl,rfl⟩) (by intro x U;cases U) V A4 (by simp only[eG];simp;omega);simp only[aba,eG]at AC;generalize max t (eL conds)=TT at*;generalize cV p.vars name fields conds=O at*;generalize (bA p.vars name)=av at*;obtain⟨at_,vv⟩:=av;obtain⟨R,AT⟩:∃R,R=O++[ins 12 at_ vv.ty 0 0]:=⟨_,rfl⟩;simp only at D M⊢;rw[<-AT]at D⊢;rw[vL (by simp)];simp[gO,bx,cZ]at AM;simp[ins]at M D;simp[f81,dk,bx,cZ,AM,bM,eG,dJ,dq,bS,aV,dy,dn,jA,fF,ai]at AC⊢;refine AC _ (λAN AO r=>AN=O->AO=TT->r=some (.ret (.d (.list (R.map aZ))),[(0,p7 p c TT)])) (λY AN AO v H X A2 AU AW=>?_) _ _ rfl rfl;subst AU AW;rcases A2 with rfl|⟨rfl,rfl⟩
  .simp[M,D,nA]
  .simp at D;simp[M,D,nA]
section
variable {p:Pg} (H:p.vars.length<=1000) (I:∀v∈p.vars,cJ v=true)
theorem XY{b:List Sm}(h:∀x∈b,uJ p x):FQ p b:=by
 refine⟨?_,h⟩;induction b with
 |nil=>intro c A9;simp[ah,ix]
 |cons x r ih=>
  intro c A9;simp only[ah];have:=uC (vs:=p.vars) x c;exact AH (P0 (h x (by simp)) A9) (ih (λy AF=>h y (by simp[AF])) _ (by omega))
include H I
theorem ajs{lp:Bool}{x:Sm}(D:jr x=true)(h:(kr p.vars lp x).1=0)(Z:∀(lp:Bool) (cs:List Ex),cA (aV x)=true->(eO p.vars lp cs (aV x)).1=0->∀b∈aV x,FQ p b):uJ p x:=by
 have M:=λx A6 ex=>XR H I x A6 ex;cases EJ D h with
 |@WD to val line v J AA AG ft AI U AB AC=>
  have AJ:=Ao ft AI;cases AJ with
  |num h=>simp[bO]at J
  |sk h=>simp[bO]at J
  |Rx _ _ _ _=>simp[bO]at J
  |one o _ _ _=>simp[bO]at J;omega
  |two o _ _ _ _ _ _=>simp[bO]at J;omega
  |@var name AK AL AM AD AN=>exact adC H I (M _ U AB)
  |@idx name AK AL y AM AD AN A7 AO ty=>exact adD H I (M _ U AB) (M _ A7 AO)
 |@Oo to val conds blocks line J A5 A8 V E A' N hh=>
  exact ajo H I E A' (λc A0=>M c ((gT _).1 A8 c A0) (eZ (qQ E hh c A0)).1) (Z lp conds N hh)
 |@WE to val AP blocks line J U A1 E A' AQ N hh=>
  exact Z5 H I E A' (M _ U (eZ A1).1) AQ (Z lp [] N hh)
 |@WG name to val x y z b line v AR J A5 AA AG AD AC A6 AS A7 AT AU AV N hh=>
  have A2:=Z true [] (by simpa [aV,cA]using N) (by simp[aV,eO,fu,hh]) b (by simp[aV]);exact adG H I (M _ A6 (eZ AS).1) (M _ A7 (eZ AT).1) (M _ AU (eZ AV).1) A2
 |@WH to val b line J U A1 N hh=>
  have A2:=Z true [] (by simpa [aV,cA]using N) (by simp[aV,eO,fu,hh]) b (by simp[aV]);exact adE H I (M _ U (eZ A1).1) A2
 |@rep to val b line J U A1 N hh=>
  have A2:=Z true [] (by simpa [aV,cA]using N) (by simp[aV,eO,fu,hh]) b (by simp[aV]);exact adF H I (M _ U (eZ A1).1) A2
 |ext J A5 h=>exact XS H I (.inl rfl)
 |ret J A5=>exact XS H I (.inr rfl)
 |@WI name to val conds fields line v AR J A5 AA AC A8 AE AW hh=>
  exact adH H I AE (λc A0=>M c ((gT _).1 A8 c A0) (As fields conds [] AE hh c A0))
mutual
theorem adI:∀(x:Sm)(lp:Bool),jr x=true->(kr p.vars lp x).1=0->uJ p x
 | .mk op name to val conds AP fields blocks line,lp,D,h=>ajs H I D h (λlp cs V E=>Ea blocks lp cs V E)
theorem yL:∀(l:List Sm)(lp:Bool),eF l=true->(eK p.vars lp l).1=0->∀x∈l,uJ p x
 |[],_,_,_,x,A3=>absurd A3 (aaH)
 |y::r,lp,D,h,x,A3=>by
  simp only[eF,Ds]at D;simp only[eK]at h;obtain⟨V,E⟩:=b9.1 h;rcases aam.1 A3 with A4|A3
  .rw[A4];exact adI y lp D.1 V
  .exact yL r lp D.2 E x A3
theorem Ea:∀(l:List (List Sm))(lp:Bool)(cs:List Ex),cA l=true->(eO p.vars lp cs l).1=0->∀b∈l,FQ p b
 |[],_,_,_,_,b,O=>absurd O (aaH)
 |y::r,lp,[],D,h,b,O=>by
  simp only[cA,Ds]at D;simp only[eO]at h;obtain⟨V,E⟩:=b9.1 h;rcases aam.1 O with A4|O
  .rw[A4];exact XY (yL y lp D.1 V)
  .exact Ea r lp [] D.2 E b O
 |y::r,lp,c::cs,D,h,b,O=>by
  simp only[cA,Ds]at D;simp only[eO]at h;obtain⟨V,E⟩:=b9.1 h;obtain⟨E,A'⟩:=b9.1 E;rcases aam.1 O with A4|O
  .rw[A4];exact XY (yL y lp D.1 E)
  .exact Ea r lp cs D.2 A' b O
end
end
def Qd(p:Pg)(c t vs:Int)(n:Nat)(A8:n<100000000)(k:Kt)(Q:List ax->bU->Prop)
 (O:∀(Y:Env)(out:List ax) v,out.length=n->Q out (k (.exit 0) ⟨68,aC,(2,true,.ptr 200 1 0)::(4,true,.d (.int .i64 vs))::(5,true,.ptr 800 1 0)::(6,true,.vec 1051 v 0 n)::Y,[⟨150,1,.box [.d (.str p.name),.d (.list (p.vars.map bx)),.d (.list (p.body.map bZ))]⟩,⟨200,1,.box [.lit (.slice none 0 0),.d (.int .i64 0),.d (.int .i64 0)]⟩,⟨800,1,p7 p c t⟩,⟨1051,v,.vec 5 (out.map aZ)⟩]⟩)):
 ∀(rest pre:List ax)(v:Nat),(pre++rest).length=n->
 Q (pre++rest.map (vh n)) (aK ctx 17 (.loop (Code.at (aU f17) [1,1,1,1,0,1,0,0])) ⟨68,aC,[(2,true,.ptr 200 1 0),(4,true,.d (.int .i64 vs)),(5,true,.ptr 800 1 0),(6,true,.vec 1051 v 0 n),(7,true,.d (.int .i64 pre.length))],[⟨150,1,.box [.d (.str p.name),.d (.list (p.vars.map bx)),.d (.list (p.body.map bZ))]⟩,⟨200,1,.box [.lit (.slice none 0 0),.d (.int .i64 0),.d (.int .i64 0)]⟩,⟨800,1,p7 p c t⟩,⟨1051,v,.vec 5 ((pre++rest).map aZ)⟩]⟩ k)
 |[],pre,v,J=>by
  have:=O [(7,true,.d (.int .i64 n)),(23,true,.d (.bool false))] pre v (by simpa using J);have A9:pre.length=n:=by simpa using J
  simp at this⊢;rw[A9,ag];simp[f17,this]
 |x::rest,pre,v,J=>by
  have A':pre.length<n:=by rw[<-J];simp
  have ih:=λv=>Qd p c t vs n A8 k Q O rest (pre++[vh n x]) v (by simpa using J);have E:=bu ((pre.length:Int)+1);have M:=bu (n:Int);have H:((pre++x::rest).map aZ)[pre.length]?=some (aZ x):=by simp
  have I:∀y,((pre++x::rest).map aZ).set pre.length (aZ y)=(pre++y::rest).map aZ:=λy=>by simp
  rw[show pre++(x::rest).map (vh n)=pre++[vh n x]++rest.map (vh n) by simp,ag];by_cases D:x.op=9/\x.a= -2
  .have em:vh n x={x with a:=n}:=by unfold vh;rw[aav D]
   rw[em]at ih⊢;simp[f17,D.1]at ih H I⊢;simp[A',H,I,D.1,D.2,E,M,ih]
  .have em:vh n x=x:=by unfold vh;rw[aaf D]
   rw[em]at ih⊢;by_cases U:x.op=9
   .have AA:¬x.a= -2:=λh=>D ⟨U,h⟩;simp[f17,U]at ih H I⊢;simp[A',H,I,U,AA,E,M,ih]
   .simp[f17]at ih H I⊢;simp[A',H,I,U,E,M,ih]
def adK{p:Pg}(h:JY p):ak ctx 17 [.d (gO p)] []=some (.ret (.bh [.d (Cn (sZ p)),.d (.int .i64 (Lp (sZ p)))]),[]):=by
 obtain⟨f1,f2,f3⟩:=BU h.fit;obtain⟨E,M,N⟩:=I8 p h.lw;obtain⟨q1,q2,q3⟩:=GF (p:=p) (by have:=h.lw;simp only[gO]at this;omega);have A0:=s6 false p.body f3 h.lit (tQ h.PC);have AB:=vK p.vars (λv AC=>oI (f2 v AC));have AH:=yA p.vars [] 0 (by omega) (b9.1 h.PC).1;have AD:=nJ (vs:=p.vars) (cy p.body) (bH p.vars);have AE:=E (bH p.vars);have A5:=XN p (by omega) f2;have A1:=UN p.body q1 (yN (vs:=p.vars) p.body false f3 h.lit (tQ h.PC) q2);unfold Jh at A1;have V:=oP (p:=p) (cy p.body) (yL (by omega) f2 (cy p.body) false A0.1 A0.2.2) (bH p.vars) 0 AB (aje _) (by omega) (by omega);have AI:=AJ (cy p.body);rw[show max 0 (aM (cy p.body))=aM (cy p.body) by omega]at V;have Z:=λk Q O v=>Qd p (ah p.vars (cy p.body) (bH p.vars)).2 (aM (cy p.body)) (bH p.vars) _ (by omega:(ah p.vars (cy p.body) (bH p.vars)).1.length<100000000) k Q O (ah p.vars (cy p.body) (bH p.vars)).1 [] v rfl;have A6:sZ p=if 4096<(ah p.vars (cy p.body) (bH p.vars)).1.length+1\/64<aM (cy p.body)then none else some ((ah p.vars (cy p.body) (bH p.vars)).1.map (vh (ah p.vars (cy p.body) (bH p.vars)).1.length)++[ins 15 0 0 0 0],bH p.vars,(ah p.vars (cy p.body) (bH p.vars)).2):=rfl
 rw[A6];have AF:(ah p.vars (cy p.body) (bH p.vars)).1.length<99999980:=by omega
 clear A6 E M N A0 AD AE;generalize aM (cy p.body)=T at*;generalize ah p.vars (cy p.body) (bH p.vars)=g at*;obtain⟨g1,AK⟩:=g;simp only[aba]at Z V AF⊢;have N:g1.length<=4611686018427387903:=by omega
 have A2:(g1.length+1)*40<=140737488355328:=by omega
 have A3:=bu ((g1.length:Int)+1);obtain⟨R,AG⟩:∃R,R=g1.map (vh g1.length):=⟨_,rfl⟩;rw[<-AG]at Z⊢;rw[ala (by simp)];simp[gO]at A5;simp at A1 V;simp[f17,gO]at Z⊢;simp[A5,A1,V];refine Z _ (λout r=>out=R->r=_) (λY out v A4 h=>?_) _ rfl;subst h;by_cases D:4096<g1.length+1
 .have e:(4096:Int)<(g1.length:Int)+1:=by omega
  simp[D,e,N,A2,A3,A4,Cn,Lp]
 .have e:¬(4096:Int)<(g1.length:Int)+1:=by omega
  by_cases A7:64<T
  .simp[D,e,A7,N,A2,A3,A4,Cn,Lp]
  .simp[D,e,A7,N,A2,A3,A4,Cn,Lp,ins]
def LN{p:Pg}(N:jD p.body=true)(hw:eH (gO p)<10000000)(J:ak ctx 15 [] []=some (.ret (.d (.bool true)),[])):ak ctx 4 [.d (gO p)] []=some (.ret (.d (.bool true)),[]):=by
 obtain⟨b,I,O⟩:=ZY N hw;rw[apb (by simp)];try simp at I
 cases b with
 |false=>simp[f4,J,I]
 |true=>
  have h:=O rfl;have D:=PD h;have E:=adK h;have H:=Z0 (p:=p);cases M:sZ p with
  |none=>
   rw[M]at D E H;simp[Cn,Lp]at D E H;simp[f4,J,I,D,E,H]
  |some g=>
   rw[M]at D E H;simp[Cn,Lp]at D E H;simp[f4,J,I,D,E,H]
end Go.Am
end
