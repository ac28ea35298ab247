/-
  Texts of one proof, one behind the other.
-/
import Derived.Test.YtogaccfhfhdfpaaGreatDoorC1
import Derived.Test.YtogaccfhfhdfpaaGreatDoorC2
import Derived.Test.YtogaccfhfhdfpaaGreatDoorC3
import Derived.Test.YtogaccfhfhdfpaaGreatDoorC4
import Derived.Test.YtogaccfhfhdfpaaGreatDoorC5
import Derived.Test.YtogaccfhfhdfpaaGreatDoorC6
set_option linter.all false
section
namespace Go.Am
open Go Go.Proofs Go.Proofs.Tryz
variable [Inhabited bP]
set_option maxRecDepth 100000
set_option maxHeartbeats 8000000
def Ja(s:Tx)(l:List Vr)(J:l.length<1000000)(k:Kt)(RF:Option Vr->bU)
 (D:∀w v,k .ret ⟨25,aC,[(4,true,.ptr 300 v 0),(5,true,.d (.bool true))],[⟨300,v,fF w⟩]⟩=RF (some w))
 (E:∀(v:Nat)(b c:AV),k (.exit 0) ⟨25,aC,[(0,true,.d (.list (l.map bx))),(1,true,.d (.str s)),(4,true,.ptr 300 v 0),(6,true,b),(10,true,c)],[⟨300,v,fF vj⟩]⟩=RF none):∀(rest pre:List Vr)(v:Nat),l=pre++rest->
 aK ctx 25 (.loop (Code.at (aU f25) [1,0,1,0,0])) ⟨25,aC,[(0,true,.d (.list (l.map bx))),(1,true,.d (.str s)),(4,true,.ptr 300 v 0),(6,true,.d (.int .i64 pre.length))],[⟨300,v,fF vj⟩]⟩ k=RF (bk rest s)
 |[],pre,v,H=>by
  have V:pre.length=l.length:=by rw[H];simp
  simp only[fF,vj]at E;rw[V,ag];simp[f25,E,bk,vj]
 |x::rest,pre,v,H=>by
  have O:pre.length<l.length:=by rw[H];simp
  have U:l[pre.length]=x:=by simp[H]
  have ih:=Ja s l J k RF D E rest (pre++[x]) v (by simp[H]);have M:=bu ((pre.length:Int)+1);have D:=D x;simp only[fF]at D;rw[ag];by_cases N:x.name=s
  .simp only[N]at D;simp[f25,vj];simp[O,U,bx,cZ,N,D,bk]
  .simp[f25,vj]at ih⊢;simp[O,U,bx,cZ,N,M,ih,bk]
def o7{vs:List Vr}(J:vs.length<1000000)(s:Tx):ak ctx 25 [.d (.list (vs.map bx)),.d (.str s)] []=some (.ret (.bh [.d (bx (fV vs s)),.d (.bool (bk vs s).isSome)]),[]):=by
 have h:=λk RF D E v=>Ja s vs J k RF D E vs [] v rfl;rw[alg (by simp)];unfold fV;simp[f25,vj]at h⊢;rw[h _ (λo=>some (.ret (.bh [.d (bx (o.getD vj)),.d (.bool o.isSome)]),[]))]
 .simp[vj]
 .intro w v;simp[bx,cZ]
 .intro v b c;simp[bx,cZ,vj]
def PG{w:Vr}(Z:w.arr=true->0<=w.lo/\w.lo<=w.hi/\w.hi<=255):ak ctx 26 [.d (.agg (cZ w))] []=some (.ret (.d (.int .i64 (bR w))),[]):=by
 have y:=JR w.ty;rw[alh (by simp)];unfold bR;cases I:w.arr with
 |true=>
  have A0:=Z I;have M:=bu (w.hi-w.lo);have A':=bu (w.hi-w.lo+1);simp[f26,cZ,I,M,A']
 |false=>
  by_cases E:2<w.ty
  .simp[f26,cZ,I,E,y]
  .simp[f26,cZ,I,E]
def FJ(p:Pn):aE:=.box [.d (.str p.name),.d (.int .i64 p.ty),.d (.bool p.N9)]
def Lq(s:Tx)(l:List Pn)(O:l.length<1000000)(k:Kt)(RF:Option Pn->bU)
 (D:∀w v,k .ret ⟨32,aC,[(4,true,.ptr 300 v 0),(5,true,.d (.bool true))],[⟨300,v,FJ w⟩]⟩=RF (some w))
 (H:∀(v:Nat)(b c:AV),k (.exit 0) ⟨32,aC,[(1,true,.d (.str s)),(4,true,.ptr 300 v 0),(6,true,.d (.list (l.map gp))),(7,true,b),(13,true,c)],[⟨300,v,FJ yC⟩]⟩=RF none):∀(rest pre:List Pn)(v:Nat),l=pre++rest->
 aK ctx 143 (.loop (Code.at (aU f143) [1,1,0,1,0,0])) ⟨32,aC,[(1,true,.d (.str s)),(4,true,.ptr 300 v 0),(6,true,.d (.list (l.map gp))),(7,true,.d (.int .i64 pre.length))],[⟨300,v,FJ yC⟩]⟩ k=RF (BC rest s)
 |[],pre,v,I=>by
  have Z:pre.length=l.length:=by rw[I];simp
  simp only[FJ,yC]at H;rw[Z,ag];simp[f143,FJ,H,BC,yC]
 |x::rest,pre,v,I=>by
  have J:pre.length<l.length:=by rw[I];simp
  have U:l[pre.length]=x:=by simp[I]
  have ih:=Lq s l O k RF D H rest (pre++[x]) v (by simp[I]);have V:=bu ((pre.length:Int)+1);have D:=D x;simp only[FJ]at D;rw[ag];by_cases M:s=[]
  .simp only[M]at ih⊢;simp[f143,FJ,yC]at ih⊢;simp[J,V,ih,BC]
  .by_cases N:x.name=s
   .simp only[N]at D;simp[f143,FJ,yC];simp[J,U,gp,N,M,D,BC]
   .simp[f143,FJ,yC]at ih⊢;simp[J,U,gp,N,M,V,ih,BC]
def XJ(q:Int)(s:Tx):ak ctx 143 [.d (.int .i64 q),.d (.str s)] []=some (.ret (.bh [.d (gp (fP q s)),.d (.bool (mE q s).isSome)]),[]):=by
 have O:=yq q;have y:=JR q;have h:=λk RF D H v=>Lq s (eI q) (by omega) k RF D H (eI q) [] v rfl;rw[agL (by simp)];unfold fP mE;simp[f143,FJ,yC]at h⊢;simp[y];rw[h _ (λo=>some (.ret (.bh [.d (gp (o.getD yC)),.d (.bool o.isSome)]),[]))]
 .simp[yC]
 .intro w v;simp[gp]
 .intro v b c;simp[gp,yC]
def fa(t:Te):AV:=.bh [.d (.int .i64 t.t),.d (.agg [.int .i64 t.e,.int .i64 t.line])]
def RT(vs:List Vr)(x:Ex):Prop:=ak ctx 87 [.d (.list (vs.map bx)),.d (.agg [.int .i64 (bO x),.int .i64 (il x),.str (dI x),.str (fQ x),.list ((da x).map bJ),.int .i64 (jH x)])] []=some (.ret (fa (aJ vs x)),[])
def dV(e:EL):AV:=.d (.agg [.int .i64 e.1,.int .i64 e.2])
def Jb(vs:List Vr)(x:Ex)(t:Int):EL:=if (aJ vs x).e=0/\(aJ vs x).t≠t then (10,jH x)else ((aJ vs x).e,(aJ vs x).line)
def GU{vs:List Vr}{x:Ex}(h:RT vs x):ak ctx 144 [.d (.list (vs.map bx)),.d (.agg [.int .i64 (bO x),.int .i64 (il x),.str (dI x),.str (fQ x),.list ((da x).map bJ),.int .i64 (jH x)])] []=some (.ret (dV (Jb vs x 1)),[]):=by
 unfold RT at h;rw[agM (by simp)];unfold Jb;generalize aJ vs x=T at*;by_cases E:T.e=0
 .by_cases D:T.t=1
  .simp[f144,fa,dV,E,D,h]
  .simp[f144,fa,dV,E,D,h]
 .simp[f144,fa,dV,E,h]
def tg{vs:List Vr}{x:Ex}(t:Int)(h:RT vs x):ak ctx 88 [.d (.list (vs.map bx)),.d (.agg [.int .i64 (bO x),.int .i64 (il x),.str (dI x),.str (fQ x),.list ((da x).map bJ),.int .i64 (jH x)]),.d (.int .i64 t)] []=some (.ret (dV (Jb vs x t)),[]):=by
 unfold RT at h;rw[alI (by simp)];unfold Jb;generalize aJ vs x=T at*;by_cases E:T.e=0
 .by_cases D:T.t=t
  .simp[f88,fa,dV,E,D,h]
  .simp[f88,fa,dV,E,D,h]
 .simp[f88,fa,dV,E,h]
section
variable {vs:List Vr} (M:vs.length<1000000) (A1:∀v∈vs,cJ v=true)
theorem aiO{op nn line:Int}{name field:Tx}{sub:List Ex}(h:op=1\/op=2):RT vs (.mk op nn name field sub line):=by
 unfold RT;rw[gL (by simp)];have e:aJ vs (.mk op nn name field sub line)=fO op:=by
  unfold aJ;rw[aav h]
 rw[e];rcases h with h|h<;>subst h<;>simp[f87,fa,fO]
include M in
theorem XK{nn line:Int}{name field:Tx}{sub:List Ex}:RT vs (.mk 5 nn name field sub line):=by
 unfold RT;have D:=o7 (vs:=vs) M name;rw[gL (by simp)];have e:aJ vs (.mk 5 nn name field sub line)=(match bk vs name with
  |none=>cW 9 line
  |some v=>(if v.ty<=2 then cW 10 line else match mE v.ty field with
   |none=>cW 9 line
   |some p=>fO p.ty)):=by
  unfold aJ;rw[aaf (by decide),aav (by decide)];rfl
 rw[e];cases J:bk vs name with
 |none=>
  simp[J,fV,bx,cZ,vj]at D;simp[f87,fa,cW,D,ai]
 |some v=>
  have V:=XJ v.ty field;simp[J,fV,bx,cZ]at D;by_cases E:v.ty<=2
  .simp[f87,fa,cW,D,ai,E]
  .cases Z:mE v.ty field with
   |none=>
    simp[Z,fP,gp,yC]at V;simp[f87,fa,cW,D,ai,E,V,Z]
   |some p=>
    simp[Z,fP,gp]at V;simp[f87,fa,fO,D,ai,E,V,Z]
include M in
theorem adv{nn line:Int}{name field:Tx}{v:Vr}{y:Ex}{T:Te}(J:bk vs name=some v)(H:v.arr=true)(E:¬2<v.ty)(N:RT vs y)(U:aJ vs y=T)(I:T.e=0)(O:T.t=1):ak ctx 87 [.d (.list (vs.map bx)),.d (.agg [.int .i64 4,.int .i64 nn,.str name,.str field,.list ([y].map bJ),.int .i64 line])] []=some (.ret (fa (fO v.ty)),[]):=by
 have D:=o7 (vs:=vs) M name;have hi:=GU N;unfold Jb dV at hi;rw[U]at hi;clear U N;rw[gL (by simp)];simp[J,fV,bx,cZ]at D;simp[I,O]at hi;simp[f87,fa,fO,cW,D,ai,H,E,aw,hi,I,O]
include M in
theorem adw{nn line:Int}{name field:Tx}{v:Vr}{y:Ex}{T:Te}(J:bk vs name=some v)(H:v.arr=true)(E:¬2<v.ty)(N:RT vs y)(U:aJ vs y=T)(I:T.e=0)(O:¬T.t=1):ak ctx 87 [.d (.list (vs.map bx)),.d (.agg [.int .i64 4,.int .i64 nn,.str name,.str field,.list ([y].map bJ),.int .i64 line])] []=some (.ret (fa (cW 10 (jH y))),[]):=by
 have D:=o7 (vs:=vs) M name;have hi:=GU N;unfold Jb dV at hi;rw[U]at hi;clear U N;rw[gL (by simp)];simp[J,fV,bx,cZ]at D;simp[I,O]at hi;simp[f87,fa,fO,cW,D,ai,H,E,aw,hi,I,O]
include M in
theorem adx{nn line:Int}{name field:Tx}{v:Vr}{y:Ex}{T:Te}(J:bk vs name=some v)(H:v.arr=true)(E:¬2<v.ty)(N:RT vs y)(U:aJ vs y=T)(I:¬T.e=0):ak ctx 87 [.d (.list (vs.map bx)),.d (.agg [.int .i64 4,.int .i64 nn,.str name,.str field,.list ([y].map bJ),.int .i64 line])] []=some (.ret (fa (cW T.e T.line)),[]):=by
 have D:=o7 (vs:=vs) M name;have hi:=GU N;unfold Jb dV at hi;rw[U]at hi;clear U N;rw[gL (by simp)];simp[J,fV,bx,cZ]at D;simp[I]at hi;simp[f87,fa,fO,cW,D,ai,H,E,aw,hi,I]
include M in
theorem ady{op nn line:Int}{name field:Tx}{sub:List Ex}(h:op=3\/op=4)(A':op=4->∃y,sub=[y]/\RT vs y):RT vs (.mk op nn name field sub line):=by
 unfold RT;have D:=o7 (vs:=vs) M name;have e:aJ vs (.mk op nn name field sub line)=(match bk vs name with
  |none=>cW 9 line
  |some v=>if v.arr≠decide (op=4)\/2<v.ty then cW 10 line else if op=4 then Ah vs v.ty sub else fO v.ty):=by
  conv=>lhs;unfold aJ
  rw[aaf (by omega),aav (by omega)];cases bk vs name with
  |none=>rfl
  |some v=>
   simp only
   rw[aaf (by omega)]
 rw[e];clear e;cases J:bk vs name with
 |none=>
  simp[J,fV,bx,cZ,vj]at D;rcases h with h|h<;>subst h<;>rw[gL (by simp)]<;>simp[f87,fa,cW,D,ai]
 |some v=>
  simp[J,fV,bx,cZ]at D;rcases h with h|h<;>subst h
  .cases H:v.arr with
   |true=>(rw[gL (by simp)];simp[f87,fa,cW,D,ai,H])
   |false=>
    by_cases E:2<v.ty
    ·(rw[gL (by simp)];simp[f87,fa,cW,D,ai,H,E])
    ·(rw[gL (by simp)];simp[f87,fa,fO,D,ai,H,E])
  .cases H:v.arr with
   |false=>(rw[gL (by simp)];simp[f87,fa,cW,D,ai,H])
   |true=>
    by_cases E:2<v.ty
    ·(rw[gL (by simp)];simp[f87,fa,cW,D,ai,H,E])
    .obtain⟨y,A0,N⟩:=A' rfl;subst A0;simp only[Ah,pV,Ag,DM,N8,pW,Wp];by_cases I:(aJ vs y).e=0
     .by_cases O:(aJ vs y).t=1
      .have:=adv (nn:=nn) (line:=line) (field:=field) M J H E N rfl I O;simpa [I,O,E,H,fO]using this
      .have:=adw (nn:=nn) (line:=line) (field:=field) M J H E N rfl I O;simpa [I,O,E,H,cW]using this
     .have:=adx (nn:=nn) (line:=line) (field:=field) M J H E N rfl I;simpa [I,E,H,cW]using this
end
section
variable {vs:List Vr}
theorem amg{nn line:Int}{name field:Tx}{a:Ex}(h:RT vs a):RT vs (.mk 6 nn name field [a] line):=by
 have e:aJ vs (.mk 6 nn name field [a] line)=cI 6 line (aJ vs a) (aJ vs a):=by
  conv=>lhs;unfold aJ
  rw[aaf (by omega),aaf (by omega)];rfl
 unfold RT at h⊢;rw[e,gL (by simp)];clear e;generalize aJ vs a=T at*;simp[fa]at h;simp[f87,fa,ai,aw,h];by_cases D:T.e=0
 .by_cases H:T.t=1<;>simp[D,H,cI,iw,iW,fO,cW]
 .simp[D,cI]
theorem amh{nn line:Int}{name field:Tx}{a:Ex}(h:RT vs a):RT vs (.mk 7 nn name field [a] line):=by
 have e:aJ vs (.mk 7 nn name field [a] line)=cI 7 line (aJ vs a) (aJ vs a):=by
  conv=>lhs;unfold aJ
  rw[aaf (by omega),aaf (by omega)];rfl
 unfold RT at h⊢;rw[e,gL (by simp)];clear e;generalize aJ vs a=T at*;simp[fa]at h;simp[f87,fa,ai,aw,h];by_cases D:T.e=0
 .by_cases H:T.t=2<;>simp[D,H,cI,iw,iW,fO,cW]
 .simp[D,cI]
theorem ami{nn line:Int}{name field:Tx}{a b:Ex}(h:RT vs a)(E:RT vs b):RT vs (.mk 8 nn name field [a,b] line):=by
 have e:aJ vs (.mk 8 nn name field [a,b] line)=cI 8 line (aJ vs a) (aJ vs b):=by
  conv=>lhs;unfold aJ
  rw[aaf (by omega),aaf (by omega)];rfl
 unfold RT at h E⊢;rw[e,gL (by simp)];clear e;generalize aJ vs a=T at*;generalize aJ vs b=I at*;simp[fa]at h E;simp[f87,fa,ai,aw,h,E];by_cases D:T.e=0
 .by_cases H:I.e=0
  .by_cases M:T.t=1<;>by_cases J:I.t=1<;>simp[D,H,M,J,cI,iw,iW,fO,cW]
  .simp[D,H,cI]
 .simp[D,cI]
theorem amj{nn line:Int}{name field:Tx}{a b:Ex}(h:RT vs a)(E:RT vs b):RT vs (.mk 9 nn name field [a,b] line):=by
 have e:aJ vs (.mk 9 nn name field [a,b] line)=cI 9 line (aJ vs a) (aJ vs b):=by
  conv=>lhs;unfold aJ
  rw[aaf (by omega),aaf (by omega)];rfl
 unfold RT at h E⊢;rw[e,gL (by simp)];clear e;generalize aJ vs a=T at*;generalize aJ vs b=I at*;simp[fa]at h E;simp[f87,fa,ai,aw,h,E];by_cases D:T.e=0
 .by_cases H:I.e=0
  .by_cases M:T.t=1<;>by_cases J:I.t=1<;>simp[D,H,M,J,cI,iw,iW,fO,cW]
  .simp[D,H,cI]
 .simp[D,cI]
theorem aiP{nn line:Int}{name field:Tx}{a b:Ex}(h:RT vs a)(E:RT vs b):RT vs (.mk 10 nn name field [a,b] line):=by
 have e:aJ vs (.mk 10 nn name field [a,b] line)=cI 10 line (aJ vs a) (aJ vs b):=by
  conv=>lhs;unfold aJ
  rw[aaf (by omega),aaf (by omega)];rfl
 unfold RT at h E⊢;rw[e,gL (by simp)];clear e;generalize aJ vs a=T at*;generalize aJ vs b=I at*;simp[fa]at h E;simp[f87,fa,ai,aw,h,E];by_cases D:T.e=0
 .by_cases H:I.e=0
  .by_cases M:T.t=1<;>by_cases J:I.t=1<;>simp[D,H,M,J,cI,iw,iW,fO,cW]
  .simp[D,H,cI]
 .simp[D,cI]
theorem aiQ{nn line:Int}{name field:Tx}{a b:Ex}(h:RT vs a)(E:RT vs b):RT vs (.mk 11 nn name field [a,b] line):=by
 have e:aJ vs (.mk 11 nn name field [a,b] line)=cI 11 line (aJ vs a) (aJ vs b):=by
  conv=>lhs;unfold aJ
  rw[aaf (by omega),aaf (by omega)];rfl
 unfold RT at h E⊢;rw[e,gL (by simp)];clear e;generalize aJ vs a=T at*;generalize aJ vs b=I at*;simp[fa]at h E;simp[f87,fa,ai,aw,h,E];by_cases D:T.e=0
 .by_cases H:I.e=0
  .by_cases M:T.t=1<;>by_cases J:I.t=1<;>simp[D,H,M,J,cI,iw,iW,fO,cW]
  .simp[D,H,cI]
 .simp[D,cI]
theorem aiR{nn line:Int}{name field:Tx}{a b:Ex}(h:RT vs a)(E:RT vs b):RT vs (.mk 12 nn name field [a,b] line):=by
 have e:aJ vs (.mk 12 nn name field [a,b] line)=cI 12 line (aJ vs a) (aJ vs b):=by
  conv=>lhs;unfold aJ
  rw[aaf (by omega),aaf (by omega)];rfl
 unfold RT at h E⊢;rw[e,gL (by simp)];clear e;generalize aJ vs a=T at*;generalize aJ vs b=I at*;simp[fa]at h E;simp[f87,fa,ai,aw,h,E];by_cases D:T.e=0
 .by_cases H:I.e=0
  .by_cases M:T.t=1<;>by_cases J:I.t=1<;>simp[D,H,M,J,cI,iw,iW,fO,cW]
  .simp[D,H,cI]
 .simp[D,cI]
theorem aiS{nn line:Int}{name field:Tx}{a b:Ex}(h:RT vs a)(E:RT vs b):RT vs (.mk 13 nn name field [a,b] line):=by
 have e:aJ vs (.mk 13 nn name field [a,b] line)=cI 13 line (aJ vs a) (aJ vs b):=by
  conv=>lhs;unfold aJ
  rw[aaf (by omega),aaf (by omega)];rfl
 unfold RT at h E⊢;rw[e,gL (by simp)];clear e;generalize aJ vs a=T at*;generalize aJ vs b=I at*;simp[fa]at h E;simp[f87,fa,ai,aw,h,E];by_cases D:T.e=0
 .by_cases H:I.e=0
  .by_cases J:I.t=T.t<;>simp[D,H,J,cI,iw,iW,fO,cW]
  .simp[D,H,cI]
 .simp[D,cI]
end
section
variable {vs:List Vr}
theorem aiT{nn line:Int}{name field:Tx}{a b:Ex}(h:RT vs a)(D:RT vs b):RT vs (.mk 14 nn name field [a,b] line):=by
 have e:aJ vs (.mk 14 nn name field [a,b] line)=cI 14 line (aJ vs a) (aJ vs b):=by
  conv=>lhs;unfold aJ
  rw[aaf (by omega),aaf (by omega)];rfl
 unfold RT at h D⊢;rw[e,gL (by simp)];clear e;generalize aJ vs a=T at*;generalize aJ vs b=H at*;simp[fa]at h D;simp[f87,fa,ai,aw,h,D];by_cases E:T.e=0
 .by_cases I:H.e=0
  .by_cases J:H.t=T.t<;>simp[E,I,J,cI,iw,iW,fO,cW]
  .simp[E,I,cI]
 .simp[E,cI]
theorem aiU{nn line:Int}{name field:Tx}{a b:Ex}(h:RT vs a)(D:RT vs b):RT vs (.mk 15 nn name field [a,b] line):=by
 have e:aJ vs (.mk 15 nn name field [a,b] line)=cI 15 line (aJ vs a) (aJ vs b):=by
  conv=>lhs;unfold aJ
  rw[aaf (by omega),aaf (by omega)];rfl
 unfold RT at h D⊢;rw[e,gL (by simp)];clear e;generalize aJ vs a=T at*;generalize aJ vs b=H at*;simp[fa]at h D;simp[f87,fa,ai,aw,h,D];by_cases E:T.e=0
 .by_cases I:H.e=0
  .by_cases M:T.t=1<;>by_cases J:H.t=1<;>simp[E,I,M,J,cI,iw,iW,fO,cW]
  .simp[E,I,cI]
 .simp[E,cI]
theorem aiV{nn line:Int}{name field:Tx}{a b:Ex}(h:RT vs a)(D:RT vs b):RT vs (.mk 16 nn name field [a,b] line):=by
 have e:aJ vs (.mk 16 nn name field [a,b] line)=cI 16 line (aJ vs a) (aJ vs b):=by
  conv=>lhs;unfold aJ
  rw[aaf (by omega),aaf (by omega)];rfl
 unfold RT at h D⊢;rw[e,gL (by simp)];clear e;generalize aJ vs a=T at*;generalize aJ vs b=H at*;simp[fa]at h D;simp[f87,fa,ai,aw,h,D];by_cases E:T.e=0
 .by_cases I:H.e=0
  .by_cases M:T.t=1<;>by_cases J:H.t=1<;>simp[E,I,M,J,cI,iw,iW,fO,cW]
  .simp[E,I,cI]
 .simp[E,cI]
theorem aiW{nn line:Int}{name field:Tx}{a b:Ex}(h:RT vs a)(D:RT vs b):RT vs (.mk 17 nn name field [a,b] line):=by
 have e:aJ vs (.mk 17 nn name field [a,b] line)=cI 17 line (aJ vs a) (aJ vs b):=by
  conv=>lhs;unfold aJ
  rw[aaf (by omega),aaf (by omega)];rfl
 unfold RT at h D⊢;rw[e,gL (by simp)];clear e;generalize aJ vs a=T at*;generalize aJ vs b=H at*;simp[fa]at h D;simp[f87,fa,ai,aw,h,D];by_cases E:T.e=0
 .by_cases I:H.e=0
  .by_cases M:T.t=1<;>by_cases J:H.t=1<;>simp[E,I,M,J,cI,iw,iW,fO,cW]
  .simp[E,I,cI]
 .simp[E,cI]
theorem aiX{nn line:Int}{name field:Tx}{a b:Ex}(h:RT vs a)(D:RT vs b):RT vs (.mk 18 nn name field [a,b] line):=by
 have e:aJ vs (.mk 18 nn name field [a,b] line)=cI 18 line (aJ vs a) (aJ vs b):=by
  conv=>lhs;unfold aJ
  rw[aaf (by omega),aaf (by omega)];rfl
 unfold RT at h D⊢;rw[e,gL (by simp)];clear e;generalize aJ vs a=T at*;generalize aJ vs b=H at*;simp[fa]at h D;simp[f87,fa,ai,aw,h,D];by_cases E:T.e=0
 .by_cases I:H.e=0
  .by_cases M:T.t=1<;>by_cases J:H.t=1<;>simp[E,I,M,J,cI,iw,iW,fO,cW]
  .simp[E,I,cI]
 .simp[E,cI]
theorem aiY{nn line:Int}{name field:Tx}{a b:Ex}(h:RT vs a)(D:RT vs b):RT vs (.mk 19 nn name field [a,b] line):=by
 have e:aJ vs (.mk 19 nn name field [a,b] line)=cI 19 line (aJ vs a) (aJ vs b):=by
  conv=>lhs;unfold aJ
  rw[aaf (by omega),aaf (by omega)];rfl
 unfold RT at h D⊢;rw[e,gL (by simp)];clear e;generalize aJ vs a=T at*;generalize aJ vs b=H at*;simp[fa]at h D;simp[f87,fa,ai,aw,h,D];by_cases E:T.e=0
 .by_cases I:H.e=0
  .by_cases M:T.t=2<;>by_cases J:H.t=2<;>simp[E,I,M,J,cI,iw,iW,fO,cW]
  .simp[E,I,cI]
 .simp[E,cI]
theorem aiZ{nn line:Int}{name field:Tx}{a b:Ex}(h:RT vs a)(D:RT vs b):RT vs (.mk 20 nn name field [a,b] line):=by
 have e:aJ vs (.mk 20 nn name field [a,b] line)=cI 20 line (aJ vs a) (aJ vs b):=by
  conv=>lhs;unfold aJ
  rw[aaf (by omega),aaf (by omega)];rfl
 unfold RT at h D⊢;rw[e,gL (by simp)];clear e;generalize aJ vs a=T at*;generalize aJ vs b=H at*;simp[fa]at h D;simp[f87,fa,ai,aw,h,D];by_cases E:T.e=0
 .by_cases I:H.e=0
  .by_cases M:T.t=2<;>by_cases J:H.t=2<;>simp[E,I,M,J,cI,iw,iW,fO,cW]
  .simp[E,I,cI]
 .simp[E,cI]
theorem ai0{nn line:Int}{name field:Tx}{a b:Ex}(h:RT vs a)(D:RT vs b):RT vs (.mk 21 nn name field [a,b] line):=by
 have e:aJ vs (.mk 21 nn name field [a,b] line)=cI 21 line (aJ vs a) (aJ vs b):=by
  conv=>lhs;unfold aJ
  rw[aaf (by omega),aaf (by omega)];rfl
 unfold RT at h D⊢;rw[e,gL (by simp)];clear e;generalize aJ vs a=T at*;generalize aJ vs b=H at*;simp[fa]at h D;simp[f87,fa,ai,aw,h,D];by_cases E:T.e=0
 .by_cases I:H.e=0
  .by_cases M:T.t=2<;>by_cases J:H.t=2<;>simp[E,I,M,J,cI,iw,iW,fO,cW]
  .simp[E,I,cI]
 .simp[E,cI]
end
def ai1{vs:List Vr}{op nn line:Int}{name field:Tx}{a b:Ex}(A8:8<=op)(A9:op<=21)(h:RT vs a)(D:RT vs b):RT vs (.mk op nn name field [a,b] line):=by
 have A0:op=8\/op=9\/op=10\/op=11\/op=12\/op=13\/op=14\/op=15\/op=16\/op=17\/op=18\/op=19\/op=20\/op=21:=by omega
 rcases A0 with e|e|e|e|e|e|e|e|e|e|e|e|e|e<;>subst e
 .exact ami h D
 .exact amj h D
 .exact aiP h D
 .exact aiQ h D
 .exact aiR h D
 .exact aiS h D
 .exact aiT h D
 .exact aiU h D
 .exact aiV h D
 .exact aiW h D
 .exact aiX h D
 .exact aiY h D
 .exact aiZ h D
 .exact ai0 h D
section
variable {vs:List Vr} (I:vs.length<1000000)
include I
mutual
theorem vX:∀x:Ex,bE x=true->RT vs x
 | .mk op nn name field sub line,E=>by
  simp only[bE,Ds,aaw,afz,aeA]at E;obtain⟨AA,H,_,_,A1⟩:=E;have ih:=GW sub A1;unfold dW at H;by_cases A2:op=1\/op=2
  .exact aiO A2
  .by_cases A3:op=5
   .subst A3;exact XK I
   .by_cases A4:op=3\/op=4
    .refine ady I A4 (λA5=>?_);rw[aav (.inl A5)]at H;match sub,H with
     |[y],_=>exact⟨y,rfl,ih y (by simp)⟩
    .by_cases Z:op=6\/op=7
     .rw[aav (.inr Z)]at H;match sub,H with
      |[y],_=>
       rcases Z with e|e<;>subst e
       .exact amg (ih y (by simp))
       .exact amh (ih y (by simp))
     .rw[aaf (by omega),aav (by omega)]at H;match sub,H with
      |[y,z],_=>exact ai1 (by omega) (by omega) (ih y (by simp)) (ih z (by simp))
theorem GW:∀l:List Ex,bY l=true->∀y∈l,RT vs y
 |[],_,y,J=>by simp at J
 |x::r,E,y,J=>by
  simp only[bY,Ds]at E;rcases aam.1 J with e|J
  .rw[e];exact vX x E.1
  .exact GW r E.2 y J
end
end
def Lr{op line:Int}{a b:Te}(h:(cI op line a b).e=0):(cI op line a b).line=0:=by
 rw[(jq h).2.2.2.2];rfl
def ZW(vs:List Vr):∀x:Ex,(aJ vs x).e=0->(aJ vs x).line=0
 | .mk op nn name field sub line,h=>by
  unfold aJ at h⊢;split at h
  .rename_i c;rw[aav c];rfl
  .rename_i c;rw[aaf c];split at h
   .rename_i M;rw[aav M];cases E:bk vs name with
    |none=>rw[E]at h;simp[cW]at h
    |some v=>
     rw[E]at h;simp only at h⊢;split at h
     .rename_i N;rw[aav N];split at h
      .simp[cW]at h
      .rename_i O;rw[aaf O];cases A6:mE v.ty field with
       |none=>rw[A6]at h;simp[cW]at h
       |some p=>rfl
     .rename_i N;rw[aaf N];split at h
      .simp[cW]at h
      .rename_i O;rw[aaf O];split at h
       .rename_i U;rw[aav U];cases sub with
        |nil=>rfl
        |cons y r=>
         simp only[Ah]at h⊢;split at h
         .rename_i V;exact absurd h V
         .rename_i V;rw[aaf V];split at h
          .simp[cW]at h
          .rename_i A7;rw[aaf A7];rfl
       .rename_i U;rw[aaf U];rfl
   .rename_i M;rw[aaf M];match sub,h with
    |[],_=>rfl
    |[y],h=>exact Lr h
    |y::z::_,h=>exact Lr h
def th(vs:List Vr)(x:Ex)(t:Int):Jb vs x t=dP vs x t:=by
 unfold Jb dP;have:=ZW vs x;by_cases h:(aJ vs x).e=0
 .have I:=this h;by_cases A':(aJ vs x).t=t
  .simp[h,A',I]
  .simp[h,A']
 .simp[h]
def RM(vs:List Vr)(lp:Bool)(x:Sm):Prop:=ak ctx 53 [.d (.list (vs.map bx)),.d (.agg (smL x)),.d (.bool lp)] []=some (.ret (dV (eo (kr vs lp x))),[])
def rW(vs:List Vr)(lp:Bool)(l:List Sm):Prop:=ak ctx 27 [.d (.list (vs.map bx)),.d (.list (l.map bZ)),.d (.bool lp)] []=some (.ret (dV (eo (eK vs lp l))),[])
@[simp] def jh(e:EL):aE:=.box [.d (.int .i64 e.1),.d (.int .i64 e.2)]
def PH{vs:List Vr}{lp:Bool}{l:List Sm}(N:l.length<100000000)(M:∀x∈l,RM vs lp x)(k:Kt)(RF:EL->bU)
 (D:∀e u v X,k .ret ⟨27,aC,[(6,true,.ptr 400 u 0)],[⟨400,u,jh e⟩,⟨500,v,X⟩]⟩=RF e)
 (I:∀(u v:Nat)(X:aE)(b c:AV),k (.exit 0) ⟨27,aC,[(0,true,.d (.list (vs.map bx))),(1,true,.d (.list (l.map bZ))),(2,true,.d (.bool lp)),(6,true,.ptr 400 u 0),(7,true,b),(12,true,c)],[⟨400,u,jh (0,0)⟩,⟨500,v,X⟩]⟩=RF (0,0)):∀(rest pre:List Sm)(u v:Nat)(X:aE),l=pre++rest->
 aK ctx 27 (.loop (Code.at (aU f27) [1,0,1,0,0])) ⟨27,aC,[(0,true,.d (.list (vs.map bx))),(1,true,.d (.list (l.map bZ))),(2,true,.d (.bool lp)),(6,true,.ptr 400 u 0),(7,true,.d (.int .i64 pre.length))],[⟨400,u,jh (0,0)⟩,⟨500,v,X⟩]⟩ k=RF (eo (eK vs lp rest))
 |[],pre,u,v,X,H=>by
  have V:pre.length=l.length:=by rw[H];simp
  simp only[jh]at I;rw[V,ag];simp[f27,I,eK,eo]
 |x::rest,pre,u,v,X,H=>by
  have O:pre.length<l.length:=by rw[H];simp
  have U:l[pre.length]=x:=by simp[H]
  have hm:=M x (by rw[H];simp);have ih:=λu v X=>PH N M k RF D I rest (pre++[x]) u v X (by simp[H]);have Z:=bu ((pre.length:Int)+1);have key:eK vs lp (x::rest)=fu (kr vs lp x) (eK vs lp rest):=by rw[eK]
  rw[key];unfold RM dV at hm;generalize kr vs lp x=E at*;generalize eK vs lp rest=F at*;simp only[jh]at D;rw[ag];by_cases J:E.1=0
  .rw[nc J];simp[eo,J]at hm;simp[f27]at ih⊢;simp[O,U,dk,hm,Z,ih]
  .rw[rQ J];have D:=D E;simp[eo,J]at hm;simp[f27];simp[O,U,dk,hm,J,D,eo]
def PI{vs:List Vr}{lp:Bool}{l:List Sm}(N:l.length<100000000)(M:∀x∈l,RM vs lp x):rW vs lp l:=by
 unfold rW;have h:=λk RF D I u v X=>PH N M k RF D I l [] u v X rfl;rw[ali (by simp)];simp[f27]at h⊢;rw[h _ (λe=>some (.ret (dV e),[]))]
 .intro a b u v X;simp[dV]
 .intro u v X b c;simp[dV]
def ai2{w:Vr}(h:cJ w=true):w.arr=true->0<=w.lo/\w.lo<=w.hi/\w.hi<=255:=by
 intro A9;simp only[cJ,Ds,A9,ad1,aaw]at h;exact h.2.2.1.2
def PJ(l:List Vr)(AA:l.length<=1000)(M:∀v∈l,cJ v=true)(H I:AV)(k:Kt)(RF:EL->bU)
 (N:∀e u v X,e.1≠0->k .ret ⟨58,aC,[(2,true,.ptr 200 u 0)],[⟨150,1,.box [H,.d (.list (l.map bx)),I]⟩,⟨200,u,jh e⟩,⟨350,v,X⟩]⟩=RF e)
 (O:∀(u v:Nat)(X:aE)(a b c:AV),k (.exit 0) ⟨58,aC,[(1,true,.ptr 150 1 0),(2,true,.ptr 200 u 0),(3,true,a),(4,true,b),(11,true,c)],[⟨150,1,.box [H,.d (.list (l.map bx)),I]⟩,⟨200,u,jh (0,0)⟩,⟨350,v,X⟩]⟩=RF (0,0)):∀(rest pre:List Vr)(n:Int)(u v:Nat)(X:aE),l=pre++rest->0<=n->n<=1024->
 aK ctx 9 (.loop (Code.at (aU f9) [1,1,0,1,0,0])) ⟨58,aC,[(1,true,.ptr 150 1 0),(2,true,.ptr 200 u 0),(3,true,.d (.int .i64 n)),(4,true,.d (.int .i64 pre.length))],[⟨150,1,.box [H,.d (.list (l.map bx)),I]⟩,⟨200,u,jh (0,0)⟩,⟨350,v,X⟩]⟩ k=RF (KZ rest pre n)
 |[],pre,n,u,v,X,D,AB,AC=>by
  have AD:pre.length=l.length:=by rw[D];simp
  simp only[jh]at O;rw[AD,ag];simp[f9,O,KZ]
 |x::rest,pre,n,u,v,X,D,AB,AC=>by
  have U:pre.length<l.length:=by rw[D];simp
  have Z:l[pre.length]=x:=by simp[D]
  have y:List.take pre.length (List.map bx l)=List.map bx pre:=by simp[D]
  have A':pre.length<=l.length:=by omega
  have A1:=M x (by rw[D];simp);have AG:=ku A1;have A0:=PG (ai2 A1);have J:=o7 (vs:=pre) (by omega) x.name;have ih:=λu v X=>PJ l AA M H I k RF N O rest (pre++[x]) (n+bR x) u v X (by simp[D]);have AE:=bu ((pre.length:Int)+1);have A2:=bu (n+bR x);have A3:=λu v X=>N (11,x.line) u v X (by simp);have A4:=λu v X=>N (13,x.line) u v X (by simp);simp only[jh]at A3 A4;simp[cZ]at A0;generalize AH:fV pre x.name=W at*;simp[bx,cZ]at J;rw[ag];unfold KZ;cases A5:(bk pre x.name).isSome with
  |true=>
   rw[A5]at J;simp[f9];simp[U,Z,y,A',bx,cZ,J,A3,ai]
  |false=>
   rw[A5]at J;by_cases A6:1024<n+bR x
   .simp[f9];simp[U,Z,y,A',bx,cZ,J,A0,A2,A6,A4,ai]
   .have ih:=λu v X=>ih u v X (by omega) (by omega);simp[f9]at ih⊢;simp[U,Z,y,A',bx,cZ,J,A0,AE,A2,A6,ih,ai]
def ZX{p:Pg}(M:uT p=true)(A7:rW p.vars false p.body):ak ctx 9 [.d (.agg [.str p.name,.list (p.vars.map bx),.list (p.body.map bZ)])] []=some (.ret (dV (eo (xl p))),[]):=by
 simp only[uT,Ds,aaw,aaR]at M;obtain⟨_,AI,AF,AJ⟩:=M;unfold rW at A7;unfold xl;generalize AK:eK p.vars false p.body=E at*;have h:=λH I k RF N O u v X=>PJ p.vars (by omega) AF H I k RF N O p.vars [] 0 u v X rfl (by omega) (by omega);generalize AL:KZ p.vars [] 0=V at*;rw[ape (by simp)];simp[f9]at h⊢;rw[h _ _ _ (λe=>some (.ret (dV (eo (fu e E))),[]))]
 .intro a b u v X A8;rw[rQ A8];simp[dV,eo,A8]
 .intro u v X a b c;rw[nc rfl];simp[A7,dV]
@[reducible] noncomputable def FK(p:List Nat):Code:=Code.at (aU f89) p
def PK{x:Sm}{f:Tx}{pre AH:List Tx}(A4:dy x=pre++f::AH)(Z:(dy x).length<100000000){a0:AV}{u v5 v6:Nat}{W X5 X6:aE}(k:Kt)(R1 R2:bU)
 (I:k .ret ⟨91,aC,[(4,true,.ptr 300 u 0)],[⟨250,1,bB x⟩,⟨300,u,jh (11,jA x)⟩,⟨350,1,W⟩,⟨500,v5,X5⟩,⟨650,v6,X6⟩]⟩=R1)
 (D:∀b c,k (.exit 2) ⟨91,aC,[(0,true,a0),(3,true,.ptr 250 1 0),(4,true,.ptr 300 u 0),(5,true,.ptr 350 1 0),(7,true,.d (.int .i64 pre.length)),(8,true,.ptr 500 v5 0),(10,true,b),(60,true,c)],[⟨250,1,bB x⟩,⟨300,u,jh (0,0)⟩,⟨350,1,W⟩,⟨500,v5,X5⟩,⟨650,v6,X6⟩]⟩=R2):∀(rest J:List Tx),pre=J++rest->
 aK ctx 89 (.loop (FK [1,1,1,1,0,1,0,0,1,0,0,1,1,0,1,0,0])) ⟨91,aC,[(0,true,a0),(3,true,.ptr 250 1 0),(4,true,.ptr 300 u 0),(5,true,.ptr 350 1 0),(7,true,.d (.int .i64 pre.length)),(8,true,.ptr 500 v5 0),(10,true,.d (.int .i64 J.length))],[⟨250,1,bB x⟩,⟨300,u,jh (0,0)⟩,⟨350,1,W⟩,⟨500,v5,X5⟩,⟨650,v6,X6⟩]⟩ k=if f∈rest then R1 else R2
 |[],J,H=>by
  have A8:J.length=pre.length:=by rw[H];simp
  simp only[jh,bB]at D;rw[A8,ag];simp[FK,f89,D]
 |c::rest,J,H=>by
  have N:J.length<pre.length:=by rw[H];simp
  have O:pre.length<(dy x).length:=by rw[A4];simp
  have A1:J.length<(dy x).length:=by omega
  have A2:(dy x)[pre.length]=f:=by simp[A4]
  have AC:(dy x)[J.length]=c:=by simp[A4,H]
  have ih:=PK A4 Z k R1 R2 I D rest (J++[c]) (by simp[H]);have A9:=bu ((J.length:Int)+1);simp only[jh,bB]at I;rw[ag];by_cases U:c=f
  .have AD:f=c:=U.symm;simp[FK,f89];simp[N,O,A1,A2,AC,U,I,ai]
  .have AD:¬f=c:=λh=>U h.symm;simp[FK,f89]at ih⊢;simp[N,O,A1,A2,AC,U,AD,A9,ih,ai]
def PL{vs:List Vr}{x:Sm}{w:Vr}(Z:(dy x).length<100000000)(hle:(bS x).length=(dy x).length)(A5:∀y∈bS x,RT vs y)(k:Kt)(RF:EL->bU)
 (I:∀e u v5 v6 X5 X6,k .ret ⟨91,aC,[(4,true,.ptr 300 u 0)],[⟨250,1,bB x⟩,⟨300,u,jh e⟩,⟨350,1,fF w⟩,⟨500,v5,X5⟩,⟨650,v6,X6⟩]⟩=RF e)
 (D:∀u v5 v6 X5 X6 b c,k (.exit 0) ⟨91,aC,[(0,true,.d (.list (vs.map bx))),(3,true,.ptr 250 1 0),(4,true,.ptr 300 u 0),(5,true,.ptr 350 1 0),(7,true,b),(34,true,c)],[⟨250,1,bB x⟩,⟨300,u,jh (0,0)⟩,⟨350,1,fF w⟩,⟨500,v5,X5⟩,⟨650,v6,X6⟩]⟩=RF (0,0)):∀(rest pre:List Tx)(M A':List Ex)(u v5 v6:Nat)(X5 X6:aE),dy x=pre++rest->bS x=A'++M->A'.length=pre.length->
 aK ctx 89 (.loop (FK [1,1,1,1,0,1,0,0])) ⟨91,aC,[(0,true,.d (.list (vs.map bx))),(3,true,.ptr 250 1 0),(4,true,.ptr 300 u 0),(5,true,.ptr 350 1 0),(7,true,.d (.int .i64 pre.length))],[⟨250,1,bB x⟩,⟨300,u,jh (0,0)⟩,⟨350,1,fF w⟩,⟨500,v5,X5⟩,⟨650,v6,X6⟩]⟩ k=RF (eo (jW vs w.ty (jA x) rest M pre))
 |[],pre,M,A',u,v5,v6,X5,X6,H,A0,A6=>by
  have A8:pre.length=(dy x).length:=by rw[H];simp
  have AI:jW vs w.ty (jA x) [] M pre=(0,0):=by unfold jW;rfl
  simp only[jh,bB,fF]at D;rw[AI,A8,ag];simp[FK,f89,D,eo]
 |f::rest,pre,[],A',u,v5,v6,X5,X6,H,A0,A6=>by
  rw[H,A0]at hle;simp at hle;omega
 |f::rest,pre,y::M,A',u,v5,v6,X5,X6,H,A0,A6=>by
  have N:pre.length<(dy x).length:=by rw[H];simp
  have O:(dy x)[pre.length]=f:=by simp[H]
  have A1:pre.length<(bS x).length:=by omega
  have A2:(bS x)[pre.length]=y:=by simp[<-A6,A0]
  have AJ:=A5 y (by rw[A0];simp);have V:=XJ w.ty f;have ih:=λu v5 v6 X5 X6=>PL Z hle A5 k RF I D rest (pre++[f]) M (A'++[y]) u v5 v6 X5 X6 (by simp[H]) (by simp[A0]) (by simp[A6]);have AE:=λa0 u v5 v6 W X5 X6 k R1 R2 I D=>PK (a0:=a0) (u:=u) (v5:=v5) (v6:=v6) (W:=W) (X5:=X5) (X6:=X6) H Z k R1 R2 I D pre [] rfl;have A9:=bu ((pre.length:Int)+1);have key:jW vs w.ty (jA x) (f::rest) (y::M) pre=(match mE w.ty f with
   |none=>(9,jA x)
   |some q=>if q.N9=false then (9,jA x)else if f∈pre then (11,jA x)else fu (dP vs y q.ty) (jW vs w.ty (jA x) rest M (pre++[f]))):=by
   conv=>lhs;unfold jW
   rfl
  have AA:=I (9,jA x);have AF:=I (11,jA x);have AB:=I (dP vs y (fP w.ty f).ty);have hw:=tg (fP w.ty f).ty AJ;rw[th]at hw;unfold dV at hw;simp only[jh,bB,fF]at AA AF AB;rw[key];clear key;rw[ag];cases U:mE w.ty f with
  |none=>
   simp[U,fP,gp,yC]at V;simp[FK,f89];simp[N,O,V,AA,eo,ai]
  |some q=>
   simp only[fP,U,aeX]at hw AB;simp[U,fP,gp]at V;simp only
   generalize jW vs w.ty (jA x) rest M (pre++[f])=E at*;generalize dP vs y q.ty=T at*;by_cases hi:q.N9=false
   .simp[hi]at V;simp[FK,f89];simp[N,O,V,AA,eo,hi,ai]
   .have hi:q.N9=true:=by simpa using hi
    simp[hi]at V;simp[FK,f89]at AE ih⊢;simp[N,O,V,hi,ai];rw[AE (R1:=RF (11,jA x)) (R2:=RF (eo (fu T E)))]
    .by_cases hm:f∈pre
     .simp[hm,eo]
     .simp[hm]
    .simp[AF]
    .intro b c;by_cases A7:T.1=0
     .rw[nc A7];simp[N,O,A1,A2,aw,hw,A7,A9,ih,ai]
     .rw[rQ A7];simp[N,O,A1,A2,aw,hw,A7,AB,eo,ai]
def adz{vs:List Vr}(AK:vs.length<1000000){x:Sm}(Z:(dy x).length<100000000)(hle:(bS x).length=(dy x).length)(A5:∀y∈bS x,RT vs y):ak ctx 89 [.d (.list (vs.map bx)),.d (.agg (smL x))] []=some (.ret (dV (eo (W5 vs x))),[]):=by
 have A3:=o7 AK (eG x);rw[alJ (by simp)];unfold W5;cases AG:bk vs (eG x)with
 |none=>
  simp[AG,fV,bx,cZ,vj]at A3;simp[f89,A3,dV,eo]
 |some v=>
  have h:=λk RF I D u v5 v6 X5 X6=>PL (w:=v) Z hle A5 k RF I D (dy x) [] (bS x) [] u v5 v6 X5 X6 rfl rfl rfl;simp[AG,fV,bx,cZ]at A3;by_cases D:v.ty<=2
  .simp[f89,A3,dV,eo,D]
  .generalize AL:jW vs v.ty (jA x) (dy x) (bS x) []=E at*;simp[FK,f89]at h;simp[f89,A3,D];rw[h _ (λe=>some (.ret (dV e),[]))]
   .rw[AL]
   .intro a b u v5 v6 X5 X6;simp[dV]
   .intro u v5 v6 X5 X6 b c;simp[dV]
section
variable {vs:List Vr} {lp:Bool} {x:Sm}
theorem amk(h:bM x=7):RM vs lp x:=by
 unfold RM;rw[vM,o6 (by simp)];cases lp with
 |true=>simp[f53,h,dV,eo]
 |false=>simp[f53,h,dV,eo]
theorem aml(h:bM x=8):RM vs lp x:=by
 unfold RM;rw[vM,o6 (by simp)];simp[f53,h,dV,eo]
theorem amm(N:vs.length<1000000)(h:bM x=9)(O:(dy x).length<100000000)(hle:(bS x).length=(dy x).length)(U:∀y∈bS x,RT vs y):RM vs lp x:=by
 have M:=adz N O hle U;unfold RM;rw[vM,o6 (by simp)];generalize W5 vs x=E at*;simp[h,dV]at M;simp[f53,h,dV,M]
theorem amn(h:bM x=5){b:List Sm}(I:aV x=[b])(J:RT vs (dq x))(H:rW vs true b):RM vs lp x:=by
 have hw:=tg 2 J;rw[th]at hw;unfold rW at H;unfold RM;rw[vM,o6 (by simp)];have e:yr vs (aV x)=eK vs true b:=by rw[I];rfl
 rw[e];generalize dP vs (dq x) 2=T at*;generalize eK vs true b=E at*;simp[dV]at hw H;by_cases D:T.1=0
 .simp[f53,h,I,dr,dV,hw,H,nc D,D]
 .simp[f53,h,I,dV,hw,rQ D,D,eo]
theorem amo(h:bM x=6){b:List Sm}(I:aV x=[b])(J:RT vs (dq x))(H:rW vs true b):RM vs lp x:=by
 have hw:=tg 2 J;rw[th]at hw;unfold rW at H;unfold RM;rw[vM,o6 (by simp)];have e:yr vs (aV x)=eK vs true b:=by rw[I];rfl
 have V:(dP vs (dq x) 2).1=0->dP vs (dq x) 2=(0,0):=by
  unfold dP;split
  .intro hh;rename_i c;exact absurd hh c
  .split
   .intro hh;simp at hh
   .intro _;rfl
 rw[e];generalize dP vs (dq x) 2=T at*;generalize eK vs true b=E at*;have Z:eo T=T:=by
  unfold eo;by_cases D:T.1=0
  .rw[aav D,V D]
  .rw[aaf D]
 simp[dV]at hw H;by_cases D:E.1=0
 .simp[eo,D]at H;simp[f53,h,I,dr,dV,hw,H,nc D,Z]
 .simp[eo,D]at H;simp[f53,h,I,dr,dV,H,rQ D,D,eo]
end
section
variable {vs:List Vr} {lp:Bool} {x:Sm}
theorem amp(y:vs.length<1000000)(h:bM x=1)(E:RT vs (dJ x))(I:RT vs (dq x)):RM vs lp x:=by
 have D:=o7 y (dI (dJ x));unfold RT at E I;unfold RM;rw[vM,o6 (by simp),aav h];unfold Iy;generalize aJ vs (dJ x)=T at*;generalize aJ vs (dq x)=N at*;simp[fa]at E I;cases V:bk vs (dI (dJ x))with
 |none=>
  simp[V,fV,bx,cZ,vj]at D;simp[f53,h,D,dV,eo]
 |some w=>
  simp[V,fV,bx,cZ]at D;by_cases J:w.sec=1
  .simp[f53,h,D,J,dV,eo]
  .by_cases H:T.e=0
   .have O:(KY T).1=0:=H;by_cases M:N.e=0
    .have U:(KY N).1=0:=M;by_cases Z:N.t=T.t
     .simp[f53,h,D,J,E,H,I,M,Z,nc O,nc U,dV,eo]
     .simp[f53,h,D,J,E,H,I,M,Z,nc O,nc U,dV,eo]
    .have U:¬(KY N).1=0:=M;simp[f53,h,D,J,E,H,I,M,fu,dV,eo,KY]
   .have O:¬(KY T).1=0:=H;simp[f53,h,D,J,E,H,fu,dV,eo,KY]
end
@[reducible] noncomputable def su(p:List Nat):Code:=Code.at (aU f53) p
@[simp] def pG(x:Sm)(e:EL)(N O w85 H AE:Nat)(U V Y85 I AF AG:aE)(AH:Nat):List cL:=[⟨300,1,bB x⟩,⟨400,1,jh e⟩,⟨450,0,.dead⟩,⟨600,0,.dead⟩,⟨750,N,U⟩,⟨800,O,V⟩,⟨850,w85,Y85⟩,⟨950,H,I⟩,⟨1000,AH,AG⟩,⟨1150,AE,AF⟩,⟨1200,0,.dead⟩,⟨1250,0,.dead⟩]
section
variable {vs:List Vr} {lp:Bool} {x:Sm}
theorem PN{w85:Nat}{Y85:aE}(A5:(aV x).length<100000000)(A2:∀b∈aV x,rW vs lp b)(k:Kt)(RF:EL->bU)
 (A':∀e H I,k .ret ⟨242,aC,[(6,true,.ptr 400 1 0)],pG x e 0 0 w85 H 0 .dead .dead Y85 I .dead .dead 0⟩=RF e)
 (Z:∀H I b c,k (.exit 3) ⟨242,aC,[(0,true,.d (.list (vs.map bx))),(2,true,.d (.bool lp)),(4,true,.ptr 300 1 0),(6,true,.ptr 400 1 0),(16,true,b),(128,true,c)],pG x (0,0) 0 0 w85 H 0 .dead .dead Y85 I .dead .dead 0⟩=RF (0,0)):∀(rest pre:List (List Sm))(H:Nat)(I:aE),aV x=pre++rest->
 aK ctx 53 (.loop (su [1,0,1,0,1,1,1,1,1,0,1,1,0,0])) ⟨242,aC,[(0,true,.d (.list (vs.map bx))),(2,true,.d (.bool lp)),(4,true,.ptr 300 1 0),(6,true,.ptr 400 1 0),(16,true,.d (.int .i64 pre.length))],pG x (0,0) 0 0 w85 H 0 .dead .dead Y85 I .dead .dead 0⟩ k=RF (eo (eO vs lp [] rest))
 |[],pre,H,I,M=>by
  have A8:pre.length=(aV x).length:=by rw[M];simp
  have A9:eO vs lp [] []=(0,0):=by unfold eO;rfl
  simp only[pG,jh,bB]at Z;rw[A9,A8,ag];simp[su,f53,Z,eo]
 |b::rest,pre,H,I,M=>by
  have A0:pre.length<(aV x).length:=by rw[M];simp
  have A1:(aV x)[pre.length]=b:=by simp[M]
  have J:=A2 b (by rw[M];simp);have ih:=λH I=>PN A5 A2 k RF A' Z rest (pre++[b]) H I (by simp[M]);have A7:=bu ((pre.length:Int)+1);have key:eO vs lp [] (b::rest)=fu (eK vs lp b) (eO vs lp [] rest):=by
   conv=>lhs;unfold eO
  rw[key];clear key;unfold rW dV at J;generalize eK vs lp b=E at*;generalize eO vs lp [] rest=F at*;have A4:=A' E;simp only[pG,jh,bB]at A4;rw[ag];by_cases D:E.1=0
  .rw[nc D];simp[eo,D]at J;simp[su,f53]at ih⊢;simp[A0,A1,dr,J,A7,ih]
  .rw[rQ D];simp[eo,D]at J;simp[su,f53];simp[A0,A1,dr,J,D,A4,eo]
theorem amq(h:bM x=3)(A5:(aV x).length<100000000)(AI:RT vs (dq x))(A2:∀b∈aV x,rW vs lp b):RM vs lp x:=by
 have hw:=tg 1 AI;rw[th]at hw;have AA:=λw85 Y85 k RF A' Z H I=>PN (w85:=w85) (Y85:=Y85) A5 A2 k RF A' Z (aV x) [] H I rfl;unfold RM;rw[vM,o6 (by simp)];generalize dP vs (dq x) 1=T at*;simp[dV]at hw;by_cases D:T.1=0
 .rw[aaf (by omega),aaf (by omega),aav h,nc D];generalize eO vs lp [] (aV x)=E at*;simp[su,f53,h]at AA;simp[f53,h,hw,D];rw[AA _ _ _ (λe=>some (.ret (dV e),[]))]
  .intro a b H I;simp[dV]
  .intro H I b c;simp[dV]
 .simp[f53,h,hw,D,rQ D,eo,dV]
theorem PO(A5:(aV x).length<100000000)(AJ:(bS x).length<100000000)(AB:∀y∈bS x,RT vs y)(A2:∀b∈aV x,rW vs lp b)(k:Kt)(RF:EL->bU)
 (A':∀e N U O V,k .ret ⟨242,aC,[(6,true,.ptr 400 1 0)],pG x e N O 0 0 0 U V .dead .dead .dead .dead 0⟩=RF e)
 (Z:∀N U O V b c,k (.exit 1) ⟨242,aC,[(0,true,.d (.list (vs.map bx))),(2,true,.d (.bool lp)),(4,true,.ptr 300 1 0),(6,true,.ptr 400 1 0),(12,true,b),(83,true,c)],pG x (0,0) N O 0 0 0 U V .dead .dead .dead .dead 0⟩=RF (0,0)):∀(rest pre:List (List Sm))(N:Nat)(U:aE)(O:Nat)(V:aE),aV x=pre++rest->
 aK ctx 53 (.loop (su [1,0,1,0,1,1,1,0,1,0,0])) ⟨242,aC,[(0,true,.d (.list (vs.map bx))),(2,true,.d (.bool lp)),(4,true,.ptr 300 1 0),(6,true,.ptr 400 1 0),(12,true,.d (.int .i64 pre.length))],pG x (0,0) N O 0 0 0 U V .dead .dead .dead .dead 0⟩ k=RF (eo (eO vs lp ((bS x).drop pre.length) rest))
 |[],pre,N,U,O,V,M=>by
  have A8:pre.length=(aV x).length:=by rw[M];simp
  have A9:∀cs,eO vs lp cs []=(0,0):=by intro cs;unfold eO;rfl
  simp only[pG,jh,bB]at Z;rw[A9,A8,ag];simp[su,f53,Z,eo]
 |b::rest,pre,N,U,O,V,M=>by
  have A0:pre.length<(aV x).length:=by rw[M];simp
  have A1:(aV x)[pre.length]=b:=by simp[M]
  have J:=A2 b (by rw[M];simp);have ih:=λN U O V=>PO A5 AJ AB A2 k RF A' Z rest (pre++[b]) N U O V (by simp[M]);have A7:=bu ((pre.length:Int)+1);unfold rW dV at J;have A4:=A' (eK vs lp b);simp only[pG,jh,bB]at A4;rw[ag];by_cases A3:pre.length<(bS x).length
  .have AK:=AB _ (aec A3);have hw:=tg 2 AK;rw[th]at hw;have key:eO vs lp ((bS x).drop pre.length) (b::rest)=fu (dP vs (bS x)[pre.length] 2) (fu (eK vs lp b) (eO vs lp ((bS x).drop (pre.length+1)) rest)):=by
    rw[aej A3];conv=>lhs;unfold eO
   rw[key];clear key;have AC:=A' (dP vs (bS x)[pre.length] 2);simp only[pG,jh,bB]at AC;simp only[aal,aao,aay,aeF]at ih;generalize eK vs lp b=E at*;generalize eO vs lp ((bS x).drop (pre.length+1)) rest=F at*;generalize dP vs (bS x)[pre.length] 2=T at*;unfold dV at hw;by_cases A6:T.1=0
   .rw[nc A6];by_cases D:E.1=0
    .rw[nc D];simp[eo,D]at J;simp[su,f53]at ih⊢;simp[A0,A1,A3,aw,dr,hw,A6,J,A7,ih]
    .rw[rQ D];simp[eo,D]at J;simp[su,f53];simp[A0,A1,A3,aw,dr,hw,A6,J,D,A4,eo]
   .rw[rQ A6];simp[su,f53];simp[A0,A1,A3,aw,hw,A6,AC,eo]
  .have AD:∀n,pre.length<=n->(bS x).drop n=[]:=λn AL=>amJ (by omega);have key:eO vs lp ((bS x).drop pre.length) (b::rest)=fu (eK vs lp b) (eO vs lp [] rest):=by
    rw[AD _ (aak _)];conv=>lhs;unfold eO
   rw[key];clear key;simp only[aal,aao,aay,aeF,AD (pre.length+1) (by omega)]at ih;generalize eK vs lp b=E at*;generalize eO vs lp [] rest=F at*;by_cases D:E.1=0
   .rw[nc D];simp[eo,D]at J;simp[su,f53]at ih⊢;simp[A0,A1,A3,dr,J,A7,ih]
   .rw[rQ D];simp[eo,D]at J;simp[su,f53];simp[A0,A1,A3,dr,J,D,A4,eo]
end
section
variable {vs:List Vr} {lp:Bool} {x:Sm}
theorem amr(h:bM x=2)(AA:(aV x).length<100000000)(U:(bS x).length<100000000)(O:∀y∈bS x,RT vs y)(AB:∀b∈aV x,rW vs lp b):RM vs lp x:=by
 have Z:=λk RF H D A3 A4 A5 A6=>PO AA U O AB k RF H D (aV x) [] A3 A4 A5 A6 rfl;unfold RM;rw[vM,o6 (by simp)];rw[aaf (by omega),aav h];simp only[aay,List.drop_zero]at Z;generalize eO vs lp (bS x) (aV x)=E at*;simp[su,f53,h]at Z;simp[f53,h];rw[Z _ (λe=>some (.ret (dV e),[]))]
 .intro a b A3 A4 A5 A6;simp[dV]
 .intro A3 A4 A5 A6 b c;simp[dV]
theorem PQ{W:aE}(U:(bS x).length<100000000)(O:∀y∈bS x,RT vs y)(k:Kt)(RF:EL->bU)
 (H:∀(e:EL) I J,¬e.1=0->k .ret ⟨242,aC,[(6,true,.ptr 400 1 0)],pG x e 0 0 0 0 I .dead .dead .dead .dead J W 1⟩=RF e)
 (D:∀I J b c,k (.exit 5) ⟨242,aC,[(0,true,.d (.list (vs.map bx))),(4,true,.ptr 300 1 0),(6,true,.ptr 400 1 0),(20,true,b),(177,true,c)],pG x (0,0) 0 0 0 0 I .dead .dead .dead .dead J W 1⟩=RF (0,0)):∀(rest pre:List Ex)(I:Nat)(J:aE),bS x=pre++rest->
 aK ctx 53 (.loop (su [1,0,1,0,1,1,1,1,1,1,1,0,1,1,1,1,0,1,0,0])) ⟨242,aC,[(0,true,.d (.list (vs.map bx))),(4,true,.ptr 300 1 0),(6,true,.ptr 400 1 0),(20,true,.d (.int .i64 pre.length))],pG x (0,0) 0 0 0 0 I .dead .dead .dead .dead J W 1⟩ k=RF (eo (mF vs 1 rest))
 |[],pre,I,J,A'=>by
  have AC:pre.length=(bS x).length:=by rw[A'];simp
  simp only[pG,jh,bB]at D;rw[AC,ag];simp[su,f53,D,eo,mF]
 |y::rest,pre,I,J,A'=>by
  have A7:pre.length<(bS x).length:=by rw[A'];simp
  have A8:(bS x)[pre.length]=y:=by simp[A']
  have hw:=tg 1 (O y (by rw[A'];simp));rw[th]at hw;have ih:=λI J=>PQ U O k RF H D rest (pre++[y]) I J (by simp[A']);have AD:=bu ((pre.length:Int)+1);have key:mF vs 1 (y::rest)=fu (dP vs y 1) (mF vs 1 rest):=rfl;rw[key];clear key;unfold dV at hw;generalize dP vs y 1=E at*;generalize mF vs 1 rest=F at*;rw[ag];by_cases N:E.1=0
  .rw[nc N];simp[su,f53]at ih⊢;simp[A7,A8,aw,hw,N,AD,ih]
  .rw[rQ N];have A9:=λw Y=>H E w Y N;simp only[pG,jh,bB]at A9;simp[su,f53];simp[A7,A8,aw,hw,N,A9,eo]
theorem ai4(h:bM x=4)(U:(bS x).length<100000000)(O:∀y∈bS x,RT vs y){b:List Sm}(A0:aV x=[b])(A1:rW vs true b){w:Vr}(V:bk vs (eG x)=some w)(M:ak ctx 25 [.d (.list (vs.map bx)),.d (.str (eG x))] []=some (.ret (.bh [.d (bx (fV vs (eG x))),.d (.bool (bk vs (eG x)).isSome)]),[]))(H:¬w.sec=1)(D:w.arr=false)(A2:w.ty=1):
 ak ctx 53 [.d (.list (vs.map bx)),.d (.agg (smL x)),.d (.bool lp)] []=some (.ret (dV (eo (fu (mF vs 1 (bS x)) (eK vs true b)))),[]):=by
 have Z:=λW k RF H D I J=>PQ (W:=W) U O k RF H D (bS x) [] I J rfl;unfold rW at A1;rw[o6 (by simp)];generalize eK vs true b=F at*;generalize mF vs 1 (bS x)=E at*;simp[V,fV,bx,cZ]at M;simp[su,f53,h,A0]at Z;simp[dV]at A1;simp[f53,h,M,H,D,A2,A0];rw[Z _ _ (λe=>some (.ret (dV (eo (fu e F))),[]))]
 .by_cases N:E.1=0
  .simp[eo,N,fu]
  .simp[eo,N,fu]
 .intro AF AG I J N;simp[dV,fu,N,eo]
 .intro I J c d;simp[dr,A1,dV,fu]
theorem ams(AE:vs.length<1000000)(h:bM x=4)(U:(bS x).length<100000000)(O:∀y∈bS x,RT vs y){b:List Sm}(A0:aV x=[b])(A1:rW vs true b):RM vs lp x:=by
 have M:=o7 AE (eG x);unfold RM;rw[vM];rw[aaf (by omega),aaf (by omega),aaf (by omega),aav h];have e:yr vs (aV x)=eK vs true b:=by rw[A0];rfl
 unfold coE;rw[e];cases V:bk vs (eG x)with
 |none=>
  rw[o6 (by simp)];simp[V,fV,bx,cZ,vj]at M;simp[f53,h,M,dV,eo]
 |some w=>
  by_cases H:w.sec=1
  .rw[o6 (by simp)];simp[V,fV,bx,cZ]at M;simp[f53,h,M,H,dV,eo]
  .by_cases D:w.arr=true
   .rw[o6 (by simp)];simp[V,fV,bx,cZ]at M;simp[f53,h,M,H,D,dV,eo]
   .have D:w.arr=false:=by simpa using D
    by_cases A2:w.ty=1
    .rw[ai4 h U O A0 A1 V M H D A2];simp only[aaf H,D,A2];simp
    .rw[o6 (by simp)];simp[V,fV,bx,cZ]at M;simp[f53,h,M,H,D,A2,dV,eo]
end
def JZ{α:Type}{l:List α}(h:l.length=1):∃a,l=[a]:=by
 match l,h with
 |[a],_=>exact⟨a,rfl⟩
section
variable {vs:List Vr} (I:vs.length<1000000)
include I
theorem adA{lp:Bool}{x:Sm}(E:jr x=true)(A2:(aV x).length<100000000)(A3:(bS x).length<100000000)(A6:(dy x).length<100000000)(U:∀b∈aV x,∀q,rW vs q b):RM vs lp x:=by
 have A7:∃op name to val conds V fields blocks line,x=.mk op name to val conds V fields blocks line:=by
  obtain⟨op,name,to,val,conds,V,fields,blocks,line⟩:=x;exact⟨op,name,to,val,conds,V,fields,blocks,line,rfl⟩
 have facts:(1<=bM x/\bM x<=9)/\(bM x=1->bE (dJ x)=true)/\((bM x=1\/bM x=3\/bM x=5\/bM x=6)->bE (dq x)=true)/\bY (bS x)=true/\cQ (bM x) (bS x).length (dn x).length (dy x).length (aV x).length=true:=by
  obtain⟨op,name,to,val,conds,V,fields,blocks,line,rfl⟩:=A7;simp only[jr,Ds,aaw]at E;obtain⟨A4,AA,Z,N,A',H,AB,AC,AD⟩:=E;refine⟨A4,λJ=>?_,λJ=>?_,A',H⟩
  .simp only[Wq]at J;rw[aav J]at Z;simp only[Ds]at Z;exact Z.2
  .simp only[Wq]at J;rw[aav J]at N;simp only[Ds]at N;exact N.2
 obtain⟨A4,Z,N,A',H⟩:=facts;have A0:=GW I (bS x) A';have A8:bM x=1\/bM x=2\/bM x=3\/bM x=4\/bM x=5\/bM x=6\/bM x=7\/bM x=8\/bM x=9:=by omega
 rcases A8 with h|h|h|h|h|h|h|h|h
 .exact amp I h (vX I _ (Z h)) (vX I _ (N (.inl h)))
 .exact amr h A2 A3 A0 (λb D=>U b D lp)
 .exact amq h A2 (vX I _ (N (.inr (.inl h)))) (λb D=>U b D lp)
 .rw[h]at H;simp[cQ]at H;obtain⟨b,D⟩:=JZ H.2.2.2;exact ams I h A3 A0 D (U b (by rw[D];simp) true)
 .rw[h]at H;simp[cQ]at H;obtain⟨b,D⟩:=JZ H.2.2.2;exact amn h D (vX I _ (N (.inr (.inr (.inl h))))) (U b (by rw[D];simp) true)
 .rw[h]at H;simp[cQ]at H;obtain⟨b,D⟩:=JZ H.2.2.2;exact amo h D (vX I _ (N (.inr (.inr (.inr h))))) (U b (by rw[D];simp) true)
 .exact amk h
 .exact aml h
 .rw[h]at H;simp[cQ]at H;exact amm I h A6 H.1 A0
mutual
theorem ai5:∀(x:Sm),jr x=true->RL x<100000000->∀lp,RM vs lp x
 | .mk op name to val conds V fields blocks line,E,O,lp=>by
  have A9:cA blocks=true:=by
   simp only[jr,Ds]at E;exact E.2.2.2.2.2.2.2.2
  have AE:=OR blocks;simp only[RL]at O;exact adA I E (by simp only[afk];omega) (by simp only[Wr];omega) (by simp only[Ws];omega) (λb D q=>Sj blocks A9 (by omega) b D q)
theorem J0:∀(l:List Sm),eF l=true->uU l<100000000->∀x∈l,∀lp,RM vs lp x
 |[],_,_,x,M,_=>by simp at M
 |y::r,E,O,x,M,lp=>by
  simp only[eF,Ds]at E;simp only[uU]at O;have J:=ai5 y E.1 (by omega);have A1:=J0 r E.2 (by omega);rcases aam.1 M with h|M
  .rw[h];exact J lp
  .exact A1 x M lp
theorem Sj:∀(bs:List (List Sm)),cA bs=true->zy bs<100000000->∀b∈bs,∀q,rW vs q b
 |[],_,_,b,D,_=>by simp at D
 |c::r,E,O,b,D,q=>by
  simp only[cA,Ds]at E;simp only[zy]at O;have AF:=GC c;have J:=J0 c E.1 (by omega);have A1:=Sj r E.2 (by omega);rcases aam.1 D with h|D
  .rw[h];exact PI (by omega) (λx M=>J x M q)
  .exact A1 b D q
end
end
def XL{p:Pg}(E:uT p=true)(O:uU p.body<100000000):ak ctx 9 [.d (.agg [.str p.name,.list (p.vars.map bx),.list (p.body.map bZ)])] []=some (.ret (dV (eo (xl p))),[]):=by
 have A5:=E;simp only[uT,Ds,aaw,aaR]at A5;obtain⟨_,AG,AH,D⟩:=A5;have AI:=GC p.body;exact ZX E (PI (by omega) (λx M=>J0 (by omega) p.body D O x M false))
end Go.Am
end
