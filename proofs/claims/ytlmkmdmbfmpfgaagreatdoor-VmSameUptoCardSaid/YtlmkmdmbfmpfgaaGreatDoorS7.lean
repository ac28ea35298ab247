/-
  Texts of one proof, one behind the other.
-/
import Derived.Test.YtlmkmdmbfmpfgaaGreatDoorS6
import Derived.Test.YtlmkmdmbfmpfgaaGreatDoorProg
import Derived.Shelf.Lays
import Derived.KernelRfl
set_option linter.all false
section
namespace Go.Am
open Go Go.Proofs Go.Proofs.Tryz
variable [Inhabited bO]
set_option maxRecDepth 20000
set_option maxHeartbeats 4000000
def aph{op a:Int}{t:Bool}(h:(jl op a t).2.2=0):ou op [a] t=.v (jl op a t).1 (jl op a t).2.1:=ac1 h
def amb{op a:Int}{t:Bool}(h:¬(jl op a t).2.2=0):ou op [a] t=.f (jl op a t).2.2:=aaf h
def api{op a b:Int}{t:Bool}(h:(gR op a b t).2.2=0):ou op [a,b] t=.v (gR op a b t).1 (gR op a b t).2.1:=ac1 h
def amc{op a b:Int}{t:Bool}(h:¬(gR op a b t).2.2=0):ou op [a,b] t=.f (gR op a b t).2.2:=aaf h
section
variable {p:Pg} (O:p.vars.length<=1000) (M:∀w∈p.vars,dr w=true)
include O M
theorem amd{op line:Int}{y:Ex}(A5:op=6\/op=7)(J:KV p y)(A8:RI p y):KV p (.mk op 0 [] [] [y] line):=by
 intro C f T;have Y:¬op=1:=by omega
 have Z:¬op=2:=by omega
 have A':¬op=3:=by omega
 have A0:¬op=4:=by omega
 have A1:¬op=5:=by omega
 have D:=J C f T;rw[Gi _ _ _ _ (by omega),zn (by simp)];cases H:bN p.vars C y with
 |f e=>
  rw[H]at D;simp at D;simp[f242,Y,Z,A',A0,A1];rw[ah];simp[f242,az,D]
 |v a t=>
  rw[H]at D;have U:=A9 op a t (A8 C a t T H);by_cases I:(jl op a t).2.2=0
  .simp only
   rw[aph I];generalize jl op a t=r at*;obtain⟨AA,AB,AC⟩:=r;simp only at I;subst I;simp at D U;simp[f242,Y,Z,A',A0,A1];rw[ah];simp[f242,az,D];rw[ah];simp[f242,az,U]
  .simp only
   rw[amb I];generalize jl op a t=r at*;obtain⟨AA,AB,AC⟩:=r;simp only at I;simp at D U;simp[f242,Y,Z,A',A0,A1];rw[ah];simp[f242,az,D];rw[ah];simp[f242,az,U,I,oz]
theorem ame{op line:Int}{y z:Ex}(A5:8<=op/\op<=21)(J:KV p y)(A8:RI p y)(AD:KV p z)(AI:RI p z):KV p (.mk op 0 [] [] [y,z] line):=by
 intro C f T;have Y:¬op=1:=by omega
 have Z:¬op=2:=by omega
 have A':¬op=3:=by omega
 have A0:¬op=4:=by omega
 have A1:¬op=5:=by omega
 have D:=J C f T;have A2:=AD C f T;rw[Gj _ _ _ _ _ (by omega),zn (by simp)];cases H:bN p.vars C y with
 |f e=>
  rw[H]at D;simp at D;simp[f242,Y,Z,A',A0,A1];rw[ah];simp[f242,az,D]
 |v a t=>
  rw[H]at D;cases AE:bN p.vars C z with
  |f e=>
   rw[AE]at A2;simp at D A2;simp[f242,Y,Z,A',A0,A1];rw[ah];simp[f242,az,D];rw[ah];simp[f242,az,A2]
  |v b t2=>
   rw[AE]at A2;have U:=rX op a b t2 (A8 C a t T H) (AI C b t2 T AE);have A3:IntKind.i64.wrap 1=1:=rfl;have A7:IntKind.i64.wrap 2=2:=rfl;by_cases I:(gR op a b t2).2.2=0
   .simp only
    rw[api I];generalize gR op a b t2=r at*;obtain⟨AA,AB,AC⟩:=r;simp only at I;subst I;simp at D A2 U;simp[f242,Y,Z,A',A0,A1];rw[ah];simp[f242,az,D,A3];rw[ah];simp[f242,az,A2,A3,A7];rw[ah];simp[f242,az,U,A3,A7]
   .simp only
    rw[amc I];generalize gR op a b t2=r at*;obtain⟨AA,AB,AC⟩:=r;simp only at I;simp at D A2 U;simp[f242,Y,Z,A',A0,A1];rw[ah];simp[f242,az,D,A3];rw[ah];simp[f242,az,A2,A3,A7];rw[ah];simp[f242,az,U,I,oz,A3,A7]
theorem apj{x:Ex}(AJ:XC p.vars x)(ih:∀y∈di x,KV p y/\RI p y):KV p x:=by
 cases AJ with
 |num h=>exact al5 O M
 |qX h=>exact al6 O M
 |var H AF A6=>exact al7 O M H AF A6
 |@idx name line v y H AF A6 AG AH ty=>exact al9 O M H AF A6 (ih y (by simp)).1
 |GY H A6 AK V=>exact al8 O M H A6 AK
 |@one op line y A5 AG AH ty=>exact amd O M A5 (ih y (by simp)).1 (ih y (by simp)).2
 |@two op line y z A5 AG AH AO AP ty AQ=>exact ame O M A5 (ih y (by simp)).1 (ih y (by simp)).2 (ih z (by simp)).1 (ih z (by simp)).2
mutual
theorem ZZ:∀x:Ex,bm x=true->dt x=true->(aE p.vars x).e=0->KV p x/\RI p x
 | .mk op n name field sub line,V,A4,he=>by
  have AL:=uX V he;have AM:=(qL V).2;have AN:=(BQ A4).2;have h:=T8 sub AM AN AL;exact⟨apj O M (qN V he) h,apg M (qN V he) A4 (λy J=>(h y J).2)⟩
theorem T8:∀l:List Ex,bI l=true->da l=true->(∀y∈l,(aE p.vars y).e=0)->∀y∈l,KV p y/\RI p y
 |[],_,_,_,y,J=>absurd J (adL)
 |x::r,V,A4,he,y,J=>by
  simp only[bI,Ds]at V;simp only[da,Ds]at A4;rcases ac4.1 J with I|J
  .rw[I];exact ZZ x V.1 A4.1 (he x (by simp))
  .exact T8 r V.2 A4.2 (λz AD=>he z (by simp[AD])) y J
end
end
def mA{p:Pg}{x:Ex}(h:KV p x){C:List Int}{f:Nat}(T:gY p C):aj ctx 194 [.ptr 0 0 0,.d (.agg [.int .i64 (bQ x),.int .i64 (iS x),.str (eh x),.str (ic x),.list ((di x).map cm),.int .i64 (lQ x)])] (my p C f)=mnW p C f (bN p.vars C x):=by
 have D:=h C f T;rw[akv (by simp)];cases H:bN p.vars C x with
 |f e=>
  rw[H]at D;simp at D;simp[f194,D]
 |v n t=>
  rw[H]at D;simp at D;simp[f194,D]
def T9(p:Pg)(q:Rr)(v:Nat):bS:=
 match q with
 |(.ft e,s)=>some (.panic 101 (oz e),uz p s.cells s.fuel v)
 |(_,s)=>some (.ret (.bq []),uz p s.cells s.fuel v)
def Ua(p:Pg)(q:Rr)(r:bS):Prop:=∃v,r=T9 p q v
def ix:Hw->Int
 | .lv=>1
 | .rt=>2
 |_=>0
def iB(p:Pg)(q:Rr)(v:Nat):bS:=
 match q with
 |(.ft e,s)=>some (.panic 101 (oz e),uz p s.cells s.fuel v)
 |(h,s)=>some (.ret (.d (.int .i64 (ix h))),uz p s.cells s.fuel v)
def pg(p:Pg)(q:Rr)(r:bS):Prop:=∃v,r=iB p q v
def gY.put{p:Pg}{C:List Int}(h:gY p C)(k:Int){n:Int}(A7:bz n):gY p (eP C k n):=by
 refine⟨by simpa using h.len,by simpa using h.le,λc A3=>?_⟩;unfold eP at A3;rcases List.mem_or_eq_of_mem_set A3 with D|D
 .exact h.num c D
 .rw[D];exact A7
section
variable {p:Pg} (T:p.vars.length<=1000) (U:∀w∈p.vars,dr w=true)
include T U
theorem apk{name:Tx}{M A0:Int}{w:Vr}{val:Ex}(hw:bj p.vars name=some w)(Y:w.arr=false)(A4:w.ty<=2)(A1:KV p val)(C:List Int)(f:Nat)(O:gY p C):
 Ua p (qt p.vars (.mk 3 0 name [] [] M) val ⟨C,f⟩) (aj ctx 134 [.ptr 0 0 0,.d (bZ (.mk 1 [] (.mk 3 0 name [] [] M) val [] [] [] [] A0))] (my p C f)):=by
 have D:=yh T hw C f;have H:=mA A1 (f:=f) O;have Z:=Re T U hw Y A4 O;obtain⟨a,A'⟩:∃a:Nat,(bu p.vars name).1=a:=⟨(bu p.vars name).1.toNat,by omega⟩;rw[A']at D;have A2:a<C.length:=by omega
 have e:qt p.vars (.mk 3 0 name [] [] M) val ⟨C,f⟩=vR (bN p.vars C val) ⟨C,f⟩ (λn=>(.on,⟨eP C a n,f⟩)):=by simp[qt,A']
 rw[e,Zo (by simp)];cases V:bN p.vars C val with
 |f e=>
  rw[V]at H;simp[bF,dK]at D H;simp[f134,bU,az,D,H,ak];exact⟨_,rfl⟩
 |v n t=>
  rw[V]at H;simp[bF,dK]at D H;simp[f134,bU,az,D,H,A2,ak];refine⟨0,?_⟩;simp[vR,T9,eP,ai8]
theorem apl{name:Tx}{M A0:Int}{w:Vr}{y val:Ex}(hw:bj p.vars name=some w)(Y:w.arr=true)(A4:w.ty<=2)(A8:KV p y)(A1:KV p val)(C:List Int)(f:Nat)(O:gY p C):
 Ua p (qt p.vars (.mk 4 0 name [] [y] M) val ⟨C,f⟩) (aj ctx 134 [.ptr 0 0 0,.d (bZ (.mk 1 [] (.mk 4 0 name [] [y] M) val [] [] [] [] A0))] (my p C f)):=by
 have D:=yh T hw C f;have hle:=Kf T U hw O;have A9:=aei T U hw Y;have I:=mA A8 (f:=f) O;have H:=mA A1 (f:=f) O;have J:=λn=>M0 (a:=(bu p.vars name).1) (n:=n) (w:=w) ⟨hle.1,by omega⟩ A9;have e:qt p.vars (.mk 4 0 name [] [y] M) val ⟨C,f⟩=vR (bN p.vars C y) ⟨C,f⟩ (λk=>vR (bN p.vars C val) ⟨C,f⟩ λn=>A5 C f (bu p.vars name).1 w k n):=by simp[qt,sO,eI hw]
 rw[e,Zo (by simp)];clear e;cases V:bN p.vars C y with
 |f e=>
  rw[V]at I;simp[bF,dK]at D I;simp[f134,bU,az,D,I,ak];exact⟨_,rfl⟩
 |v k t=>
  rw[V]at I;cases A6:bN p.vars C val with
  |f e=>
   rw[A6]at H;simp[bF,dK]at D I H;simp[f134,bU,az,D,I,H,ak];exact⟨_,rfl⟩
  |v n t=>
   rw[A6]at H;have J:=J k;simp only[vR,A5];by_cases Z:k<w.lo\/w.hi<k
   .rw[ac1 Z]at J⊢;simp[bF,dK]at D I H J;simp[f134,bU,az,D,I,H,J,ak];exact⟨_,rfl⟩
   .rw[aaf Z]at J⊢;have AA:=Fh (v:=C.length) U O.len hw Y Z;obtain⟨a,A'⟩:∃a:Nat,(bu p.vars name).1+(k-w.lo)=a:=⟨((bu p.vars name).1+(k-w.lo)).toNat,by omega⟩;rw[A']at J AA⊢;have A2:a<C.length:=by omega
    simp[bF,dK]at D I H J;simp[f134,bU,az,D,I,H,J,A2,ak];refine⟨0,?_⟩;simp[T9,eP,ai8]
end
def cw(p:Pg)(F:Mc->Rr):Prop:=∀s,gY p s.cells->gY p (F s).2.cells/\(F s).2.fuel<=s.fuel
def cw.iL{p:Pg}{F:Mc->Rr}(h:cw p F):cw p (iL F):=λs D=>by
 unfold Am.iL;split
 .exact⟨D,aar _⟩
 .have:=h ⟨s.cells,s.fuel-1⟩ D;simp only at this;exact⟨this.1,by omega⟩
def cw.bR{p:Pg}{F G:Mc->Rr}(h:cw p F)(O:cw p G):cw p (λs=>bR (F s) G):=λs D=>by
 have a:=h s D;show gY p (Am.bR (F s) G).2.cells/\(Am.bR (F s) G).2.fuel<=s.fuel;generalize F s=q at*;obtain⟨w,t⟩:=q;cases w with
 |on=>
  have b:=O t a.1;exact⟨b.1,alB b.2 a.2⟩
 |lv=>exact a
 |rt=>exact a
 |ft e=>exact a
def cw.vR{p:Pg}{v:List Int->Vl}{G:Int->Mc->Rr}(h:∀C n t,gY p C->v C=.v n t->bz n)(O:∀n,bz n->cw p (G n)):cw p (λs=>vR (v s.cells) s λn=>G n s):=λs D=>by
 show gY p (Am.vR (v s.cells) s λn=>G n s).2.cells/\(Am.vR (v s.cells) s λn=>G n s).2.fuel<=s.fuel;cases M:v s.cells with
 |f e=>exact⟨D,aar _⟩
 |v n t=>exact O n (h s.cells n t D M) s D
def cw.id{p:Pg}(w:Hw):cw p (λs=>(w,s)):=λ_ D=>⟨D,aar _⟩
def cw.put{p:Pg}{k n:Int}(H:bz n){F:Mc->Rr}(A0:cw p F):cw p (λs=>F ⟨eP s.cells k n,s.fuel⟩):=λs D=>A0 ⟨eP s.cells k n,s.fuel⟩ (D.put k H)
def cw.left{p:Pg}{F:Mc->Rr}(h:cw p F):cw p (λs=>eX (F s)):=λs D=>by
 have:=h s D;show gY p (eX (F s)).2.cells/\(eX (F s)).2.fuel<=s.fuel;unfold eX;split<;>exact this
def Ub{p:Pg}{c:List Int->Vl}{b:Mc->Rr}(h:∀C n t,gY p C->c C=.v n t->bz n)(I:cw p b):∀m,cw p (wC c b m)
 |0=>cw.id _
 |m+1=>by
  have e:wC c b (m+1)=iL λs=>vR (c s.cells) s λk=>if k=0 then (.on,s)else bR (b s) λT=>wC c b m T:=by funext s;rfl
  rw[e];refine cw.iL (cw.vR (G:=λk s=>if k=0 then (.on,s)else Am.bR (b s) λT=>wC c b m T) h λn _=>?_);by_cases H:n=0
  .simp only[H,ad7];exact cw.id _
  .simp only[H,adN];exact cw.bR I (Ub h I m)
def Uc{p:Pg}{c:List Int->Vl}{b:Mc->Rr}(h:∀C n t,gY p C->c C=.v n t->bz n)(I:cw p b):∀m,cw p (wD c b m)
 |0=>cw.id _
 |m+1=>by
  have e:wD c b (m+1)=λs=>bR (b s) (iL λs=>vR (c s.cells) s λk=>if k=0 then wD c b m s else (.on,s)):=by funext s;rfl
  rw[e];refine cw.bR I (cw.iL (cw.vR (G:=λk s=>if k=0 then wD c b m s else (.on,s)) h λn _=>?_));by_cases H:n=0
  .simp only[H,ad7];exact Uc h I m
  .simp only[H,adN];exact cw.id _
def Ud{p:Pg}{at_ to by_:Int}(Y:bz by_){b:Mc->Rr}(I:cw p b):∀m,cw p (xr at_ to by_ b m)
 |0=>cw.id _
 |m+1=>by
  have e:xr at_ to by_ b (m+1)=iL λs=>if GZ (jB s.cells at_) to by_=true then (.on,s)else bR (b s) λs=>vR (ou 8 [jB s.cells at_,by_] false) s λn=>xr at_ to by_ b m ⟨eP s.cells at_ n,s.fuel⟩:=by funext s;rfl
  rw[e];refine cw.iL λs D=>?_;have O:=cw.bR I (cw.vR (p:=p) (v:=λC=>ou 8 [jB C at_,by_] false) (G:=λn s=>xr at_ to by_ b m ⟨eP s.cells at_ n,s.fuel⟩) (λC n t U M=>Wz (by simp[Y,yj U.num]) M) λn H=>cw.put H (Ud Y I m)) s D;split
  .exact⟨D,aar _⟩
  .exact O
section
variable {p:Pg}
theorem agk{to val:Ex}(V:RI p val):cw p (qt p.vars to val):=by
 intro s D;unfold qt;split
 .exact cw.vR (p:=p) (v:=λC=>bN p.vars C val) (G:=λn s=>(.on,⟨eP s.cells (bu p.vars (eh to)).1 n,s.fuel⟩)) (λC n t U M=>V C n t U M) (λn H=>cw.put H (cw.id _)) s D
 .cases A8:sO p.vars s.cells (di to)with
  |f e=>exact⟨D,aar _⟩
  |v k t=>
   simp only[vR];cases M:bN p.vars s.cells val with
   |f e=>exact⟨D,aar _⟩
   |v n t=>
    simp only[A5];split
    .exact⟨D,aar _⟩
    .exact⟨D.put _ (V _ _ _ D M),aar _⟩
theorem Ue{name:Tx}:∀(fs:List Tx)(xs:List Ex),(∀x∈xs,RI p x)->cw p (ko p.vars name fs xs)
 |[],xs,_=>by
  have e:ko p.vars name [] xs=λs=>(.on,s):=by funext s;unfold ko;rfl
  rw[e];exact cw.id _
 |_::_,[],_=>by
  have e:∀f fs,ko p.vars name (f::fs) []=λs=>(.on,s):=by intro f fs;funext s;unfold ko;rfl
  rw[e];exact cw.id _
 |f::fs,x::xs,h=>by
  have e:ko p.vars name (f::fs) (x::xs)=λs=>vR (bN p.vars s.cells x) s λn=>ko p.vars name fs xs ⟨eP s.cells (eH p.vars name f).1 n,s.fuel⟩:=by funext s;rw[ko]
  rw[e];exact cw.vR (v:=λC=>bN p.vars C x) (G:=λn s=>ko p.vars name fs xs ⟨eP s.cells (eH p.vars name f).1 n,s.fuel⟩) (λC n t U M=>h x (by simp) C n t U M) λn H=>cw.put H (Ue fs xs λy Z=>h y (by simp[Z]))
theorem gY.eJ{C:List Int}(h:gY p C)(a k:Int)(A9:a.toNat+(dQ k).length<=C.length):gY p (tO C a k):=by
 have A':(tO C a k).length=C.length:=by
  unfold tO;simp only[acY,wo,ag6,agU];omega
 refine⟨by rw[A'];exact h.len,by rw[A'];exact h.le,λc J=>?_⟩;unfold tO at J;rcases ada.1 J with J|J
 .rcases ada.1 J with J|J
  .exact h.num c (adw J)
  .exact T7 _ _ (λn H=>h.num n (adx (adw H))) c J
 .exact h.num c (adx J)
theorem Z0{name:Tx}{w:Vr}(hw:bj p.vars name=some w)(A1:∀C,gY p C->(bu p.vars name).1.toNat+(dQ w.ty).length<=C.length){fs:List Tx}{xs:List Ex}(h:∀x∈xs,RI p x):cw p (nH p.vars name fs xs):=by
 have e:nH p.vars name fs xs=λs=>bR (ko p.vars name fs xs s) λT=>(.on,⟨tO T.cells (bu p.vars name).1 (bu p.vars name).2.ty,T.fuel⟩):=by funext s;rfl
 rw[e];refine cw.bR (Ue fs xs h) λs D=>⟨?_,aar _⟩;rw[eI hw];exact D.eJ _ _ (A1 _ D)
theorem acA{name:Tx}{x y z:Ex}(A2:RI p x)(Z:RI p y)(A3:RI p z){b:Mc->Rr}(I:cw p b):cw p (wZ p.vars name [x,y,z] b):=by
 have e:wZ p.vars name [x,y,z] b=λs=>vR (bN p.vars s.cells x) s λfrom_=>vR (bN p.vars s.cells y) s λA4=>vR (bN p.vars s.cells z) s λby_=>xr (bu p.vars name).1 A4 by_ b (s.fuel+1) ⟨eP s.cells (bu p.vars name).1 from_,s.fuel⟩:=by funext s;rfl
 rw[e];intro s D;simp only
 cases V:bN p.vars s.cells x with
 |f e=>exact⟨D,aar _⟩
 |v A6 t=>
  simp only[vR];cases O:bN p.vars s.cells y with
  |f e=>exact⟨D,aar _⟩
  |v AA t=>
   simp only
   cases A7:bN p.vars s.cells z with
   |f e=>exact⟨D,aar _⟩
   |v AB t=>exact Ud (A3 _ _ _ D A7) I _ ⟨eP s.cells (bu p.vars name).1 A6,s.fuel⟩ (D.put _ (A2 _ _ _ D V))
end
@[simp] def oB(p:Pg)(C:List Int)(f v:Nat):List dn:=[⟨0,0,rnB p C f v⟩,⟨1,0,.vec 1 (p.vars.map J9)⟩,⟨2,v,.vec 1 (C.map jD)⟩]
def MK(p:Pg)(x:Sm):Prop:=∀(C:List Int)(f:Nat),gY p C->f<=100000->pg p (iw p.vars x ⟨C,f⟩) (aj ctx 82 [.ptr 0 0 0,.d (bZ x)] (my p C f))
def BK(p:Pg)(b:List Sm):Prop:=∀(C:List Int)(f:Nat),gY p C->f<=100000->pg p (bX p.vars b ⟨C,f⟩) (aj ctx 47 [.ptr 0 0 0,.d (.list (b.map bZ))] (my p C f))
def Gu{p:Pg}:∀(l:List Sm),(∀x∈l,cw p (iw p.vars x))->cw p (bX p.vars l)
 |[],_=>by
  have e:bX p.vars []=λs=>(.on,s):=by funext s;simp[bX]
  rw[e];exact cw.id _
 |x::r,h=>by
  have e:bX p.vars (x::r)=λs=>bR (iw p.vars x s) λA4=>bX p.vars r A4:=by funext s;rw[bX]
  rw[e];exact cw.bR (h x (by simp)) (Gu r λy A5=>h y (by simp[A5]))
def Uf{p:Pg}(l:List Sm)(A6:l.length<100000000)(k:Kt)(Q:Rr->bS->Prop)
 (T:∀(Y:Env) C f v v6 X6,Q (.on,⟨C,f⟩) (k (.exit 0) ⟨21,aB,(0,true,.ptr 0 0 0)::Y,oB p C f v++[⟨400,v6,X6⟩]⟩))
 (D:∀(h:Hw) C f v v6 X6,(h=.lv\/h=.rt)->Q (h,⟨C,f⟩) (k .ret ⟨21,aB,[(4,true,.d (.int .i64 (ix h)))],oB p C f v++[⟨400,v6,X6⟩]⟩))
 (I:∀e (Y:Env) C f v v6 X6,Q (.ft e,⟨C,f⟩) (k (.panic 101 (oz e)) ⟨21,aB,Y,oB p C f v++[⟨400,v6,X6⟩]⟩)):
 ∀(A7 pre:List Sm)(C:List Int)(f v v6:Nat)(X6:aF),l=pre++A7->(∀x∈A7,MK p x/\cw p (iw p.vars x))->gY p C->f<=100000->
 Q (bX p.vars A7 ⟨C,f⟩) (aL ctx 47 (.loop (Code.at (bh f47) [1,0,1,0,0])) ⟨21,aB,[(0,true,.ptr 0 0 0),(8,true,.d (.list (l.map bZ))),(9,true,.d (.int .i64 l.length)),(10,true,.d (.int .i64 pre.length))],oB p C f v++[⟨400,v6,X6⟩]⟩ k)
 |[],pre,C,f,v,v6,X6,U,M,J,O=>by
  have e:bX p.vars [] ⟨C,f⟩=(.on,⟨C,f⟩):=by simp[bX]
  rw[e];have A9:pre.length=l.length:=by rw[U];simp
  have:=T [(8,true,.d (.list (l.map bZ))),(9,true,.d (.int .i64 l.length)),(10,true,.d (.int .i64 l.length)),(11,true,.d (.bool false))] C f v v6 X6;simp at this;rw[A9,ah];simp[f47,this]
 |x::r,pre,C,f,v,v6,X6,U,M,J,O=>by
  obtain⟨H,Z⟩:=M x (by simp);obtain⟨AA,H⟩:=H C f J O;have Z:=Z ⟨C,f⟩ J;have e:bX p.vars (x::r) ⟨C,f⟩=bR (iw p.vars x ⟨C,f⟩) λA4=>bX p.vars r A4:=by rw[bX]
  rw[e];clear e;have ih:=λC f v v6 X6 J O=>Uf l A6 k Q T D I r (pre++[x]) C f v v6 X6 (by simp[U]) (λy A5=>M y (by simp[A5])) J O;clear M T;have A':pre.length<l.length:=by rw[U];simp
  have A0:l[pre.length]=x:=by simp[U]
  have A1:=b9 ((pre.length:Int)+1);generalize iw p.vars x ⟨C,f⟩=q at*;obtain⟨h,A2,A3⟩:=q;simp only at Z;rw[ah];cases h with
  |on=>
   have ih:=ih A2 A3;simp[iB,ix,bU]at H;simp only[bR];simp[f47]at ih⊢;simp[A',A0,bU,H,A1];exact ih _ _ _ Z.1 (by omega)
  |lv=>
   have D:=D .lv A2 A3;simp[iB,ix,bU]at H D;simp only[bR];simp[f47,A',A0,bU,H,A1,D]
  |rt=>
   have D:=D .rt A2 A3;simp[iB,ix,bU]at H D;simp only[bR];simp[f47,A',A0,bU,H,A1,D]
  |ft e=>
   have I:=λY=>I e Y A2 A3;simp[iB,bU]at H I;simp only[bR];simp[f47,A',A0,bU,H,A1,I]
def WA{p:Pg}(l:List Sm)(A6:l.length<100000000)(M:∀x∈l,MK p x/\cw p (iw p.vars x)):BK p l:=by
 intro C f J O;have A8:=λ(k:Kt) (Q:Rr->bS->Prop) T D I v6 X6=>Uf l A6 k Q T D I l [] C f 0 v6 X6 rfl M J O;rw[aon (by simp)];generalize bX p.vars l ⟨C,f⟩=q at*;simp[f47]at A8⊢;refine A8 _ (λX r=>X=q->pg p q r) (λY C f v v6 X6 V=>?_) (λh C f v v6 X6 hh V=>?_) (λe Y C f v v6 X6 V=>?_) _ _ rfl
 .subst V;simp[f47];exact⟨_,rfl⟩
 .subst V;rcases hh with rfl|rfl
  .simp;exact⟨_,rfl⟩
  .simp;exact⟨_,rfl⟩
 .subst V;simp;exact⟨_,rfl⟩
def cG(b:List Sm):dZ b=.list (b.map bZ):=rfl
def Ug{p:Pg}{x:Sm}{n:Nat}(O:n<100000000)(T:∀b∈aP x,BK p b)(C:List Int)(f:Nat)(J:gY p C)(U:f<=100000):
 pg p (lR p.vars ((aP x).drop n) ⟨C,f⟩) (aj ctx 196 [.ptr 0 0 0,.d (bZ x),.d (.int .i64 n)] (my p C f)):=by
 rw[akx (by simp)];by_cases h:n<(aP x).length
 .have A9:(aP x).drop n=(aP x)[n]::(aP x).drop (n+1):=aiI h;obtain⟨v,D⟩:=T (aP x)[n] (ag9 h) C f J U;rw[A9];have e:lR p.vars ((aP x)[n]::(aP x).drop (n+1)) ⟨C,f⟩=bX p.vars (aP x)[n] ⟨C,f⟩:=by rw[lR]
  rw[e];clear e;generalize bX p.vars (aP x)[n] ⟨C,f⟩=q at*;obtain⟨w,V,Z⟩:=q;cases w<;>simp[iB,ix]at D<;>simp[f196,bU,h,cG,D]<;>exact⟨_,rfl⟩
 .have A9:(aP x).drop n=[]:=List.drop_eq_nil_of_le (by omega);rw[A9];have e:lR p.vars [] ⟨C,f⟩=(.on,⟨C,f⟩):=by rw[lR]
  rw[e];simp[f196,bU,h];exact⟨_,rfl⟩
def Uh{p:Pg}{x:Sm}(A6:(b7 x).length<100000000)(A7:∀c∈b7 x,KV p c)(T:∀b∈aP x,BK p b)(C:List Int)(f:Nat)(J:gY p C)(U:f<=100000)(k:Kt)(Q:Rr->bS->Prop)
 (A3:∀(Y:Env) v6 X6,Q (lR p.vars ((aP x).drop (b7 x).length) ⟨C,f⟩) (k (.exit 0) ⟨33,aB,(0,true,.ptr 0 0 0)::(3,true,.ptr 250 1 0)::Y,oB p C f 0++[⟨250,1,bA x⟩,⟨400,v6,X6⟩]⟩))
 (H:∀(h:Hw) C f v v6 X6,(∀e,h≠.ft e)->Q (h,⟨C,f⟩) (k .ret ⟨33,aB,[(4,true,.d (.int .i64 (ix h)))],oB p C f v++[⟨250,1,bA x⟩,⟨400,v6,X6⟩]⟩))
 (I:∀e (Y:Env) C f v v6 X6,Q (.ft e,⟨C,f⟩) (k (.panic 101 (oz e)) ⟨33,aB,Y,oB p C f v++[⟨250,1,bA x⟩,⟨400,v6,X6⟩]⟩)):
 ∀(cs pre:List Ex)(bs:List (List Sm))(v6:Nat)(X6:aF),b7 x=pre++cs->bs=(aP x).drop pre.length->cs.length<=bs.length->
 Q (gJ p.vars bs cs ⟨C,f⟩) (aL ctx 135 (.loop (Code.at (bh f135) [1,0,1,0,0])) ⟨33,aB,[(0,true,.ptr 0 0 0),(3,true,.ptr 250 1 0),(8,true,.d (.list ((b7 x).map cm))),(9,true,.d (.int .i64 (b7 x).length)),(10,true,.d (.int .i64 pre.length))],oB p C f 0++[⟨250,1,bA x⟩,⟨400,v6,X6⟩]⟩ k)
 |[],pre,bs,v6,X6,y,A8,A4=>by
  have AA:(b7 x).length=pre.length:=by rw[y];simp
  have e:gJ p.vars bs [] ⟨C,f⟩=lR p.vars ((aP x).drop (b7 x).length) ⟨C,f⟩:=by
   rw[A8,AA];cases (aP x).drop pre.length with
   |nil=>rw[gJ,lR]
   |cons b r=>rw[gJ,lR]
  rw[e];have:=A3 [(8,true,.d (.list ((b7 x).map cm))),(9,true,.d (.int .i64 (b7 x).length)),(10,true,.d (.int .i64 (b7 x).length)),(11,true,.d (.bool false))] v6 X6;rw[<-AA,ah];simp at this;simp[f135,this]
 |c::cs,pre,bs,v6,X6,y,A8,A4=>by
  have A':pre.length<(aP x).length:=by
   rw[A8,agU]at A4;simp only[ac5]at A4;omega
  have AB:bs=(aP x)[pre.length]::(aP x).drop (pre++[c]).length:=by
   rw[A8,aiI A'];simp
  have e:gJ p.vars bs (c::cs) ⟨C,f⟩=vR (bN p.vars C c) ⟨C,f⟩ λn=>if n=0 then gJ p.vars ((aP x).drop (pre++[c]).length) cs ⟨C,f⟩else bX p.vars (aP x)[pre.length] ⟨C,f⟩:=by
   rw[AB,gJ]
  have ih:=λv6 X6=>Uh A6 A7 T C f J U k Q A3 H I cs (pre++[c]) ((aP x).drop (pre++[c]).length) v6 X6 (by simp[y]) rfl (by
   rw[AB]at A4;simp only[ac5]at A4;omega)
  rw[e];clear e A3;have AF:=A7 c (by rw[y];simp);have D:=mA AF (f:=f) J;have A0:pre.length<(b7 x).length:=by rw[y];simp
  have A1:(b7 x)[pre.length]=c:=by simp[y]
  have A2:=b9 ((pre.length:Int)+1);generalize gJ p.vars ((aP x).drop (pre++[c]).length) cs ⟨C,f⟩=AJ at*;rw[ah];cases AC:bN p.vars C c with
  |f e=>
   rw[AC]at D;have I:=λY=>I e Y C f 0;simp at D I;simp only[vR];simp[f135,A0,A1,az,D,A2,I]
  |v n t=>
   rw[AC]at D;simp only[vR];by_cases O:n=0
   .subst O;simp at D;simp[f135]at ih⊢;simp[A0,A1,az,D,A2,ih]
   .rw[aaf O];obtain⟨AG,M⟩:=T (aP x)[pre.length] (ag9 A') C f J U;clear ih;generalize bX p.vars (aP x)[pre.length] ⟨C,f⟩=q at*;obtain⟨h,V,Z⟩:=q;cases h with
    |ft e=>
     have I:=λY=>I e Y V Z;simp[iB]at D I M;simp[f135,A',A0,A1,az,cG,D,O,M,A2,I]
    |on=>
     have H:=H .on V Z;simp[iB,ix]at D H M;simp[f135,A',A0,A1,az,cG,D,O,M,A2,H]
    |lv=>
     have H:=H .lv V Z;simp[iB,ix]at D H M;simp[f135,A',A0,A1,az,cG,D,O,M,A2,H]
    |rt=>
     have H:=H .rt V Z;simp[iB,ix]at D H M;simp[f135,A',A0,A1,az,cG,D,O,M,A2,H]
def Z1{p:Pg}{x:Sm}(A6:(b7 x).length<100000000)(A7:∀c∈b7 x,KV p c)(T:∀b∈aP x,BK p b)(AH:(b7 x).length<=(aP x).length)(C:List Int)(f:Nat)(J:gY p C)(U:f<=100000):
 pg p (gJ p.vars (aP x) (b7 x) ⟨C,f⟩) (aj ctx 135 [.ptr 0 0 0,.d (bZ x)] (my p C f)):=by
 have AD:=λ(k:Kt) (Q:Rr->bS->Prop) A3 H I v6 X6=>Uh A6 A7 T C f J U k Q A3 H I (b7 x) [] (aP x) v6 X6 rfl rfl AH;obtain⟨AG,AE⟩:=Ug (n:=(b7 x).length) A6 T C f J U;rw[aj1 (by simp)];generalize gJ p.vars (aP x) (b7 x) ⟨C,f⟩=q at*;generalize lR p.vars ((aP x).drop (b7 x).length) ⟨C,f⟩=AI at*;simp[f135,bU]at AD⊢;refine AD _ (λX r=>X=q->pg p q r) (λY v6 X6 A5=>?_) (λh C f v v6 X6 hh A5=>?_) (λe Y C f v v6 X6 A5=>?_) _ _ rfl
 .subst A5;obtain⟨h,V,Z⟩:=AI;cases h<;>simp[iB,ix,bU]at AE<;>simp[f135,AE]<;>exact⟨_,rfl⟩
 .subst A5;cases h with
  |ft e=>exact absurd rfl (hh e)
  |on=>simp;exact⟨_,rfl⟩
  |lv=>simp;exact⟨_,rfl⟩
  |rt=>simp;exact⟨_,rfl⟩
 .subst A5;simp;exact⟨_,rfl⟩
section
variable {p:Pg} {x:Sm} {b:List Sm} (A4:KV p (dO x)) (M:aP x=[b]) (A5:BK p b) (A6:cw p (λs=>bX p.vars b s)) (k:Kt) (Q:Rr->bS->Prop)
 (H:∀(h:Hw) C f v,(∀e,h≠.ft e)->Q (h,⟨C,f⟩) (k .ret ⟨35,aB,[(4,true,.d (.int .i64 (ix h)))],oB p C f v++[⟨250,1,bA x⟩]⟩))
 (I:∀e (Y:Env) C f v,Q (.ft e,⟨C,f⟩) (k (.panic 101 (oz e)) ⟨35,aB,Y,oB p C f v++[⟨250,1,bA x⟩]⟩))
include A4 M A5 A6 H I
theorem Ui(D:bG x=5):∀(m:Nat)(Y:Env)(C:List Int)(f v:Nat),(Y=[]\/Y=[(27,true,.d (.bool false))])->f<m->gY p C->f<=100000->
 Q (wC (λC=>bN p.vars C (dO x)) (λs=>bX p.vars b s) m ⟨C,f⟩) (aL ctx 139 (.loop (Code.at (bh f139) [1,0,0])) ⟨35,aB,(0,true,.ptr 0 0 0)::(3,true,.ptr 250 1 0)::Y,oB p C f v++[⟨250,1,bA x⟩]⟩ k)
 |0,Y,C,f,v,A7,h,Z,A1=>by omega
 |m+1,Y,C,f,v,A7,h,Z,A1=>by
  rcases A7 with rfl|rfl;all_goals
   have J:=pt (p:=p) C f (by omega);rw[wC,iL];rw[ah];by_cases A':f=0
   .rw[ac1 A']at J;subst A';have I:=λY=>I 4 Y C 0;simp[D]at J I;simp[f139,D,J,I]
   .rw[aaf A']at J;rw[aaf A'];have O:=mA A4 (f:=f-1) Z;simp only
    cases A8:bN p.vars C (dO x)with
    |f e=>
     rw[A8]at O;have I:=λY=>I e Y C (f-1);simp[D]at J O I;simp only[vR];simp[f139,D,J,O,I]
    |v n t=>
     rw[A8]at O;simp only[vR];by_cases y:n=0
     .subst y;have H:=H .on C (f-1);simp[ix,D]at J O H;simp[f139,D,J,O,H]
     .rw[aaf y];obtain⟨AA,T⟩:=A5 C (f-1) Z (by omega);have A0:=A6 ⟨C,f-1⟩ Z;simp only at A0;have ih:=Ui D m;generalize bX p.vars b ⟨C,f-1⟩=q at*;obtain⟨w,U,V⟩:=q;simp only at A0;cases w with
      |ft e=>
       have I:=λY=>I e Y U V;simp[M,cG,iB,D]at J O T I;simp only[bR];simp[f139,D,J,O,y,M,cG,T,I]
      |lv=>
       have H:=H .lv U V;simp[M,cG,iB,ix,D]at J O T H;simp only[bR];simp[f139,D,J,O,y,M,cG,T,H]
      |rt=>
       have H:=H .rt U V;simp[M,cG,iB,ix,D]at J O T H;simp only[bR];simp[f139,D,J,O,y,M,cG,T,H]
      |on=>
       have ih:=λv=>ih [(27,true,.d (.bool false))] U V v (.inr rfl) (by omega) A0.1 (by omega);simp[M,cG,iB,ix,D]at J O T;simp only[bR];simp[f139,D]at ih⊢;simp[J,O,y,M,cG,T]at ih⊢;exact ih _
theorem Uj(D:bG x=6):∀(m:Nat)(Y:Env)(C:List Int)(f v:Nat),(Y=[]\/Y=[(34,true,.d (.bool false))])->f<m->gY p C->f<=100000->
 Q (wD (λC=>bN p.vars C (dO x)) (λs=>bX p.vars b s) m ⟨C,f⟩) (aL ctx 139 (.loop (Code.at (bh f139) [1,0,0])) ⟨35,aB,(0,true,.ptr 0 0 0)::(3,true,.ptr 250 1 0)::Y,oB p C f v++[⟨250,1,bA x⟩]⟩ k)
 |0,Y,C,f,v,A7,h,Z,A1=>by omega
 |m+1,Y,C,f,v,A7,h,Z,A1=>by
  rcases A7 with rfl|rfl;all_goals
   rw[wD,ah];obtain⟨AA,T⟩:=A5 C f Z A1;have A0:=A6 ⟨C,f⟩ Z;simp only at A0;have ih:=Uj D m;generalize bX p.vars b ⟨C,f⟩=q at*;obtain⟨w,U,V⟩:=q;simp only at A0;cases w with
   |ft e=>
    have I:=λY=>I e Y U V;simp[M,cG,iB,D]at T I;simp only[bR];simp[f139,D,M,cG,T,I]
   |lv=>
    have H:=H .lv U V;simp[M,cG,iB,ix,D]at T H;simp only[bR];simp[f139,D,M,cG,T,H]
   |rt=>
    have H:=H .rt U V;simp[M,cG,iB,ix,D]at T H;simp only[bR];simp[f139,D,M,cG,T,H]
   |on=>
    simp only[bR,iL];have J:=pt (p:=p) U V (by omega);by_cases A':V=0
    .rw[ac1 A']at J;subst A';have I:=λY=>I 4 Y U 0;simp[M,cG,iB,ix,D]at T J I;simp[f139,D,M,cG,T,J,I]
    .rw[aaf A']at J;rw[aaf A'];have O:=mA A4 (f:=V-1) A0.1;cases A8:bN p.vars U (dO x)with
     |f e=>
      rw[A8]at O;have I:=λY=>I e Y U (V-1);simp[M,cG,iB,ix,D]at T J O I;simp only[vR];simp[f139,D,M,cG,T,J,O,I]
     |v n t=>
      rw[A8]at O;simp only[vR];by_cases y:n=0
      .subst y;have ih:=λv=>ih [(34,true,.d (.bool false))] U (V-1) v (.inr rfl) (by omega) A0.1 (by omega);simp[M,cG,iB,ix,D]at T J O;simp[f139,D]at ih⊢;simp[M,cG,T,J,O]at ih⊢;exact ih _
      .rw[aaf y];have H:=H .on U (V-1);simp[M,cG,iB,ix,D]at T J O H;simp[f139,D,M,cG,T,J,O,y,H]
end
def Uk{p:Pg}{x:Sm}{b:List Sm}(A4:KV p (dO x))(M:aP x=[b])(A5:BK p b)(A6:cw p (λs=>bX p.vars b s))(D:bG x=5\/bG x=6)(C:List Int)(f:Nat)(Z:gY p C)(A1:f<=100000):
 pg p (if bG x=5 then wC (λC=>bN p.vars C (dO x)) (λs=>bX p.vars b s) (f+1) ⟨C,f⟩else wD (λC=>bN p.vars C (dO x)) (λs=>bX p.vars b s) (f+1) ⟨C,f⟩) (aj ctx 139 [.ptr 0 0 0,.d (bZ x)] (my p C f)):=by
 have A2:=λ(k:Kt) (Q:Rr->bS->Prop) H I=>Ui A4 M A5 A6 k Q H I;have A9:=λ(k:Kt) (Q:Rr->bS->Prop) H I=>Uj A4 M A5 A6 k Q H I;rw[aj5 (by simp)];rcases D with D|D
 .have A2:=λk Q H I=>A2 k Q H I D (f+1) [] C f 0 (.inl rfl) (by omega) Z A1;rw[ac1 D];generalize wC (λC=>bN p.vars C (dO x)) (λs=>bX p.vars b s) (f+1) ⟨C,f⟩=q at*;clear A9;simp[f139,bU]at A2⊢;refine A2 _ (λX r=>X=q->pg p q r) (λh C f v hh A3=>?_) (λe Y C f v A3=>?_) rfl
  .subst A3;cases h with
   |ft e=>exact absurd rfl (hh e)
   |on=>simp;exact⟨_,rfl⟩
   |lv=>simp;exact⟨_,rfl⟩
   |rt=>simp;exact⟨_,rfl⟩
  .subst A3;simp;exact⟨_,rfl⟩
 .have A2:=λk Q H I=>A9 k Q H I D (f+1) [] C f 0 (.inl rfl) (by omega) Z A1;rw[aaf (by omega)];generalize wD (λC=>bN p.vars C (dO x)) (λs=>bX p.vars b s) (f+1) ⟨C,f⟩=q at*;clear A9;simp[f139,bU]at A2⊢;refine A2 _ (λX r=>X=q->pg p q r) (λh C f v hh A3=>?_) (λe Y C f v A3=>?_) rfl
  .subst A3;cases h with
   |ft e=>exact absurd rfl (hh e)
   |on=>simp;exact⟨_,rfl⟩
   |lv=>simp;exact⟨_,rfl⟩
   |rt=>simp;exact⟨_,rfl⟩
  .subst A3;simp;exact⟨_,rfl⟩
section
variable {p:Pg} {x:Sm} {b:List Sm} {w:Vr} (H:aP x=[b]) (AI:BK p b) (AJ:cw p (λs=>bX p.vars b s)) (k:Kt) (Q:Rr->bS->Prop)
 (J:∀(h:Hw) C f v,(∀e,h≠.ft e)->Q (h,⟨C,f⟩) (k .ret ⟨111,aB,[(4,true,.d (.int .i64 (ix h)))],oB p C f v++[⟨250,1,bA x⟩,⟨400,1,jA w⟩]⟩))
 (M:∀e (Y:Env) C f v,Q (.ft e,⟨C,f⟩) (k (.panic 101 (oz e)) ⟨111,aB,Y,oB p C f v++[⟨250,1,bA x⟩,⟨400,1,jA w⟩]⟩))
include H AI AJ J M
theorem Ul{a:Nat}{to by_:Int}(AN:bz by_):∀(m:Nat)(C:List Int)(f v:Nat),f<m->gY p C->f<=100000->a<C.length->
 Q (xr a to by_ (λs=>bX p.vars b s) m ⟨C,f⟩) (aL ctx 138 (.loop (Code.at (bh f138) [1,1,1,1,1,1,0,0])) ⟨111,aB,[(0,true,.ptr 0 0 0),(3,true,.ptr 250 1 0),(5,true,.d (.int .i64 a)),(8,true,.d (.int .i64 to)),(9,true,.d (.int .i64 by_))],oB p C f v++[⟨250,1,bA x⟩,⟨400,1,jA w⟩]⟩ k)
 |0,C,f,v,h,U,AO,T=>by omega
 |m+1,C,f,v,h,U,AO,T=>by
  have I:=pt (p:=p) C f (by omega);rw[xr,iL];rw[ah];by_cases AK:f=0
  .rw[ac1 AK]at I;subst AK;have M:=λY=>M 4 Y C 0;simp at I M;simp[f138,I,M]
  .rw[aaf AK]at I;rw[aaf AK];have A_:jB C (a:Int)=C[a]:=by unfold jB;simp[T]
   simp only[A_];cases hu:GZ C[a] to by_ with
   |true=>
    rw[ac1 rfl];have J:=J .on C (f-1);simp[GZ]at hu;simp[ix]at I J;rcases hu with ⟨A6,A7⟩|⟨A6,A7⟩
    .simp[f138,I,T,A6,A7,J]
    .have V:¬0<=by_:=by omega
     simp[f138,I,T,A6,A7,V,J]
   |false=>
    rw[aaf (by simp)];have Af:¬((0<=by_/\to<C[a])\/(by_<0/\C[a]<to)):=by
     simpa [GZ]using hu
    obtain⟨Ag,O⟩:=AI C (f-1) U (by omega);have Z:=AJ ⟨C,f-1⟩ U;simp only at Z;have ih:=Ul (a:=a) (to:=to) AN m;generalize bX p.vars b ⟨C,f-1⟩=q at*;obtain⟨h,D,y⟩:=q;simp only at Z;generalize A':C[a]=AU at*;by_cases A0:0<=by_
    .have g1:¬to<AU:=by omega
     have g2:¬by_<0:=by omega
     cases h with
     |ft e=>
      have M:=λY=>M e Y D y;simp[iB,H,cG]at I O M;simp only[bR];simp[f138,I,T,A',A0,g1,g2,H,cG,O,M]
     |lv=>
      have J:=J .lv D y;simp[iB,ix,H,cG]at I O J;simp only[bR];simp[f138,I,T,A',A0,g1,g2,H,cG,O,J]
     |rt=>
      have J:=J .rt D y;simp[iB,ix,H,cG]at I O J;simp only[bR];simp[f138,I,T,A',A0,g1,g2,H,cG,O,J]
     |on=>
      have A2:a<D.length:=by
       have A6:=Z.1.len;have A7:=U.len;omega
      have A8:jB D (a:Int)=D[a]:=by unfold jB;simp[A2]
      have A3:=rX 8 D[a] by_ false (by rw[<-A8];exact yj Z.1.num _) AN;simp only[bR,A8];have AC:ou 8 [D[a],by_] false=if (gR 8 D[a] by_ false).2.2=0 then .v (gR 8 D[a] by_ false).1 (gR 8 D[a] by_ false).2.1 else .f (gR 8 D[a] by_ false).2.2:=rfl
      have AD:=NV 8 D[a] by_ false (by rw[<-A8];exact yj Z.1.num _);rw[AC];clear AC;generalize gR 8 D[a] by_ false=r at*;obtain⟨A9,Aa,AA⟩:=r;simp only at AD⊢;by_cases V:AA=0
      .rw[ac1 V];subst V;simp only[vR];have AE:gY p (eP D a A9):=Z.1.put _ AD;have ih:=λv=>ih (eP D a A9) y v (by omega) AE (by omega) (by simpa [eP]using A2);simp[iB,ix,H,cG,GW]at I O A3;simp[f138,eP,H,cG]at ih⊢;simp[I,T,A2,A',A0,g1,g2,H,cG,O,A3,ak]at ih⊢;try simp[ai8]at ih⊢
       exact ih _
      .rw[aaf V];simp only[vR];have M:=λY=>M AA Y D y;simp[iB,ix,H,cG,GW,oz]at I O A3 M;simp[f138,I,T,A2,A',A0,g1,g2,H,cG,O,A3,V,oz,M,ak,List.range']
    .have g1:¬AU<to:=by omega
     have g2:by_<0:=by omega
     cases h with
     |ft e=>
      have M:=λY=>M e Y D y;simp[iB,H,cG]at I O M;simp only[bR];simp[f138,I,T,A',A0,g1,g2,H,cG,O,M]
     |lv=>
      have J:=J .lv D y;simp[iB,ix,H,cG]at I O J;simp only[bR];simp[f138,I,T,A',A0,g1,g2,H,cG,O,J]
     |rt=>
      have J:=J .rt D y;simp[iB,ix,H,cG]at I O J;simp only[bR];simp[f138,I,T,A',A0,g1,g2,H,cG,O,J]
     |on=>
      have A2:a<D.length:=by
       have A6:=Z.1.len;have A7:=U.len;omega
      have A8:jB D (a:Int)=D[a]:=by unfold jB;simp[A2]
      have A3:=rX 8 D[a] by_ false (by rw[<-A8];exact yj Z.1.num _) AN;simp only[bR,A8];have AC:ou 8 [D[a],by_] false=if (gR 8 D[a] by_ false).2.2=0 then .v (gR 8 D[a] by_ false).1 (gR 8 D[a] by_ false).2.1 else .f (gR 8 D[a] by_ false).2.2:=rfl
      have AD:=NV 8 D[a] by_ false (by rw[<-A8];exact yj Z.1.num _);rw[AC];clear AC;generalize gR 8 D[a] by_ false=r at*;obtain⟨A9,Aa,AA⟩:=r;simp only at AD⊢;by_cases V:AA=0
      .rw[ac1 V];subst V;simp only[vR];have AE:gY p (eP D a A9):=Z.1.put _ AD;have ih:=λv=>ih (eP D a A9) y v (by omega) AE (by omega) (by simpa [eP]using A2);simp[iB,ix,H,cG,GW]at I O A3;simp[f138,eP,H,cG]at ih⊢;simp[I,T,A2,A',A0,g1,g2,H,cG,O,A3,ak]at ih⊢;try simp[ai8]at ih⊢
       exact ih _
      .rw[aaf V];simp only[vR];have M:=λY=>M AA Y D y;simp[iB,ix,H,cG,GW,oz]at I O A3 M;simp[f138,I,T,A2,A',A0,g1,g2,H,cG,O,A3,V,oz,M,ak,List.range']
end
def acC{p:Pg}(AV:p.vars.length<=1000)(Ab:∀w∈p.vars,dr w=true){x:Sm}{b:List Sm}{w:Vr}{AF AL AG:Ex}(AH:b7 x=[AF,AL,AG])(hw:bj p.vars (gk x)=some w)(T:w.arr=false)(Ac:w.ty<=2)(A6:KV p AF)(A7:KV p AL)(V:KV p AG)(A9:RI p AF)(AA:RI p AG)
 (H:aP x=[b]) (AI:BK p b) (AJ:cw p (λs=>bX p.vars b s)) (C:List Int) (f:Nat) (U:gY p C) (AO:f<=100000):
 pg p (wZ p.vars (gk x) [AF,AL,AG] (λs=>bX p.vars b s) ⟨C,f⟩) (aj ctx 138 [.ptr 0 0 0,.d (bZ x)] (my p C f)):=by
 have A4:=yh AV hw C f;have Ad:=Re AV Ab hw T Ac U;obtain⟨a,AW⟩:∃a:Nat,(bu p.vars (gk x)).1=a:=⟨(bu p.vars (gk x)).1.toNat,by omega⟩;rw[AW]at A4 Ad;have AX:a<C.length:=by omega
 have A1:=mA A6 (f:=f) U;have A5:=mA A7 (f:=f) U;have AB:=mA V (f:=f) U;unfold wZ;simp only
 rw[AW,aj4 (by simp)];cases AP:bN p.vars C AF with
 |f e=>
  rw[AP]at A1;simp[bF,dK]at A4 A1;simp[f138,bU,az,AH,A4,A1,vR];exact⟨_,rfl⟩
 |v AM t1=>
  rw[AP]at A1;cases AY:bN p.vars C AL with
  |f e=>
   rw[AY]at A5;simp[bF,dK]at A4 A1 A5;simp[f138,bU,az,AH,A4,A1,A5,vR];exact⟨_,rfl⟩
  |v AZ t2=>
   rw[AY]at A5;cases AQ:bN p.vars C AG with
   |f e=>
    rw[AQ]at AB;simp[bF,dK]at A4 A1 A5 AB;simp[f138,bU,az,AH,A4,A1,A5,AB,vR];exact⟨_,rfl⟩
   |v AR t3=>
    rw[AQ]at AB;simp only[vR];have Ae:bz AR:=AA C AR t3 U AQ;have AE:gY p (eP C a AM):=U.put _ (A9 C AM t1 U AP);have AS:=λ(k:Kt) (Q:Rr->bS->Prop) J M=>Ul (x:=x) (w:=w) H AI AJ k Q J M (a:=a) (to:=AZ) Ae (f+1) (eP C a AM) f 0 (by omega) AE AO (by simpa [eP]using AX);generalize xr a AZ AR (λs=>bX p.vars b s) (f+1) ⟨eP C a AM,f⟩=q at*;simp[bF,dK]at A4 A1 A5 AB;simp[f138,eP,H,cG,AH,az]at AS;simp[f138,bU,az,AH,H,cG,A4,A1,A5,AB,AX,ak];try simp[ai8]at AS⊢
    refine AS _ (λX r=>X=q->pg p q r) (λh C f v hh AT=>?_) (λe Y C f v AT=>?_) rfl
    .subst AT;cases h with
     |ft e=>exact absurd rfl (hh e)
     |on=>simp;exact⟨_,rfl⟩
     |lv=>simp;exact⟨_,rfl⟩
     |rt=>simp;exact⟨_,rfl⟩
    .subst AT;simp;exact⟨_,rfl⟩
def Z2{p:Pg}{x:Sm}{b:List Sm}{j:Nat}(AC:j<(aP x).length)(AD:(aP x)[j]=b)(V:BK p b){n:Int}{l:List Int}(AR:l.length<100000000)(C:List Int)(f:Nat)(U:gY p C)(Z:f<=100000)(AK AL:AV)(k:Kt)(P:Bool->bS->Prop)
 (H:∀i:Int,P false (k (.exit 2) ⟨57,aB,[(0,true,.ptr 0 0 0),(3,true,.ptr 250 1 0),(5,true,.d (.int .i64 n)),(6,true,.d (.int .i64 j)),(7,true,.d (jR l)),(8,true,.d (.int .i64 i)),(14,true,AK),(15,true,AL),(16,true,.d (.int .i64 j)),(25,true,.d (.bool false))],oB p C f 0++[⟨250,1,bA x⟩]⟩))
 (D:∀(h:Hw) I J v,bX p.vars b ⟨C,f⟩=(h,⟨I,J⟩)->(∀e,h≠.ft e)->P true (k .ret ⟨57,aB,[(4,true,.d (.int .i64 (ix h)))],oB p I J v++[⟨250,1,bA x⟩]⟩))
 (M:∀e (Y:Env) I J v,bX p.vars b ⟨C,f⟩=(.ft e,⟨I,J⟩)->P true (k (.panic 101 (oz e)) ⟨57,aB,Y,oB p I J v++[⟨250,1,bA x⟩]⟩)):
 ∀(rest pre:List Int),l=pre++rest->P (gW n rest) (aL ctx 136 (.loop (Code.at (bh f136) [1,1,0,1,0,0,1,1,0,0,1,1,0,0])) ⟨57,aB,[(0,true,.ptr 0 0 0),(3,true,.ptr 250 1 0),(5,true,.d (.int .i64 n)),(6,true,.d (.int .i64 j)),(7,true,.d (jR l)),(8,true,.d (.int .i64 pre.length)),(14,true,AK),(15,true,AL),(16,true,.d (.int .i64 j))],oB p C f 0++[⟨250,1,bA x⟩]⟩ k)
 |[],pre,O=>by
  have H:=H pre.length;have A2:l.length=pre.length:=by rw[O];simp
  have T:=b9 ((pre.length:Int)+1);have g:¬(pre.length:Int)+1<pre.length:=by omega
  rw[ah];simp[jR]at H;simp[f136,jR,gW,A2,T,g,H]
 |[a],pre,O=>by
  have H:=H pre.length;have A2:l.length=pre.length+1:=by rw[O];simp
  have T:=b9 ((pre.length:Int)+1);rw[ah];simp[jR]at H;simp[f136,jR,gW,A2,T,H]
 |a::c::r,pre,O=>by
  have ih:=Z2 AC AD V AR C f U Z AK AL k P H D M r (pre++[a,c]) (by simp[O]);have A2:l.length=pre.length+(r.length+2):=by rw[O];simp
  have T:=b9 ((pre.length:Int)+1);have A4:=b9 ((pre.length:Int)+2);have y:pre.length<l.length:=by omega
  have A':pre.length+1<l.length:=by omega
  have A5:(pre.length:Int)+1<l.length:=by omega
  have A6:l[pre.length]=a:=by simp[O]
  have A7:l[pre.length+1]=c:=by simp[O]
  have A8:((pre.length:Int)+1).toNat=pre.length+1:=by omega
  have A9:(0:Int)<=(pre.length:Int)+1:=by omega
  rw[ah];by_cases A0:a<=n
  .by_cases A3:n<=c
   .have e:gW n (a::c::r)=true:=by simp[gW,A0,A3]
    rw[e];obtain⟨AS,A1⟩:=V C f U Z;clear ih H;generalize bX p.vars b ⟨C,f⟩=q at*;obtain⟨h,I,J⟩:=q;cases h with
    |ft e=>
     have M:=λY=>M e Y I J;simp[iB]at A1 M;simp[f136,jR,y,A',A5,A6,A7,A8,A9,T,A4,A0,A3,AC,AD,cG,A1,M]
    |on=>
     have D:=D .on I J;simp[iB,ix]at A1 D;simp[f136,jR,y,A',A5,A6,A7,A8,A9,T,A4,A0,A3,AC,AD,cG,A1,D]
    |lv=>
     have D:=D .lv I J;simp[iB,ix]at A1 D;simp[f136,jR,y,A',A5,A6,A7,A8,A9,T,A4,A0,A3,AC,AD,cG,A1,D]
    |rt=>
     have D:=D .rt I J;simp[iB,ix]at A1 D;simp[f136,jR,y,A',A5,A6,A7,A8,A9,T,A4,A0,A3,AC,AD,cG,A1,D]
   .have e:gW n (a::c::r)=gW n r:=by simp[gW,A3]
    rw[e];simp[f136,jR]at ih⊢;simp[y,A',A5,A6,A7,A8,A9,T,A4,A0,A3];exact ih
  .have e:gW n (a::c::r)=gW n r:=by simp[gW,A0]
   rw[e];simp[f136,jR]at ih⊢;simp[y,A',A5,A6,A7,A8,A9,T,A4,A0];exact ih
def Um{p:Pg}{x:Sm}(AI:(dq x).length<100000000)(AJ:∀l∈dq x,l.length<100000000)(V:∀b∈aP x,BK p b){n:Int}(C:List Int)(f:Nat)(U:gY p C)(Z:f<=100000)(k:Kt)(Q:Rr->bS->Prop)
 (AE:∀(Y:Env),Q (lR p.vars ((aP x).drop (dq x).length) ⟨C,f⟩) (k (.exit 0) ⟨57,aB,(0,true,.ptr 0 0 0)::(3,true,.ptr 250 1 0)::Y,oB p C f 0++[⟨250,1,bA x⟩]⟩))
 (D:∀(h:Hw) C f v,(∀e,h≠.ft e)->Q (h,⟨C,f⟩) (k .ret ⟨57,aB,[(4,true,.d (.int .i64 (ix h)))],oB p C f v++[⟨250,1,bA x⟩]⟩))
 (M:∀e (Y:Env) C f v,Q (.ft e,⟨C,f⟩) (k (.panic 101 (oz e)) ⟨57,aB,Y,oB p C f v++[⟨250,1,bA x⟩]⟩)):
 ∀(ls pre:List (List Int))(bs:List (List Sm)),dq x=pre++ls->bs=(aP x).drop pre.length->ls.length<=bs.length->
 Q (gK p.vars bs n ls ⟨C,f⟩) (aL ctx 136 (.loop (Code.at (bh f136) [1,1,0,1,0,0])) ⟨57,aB,[(0,true,.ptr 0 0 0),(3,true,.ptr 250 1 0),(5,true,.d (.int .i64 n)),(14,true,.d (.list ((dq x).map jR))),(15,true,.d (.int .i64 (dq x).length)),(16,true,.d (.int .i64 pre.length))],oB p C f 0++[⟨250,1,bA x⟩]⟩ k)
 |[],pre,bs,O,H,AF=>by
  have A2:(dq x).length=pre.length:=by rw[O];simp
  have e:gK p.vars bs n [] ⟨C,f⟩=lR p.vars ((aP x).drop (dq x).length) ⟨C,f⟩:=by
   rw[H,A2];cases (aP x).drop pre.length with
   |nil=>rw[gK,lR]
   |cons b r=>rw[gK,lR]
  rw[e];have:=AE [(5,true,.d (.int .i64 n)),(14,true,.d (.list ((dq x).map jR))),(15,true,.d (.int .i64 (dq x).length)),(16,true,.d (.int .i64 (dq x).length)),(17,true,.d (.bool false))];rw[<-A2,ah];simp at this;simp[f136,this]
 |l::ls,pre,bs,O,H,AF=>by
  have AM:pre.length<(aP x).length:=by
   rw[H,agU]at AF;simp only[ac5]at AF;omega
  have AN:bs=(aP x)[pre.length]::(aP x).drop (pre++[l]).length:=by
   rw[H,aiI AM];simp
  have e:gK p.vars bs n (l::ls) ⟨C,f⟩=if gW n l=true then bX p.vars (aP x)[pre.length] ⟨C,f⟩else gK p.vars ((aP x).drop (pre++[l]).length) n ls ⟨C,f⟩:=by
   rw[AN,gK]
  have ih:=Um AI AJ V (n:=n) C f U Z k Q AE D M ls (pre++[l]) ((aP x).drop (pre++[l]).length) (by simp[O]) rfl (by
   rw[AN]at AF;simp only[ac5]at AF;omega)
  rw[e];clear e AE;have y:pre.length<(dq x).length:=by rw[O];simp
  have A':(dq x)[pre.length]=l:=by simp[O]
  have T:=b9 ((pre.length:Int)+1);have AO:=λ(k:Kt) (P:Bool->bS->Prop) H D M=>Z2 (x:=x) (n:=n) AM rfl (V _ (ag9 AM)) (AJ l (by rw[O];simp)) C f U Z (.d (.list ((dq x).map jR))) (.d (.int .i64 (dq x).length)) k P H D M l [] rfl;generalize gK p.vars ((aP x).drop (pre++[l]).length) n ls ⟨C,f⟩=AT at*;generalize AZ:bX p.vars (aP x)[pre.length] ⟨C,f⟩=AU at*;rw[ah];simp[f136,jR]at AO ih⊢;simp[y,A',jR];refine AO _ (λt r=>t=gW n l->Q (if gW n l=true then AU else AT) r) (λi AG=>?_) (λh I J v AA hh AG=>?_) (λe Y I J v AA AG=>?_) rfl
  .rw[aaf (by simp[<-AG])];simp[T];exact ih
  .rw[ac1 AG.symm,AA];have D:=D h I J v hh;simp at D;simp[D]
  .rw[ac1 AG.symm,AA];have M:=M e Y I J v;simp at M;simp[M]
def Z4{p:Pg}{x:Sm}(AW:KV p (dO x))(AI:(dq x).length<100000000)(AJ:∀l∈dq x,l.length<100000000)(V:∀b∈aP x,BK p b)(AX:(dq x).length<=(aP x).length)(C:List Int)(f:Nat)(U:gY p C)(Z:f<=100000):
 pg p (vR (bN p.vars C (dO x)) ⟨C,f⟩ λn=>gK p.vars (aP x) n (dq x) ⟨C,f⟩) (aj ctx 136 [.ptr 0 0 0,.d (bZ x)] (my p C f)):=by
 have AB:=mA AW (f:=f) U;obtain⟨AS,AP⟩:=Ug (n:=(dq x).length) AI V C f U Z;rw[aj2 (by simp)];cases AA:bN p.vars C (dO x)with
 |f e=>
  rw[AA]at AB;simp at AB;simp[f136,bU,AB,vR];exact⟨_,rfl⟩
 |v n t=>
  rw[AA]at AB;simp only[vR];have AQ:=λ(k:Kt) (Q:Rr->bS->Prop) AE D M=>Um AI AJ V (n:=n) C f U Z k Q AE D M (dq x) [] (aP x) rfl rfl AX;generalize gK p.vars (aP x) n (dq x) ⟨C,f⟩=q at*;generalize lR p.vars ((aP x).drop (dq x).length) ⟨C,f⟩=AY at*;simp at AB;simp[f136,bU]at AQ⊢;simp[AB];refine AQ _ (λX r=>X=q->pg p q r) (λY AH=>?_) (λh C f v hh AH=>?_) (λe Y C f v AH=>?_) rfl
  .subst AH;obtain⟨h,I,J⟩:=AY;cases h<;>simp[iB,ix,bU]at AP<;>simp[f136,AP]<;>exact⟨_,rfl⟩
  .subst AH;cases h with
   |ft e=>exact absurd rfl (hh e)
   |on=>simp;exact⟨_,rfl⟩
   |lv=>simp;exact⟨_,rfl⟩
   |rt=>simp;exact⟨_,rfl⟩
  .subst AH;simp;exact⟨_,rfl⟩
section
variable {p:Pg} (U:p.vars.length<=1000) (V:∀w∈p.vars,dr w=true)
include U V
theorem Un{x:Sm}{w:Vr}{line:Int}(hw:bj p.vars (gk x)=some w)(M:2<w.ty)(A8:(dP x).length<100000000){a:Int}(k:Kt)(Q:Rr->bS->Prop)
 (A2:∀(Y:Env) C f v v9 H,gY p C->Q (.on,⟨C,f⟩) (k (.exit 0) ⟨71,aB,(0,true,.ptr 0 0 0)::(3,true,.ptr 250 1 0)::(4,true,.d (.int .i64 a))::(5,true,.ptr 350 1 0)::Y,oB p C f v++[⟨250,1,bA x⟩,⟨350,1,jA w⟩,⟨550,v9,H⟩,⟨3551,0,.dead⟩]⟩))
 (O:∀e (Y:Env) C f v v1 AJ v2 AK v9 H AL AM,Q (.ft e,⟨C,f⟩) (k (.panic 101 (oz e)) ⟨71,aB,Y,oB p C f v++[⟨250,v1,AJ⟩,⟨350,v2,AK⟩,⟨550,v9,H⟩,⟨3551,AL,AM⟩]⟩)):
 ∀(fs pre:List Tx)(xs:List Ex)(pp:List Tx)(C:List Int)(f v v9:Nat)(H:aF),dP x=pre++fs->xs=(b7 x).drop pre.length->xs.length=fs.length->(iU p.vars w.ty line fs xs pp).1=0->(∀y∈xs,KV p y/\RI p y)->gY p C->
 Q (ko p.vars (gk x) fs xs ⟨C,f⟩) (aL ctx 140 (.loop (Code.at (bh f140) [1,1,0,1,0,0])) ⟨71,aB,[(0,true,.ptr 0 0 0),(3,true,.ptr 250 1 0),(4,true,.d (.int .i64 a)),(5,true,.ptr 350 1 0),(19,true,.d (.list ((dP x).map .str))),(20,true,.d (.int .i64 (dP x).length)),(21,true,.d (.int .i64 pre.length))],oB p C f v++[⟨250,1,bA x⟩,⟨350,1,jA w⟩,⟨550,v9,H⟩,⟨3551,0,.dead⟩]⟩ k)
 |[],pre,xs,pp,C,f,v,v9,H,Z,A3,A4,I,T,J=>by
  have A_:(dP x).length=pre.length:=by rw[Z];simp
  have e:ko p.vars (gk x) [] xs ⟨C,f⟩=(.on,⟨C,f⟩):=by unfold ko;rfl
  rw[e];have:=A2 [(19,true,.d (.list ((dP x).map .str))),(20,true,.d (.int .i64 (dP x).length)),(21,true,.d (.int .i64 (dP x).length)),(22,true,.d (.bool false))] C f v v9 H J;rw[<-A_,ah];simp at this;simp[f140,this]
 |fl::fs,pre,[],pp,C,f,v,v9,H,Z,A3,A4,I,T,J=>by simp at A4
 |fl::fs,pre,y::A5,pp,C,f,v,v9,H,Z,A3,A4,I,T,J=>by
  have Aa:=A2;unfold iU at I;cases A6:mn w.ty fl with
  |none=>rw[A6]at I;simp at I
  |some q=>
   rw[A6]at I;simp only at I;by_cases g1:q.Mv=false
   .rw[ac1 g1]at I;simp at I
   .rw[aaf g1]at I;by_cases g2:fl∈pp
    .rw[ac1 g2]at I;simp at I
    .rw[aaf g2]at I;obtain⟨_,g3⟩:=bM.1 I;obtain⟨q1,q2,j,q3,Aw⟩:=qM hw M A6;have AN:=nh (cells:=C.length) V (by have:=J.len;omega) hw M;have hle:=Kf U V hw J;have A0:=ZU U hw M A6 ⟨hle.1,by omega⟩ C f;have A':=mA (T y (by simp)).1 (f:=f) J;have Ab:=(T y (by simp)).2 C;have e:ko p.vars (gk x) (fl::fs) (y::A5) ⟨C,f⟩=vR (bN p.vars C y) ⟨C,f⟩ λn=>ko p.vars (gk x) fs A5 ⟨eP C (eH p.vars (gk x) fl).1 n,f⟩:=by rw[ko]
     rw[e];clear e I;obtain⟨o,A1⟩:∃o:Nat,(eH p.vars (gk x) fl).1=o:=⟨(eH p.vars (gk x) fl).1.toNat,by omega⟩;rw[A1]at A0⊢;have Ac:o<C.length:=by omega
     have AO:pre.length<(dP x).length:=by rw[Z];simp
     have AP:(dP x)[pre.length]=fl:=by simp[Z]
     have A9:pre.length<(b7 x).length:=by
      have:((b7 x).drop pre.length).length=(y::A5).length:=by rw[<-A3]
      simp only[agU,ac5]at this;omega
     have AQ:=aiI A9;rw[<-A3]at AQ;injection AQ with Ad Ae
     have AR:(b7 x)[pre.length]=y:=Ad.symm;have AS:=b9 ((pre.length:Int)+1);rw[ah];cases AA:bN p.vars C y with
     |f e=>
      rw[AA]at A';have O:=λY=>O e Y C f;simp[gz]at A0;simp at A' O;simp only[vR];simp[f140,AO,AP,A9,AR,az,A0,gz,A',AS,ak];apply O
     |v n t=>
      rw[AA]at A';simp only[vR];have Af:gY p (eP C o n):=J.put _ (Ab n t J AA);have ih:=λv v9 H=>Un hw M A8 k Q Aa O fs (pre++[fl]) A5 (pp++[fl]) (eP C o n) f v v9 H (by simp[Z]) (by simpa using Ae) (by simpa using A4) g3 (λz Ag=>T z (by simp[Ag])) Af;simp[gz]at A0;simp at A';simp[f140,eP]at ih⊢;simp[AO,AP,A9,AR,az,A0,gz,A',Ac,AS,ak]at ih⊢;try simp[ai8]at ih⊢
      apply ih
theorem acD{x:Sm}{w:Vr}{line:Int}(hw:bj p.vars (gk x)=some w)(M:2<w.ty)(A8:(dP x).length<100000000)(Ah:(b7 x).length=(dP x).length)(h:(iU p.vars w.ty line (dP x) (b7 x) []).1=0)(T:∀y∈b7 x,KV p y/\RI p y)(C:List Int)(f:Nat)(J:gY p C):
 Ua p (nH p.vars (gk x) (dP x) (b7 x) ⟨C,f⟩) (aj ctx 140 [.ptr 0 0 0,.d (bZ x)] (my p C f)):=by
 have AB:=yh U hw C f;have hle:=Kf U V hw J;obtain⟨o,A1⟩:∃o:Nat,(bu p.vars (gk x)).1=o:=⟨(bu p.vars (gk x)).1.toNat,by omega⟩;have AC:=λ(k:Kt) (Q:Rr->bS->Prop) A2 O v9 H=>Un U V (line:=line) hw M A8 (a:=o) k Q A2 O (dP x) [] (b7 x) [] C f 0 v9 H rfl rfl Ah h T J;have AT:=B0 w.ty;unfold nH;rw[A1]at AB;rw[eI hw,A1];rw[aj6 (by simp)];generalize ko p.vars (gk x) (dP x) (b7 x) ⟨C,f⟩=q at*;simp[bF,dK]at AB;simp[f140,bU]at AC⊢;simp[AB,bF,dK];refine AC _ (λX r=>X=q->Ua p (bR q λAU=>(.on,⟨tO AU.cells o w.ty,AU.fuel⟩)) r) (λY D Ai v v9 H AD AE=>?_) (λe Y D Ai v v1 AJ v2 AK v9 H AL AM AE=>?_) _ _ rfl;rotate_left
 .subst AE;simp[bR];exact⟨_,rfl⟩
 .subst AE;clear AC;have AV:=AD.num;have Ax:=AD.le;have AN:=nh (cells:=D.length) V (by have:=AD.len;omega) hw M;rw[A1]at AN;generalize AW:dQ w.ty=pl at*;have Aj:o+pl.length<=D.length:=by omega
  have AF:((D.drop o).take pl.length).length=pl.length:=by simp;omega
  have AX:=V8 w.ty;unfold DN at AX;rw[AW]at AX;have AG:=Q8 w.ty ((D.drop o).take pl.length) (by rw[AF];omega) (λy Ak=>AV y (adx (adw Ak)));have AH:(ie w.ty ((D.drop o).take pl.length)).length=pl.length:=by rw[wo,AF]
  have AI:tO D o w.ty=D.take o++ie w.ty ((D.drop o).take pl.length)++D.drop (o+(ie w.ty ((D.drop o).take pl.length)).length):=by
   unfold tO;rw[AH,AW];simp
  have AY:=Rc D (ie w.ty ((D.drop o).take pl.length)) o (by omega);rw[<-AI]at AY;have AZ:(tO D o w.ty).length=D.length:=by
   rw[AI];simp only[acY,ag6,agU,AH];omega
  rw[AF]at AG;generalize Al:ie w.ty ((D.drop o).take pl.length)=A7 at*;have An:(A7.map jD).take (D.length-o)=A7.map jD:=adK (by simp;omega);have Ao:(A7.map jD).take pl.length=A7.map jD:=adK (by simp;omega);have Ap:=b9 ((o:Int)+(pl.length:Int));have Aq:((o:Int)+(pl.length:Int)).toNat=o+pl.length:=by omega
  have Ar:o<=D.length:=by omega
  have As:(o:Int)<=(D.length:Int):=by omega
  have At:(0:Int)<=(o:Int)+(pl.length:Int):=by omega
  have Au:(o:Int)<=(o:Int)+(pl.length:Int):=by omega
  have Av:o+(D.length-o)<=D.length:=by omega
  simp only[bR];clear AV Al AI;try simp at AT
  simp only[apP,List.map_drop]at AG;simp[f140,AT,AG,AH,An,Ao,AY,AZ,Ap,Aq,Ar,As,At,Au,Av,Aj,xV,ak];refine⟨if v=0 then 0 else 1,?_⟩;simp[T9,AZ]
end
def Uo(n:Int):aj ctx 137 [.d (.int .i64 n)] []=some (.ret (.d (.int .i64 (if n=1 then 0 else n))),[]):=by
 rw[aj3 (by simp)];by_cases h:n=1
 .simp[f137,h]
 .simp[f137,h]
section
variable {p:Pg} {x:Sm} {C:List Int} {f:Nat} (T:gY p C) (U:f<=100000)
include T U
theorem Dp{R:Mc->Rr}(h:f≠0->pg p (R ⟨C,f-1⟩) (aj ctx 82 [.ptr 0 0 0,.d (bZ x)] (my p C f))):pg p (iL R ⟨C,f⟩) (aj ctx 82 [.ptr 0 0 0,.d (bZ x)] (my p C f)):=by
 unfold iL;by_cases I:f=0
 .rw[ac1 I];have D:=pt (p:=p) C f (by omega);rw[ac1 I]at D;subst I;rw[Dd (by simp)];simp at D;simp[f82,bU,D];exact⟨_,rfl⟩
 .rw[aaf I];exact h I
theorem amf(H:bG x=1\/bG x=9){q:Rr}(J:q.1=.on\/∃e,q.1=.ft e)(I:f≠0)(V:bG x=1->Ua p q (aj ctx 134 [.ptr 0 0 0,.d (bZ x)] (my p C (f-1))))(Y:bG x=9->Ua p q (aj ctx 140 [.ptr 0 0 0,.d (bZ x)] (my p C (f-1)))):
 pg p q (aj ctx 82 [.ptr 0 0 0,.d (bZ x)] (my p C f)):=by
 have D:=pt (p:=p) C f (by omega);rw[aaf I]at D;obtain⟨w,M,O⟩:=q;rw[Dd (by simp)];rcases H with H|H
 .obtain⟨v,h⟩:=V H;rcases J with J|⟨e,J⟩<;>simp only at J<;>subst J<;>simp[T9,bU,H]at D h<;>simp[f82,bU,H,D,h]<;>exact⟨_,rfl⟩
 .obtain⟨v,h⟩:=Y H;rcases J with J|⟨e,J⟩<;>simp only at J<;>subst J<;>simp[T9,bU,H]at D h<;>simp[f82,bU,H,D,h]<;>exact⟨_,rfl⟩
theorem asA(H:bG x=2){q:Rr}(I:f≠0)(h:pg p q (aj ctx 135 [.ptr 0 0 0,.d (bZ x)] (my p C (f-1)))):
 pg p q (aj ctx 82 [.ptr 0 0 0,.d (bZ x)] (my p C f)):=by
 have D:=pt (p:=p) C f (by omega);rw[aaf I]at D;obtain⟨w,M,O⟩:=q;obtain⟨v,h⟩:=h;rw[Dd (by simp)];cases w<;>simp[iB,ix,bU,H]at D h<;>simp[f82,bU,H,D,h]<;>exact⟨_,rfl⟩
theorem asB(H:bG x=3){q:Rr}(I:f≠0)(h:pg p q (aj ctx 136 [.ptr 0 0 0,.d (bZ x)] (my p C (f-1)))):
 pg p q (aj ctx 82 [.ptr 0 0 0,.d (bZ x)] (my p C f)):=by
 have D:=pt (p:=p) C f (by omega);rw[aaf I]at D;obtain⟨w,M,O⟩:=q;obtain⟨v,h⟩:=h;rw[Dd (by simp)];cases w<;>simp[iB,ix,bU,H]at D h<;>simp[f82,bU,H,D,h]<;>exact⟨_,rfl⟩
theorem asC(H:bG x=4){q:Rr}(I:f≠0)(h:pg p q (aj ctx 138 [.ptr 0 0 0,.d (bZ x)] (my p C (f-1)))):
 pg p (eX q) (aj ctx 82 [.ptr 0 0 0,.d (bZ x)] (my p C f)):=by
 have D:=pt (p:=p) C f (by omega);have hle:=Uo;rw[aaf I]at D;obtain⟨w,M,O⟩:=q;obtain⟨v,h⟩:=h;rw[Dd (by simp)];cases w<;>simp[iB,ix,bU,H]at D h<;>simp[f82,bU,H,D,h,hle,eX]<;>exact⟨_,rfl⟩
theorem aek(H:bG x=5\/bG x=6){q:Rr}(I:f≠0)(h:pg p q (aj ctx 139 [.ptr 0 0 0,.d (bZ x)] (my p C (f-1)))):
 pg p (eX q) (aj ctx 82 [.ptr 0 0 0,.d (bZ x)] (my p C f)):=by
 have D:=pt (p:=p) C f (by omega);have hle:=Uo;rw[aaf I]at D;obtain⟨w,M,O⟩:=q;obtain⟨v,h⟩:=h;rw[Dd (by simp)];rcases H with H|H
 .cases w<;>simp[iB,ix,bU,H]at D h<;>simp[f82,bU,H,D,h,hle,eX]<;>exact⟨_,rfl⟩
 .cases w<;>simp[iB,ix,bU,H]at D h<;>simp[f82,bU,H,D,h,hle,eX]<;>exact⟨_,rfl⟩
theorem ael(H:bG x=7\/bG x=8)(I:f≠0):pg p (if bG x=7 then .lv else .rt,⟨C,f-1⟩) (aj ctx 82 [.ptr 0 0 0,.d (bZ x)] (my p C f)):=by
 have D:=pt (p:=p) C f (by omega);rw[aaf I]at D;rw[Dd (by simp)];rcases H with H|H
 .simp at D;simp[f82,bU,H,D];exact⟨_,rfl⟩
 .simp at D;simp[f82,bU,H,D];exact⟨_,rfl⟩
end
def NX{v:Vl}{s:Mc}{g:Int->Rr}(h:∀n,(g n).1=.on\/∃e,(g n).1=.ft e):(vR v s g).1=.on\/∃e,(vR v s g).1=.ft e:=by
 cases v with
 |f e=>exact .inr ⟨e,rfl⟩
 |v n t=>exact h n
def amg(vs:List Vr)(to val:Ex)(s:Mc):(qt vs to val s).1=.on\/∃e,(qt vs to val s).1=.ft e:=by
 unfold qt;split
 .exact NX λn=>.inl rfl
 .refine NX λk=>NX λn=>?_;unfold A5;split
  .exact .inr ⟨3,rfl⟩
  .exact .inl rfl
def Z6(vs:List Vr)(name:Tx):∀(fs:List Tx)(xs:List Ex)(s:Mc),(ko vs name fs xs s).1=.on\/∃e,(ko vs name fs xs s).1=.ft e
 |[],xs,s=>by unfold ko;exact .inl rfl
 |_::_,[],s=>by unfold ko;exact .inl rfl
 |f::fs,x::xs,s=>by
  rw[ko];exact NX λn=>Z6 vs name fs xs _
def acE(vs:List Vr)(name:Tx)(fs:List Tx)(xs:List Ex)(s:Mc):(nH vs name fs xs s).1=.on\/∃e,(nH vs name fs xs s).1=.ft e:=by
 have h:=Z6 vs name fs xs s;unfold nH;generalize ko vs name fs xs s=q at*;obtain⟨w,t⟩:=q;rcases h with h|⟨e,h⟩<;>simp only at h<;>subst h
 .exact .inl rfl
 .exact .inr ⟨e,rfl⟩
def SK(p:Pg)(x:Sm):Prop:=MK p x/\cw p (iw p.vars x)
def LK(p:Pg)(b:List Sm):Prop:=BK p b/\cw p (bX p.vars b)
section
variable {p:Pg} (A3:p.vars.length<=1000) (A1:∀w∈p.vars,dr w=true)
include A3 A1
theorem Up:∀(bs:List (List Sm))(cs:List Ex),(∀b∈bs,cw p (bX p.vars b))->(∀c∈cs,RI p c)->cw p (gJ p.vars bs cs)
 |[],cs,_,_=>by
  have e:gJ p.vars [] cs=λs=>(.on,s):=by funext s;rw[gJ]
  rw[e];exact cw.id _
 |b::bs,[],h,_=>by
  have e:gJ p.vars (b::bs) []=bX p.vars b:=by funext s;rw[gJ]
  rw[e];exact h b (by simp)
 |b::bs,c::cs,h,AA=>by
  have e:gJ p.vars (b::bs) (c::cs)=λs=>vR (bN p.vars s.cells c) s λn=>if n=0 then gJ p.vars bs cs s else bX p.vars b s:=by funext s;rw[gJ]
  rw[e];refine cw.vR (v:=λC=>bN p.vars C c) (G:=λn s=>if n=0 then gJ p.vars bs cs s else bX p.vars b s) (λC n t D Y=>AA c (by simp) C n t D Y) λn _=>?_;by_cases J:n=0
  .simp only[J,ad7];exact Up bs cs (λb O=>h b (by simp[O])) (λy A'=>AA y (by simp[A']))
  .simp only[J,adN];exact h b (by simp)
theorem Uq(n:Int):∀(bs:List (List Sm))(ls:List (List Int)),(∀b∈bs,cw p (bX p.vars b))->cw p (gK p.vars bs n ls)
 |[],ls,_=>by
  have e:gK p.vars [] n ls=λs=>(.on,s):=by funext s;rw[gK]
  rw[e];exact cw.id _
 |b::bs,[],h=>by
  have e:gK p.vars (b::bs) n []=bX p.vars b:=by funext s;rw[gK]
  rw[e];exact h b (by simp)
 |b::bs,l::ls,h=>by
  have e:gK p.vars (b::bs) n (l::ls)=λs=>if gW n l=true then bX p.vars b s else gK p.vars bs n ls s:=by funext s;rw[gK]
  rw[e];by_cases J:gW n l=true
  .simp only[J,ad7];exact h b (by simp)
  .simp only[J];exact Uq n bs ls (λb O=>h b (by simp[O]))
theorem apm{lp:Bool}{x:Sm}(T:j9 x=true)(H:ka x=true)(AC:Ah x)(h:(lA p.vars lp x).1=0)(AD:∀(lp:Bool) (cs:List Ex),cu (aP x)=true->(fj p.vars lp cs (aP x)).1=0->∀b∈aP x,LK p b):SK p x:=by
 have A4:=λ(y:Ex) A6 V AE=>ZZ A3 A1 y A6 V AE;obtain⟨_,_,⟨AV,_⟩,⟨AW,AX⟩,AY,_⟩:=AC;cases BU T h with
 |@Tc to val line v Z Y AZ ft A_ A8 Aa AJ=>
  simp only[ka,Ds]at H;have A0:=A4 val A8 H.2.1 Aa;have e:iw p.vars (.mk 1 [] to val [] [] [] [] line)=iL (λs=>qt p.vars to val s):=by funext s;simp[iw]
  refine⟨λC f D I=>?_,?_⟩
  .rw[e];refine Dp D I λM=>amf D I (.inl rfl) (amg ..) M (λ_=>?_) (λh=>by simp[bG]at h);cases qN ft A_ with
   |num h=>simp[bQ]at Z
   |qX h=>simp[bQ]at Z
   |GY _ _ _ _=>simp[bQ]at Z
   |one o _ _ _=>simp[bQ]at Z;omega
   |two o _ _ _ _ _ _=>simp[bQ]at Z;omega
   |@var name Ab Ac AL AF AM=>exact apk A3 A1 AL AF AM A0.1 C (f-1) D
   |@idx name Ab Ac y AL AF AM AN Ad ty=>
    have Af:dt y=true:=by
     have:=H.1;simp[dt,da]at this;exact this
    exact apl A3 A1 AL AF AM (A4 y AN Af Ad).1 A0.1 C (f-1) D
  .rw[e];exact cw.iL (agk A0.2)
 |@Td to val conds blocks line Z AK AO A6 V AE A7 hh=>
  simp only[ka,Ds]at H;have AG:∀c∈conds,KV p c/\RI p c:=λc A9=>A4 c ((fT _).1 AO c A9) (Ae H.2.2.1 c A9) (fM (sN V hh c A9)).1;have U:=AD lp conds A7 hh;have e:iw p.vars (.mk 2 [] to val conds [] [] blocks line)=iL (λs=>gJ p.vars blocks conds s):=by funext s;simp[iw]
  refine⟨λC f D I=>?_,?_⟩
  .rw[e];exact Dp D I λM=>asA D I rfl M (Z1 (x:=.mk 2 [] to val conds [] [] blocks line) AV (λc AA=>(AG c AA).1) (λb O=>(U b O).1) V C (f-1) D (by omega))
  .rw[e];exact cw.iL (Up A3 A1 blocks conds (λb O=>(U b O).2) (λc AA=>(AG c AA).2))
 |@Tf to val AB blocks line Z A8 AH V AE Ao A7 hh=>
  simp only[ka,Ds]at H;have A0:=A4 val A8 H.2.1 (fM AH).1;have U:=AD lp [] A7 hh;have e:iw p.vars (.mk 3 [] to val [] AB [] blocks line)=iL (λs=>vR (bN p.vars s.cells val) s λn=>gK p.vars blocks n AB s):=by funext s;simp[iw]
  refine⟨λC f D I=>?_,?_⟩
  .rw[e];exact Dp D I λM=>asB D I rfl M (Z4 (x:=.mk 3 [] to val [] AB [] blocks line) A0.1 AW AX (λb O=>(U b O).1) V C (f-1) D (by omega))
  .rw[e];exact cw.iL (cw.vR (v:=λC=>bN p.vars C val) (G:=λn s=>gK p.vars blocks n AB s) (λC n t D Y=>A0.2 C n t D Y) λn _=>Uq A3 A1 n blocks AB λb O=>(U b O).2)
 |@Tg name to val x y z b line v J Z AK Y AZ AF AJ Ag Ai AN Aj Ak Al A7 hh=>
  simp only[ka,da,Ds]at H;have AP:=A4 x Ag H.2.2.1.1 (fM Ai).1;have AS:=A4 y AN H.2.2.1.2.1 (fM Aj).1;have AQ:=A4 z Ak H.2.2.1.2.2.1 (fM Al).1;have U:=AD true [] (by simpa [aP,cu]using A7) (by simp[aP,fj,gS,hh]) b (by simp[aP]);have AI:(λq=>lR p.vars [b] q)=λs=>bX p.vars b s:=by funext s;rw[lR]
  have e:iw p.vars (.mk 4 name to val [x,y,z] [] [] [b] line)=iL (λs=>eX (wZ p.vars name [x,y,z] (λs=>bX p.vars b s) s)):=by funext s;simp[iw,AI]
  refine⟨λC f D I=>?_,?_⟩
  .rw[e];exact Dp D I λM=>asC D I rfl M (acC A3 A1 (x:=.mk 4 name to val [x,y,z] [] [] [b] line) rfl Y AF (by omega) AP.1 AS.1 AQ.1 AP.2 AQ.2 rfl U.1 U.2 C (f-1) D (by omega))
  .rw[e];exact cw.iL (cw.left (acA AP.2 AS.2 AQ.2 U.2))
 |@Th to val b line Z A8 AH A7 hh=>
  simp only[ka,Ds]at H;have A0:=A4 val A8 H.2.1 (fM AH).1;have U:=AD true [] (by simpa [aP,cu]using A7) (by simp[aP,fj,gS,hh]) b (by simp[aP]);have AI:(λq=>lR p.vars [b] q)=λs=>bX p.vars b s:=by funext s;rw[lR]
  have e:iw p.vars (.mk 5 [] to val [] [] [] [b] line)=iL (λs=>eX (wC (λC=>bN p.vars C val) (λs=>bX p.vars b s) (s.fuel+1) s)):=by funext s;simp[iw,AI]
  refine⟨λC f D I=>?_,?_⟩
  .rw[e];exact Dp D I λM=>aek D I (.inl rfl) M (by
    have:=Uk (x:=.mk 5 [] to val [] [] [] [b] line) A0.1 rfl U.1 U.2 (.inl rfl) C (f-1) D (by omega);simpa [bG]using this)
  .rw[e];exact cw.iL (cw.left λs AC=>Ub (λC n t D Y=>A0.2 C n t D Y) U.2 (s.fuel+1) s AC)
 |@rep to val b line Z A8 AH A7 hh=>
  simp only[ka,Ds]at H;have A0:=A4 val A8 H.2.1 (fM AH).1;have U:=AD true [] (by simpa [aP,cu]using A7) (by simp[aP,fj,gS,hh]) b (by simp[aP]);have AI:(λq=>lR p.vars [b] q)=λs=>bX p.vars b s:=by funext s;rw[lR]
  have e:iw p.vars (.mk 6 [] to val [] [] [] [b] line)=iL (λs=>eX (wD (λC=>bN p.vars C val) (λs=>bX p.vars b s) (s.fuel+1) s)):=by funext s;simp[iw,AI]
  refine⟨λC f D I=>?_,?_⟩
  .rw[e];exact Dp D I λM=>aek D I (.inr rfl) M (by
    have:=Uk (x:=.mk 6 [] to val [] [] [] [b] line) A0.1 rfl U.1 U.2 (.inr rfl) C (f-1) D (by omega);simpa [bG]using this)
  .rw[e];exact cw.iL (cw.left λs AC=>Uc (λC n t D Y=>A0.2 C n t D Y) U.2 (s.fuel+1) s AC)
 |@ext to val line Z AK Ap=>
  have e:iw p.vars (.mk 7 [] to val [] [] [] [] line)=iL (λs=>(.lv,s)):=by funext s;simp[iw]
  refine⟨λC f D I=>?_,?_⟩
  .rw[e];exact Dp D I λM=>by simpa [bG]using ael (x:=.mk 7 [] to val [] [] [] [] line) D I (.inl rfl) M
  .rw[e];exact cw.iL (cw.id _)
 |@ret to val line Z AK=>
  have e:iw p.vars (.mk 8 [] to val [] [] [] [] line)=iL (λs=>(.rt,s)):=by funext s;simp[iw]
  refine⟨λC f D I=>?_,?_⟩
  .rw[e];exact Dp D I λM=>by simpa [bG]using ael (x:=.mk 8 [] to val [] [] [] [] line) D I (.inr rfl) M
  .rw[e];exact cw.iL (cw.id _)
 |@Ti name to val conds fields line v J Z AK Y AJ AO AR Aq hh=>
  simp only[ka,Ds]at H;have An:=yf fields conds [] AR hh;have AG:∀c∈conds,KV p c/\RI p c:=λc A9=>A4 c ((fT _).1 AO c A9) (Ae H.2.2.1 c A9) (An c A9);have e:iw p.vars (.mk 9 name to val conds [] fields [] line)=iL (λs=>nH p.vars name fields conds s):=by funext s;simp[iw]
  refine⟨λC f D I=>?_,?_⟩
  .rw[e];exact Dp D I λM=>amf D I (.inr rfl) (acE ..) M (λh=>by simp[bG]at h) (λ_=>acD A3 A1 (x:=.mk 9 name to val conds [] fields [] line) Y AJ AY AR hh AG C (f-1) D)
  .rw[e];exact cw.iL (Z0 Y (λC D=>by
    have:=nh (cells:=C.length) A1 (by have:=D.len;omega) Y AJ;omega) (λy A'=>(AG y A').2))
mutual
theorem amh:∀(x:Sm)(lp:Bool),j9 x=true->ka x=true->DO x->(lA p.vars lp x).1=0->SK p x
 | .mk op name to val conds AB fields blocks line,lp,T,H,J,h=>by
  have AT:=(Wl _).1 J;have AU:=H;simp only[ka,Ds]at AU;exact apm A3 A1 T H AT.1 h (λlp cs A6 V=>Ii blocks lp cs A6 AU.2.2.2.2 AT.2 V)
theorem Dq:∀(l:List Sm)(lp:Bool),eA l=true->gN l=true->nz l->(fa p.vars lp l).1=0->∀x∈l,SK p x
 |[],_,_,_,_,_,x,A2=>absurd A2 (adL)
 |y::r,lp,T,H,J,h,x,A2=>by
  simp only[eA,Ds]at T;simp only[gN,Ds]at H;simp only[nz]at J;simp only[fa]at h;obtain⟨A6,V⟩:=bM.1 h;rcases ac4.1 A2 with M|A2
  .rw[M];exact amh y lp T.1 H.1 J.1 A6
  .exact Dq r lp T.2 H.2 J.2 V x A2
theorem Ii:∀(l:List (List Sm))(lp:Bool)(cs:List Ex),cu l=true->fJ l=true->pD l->(fj p.vars lp cs l).1=0->∀b∈l,LK p b
 |[],_,_,_,_,_,_,b,O=>absurd O (adL)
 |y::r,lp,[],T,H,J,h,b,O=>by
  simp only[cu,Ds]at T;simp only[fJ,Ds]at H;simp only[pD]at J;simp only[fj]at h;obtain⟨A6,V⟩:=bM.1 h;rcases ac4.1 O with M|O
  .have A':=Dq y lp T.1 H.1 J.1.2 A6;rw[M];exact⟨WA y (by have:=J.1.1;omega) A',Gu y λx A2=>(A' x A2).2⟩
  .exact Ii r lp [] T.2 H.2 J.2 V b O
 |y::r,lp,c::cs,T,H,J,h,b,O=>by
  simp only[cu,Ds]at T;simp only[fJ,Ds]at H;simp only[pD]at J;simp only[fj]at h;obtain⟨A6,V⟩:=bM.1 h;obtain⟨V,AE⟩:=bM.1 V;rcases ac4.1 O with M|O
  .have A':=Dq y lp T.1 H.1 J.1.2 V;rw[M];exact⟨WA y (by have:=J.1.1;omega) A',Gu y λx A2=>(A' x A2).2⟩
  .exact Ii r lp cs T.2 H.2 J.2 AE b O
end
theorem Z7{l:List Sm}{lp:Bool}(AR:l.length<100000000)(T:eA l=true)(H:gN l=true)(J:nz l)(h:(fa p.vars lp l).1=0):LK p l:=by
 have A':=Dq A3 A1 l lp T H J h;exact⟨WA l (by omega) A',Gu l λx A2=>(A' x A2).2⟩
end
@[simp] def apo:vi Tryz.prog 97=some [.lit (.pointer none)]:=by kernel_rfl
def Ri(l:List Vr)(M:l.length<=1000)(O T U X5 V:aF)(Y Z y A' A0 A1:AV)(k:Kt)(Q:bS->Prop)
 (I:∀v1 v6 X6,Q (k (.exit 0) ⟨73,aB,[(3,true,.ptr 250 1 0),(6,true,.ptr 400 1 0),(8,true,.ptr 500 1 0),(40,true,.d (.list (l.map bF))),(41,true,.d (.int .i64 l.length)),(42,true,.d (.int .i64 l.length)),(43,true,.d (.bool false))],
  [⟨250,1,O⟩,⟨400,1,T⟩,⟨450,1,U⟩,⟨500,1,.box [.ptr 1100 1 0]⟩,⟨600,v6,X6⟩,⟨951,1,V⟩,⟨1100,1,.box [Y,Z,y,A',.vec 1101 v1 0 l.length,A0,A1]⟩,⟨1101,v1,.vec 1 (l.map J9)⟩]⟩)):
 ∀(rest pre:List Vr)(v1 v6:Nat)(X6:aF),l=pre++rest->Q (aL ctx 17 (.loop (Code.at (bh f17) [1,1,1,1,0,1,0,0])) ⟨73,aB,[(3,true,.ptr 250 1 0),(6,true,.ptr 400 1 0),(8,true,.ptr 500 1 0),(40,true,.d (.list (l.map bF))),(41,true,.d (.int .i64 l.length)),(42,true,.d (.int .i64 pre.length))],
  [⟨250,1,O⟩,⟨400,1,T⟩,⟨450,1,U⟩,⟨500,1,.box [.ptr 1100 1 0]⟩,⟨600,v6,X6⟩,⟨951,1,V⟩,⟨1100,1,.box [Y,Z,y,A',.vec 1101 v1 0 pre.length,A0,A1]⟩,⟨1101,v1,.vec 1 (pre.map J9)⟩]⟩ k)
 |[],pre,v1,v6,X6,J=>by
  have I:=I v1 v6 X6;simp at J;subst J;rw[ah];simp[f17,I]
 |v::r,pre,v1,v6,X6,J=>by
  have ih:=λv1 v6 X6=>Ri l M O T U X5 V Y Z y A' A0 A1 k Q I r (pre++[v]) v1 v6 X6 (by simp[J]);clear I;have AB:pre.length<l.length:=by rw[J];simp
  have AC:l[pre.length]=v:=by simp[J]
  have AD:=B0 v.ty;have AE:=b9 ((pre.length:Int)+1);have AF:pre.length+1<=4611686018427387904:=by omega
  have AG:(pre.length+1)*24<=140737488355328:=by omega
  have AH:pre.length+1<=281474976710656:=by omega
  rw[ah];simp[f17]at ih⊢;simp[AB,AC,bF,dK,AD,AE,AF,AG,AH,J9,ak]at ih⊢;apply ih
def acF(e:Int)(d0 d1 d2 d3:D)(n:Nat)(A2:List D)(C:List Int)(f:Nat):HO ctx 46 [.ptr 0 0 0,.ptr 1 0 0,.jG 101 (oz e)] [.box [.ptr 2 0 0],.box [.lit (.slice none 0 0),.d (.int .i64 0),.d (.int .i64 0)],.box [.d d0,.d d1,.d d2,.d d3,.vec 3 0 0 n,.vec 4 0 0 C.length,.d (.int .i64 f)],.vec 1 A2,.vec 1 (C.map jD)]=
 some (.ret (.bq []),[(0,.box [.ptr 2 0 0]),(0,.box [.vec 4 0 0 C.length,.d (.int .i64 e),.d (.int .i64 f)]),(0,.box [.d d0,.d d1,.d d2,.d d3,.vec 3 0 0 n,.vec 4 0 0 C.length,.d (.int .i64 f)]),(0,.vec 1 A2),(0,.vec 1 (C.map jD))]):=by
 rw[ad2 (by rfl) (by rfl) (by simp)];simp[f46];erw[Mq rfl];simp[oz,ak]
def agl(b f2:D)(d0 d1 d2 d3:D)(n:Nat)(A2:List D)(C:List Int)(f:Nat):HO ctx 46 [.ptr 0 0 0,.ptr 1 0 0,.lit .nilIface] [.box [.ptr 2 0 0],.box [.vec 3 0 0 C.length,.d b,.d f2],.box [.d d0,.d d1,.d d2,.d d3,.vec 4 0 0 n,.vec 3 0 0 C.length,.d (.int .i64 f)],.vec 1 (C.map jD),.vec 1 A2]=
 some (.ret (.bq []),[(0,.box [.ptr 2 0 0]),(0,.box [.vec 3 0 0 C.length,.d b,.d f2]),(0,.box [.d d0,.d d1,.d d2,.d d3,.vec 4 0 0 n,.vec 3 0 0 C.length,.d (.int .i64 f)]),(0,.vec 1 (C.map jD)),(0,.vec 1 A2)]):=by
 rw[ad2 (by rfl) (by rfl) (by simp)];simp[f46];erw[Mq rfl];simp
def ami{p:Pg}(A5:p.vars.length<=1000)(A8:∀v∈p.vars,dr v=true)(C:List Int)(f:Nat)(A3:gY p C)(AM:f<=16384)(AI:BK p p.body):aj ctx 17 [.d (q8 p),.d (.list (C.map jD)),.d (.int .i64 f)] []=
 some (.ret (.d (.agg [.list ((kG p C f).1.map jD),.int .i64 (kG p C f).2.1,.int .i64 (kG p C f).2.2])),[]):=by
 have M:=Lc p A5 A8;have A9:=nA C (by have:=A3.le;omega);have AJ:=A3.len;obtain⟨AN,H⟩:=AI C f A3 (by omega);have g1:¬((f:Int)<0):=by omega
 have g2:¬(16384<(f:Int)):=by omega
 have A4:=λO T U V Y Z y A' A0 A1 k Q I v1 v6 X6=>Ri p.vars A5 O T U .dead V Y Z y A' A0 A1 k Q I p.vars [] v1 v6 X6 rfl;have AK:=λe=>acF e;have AA:=agl;unfold kG;rw[ad0 (by simp)];simp[f17]at A4;simp[f17,rN,uQ,lf,LZ,M,A9,AJ,g1,g2,ak];generalize bX p.vars p.body ⟨C,f⟩=q at*;obtain⟨w,A6,A7⟩:=q;cases w with
 |ft e=>
  simp[iB]at H;refine A4 _ _ _ _ _ _ _ _ _ _ _ (λr=>r=some (.ret (.d (.agg [.list (A6.map jD),.int .i64 e,.int .i64 A7])),[])) (λv1 v6 X6=>?_) _ _ _;simp[f17,rN,uQ,lf,LZ,H,AK,ak]
 |on=>
  simp[iB,ix]at H;refine A4 _ _ _ _ _ _ _ _ _ _ _ (λr=>r=some (.ret (.d (.agg [.list (A6.map jD),.int .i64 0,.int .i64 A7])),[])) (λv1 v6 X6=>?_) _ _ _;simp[f17,rN,uQ,lf,LZ,H,AA,ak]
 |lv=>
  simp[iB,ix]at H;refine A4 _ _ _ _ _ _ _ _ _ _ _ (λr=>r=some (.ret (.d (.agg [.list (A6.map jD),.int .i64 0,.int .i64 A7])),[])) (λv1 v6 X6=>?_) _ _ _;simp[f17,rN,uQ,lf,LZ,H,AA,ak]
 |rt=>
  simp[iB,ix]at H;refine A4 _ _ _ _ _ _ _ _ _ _ _ (λr=>r=some (.ret (.d (.agg [.list (A6.map jD),.int .i64 0,.int .i64 A7])),[])) (λv1 v6 X6=>?_) _ _ _;simp[f17,rN,uQ,lf,LZ,H,AA,ak]
def acG{p:Pg}(A5:p.vars.length<=1000)(A8:∀v∈p.vars,dr v=true)(C:List Int)(f:Int)(A3:C.length<=100000)(AL:(¬(C.length:Int)=bW p.vars\/f<0)\/16384<f):aj ctx 17 [.d (q8 p),.d (.list (C.map jD)),.d (.int .i64 f)] []=
 some (.ret (.d (.agg [.list (C.map jD),.int .i64 0,.int .i64 (-1)])),[]):=by
 have M:=Lc p A5 A8;have A9:=nA C A3;rw[ad0 (by simp)];simp[f17,rN,uQ,lf,LZ,M,A9,AL,ak]
def acH(p:Pg)(A':p.vars.length<=1000)(A0:∀v∈p.vars,dr v=true)
 (J:aj ctx 32 [.d (q8 p)] []=some (.ret (.d (q8 (MB p))),[]))
 (M:Mk) (D:iX p M 0 (.ret (.bq [])) (aj ctx 31 [.ptr 0 0 0,.d (.list ((dW p.body).map bZ))] (iW p ⟨[],bW p.vars,0,[],[]⟩ 0))) (A3:M.out.length<99999990) (A1:M.lv.length<100000000) (O:Pl M.out.length M.lv):
 aj ctx 11 [.d (q8 p)] []=(if 4096<(((M.dp M.lv).put (ins 15 0 0 0 0) 0).out.length:Int)\/64<((M.dp M.lv).put (ins 15 0 0 0 0) 0).most then some (.ret (.bq [.d (.agg [.list [],.int .i64 0,.int .i64 0]),.d (.int .i64 13)]),[])else some (.ret (.bq [.d (.agg [.list (((M.dp M.lv).put (ins 15 0 0 0 0) 0).out.map cH),.int .i64 (bW p.vars),.int .i64 M.cells]),.d (.int .i64 0)]),[])):=by
 have A2:=Lc p A' A0;obtain⟨A4,a2,a3,D⟩:=D;have I:=ab7 p M 0 A1 (by omega) O;have T:(M.dp M.lv).out.length=M.out.length:=by
  have:∀(ps:List Int)(m:Mk),(m.dp ps).out.length=m.out.length:=by
   intro ps;induction ps with
   |nil=>intro m;rfl
   |cons i r ih=>intro m;rw[zq,ih,H7]
  exact this _ _
 obtain⟨A5,A6,A7,H⟩:=mD p (M.dp M.lv) 0 0 (ins 15 0 0 0 0) (by rw[T];omega) (by decide);rw[an6 (by simp)];simp[MB]at J;simp at D I;simp[ins]at H;have U:(M.dp M.lv).ex=M.ex:=rfl;have V:(M.dp M.lv).lv=M.lv:=rfl;have Y:(M.dp M.lv).most=M.most:=rfl;have Z:(M.dp M.lv).cells=M.cells:=rfl;simp[U,V,Y,Z]at I H;have y:((M.dp M.lv).put (ins 15 0 0 0 0) 0).cells=M.cells:=rfl;rw[<-y];simp only[ins]at H⊢;clear U V Y Z y T O;generalize M.dp M.lv=N at*;simp[f11,A2,J,D,I,H,ak];split<;>rename_i h<;>first|simp[h]|simp_all
end Go.Am
end
section
namespace Go.Am
open Go
set_option maxRecDepth 20000
set_option maxHeartbeats 4000000
def asF{x:ar}(h:x.op=9\/x.op=10->0<=x.a):nC 0 x=x:=by
 unfold nC;split
 .rename_i D;have:=h D;rw[ac1 this];obtain⟨op,a,b,n,m⟩:=x;simp
 .rfl
def asG{l:List ar}(h:∀x∈l,x.op=9\/x.op=10->0<=x.a):dE 0 l=l:=by
 unfold dE;exact (ama (g:=id) (λx H=>asF (h x H))).trans (List.map_id l)
def agm{l:List ar}(M:Jf false l):mr (dE 0 l) (dz (-2) 0 l) l.length=l.map (n8 l.length):=by
 have h:=wB (k:= -2) (to:=(l.length:Int)) (by decide) (by omega) 0 l [] [] 0 rfl;simp only[aeg,agV]at h;rw[show ((l.length:Int)+((0:Nat):Int))=(l.length:Int) by omega]at h;rw[h];have e:(λx=>kI (-2) (l.length:Int) x)=n8 (l.length:Int):=rfl;rw[show l.map (kI (-2) (l.length:Int))=l.map (n8 (l.length:Int))from rfl];refine asG (λx H D=>?_);obtain⟨y,O,rfl⟩:=adk.1 H;have I:=M y O;unfold n8 at D⊢;split
 .show 0<=(l.length:Int);omega
 .rename_i J;rw[aaf J]at D;rcases D with D|D
  .rcases I.2 D with h|h|h
   .exact h
   .exact absurd ⟨D,h⟩ J
   .exact absurd h.1 (by decide)
  .exact I.1 D
section
variable {vs:List Vr}
mutual
theorem Cb:∀x:Ex,(ai vs x).1.length<=fw (cm x)
 | .mk op n name field sub line=>by
  have H:=Li sub;have I:=Z9 sub;unfold ai;simp only[cm,fw,cq];split
  .simp only[ac5,ac7];omega
  .split
   .simp only[ac5,ac7];omega
   .split
    .simp only[ac5,ac7];omega
    .split
     .simp only[acY,ac5,ac7];omega
     .simp only[acY,ac5,ac7];omega
theorem Li:∀l:List Ex,(gO vs l).1.length<=cq (jq l)
 |[]=>by simp[gO]
 |[x]=>by
  have:=Cb x;simp only[gO,jq,cq];omega
 |x::y::r=>by
  have H:=Cb x;have I:=Li (y::r);simp only[jq,cq]at I;simp only[gO,jq,cq,acY]at I⊢;omega
theorem Z9:∀l:List Ex,(oQ vs l).length<=cq (jq l)
 |[]=>by simp[oQ]
 |x::r=>by
  have:=Cb x;simp only[oQ,jq,cq];omega
end
theorem amj(x:Ex):(ai vs x).1.length<=cq (BI x)+1:=by
 have:=Cb (vs:=vs) x;rw[B3]at this;exact this
theorem agn(x:Ex):(oQ vs (di x)).length<=cq (BI x):=by
 obtain⟨op,n,name,field,sub,line⟩:=x;have:=Z9 (vs:=vs) sub;simp only[BI,nZ,cq,fw];omega
end
def NY(x:Ex):7<=fw (cm x):=by
 obtain⟨op,n,name,field,sub,line⟩:=x;simp only[cm,fw,cq];omega
def aem(x:Ex):6<=cq (BI x):=by
 have:=NY x;rw[B3]at this;omega
def amk(n:Int)(t:Bool)(line:Int):fw (cm (nG n t line))<=14:=by
 unfold nG;split
 .simp[cm,jq,fw,cq]
 .split
  .simp[cm,jq,fw,cq]
  .simp[cm,jq,fw,cq]
def apq(x:Ex):fw (cm (nb x))<=fw (cm x):=by
 unfold nb;split
 .omega
 .split
  .omega
  .rename_i l M;split
   .omega
   .rename_i r T;split
    .omega
    .have hm:=λU=>amk r.1 r.2.1 U;obtain⟨op,n,name,field,sub,line⟩:=x;simp only[nZ]at M;cases sub with
     |nil=>
      simp only[qK,adl]at M;subst M;simp[E6]at T
     |cons y q=>
      have:=NY y;refine alB (hm _) ?_;simp only[cm,jq,fw,cq];omega
mutual
def aen:∀x:Ex,fw (cm (dF x))<=fw (cm x)
 | .mk op n name field sub line=>by
  have h:=Rk sub;have H:=apq (.mk op n name field (db sub) line);unfold dF;refine alB H ?_;simp only[cm,fw,cq];omega
def Rk:∀l:List Ex,cq (jq (db l))<=cq (jq l)
 |[]=>by simp[db]
 |x::r=>by
  have H:=aen x;have I:=Rk r;simp only[db,jq,cq];omega
end
def aeo(x:Ex):cq (BI (dF x))<=cq (BI x):=by
 have:=aen x;rw[B3,B3]at this;omega
mutual
def apr:∀x:Sm,fw (bZ (ur x))<=fw (bZ x)
 | .mk op name to val conds J fields blocks line=>by
  have H:=aeo to;have I:=aeo val;have O:=Rk conds;have V:=aaa blocks;simp only[ur,bZ,fw,cq,uW];omega
def Rm:∀l:List Sm,cq (pz (dW l))<=cq (pz l)
 |[]=>by simp[dW]
 |x::r=>by
  have H:=apr x;have I:=Rm r;simp only[dW,pz,cq];omega
def aaa:∀l:List (List Sm),cq (py (jt l))<=cq (py l)
 |[]=>by simp[jt]
 |b::r=>by
  have H:=Rm b;have I:=aaa r;simp only[jt,py,cq,fw];omega
end
def tY(l:List (List ar)):Nat:=(l.map λt=>t.length+1).sum
def NZ:∀(ts bs:List (List ar)),(cF ts bs).length<=tY ts+tY bs
 |[],[]=>by simp[cF]
 |_::_,[]=>by simp[cF]
 |[],b::r=>by
  have ih:=NZ [] r;rw[F8];simp only[tY,adz,alN,List.map_nil,List.sum_nil]at ih⊢;split
  .omega
  .simp only[ei,acY,ac5,ac7];omega
 |t::ts,b::r=>by
  have ih:=NZ ts r;rw[cF];simp only[tY,adz,alN]at ih⊢;generalize cF ts r=out at ih⊢;rw[ei];simp only[acY,ac5,ac7,mP];split
  .omega
  .simp only[acY,ac5,ac7];omega
def aab(c:Int):∀l:List Int,(dy c l).length<=l.length
 |[]=>by simp[dy]
 |[_]=>by simp[dy]
 |a::b::r=>by
  have:=aab c r;simp only[dy,ac5];omega
def aac(c:Int):∀l:List (List Int),tY (l.map λl=>ins 1 0 0 0 0::dy c l)<=2*cq (l.map jR)
 |[]=>by simp[tY]
 |x::r=>by
  have H:=aac c r;have I:=aab c x;have O:=aea x;have V:1+x.length<=fw (jR x):=by
   have:=De (λn=>D.int .i64 n) x;simp only[jR,fw];omega
  simp only[tY,adz,alN,cq,ac5]at H⊢;omega
section
variable {vs:List Vr}
theorem Ur:∀l:List Ex,tY (l.map λx=>(ai vs x).1)<=2*cq (jq l)
 |[]=>by simp[tY]
 |x::r=>by
  have H:=Ur r;have I:=Cb (vs:=vs) x;have O:=NY x;simp only[tY,adz,alN,jq,cq]at H⊢;omega
theorem Us(name:Tx):∀(fs:List Tx)(xs:List Ex),(dC vs name fs xs).length<=2*cq (jq xs)
 |[],xs=>by cases xs<;>simp[dC]
 |_::_,[]=>by simp[dC]
 |f::fs,x::xs=>by
  have H:=Us name fs xs;have I:=Cb (vs:=vs) x;have O:=NY x;simp only[dC,acY,ac5,jq,cq];omega
mutual
theorem aml:∀(s:Sm)(c:Int),(b8 vs s c).1.length+1<=2*fw (bZ s)
 | .mk op name to val conds J fields blocks line,c=>by
  have H:=λc=>Ut blocks c;have I:=λc=>amm blocks c;have Y:=aem to;have a2:=aem val;have a3:=amj (vs:=vs) val;have a4:=agn (vs:=vs) to;have a5:=Ur (vs:=vs) conds;have Z:=Li (vs:=vs) conds;have A':=Us (vs:=vs) name fields conds;simp only[bZ,fw,cq,uW];unfold b8;split
  .split
   .simp only[acY,ac5,ac7];omega
   .simp only[acY,ac5,ac7];omega
  .split
   .have q1:=H c;have q2:=NZ (conds.map λx=>(ai vs x).1) (ay vs blocks c).1;simp only;omega
   .split
    .have q1:=H (c+1);have q2:=NZ (J.map λl=>ins 1 0 0 0 0::dy c l) (ay vs blocks (c+1)).1;have q3:=aac c J;simp only[ei,acY,ac5,ac7];omega
    .split
     .have q1:=I (c+2);simp only[ei,lI,so,mP,acY,ac5,ac7];omega
     .split
      .have q1:=I c;simp only[iK,so,mP,acY,ac5,ac7];omega
      .split
       .have q1:=I c;simp only[mK,so,mP,acY,ac5,ac7];omega
       .split
        .simp only[ac5,ac7];omega
        .split
         .simp only[ac5,ac7];omega
         .simp only[acY,ac5,ac7];omega
theorem Gv:∀(l:List Sm)(c:Int),(ag vs l c).1.length<=2*cq (pz l)
 |[],c=>by simp[ag]
 |x::r,c=>by
  have H:=aml x c;have I:=Gv r (b8 vs x c).2;simp only[ag,pz,cq,ei,ac5,ac7];omega
theorem Ut:∀(l:List (List Sm))(c:Int),tY (ay vs l c).1<=2*cq (py l)
 |[],c=>by simp[ay,tY]
 |b::r,c=>by
  have H:=Gv b c;have I:=Ut r (ag vs b c).2;simp only[tY]at I;simp only[ay,py,cq,fw,tY,adz,alN];omega
theorem amm:∀(l:List (List Sm))(c:Int),(lJ vs l c).1.length<=2*cq (py l)
 |[],c=>by simp[lJ]
 |b::r,c=>by
  have H:=Gv b c;simp only[lJ,py,cq,fw];omega
end
end
mutual
def aps:∀s:Sm,B4 s<=fw (bZ s)
 | .mk op name to val conds J fields blocks line=>by
  have:=aad blocks;simp only[B4,bZ,fw,cq,uW];omega
def Rn:∀l:List Sm,kT l<=cq (pz l)
 |[]=>by simp[kT]
 |x::r=>by
  have H:=aps x;have I:=Rn r;simp only[kT,pz,cq];omega
def aad:∀l:List (List Sm),A8 l<=cq (py l)
 |[]=>by simp[A8]
 |b::r=>by
  have H:=Rn b;have I:=aad r;simp only[A8,py,cq,fw];omega
end
def WB(p:Pg){n:Nat}(h:fw (.agg [.str p.name,.list (p.vars.map bF),.list (p.body.map bZ)])<n):
 (∀c,(ag p.vars (dW p.body) c).1.length<2*n)/\kT (dW p.body)<n/\(dW p.body).length<n:=by
 simp only[fw,cq]at h;rw[<-BJ]at h;have A0:=Rm p.body;have H:=Rn (dW p.body);have I:=qn (pz (dW p.body));rw[H3]at I;refine⟨λc=>?_,by omega,by omega⟩;have:=Gv (vs:=p.vars) (dW p.body) c;omega
end Go.Am
end
section
namespace Go.Am
open Go Go.Proofs Go.Proofs.Tryz
variable [Inhabited bO]
set_option maxRecDepth 20000
set_option maxHeartbeats 4000000
def zv(o:Option (Int×Bool)):Out:=match o with|some c=>.ret (.bq [.d (.int .i64 c.1),.d (.bool c.2),.d (.bool true)])|none=>.ret (.bq [.d (.int .i64 0),.d (.bool false),.d (.bool false)])
def aae(n:Int)(t:Bool)(line:Int):aj ctx 175 [.d (.int .i64 n),.d (.bool t),.d (.int .i64 line)] []=some (.ret (.d (cm (nG n t line))),[]):=by
 rw[akj (by simp)];cases t with
 |true=>simp[f175,nG,cm,jq]
 |false=>
  by_cases h:0<=n
  .simp[f175,nG,cm,jq,h]
  .simp[f175,nG,cm,jq,h,z7]
def Gw(x:Ex):aj ctx 173 [.d (cm x)] []=some (zv (kQ x),[]):=by
 obtain⟨op,n,name,field,sub,line⟩:=x;rw[akh (by simp)];simp[f173,az];by_cases D:op=1
 .subst D;simp[kQ,zv]
 by_cases H:op=2
 .subst H;simp[kQ,zv]
 by_cases I:op=6
 .subst I;match sub with
  |[]=>simp[kQ,zv]
  |[y]=>
   by_cases J:bQ y=1
   .simp[kQ,zv,J,az,z7]
   .simp[kQ,zv,J,az]
  |y::z::r=>
   have M:¬((r.length:Int)+1+1=1):=by omega
   simp[kQ,zv,M]
 .simp[kQ,zv,D,H,I]
def At(y:Ex):Prop:=aj ctx 107 [.d (cm y)] []=some (.ret (.d (cm (dF y))),[])
def Ro(l:List Ex)(O:l.length<100000000)(A B:dn)(A5:A.key=150)(A6:B.key=200)(U V:aF)(k:Kt)(Q:List Ex->bS->Prop)
 (J:∀(Y:Env)(out:List Ex) v v3 D,Q out (k (.exit 0) ⟨105,aB,(1,true,.ptr 150 1 0)::(2,true,.ptr 200 1 0)::(3,true,.vec 250 v 0 out.length)::Y,[A,B,⟨250,v,.vec 6 (out.map cm)⟩,⟨350,v3,D⟩,⟨550,0,U⟩,⟨700,0,V⟩]⟩)):
 ∀(rest pre out:List Ex)(v v3:Nat)(D:aF),l=pre++rest->out.length=pre.length->(∀y∈rest,At y)->
 Q (out++db rest) (aL ctx 107 (.loop (Code.at (bh f107) [1,1,0,1,0,0])) ⟨105,aB,[(1,true,.ptr 150 1 0),(2,true,.ptr 200 1 0),(3,true,.vec 250 v 0 out.length),(20,true,.d (.list (l.map cm))),(21,true,.d (.int .i64 l.length)),(22,true,.d (.int .i64 pre.length))],[A,B,⟨250,v,.vec 6 (out.map cm)⟩,⟨350,v3,D⟩,⟨550,0,U⟩,⟨700,0,V⟩]⟩ k)
 |[],pre,out,v,v3,D,H,T,I=>by
  have Z:pre.length=l.length:=by rw[H];simp
  have:=J [(20,true,.d (.list (l.map cm))),(21,true,.d (.int .i64 l.length)),(22,true,.d (.int .i64 l.length)),(23,true,.d (.bool false))] out v v3 D;simp[db]at this⊢;rw[Z,ah];simp[f107,this]
 |x::rest,pre,out,v,v3,D,H,T,I=>by
  have A':pre.length<l.length:=by rw[H];simp
  have A0:l[pre.length]=x:=by simp[H]
  have M:=I x (by simp);unfold At at M;have ih:=λv v3 D=>Ro l O A B A5 A6 U V k Q J rest (pre++[x]) (out++[dF x]) v v3 D (by simp[H]) (by simp[T]) (λy A1=>I y (by simp[A1]));have A2:=b9 ((pre.length:Int)+1);have A3:out.length<=4611686018427387903:=by omega
  have A4:(out.length+1)*80<=140737488355328:=by omega
  have e:out++db (x::rest)=out++[dF x]++db rest:=by simp[db]
  rw[e,ah];generalize dF x=A8 at*;simp[f107,az]at ih M⊢;simp[A',A0,A5,A6,az,M,A2,A3,A4,ih]
def Rp(l:List Ex)(O:l.length<100000000)(k:Kt)(Q:List Ex->bS->Prop)
 (J:∀(Y:Env)(out:List Ex) v v3 D,Q out (k (.exit 0) ⟨19,aB,(3,true,.vec 250 v 0 out.length)::Y,[⟨250,v,.vec 6 (out.map cm)⟩,⟨350,v3,D⟩]⟩)):
 ∀(rest pre out:List Ex)(v v3:Nat)(D:aF),l=pre++rest->out.length=pre.length->(∀y∈rest,At y)->
 Q (out++db rest) (aL ctx 108 (.loop (Code.at (bh f108) [1,1,0,1,0,0])) ⟨19,aB,[(3,true,.vec 250 v 0 out.length),(6,true,.d (.list (l.map cm))),(7,true,.d (.int .i64 l.length)),(8,true,.d (.int .i64 pre.length))],[⟨250,v,.vec 6 (out.map cm)⟩,⟨350,v3,D⟩]⟩ k)
 |[],pre,out,v,v3,D,H,T,I=>by
  have Z:pre.length=l.length:=by rw[H];simp
  have:=J [(6,true,.d (.list (l.map cm))),(7,true,.d (.int .i64 l.length)),(8,true,.d (.int .i64 l.length)),(9,true,.d (.bool false))] out v v3 D;simp[db]at this⊢;rw[Z,ah];simp[f108,this]
 |x::rest,pre,out,v,v3,D,H,T,I=>by
  have A':pre.length<l.length:=by rw[H];simp
  have A0:l[pre.length]=x:=by simp[H]
  have M:=I x (by simp);unfold At at M;have ih:=λv v3 D=>Rp l O k Q J rest (pre++[x]) (out++[dF x]) v v3 D (by simp[H]) (by simp[T]) (λy A1=>I y (by simp[A1]));have A2:=b9 ((pre.length:Int)+1);have A3:out.length<=4611686018427387903:=by omega
  have A4:(out.length+1)*80<=140737488355328:=by omega
  have e:out++db (x::rest)=out++[dF x]++db rest:=by simp[db]
  rw[e,ah];generalize dF x=A8 at*;simp[f108,az]at ih M⊢;simp[A',A0,az,M,A2,A3,A4,ih]
def acI(l:List Ex)(O:l.length<100000000)(I:∀y∈l,At y):aj ctx 108 [.d (.list (l.map cm))] []=some (.ret (.d (.list ((db l).map cm))),[]):=by
 have A7:=λk Q J v v3 D=>Rp l O k Q J l [] [] v v3 D rfl rfl I;rw[ajQ (by simp)];simp[f108]at A7⊢;refine A7 _ (λout r=>out=db l->r=some (.ret (.d (.list ((db l).map cm))),[])) (λY out v v3 D h=>?_) _ _ _ rfl;subst h;simp
def asH{α:Type}{l:List α}(h:l.length=2):∃a b,l=[a,b]:=by
 match l,h with
 |[a,b],_=>exact⟨a,b,rfl⟩
def amn{op n line:Int}{name field:Tx}{sub:List Ex}(AF:sub.length<100000000)(A8:6<=op->sub.length=1\/sub.length=2)(AA:∀y∈sub,At y)(AB:∀y∈sub,∀c,kQ (dF y)=some c->bz c.1):At (.mk op n name field sub line):=by
 have A6:=λA B AG AH AI AJ k Q AK v v3 AE=>Ro sub AF A B AG AH AI AJ k Q AK sub [] [] v v3 AE rfl rfl AA;unfold At;have e:dF (.mk op n name field sub line)=nb (.mk op n name field (db sub) line):=by simp[dF]
 rw[e];have A2:∀y∈db sub,∀c,kQ y=some c->bz c.1:=by
  rw[lq];intro y D;obtain⟨z,M,rfl⟩:=adk.1 D;exact AB z M
 have AC:6<=op->(db sub).length=1\/(db sub).length=2:=by rw[lq];simpa using A8
 obtain⟨R,I⟩:∃R,R=cm (nb (.mk op n name field (db sub) line)):=⟨_,rfl⟩;rw[<-I,ajP (by simp)];simp[f107,az]at A6⊢;refine A6 _ _ ?_ ?_ _ _ _ (λout r=>out=db sub->r=some (.ret (.d R),[])) (λY out v v3 AE h=>?_) _ _ _ rfl
 .rfl
 .rfl
 subst h;generalize db sub=out at*;have A':=Gw (.mk op n name field out line);by_cases A0:op<6
 .have O:nb (.mk op n name field out line)=.mk op n name field out line:=by simp[nb,A0]
  rw[O]at I;subst I;simp[f107,A0,az]
 cases A3:kQ (.mk op n name field out line)with
 |some c=>
  have O:nb (.mk op n name field out line)=.mk op n name field out line:=by simp[nb,A3]
  rw[O]at I;subst I;rw[A3]at A';simp[az]at A';simp[f107,A0,az,A',zv]
 |none=>
  rw[A3]at A';rcases AC (by omega)with AL|AM
  .obtain⟨y,rfl⟩:=KY AL;have D:=Gw y;simp[az,zv]at A' D;simp[f107,A0,az,A'];rw[ah];cases U:kQ y with
   |none=>
    have O:nb (.mk op n name field [y] line)=.mk op n name field [y] line:=by simp[nb,qK,U]
    rw[O]at I;subst I;rw[U]at D;simp at D;simp[az,D]
   |some c=>
    obtain⟨a,t⟩:=c;have AD:bz a:=A2 y (by simp) _ U;have H:=tU t;have J:=A9 op a t AD;rw[U]at D;simp at D;have O:nb (.mk op n name field [y] line)=if (jl op a t).2.2≠0\/((jl op a t).2.1=false/\(jl op a t).1= -9223372036854775808)then .mk op n name field [y] line else nG (jl op a t).1 (jl op a t).2.1 line:=by
     simp[nb,qK,U,A3,E6,A0]
    rw[O]at I;generalize jl op a t=q at*;obtain⟨q1,q2,q3⟩:=q;have hm:=aae q1 q2 line;simp only at I J;have A4:(q3≠0/\R=cm (.mk op n name field [y] line))\/(q3=0/\q2=false/\q1= -9223372036854775808/\R=cm (.mk op n name field [y] line))\/(∃e,R=cm e/\q3=0/\q2=false/\q1≠ -9223372036854775808/\aj ctx 175 [.d (.int .i64 q1),.d (.bool q2),.d (.int .i64 line)] []=some (.ret (.d (cm e)),[]))\/(∃e,R=cm e/\q3=0/\q2=true/\aj ctx 175 [.d (.int .i64 q1),.d (.bool q2),.d (.int .i64 line)] []=some (.ret (.d (cm e)),[])):=by
     by_cases T:q3≠0\/(q2=false/\q1= -9223372036854775808)
     .rw[ac1 T]at I;rcases T with h|h
      .exact .inl ⟨h,I⟩
      .by_cases A5:q3=0
       .exact .inr (.inl ⟨A5,h.1,h.2,I⟩)
       .exact .inl ⟨A5,I⟩
     .rw[aaf T]at I;simp only[alp,not_and,alY]at T;cases q2 with
      |true=>exact .inr (.inr (.inr ⟨_,I,T.1,rfl,hm⟩))
      |false=>exact .inr (.inr (.inl ⟨_,I,T.1,rfl,T.2 rfl,hm⟩))
    clear I hm A2 AB AA A6 A8 AC;cases t
    .simp[cg]at H J;rcases A4 with ⟨V,I⟩|⟨rfl,rfl,rfl,I⟩|⟨e,rfl,rfl,rfl,Z,hm⟩|⟨e,rfl,rfl,rfl,hm⟩
     .subst I;simp[az,D,H,J,V];rw[ah];simp[az,D,H,J,V]
     .subst I;simp[az,D,H,J];rw[ah];simp[az,D,H,J]
     .simp[az]at hm;simp[az,D,H,J,Z,hm];rw[ah];simp[az,D,H,J,Z,hm]
     .simp[az]at hm;simp[az,D,H,J,hm];rw[ah];simp[az,D,H,J,hm]
    .simp[cg]at H J;rcases A4 with ⟨V,I⟩|⟨rfl,rfl,rfl,I⟩|⟨e,rfl,rfl,rfl,Z,hm⟩|⟨e,rfl,rfl,rfl,hm⟩
     .subst I;simp[az,D,H,J,V];rw[ah];simp[az,D,H,J,V]
     .subst I;simp[az,D,H,J];rw[ah];simp[az,D,H,J]
     .simp[az]at hm;simp[az,D,H,J,Z,hm];rw[ah];simp[az,D,H,J,Z,hm]
     .simp[az]at hm;simp[az,D,H,J,hm];rw[ah];simp[az,D,H,J,hm]
  .obtain⟨y,z,rfl⟩:=asH AM;have D:=Gw y;have M:=Gw z;simp[az,zv]at A' D M;simp[f107,A0,az,A'];rw[ah];cases U:kQ y with
   |none=>
    have O:nb (.mk op n name field [y,z] line)=.mk op n name field [y,z] line:=by simp[nb,qK,U]
    rw[O]at I;subst I;rw[U]at D;simp at D;simp[az,D]
   |some c=>
    obtain⟨a,t⟩:=c;have AD:bz a:=A2 y (by simp) _ U;have H:=tU t;rw[U]at D;simp at D;cases A1:kQ z with
    |none=>
     have O:nb (.mk op n name field [y,z] line)=.mk op n name field [y,z] line:=by simp[nb,qK,U,A1]
     rw[O]at I;subst I;rw[A1]at M;simp at M H;simp[az,D,H];rw[ah];simp[az,M]
    |some d=>
     obtain⟨b,u⟩:=d;have AN:bz b:=A2 z (by simp) _ A1;have hu:=tU u;rw[A1]at M;simp at M;by_cases A7:t=u
     .subst A7;have J:=rX op a b t AD AN;have O:nb (.mk op n name field [y,z] line)=if (gR op a b t).2.2≠0\/((gR op a b t).2.1=false/\(gR op a b t).1= -9223372036854775808)then .mk op n name field [y,z] line else nG (gR op a b t).1 (gR op a b t).2.1 line:=by
       simp[nb,qK,U,A1,A3,E6,A0]
      rw[O]at I;generalize gR op a b t=q at*;obtain⟨q1,q2,q3⟩:=q;have hm:=aae q1 q2 line;simp only at I J;have A4:(q3≠0/\R=cm (.mk op n name field [y,z] line))\/(q3=0/\q2=false/\q1= -9223372036854775808/\R=cm (.mk op n name field [y,z] line))\/(∃e,R=cm e/\q3=0/\q2=false/\q1≠ -9223372036854775808/\aj ctx 175 [.d (.int .i64 q1),.d (.bool q2),.d (.int .i64 line)] []=some (.ret (.d (cm e)),[]))\/(∃e,R=cm e/\q3=0/\q2=true/\aj ctx 175 [.d (.int .i64 q1),.d (.bool q2),.d (.int .i64 line)] []=some (.ret (.d (cm e)),[])):=by
       by_cases T:q3≠0\/(q2=false/\q1= -9223372036854775808)
       .rw[ac1 T]at I;rcases T with h|h
        .exact .inl ⟨h,I⟩
        .by_cases A5:q3=0
         .exact .inr (.inl ⟨A5,h.1,h.2,I⟩)
         .exact .inl ⟨A5,I⟩
       .rw[aaf T]at I;simp only[alp,not_and,alY]at T;cases q2 with
        |true=>exact .inr (.inr (.inr ⟨_,I,T.1,rfl,hm⟩))
        |false=>exact .inr (.inr (.inl ⟨_,I,T.1,rfl,T.2 rfl,hm⟩))
      clear I hm A2 AB AA A6 A8 AC;cases t
      .simp[cg]at H J;rcases A4 with ⟨V,I⟩|⟨rfl,rfl,rfl,I⟩|⟨e,rfl,rfl,rfl,Z,hm⟩|⟨e,rfl,rfl,rfl,hm⟩
       .subst I;simp[az,D,M,H,J,V];rw[ah];simp[az,D,M,H,J,V];rw[ah];simp[az,D,M,H,J,V]
       .subst I;simp[az,D,M,H,J];rw[ah];simp[az,D,M,H,J];rw[ah];simp[az,D,M,H,J]
       .simp[az]at hm;simp[az,D,M,H,J,Z,hm];rw[ah];simp[az,D,M,H,J,Z,hm];rw[ah];simp[az,D,M,H,J,Z,hm]
       .simp[az]at hm;simp[az,D,M,H,J,hm];rw[ah];simp[az,D,M,H,J,hm];rw[ah];simp[az,D,M,H,J,hm]
      .simp[cg]at H J;rcases A4 with ⟨V,I⟩|⟨rfl,rfl,rfl,I⟩|⟨e,rfl,rfl,rfl,Z,hm⟩|⟨e,rfl,rfl,rfl,hm⟩
       .subst I;simp[az,D,M,H,J,V];rw[ah];simp[az,D,M,H,J,V];rw[ah];simp[az,D,M,H,J,V]
       .subst I;simp[az,D,M,H,J];rw[ah];simp[az,D,M,H,J];rw[ah];simp[az,D,M,H,J]
       .simp[az]at hm;simp[az,D,M,H,J,Z,hm];rw[ah];simp[az,D,M,H,J,Z,hm];rw[ah];simp[az,D,M,H,J,Z,hm]
       .simp[az]at hm;simp[az,D,M,H,J,hm];rw[ah];simp[az,D,M,H,J,hm];rw[ah];simp[az,D,M,H,J,hm]
     .have O:nb (.mk op n name field [y,z] line)=.mk op n name field [y,z] line:=by simp[nb,qK,U,A1,E6,A7]
      rw[O]at I;subst I;cases t<;>cases u
      .exact absurd rfl A7
      .simp[cg]at H hu;simp[az,D,M,H,hu];rw[ah];simp[az,D,M,H,hu];rw[ah];simp[az,D,M,H,hu]
      .simp[cg]at H hu;simp[az,D,M,H,hu];rw[ah];simp[az,D,M,H,hu];rw[ah];simp[az,D,M,H,hu]
      .exact absurd rfl A7
def amo{vs:List Vr}{x:Ex}(D:bm x=true)(he:(aE vs x).e=0):∀y∈di x,(aE vs y).e=0:=by
 cases qN D he with
 |num h=>simp
 |qX h=>simp
 |var U A0 V=>simp
 |idx U A0 V Y O ty=>simpa using O
 |GY U V A6 D=>simp
 |one A1 Y O ty=>simpa using O
 |two A1 Y O A7 A2 ty A8=>simpa using ⟨O,A2⟩
mutual
def tZ{vs:List Vr}:∀x:Ex,bm x=true->dt x=true->(aE vs x).e=0->At x
 | .mk op n name field sub line,D,J,he=>by
  have M:=amo D he;simp only[nZ]at M;have A9:=D;simp only[bm,Ds,ac2]at D;simp only[dt,Ds]at J;have I:=D.2.1;unfold fe at I;have Z:=D.2.2.2.2;have A':=J.2;refine amn (by split at I<;>(try split at I)<;>omega) (λA3=>by
   by_cases h:op=4\/op=6\/op=7
   .rw[ac1 h]at I;exact .inl I
   .rw[aaf h,ac1 (by omega)]at I;exact .inr I) (Gx sub Z A' M) (λy H c A4=>?_)
  have T:=F7 y ((fT _).1 Z y H) ((oq _).1 A' y H) (M y H);have:=(YL A4 T.1 T.2.1 (by rw[T.2.2.1];exact M y H)).2;unfold bz;omega
def Gx{vs:List Vr}:∀l:List Ex,bI l=true->da l=true->(∀y∈l,(aE vs y).e=0)->∀y∈l,At y
 |[],_,_,_,y,H=>absurd H (adL)
 |x::r,D,J,he,y,H=>by
  simp only[bI,Ds]at D;simp only[da,Ds]at J;rcases ac4.1 H with h|h
  .rw[h];exact tZ x D.1 J.1 (he x (by simp))
  .exact Gx r D.2 J.2 (λz A5=>he z (by simp[A5])) y h
end
def lW{x:Ex}(h:ff x=true):At x:=by
 obtain⟨op,n,name,field,sub,line⟩:=x;have h:(decide (op=0)&&(decide (n=0)&&decide (name.length+field.length+sub.length=0)))=true:=h;simp only[Ds,ac2]at h;have M:sub=[]:=adf (by omega);have AA:=h.1;subst M;exact amn (by simp) (λA3=>by omega) (λy H=>absurd H (adL)) (λy H=>absurd H (adL))
def KG(b:List Sm):Prop:=aj ctx 61 [.d (.list (b.map bZ))] []=some (.ret (.d (.list ((dW b).map bZ))),[])
def KH(x:Sm):Prop:=aj ctx 107 [.d (cm (gm x))] []=some (.ret (.d (cm (dF (gm x)))),[])/\aj ctx 107 [.d (cm (dO x))] []=some (.ret (.d (cm (dF (dO x)))),[])/\aj ctx 108 [.d (.list ((b7 x).map cm))] []=some (.ret (.d (.list ((db (b7 x)).map cm))),[])/\(aP x).length<100000000/\∀b∈aP x,KG b
def Uv(l:List (List Sm))(V:l.length<100000000)(T Z U:Nat)(A':List D)(cs:List AV)(A4:∀v aq,cs.map (nV 400 v aq)=cs)(a9 A0 A1:D)(k:Kt)(Q:List (List Sm)->bS->Prop)
 (M:∀(Y:Env)(out:List (List Sm)) v,Q out (k (.exit 2) ⟨48,aB,(3,true,.vec 250 T 0 Z)::(5,true,.ptr 350 U 0)::(6,true,.d (.list (out.map dZ)))::(9,true,.d a9)::(10,true,.d A0)::(11,true,.d A1)::Y,[⟨250,T,.vec 19 A'⟩,⟨350,U,.box cs⟩,⟨400,v,.dead⟩]⟩)):
 ∀(rest pre out:List (List Sm))(v:Nat),l=pre++rest->out.length=pre.length->(∀b∈rest,KG b)->
 Q (out++jt rest) (aL ctx 61 (.loop (Code.at (bh f61) [1,1,0,1,0,0,1,1,0,0,1,1,1,0,1,0,0])) ⟨48,aB,[(3,true,.vec 250 T 0 Z),(5,true,.ptr 350 U 0),(6,true,.vec 400 v 0 out.length),(9,true,.d a9),(10,true,.d A0),(11,true,.d A1),(28,true,.d (.list (l.map dZ))),(29,true,.d (.int .i64 l.length)),(30,true,.d (.int .i64 pre.length))],[⟨250,T,.vec 19 A'⟩,⟨350,U,.box cs⟩,⟨400,v,.vec 1 (out.map dZ)⟩]⟩ k)
 |[],pre,out,v,H,A2,O=>by
  have A5:pre.length=l.length:=by rw[H];simp
  have:=M [(28,true,.d (.list (l.map dZ))),(29,true,.d (.int .i64 l.length)),(30,true,.d (.int .i64 l.length)),(31,true,.d (.bool false))] out (v+1);simp[jt]at this⊢;rw[A5,ah];simp[f61,A4,this]
 |b::rest,pre,out,v,H,A2,O=>by
  have A6:pre.length<l.length:=by rw[H];simp
  have A7:l[pre.length]=b:=by simp[H]
  have A8:=O b (by simp);unfold KG at A8;have ih:=λv=>Uv l V T Z U A' cs A4 a9 A0 A1 k Q M rest (pre++[b]) (out++[dW b]) v (by simp[H]) (by simp[A2]) (λy A9=>O y (by simp[A9]));have AA:=b9 ((pre.length:Int)+1);have AB:out.length<=4611686018427387903:=by omega
  have AC:(out.length+1)*24<=140737488355328:=by omega
  have e:out++jt (b::rest)=out++[dW b]++jt rest:=by simp[jt]
  rw[e,ah];generalize dW b=AN at*;simp[f61,dZ]at ih A8⊢;simp[A6,A7,dZ,A8,AA,AB,AC,ih]
def Uw(l:List Sm)(V:l.length<100000000)(k:Kt)(Q:List Sm->bS->Prop)
 (M:∀(Y:Env)(out:List Sm) v v3 I v4 J,Q out (k (.exit 0) ⟨48,aB,(3,true,.vec 250 v 0 out.length)::Y,[⟨250,v,.vec 19 (out.map bZ)⟩,⟨350,v3,I⟩,⟨400,v4,J⟩]⟩)):
 ∀(rest pre out:List Sm)(v v3:Nat)(I:aF)(v4:Nat)(J:aF),l=pre++rest->out.length=pre.length->(∀x∈rest,KH x)->
 Q (out++dW rest) (aL ctx 61 (.loop (Code.at (bh f61) [1,1,0,1,0,0])) ⟨48,aB,[(3,true,.vec 250 v 0 out.length),(9,true,.d (.list (l.map bZ))),(10,true,.d (.int .i64 l.length)),(11,true,.d (.int .i64 pre.length))],[⟨250,v,.vec 19 (out.map bZ)⟩,⟨350,v3,I⟩,⟨400,v4,J⟩]⟩ k)
 |[],pre,out,v,v3,I,v4,J,H,A2,O=>by
  have A5:pre.length=l.length:=by rw[H];simp
  have:=M [(9,true,.d (.list (l.map bZ))),(10,true,.d (.int .i64 l.length)),(11,true,.d (.int .i64 l.length)),(12,true,.d (.bool false))] out v v3 I v4 J;simp[dW]at this⊢;rw[A5,ah];simp[f61,this]
 |x::rest,pre,out,v,v3,I,v4,J,H,A2,O=>by
  have A6:pre.length<l.length:=by rw[H];simp
  have A7:l[pre.length]=x:=by simp[H]
  obtain⟨AD,AE,AF,AH,AI⟩:=O x (by simp);have ih:=λv v3 I v4 J=>Uw l V k Q M rest (pre++[x]) (out++[ur x]) v v3 I v4 J (by simp[H]) (by simp[A2]) (λy A9=>O y (by simp[A9]));have A3:=λT Z U A' cs A4 a9 A0 A1 k Q M v=>Uv (aP x) AH T Z U A' cs A4 a9 A0 A1 k Q M (aP x) [] [] v rfl rfl AI;have AA:=b9 ((pre.length:Int)+1);have AB:out.length<=4611686018427387903:=by omega
  have AC:(out.length+1)*288<=140737488355328:=by omega
  have e:out++dW (x::rest)=out++[ur x]++dW rest:=by simp[dW]
  have AJ:bZ (ur x)=.agg [.int .i64 (bG x),.str (gk x),.int .i64 (bQ (dF (gm x))),.int .i64 (iS (dF (gm x))),.str (eh (dF (gm x))),.str (ic (dF (gm x))),.list ((di (dF (gm x))).map cm),.int .i64 (lQ (dF (gm x))),.int .i64 (bQ (dF (dO x))),.int .i64 (iS (dF (dO x))),.str (eh (dF (dO x))),.str (ic (dF (dO x))),.list ((di (dF (dO x))).map cm),.int .i64 (lQ (dF (dO x))),.list ((db (b7 x)).map cm),.list ((dq x).map jR),.list ((dP x).map .str),.list ((jt (aP x)).map dZ),.int .i64 (n6 x)]:=by
   obtain⟨op,name,to,val,conds,AO,fields,blocks,line⟩:=x;rw[bU];simp[ur,bG,gk,gm,dO,b7,dq,dP,aP,n6]
  rw[e,ah];have AK:(bZ (ur x)).size=19:=by rw[bU];simp
  generalize ur x=AL at*;generalize dF (gm x)=t at*;generalize dF (dO x)=w at*;generalize db (b7 x)=AP at*;simp[f61]at ih A3⊢;simp[az]at AD AE AF;simp[A6,A7,bU x,az,AD,AE,AF,ak];refine A3 _ _ _ _ _ ?_ _ _ _ _ (λAG r=>AG=jt (aP x)->Q (out++AL::dW rest) r) (λY AG AQ AM=>?_) _ rfl
  .intro v aq;simp
  subst AM;simp[f61,AA,AB,AC,<-AJ,AK,ih]
def Ij(l:List Sm)(V:l.length<100000000)(O:∀x∈l,KH x):KG l:=by
 have A3:=λk Q M v v3 I v4 J=>Uw l V k Q M l [] [] v v3 I v4 J rfl rfl O;unfold KG;rw[aou (by simp)];simp[f61]at A3⊢;refine A3 _ (λout r=>out=dW l->r=some (.ret (.d (.list ((dW l).map bZ))),[])) (λY out v v3 I v4 J h=>?_) _ _ _ _ _ rfl;subst h;simp
def apt{vs:List Vr}{lp:Bool}{x:Sm}(I:j9 x=true)(H:ka x=true)(h:(lA vs lp x).1=0)(D:DO x)(A':∀(lp:Bool) (cs:List Ex),cu (aP x)=true->fJ (aP x)=true->(fj vs lp cs (aP x)).1=0->pD (aP x)->∀b∈aP x,KG b):KH x:=by
 have AE:(At (gm x)/\At (dO x))/\(∀c∈b7 x,At c)/\∀b∈aP x,KG b:=by
  have AF:dt (gm x)=true/\dt (dO x)=true/\da (b7 x)=true/\fJ (aP x)=true:=by
   obtain⟨op,name,to,val,conds,A9,fields,blocks,line⟩:=x;simp only[ka,Ds]at H;exact⟨H.1,H.2.1,H.2.2.1,H.2.2.2.2⟩
  have A0:pD (aP x):=by
   obtain⟨op,name,to,val,conds,A9,fields,blocks,line⟩:=x;simp only[DO]at D;exact D.2
  obtain⟨AG,A6,Z,A1⟩:=AF;cases BU I h with
  |Tc J AB A7 ft AH V AI AC=>exact⟨⟨tZ _ ft AG AH,tZ _ V A6 AI⟩,by simp[b7],by simp[aP]⟩
  |Td J O AA Y M A2 T hh=>
   exact⟨⟨lW J,lW O⟩,Gx _ AA Z (λc A8=>(fM (sN M hh c A8)).1),A' _ _ T A1 hh A0⟩
  |Tf J V A3 M A2 AW T hh=>exact⟨⟨lW J,tZ _ V A6 (fM A3).1⟩,by simp[b7],A' _ _ T A1 hh A0⟩
  |Tg D J O AB A7 AX AC AJ AK AL AM AN AO T hh=>
   simp only[b7,da,Ds]at Z;refine⟨⟨lW J,lW O⟩,?_,A' true [] (by simpa [aP,cu]using T) A1 (by simp[aP,fj,gS,hh]) A0⟩;intro c A8;simp only[b7,ac4,adL,apQ]at A8;rcases A8 with rfl|rfl|rfl
   .exact tZ _ AJ Z.1 (fM AK).1
   .exact tZ _ AL Z.2.1 (fM AM).1
   .exact tZ _ AN Z.2.2.1 (fM AO).1
  |Th J V A3 T hh=>exact⟨⟨lW J,tZ _ V A6 (fM A3).1⟩,by simp[b7],A' true [] (by simpa [aP,cu]using T) A1 (by simp[aP,fj,gS,hh]) A0⟩
  |rep J V A3 T hh=>exact⟨⟨lW J,tZ _ V A6 (fM A3).1⟩,by simp[b7],A' true [] (by simpa [aP,cu]using T) A1 (by simp[aP,fj,gS,hh]) A0⟩
  |ext J O AY=>exact⟨⟨lW J,lW O⟩,by simp[b7],by simp[aP]⟩
  |ret J O=>exact⟨⟨lW J,lW O⟩,by simp[b7],by simp[aP]⟩
  |Ti AZ J O AB AC AA AP A_ hh=>exact⟨⟨lW J,lW O⟩,Gx _ AA Z (yf _ _ [] AP hh),by simp[aP]⟩
 have AD:(b7 x).length<100000000/\(aP x).length<100000000:=by
  obtain⟨op,name,to,val,conds,A9,fields,blocks,line⟩:=x;simp only[DO]at D;exact⟨D.1.2.2.1.1,D.1.2.2.2.2.2⟩
 obtain⟨⟨AQ,AR⟩,AS,AT⟩:=AE;refine⟨?_,?_,?_,AD.2,AT⟩
 .exact AQ
 .exact AR
 .exact acI _ AD.1 AS
mutual
def amp{vs:List Vr}:∀(x:Sm)(lp:Bool),j9 x=true->ka x=true->(lA vs lp x).1=0->DO x->KH x
 | .mk op name to val conds A9 fields blocks line,lp,I,H,h,D=>apt I H h D (λlp cs Y M A2 AU=>Ik blocks lp cs Y M A2 AU)
def Dr{vs:List Vr}:∀(l:List Sm)(lp:Bool),eA l=true->gN l=true->(fa vs lp l).1=0->nz l->∀x∈l,KH x
 |[],_,_,_,_,_,x,A4=>absurd A4 (adL)
 |y::r,lp,I,H,h,D,x,A4=>by
  simp only[eA,Ds]at I;simp only[gN,Ds]at H;simp only[fa]at h;simp only[nz]at D;obtain⟨Y,M⟩:=bM.1 h;rcases ac4.1 A4 with A5|A4
  .rw[A5];exact amp y lp I.1 H.1 Y D.1
  .exact Dr r lp I.2 H.2 M D.2 x A4
def Ik{vs:List Vr}:∀(l:List (List Sm))(lp:Bool)(cs:List Ex),cu l=true->fJ l=true->(fj vs lp cs l).1=0->pD l->∀b∈l,KG b
 |[],_,_,_,_,_,_,b,U=>absurd U (adL)
 |y::r,lp,[],I,H,h,D,b,U=>by
  simp only[cu,Ds]at I;simp only[fJ,Ds]at H;simp only[fj]at h;simp only[pD]at D;obtain⟨Y,M⟩:=bM.1 h;rcases ac4.1 U with A5|U
  .rw[A5];exact Ij y D.1.1 (Dr y lp I.1 H.1 Y D.1.2)
  .exact Ik r lp [] I.2 H.2 M D.2 b U
 |y::r,lp,c::cs,I,H,h,D,b,U=>by
  simp only[cu,Ds]at I;simp only[fJ,Ds]at H;simp only[fj]at h;simp only[pD]at D;obtain⟨Y,M⟩:=bM.1 h;obtain⟨M,A2⟩:=bM.1 M;rcases ac4.1 U with A5|U
  .rw[A5];exact Ij y D.1.1 (Dr y lp I.1 H.1 M D.1.2)
  .exact Ik r lp cs I.2 H.2 A2 D.2 b U
end
def ago{p:Pg}{lp:Bool}(AV:p.body.length<100000000)(I:eA p.body=true)(H:gN p.body=true)(h:(fa p.vars lp p.body).1=0)(D:nz p.body):aj ctx 32 [.d (q8 p)] []=some (.ret (.d (q8 (MB p))),[]):=by
 have A7:=Ij p.body AV (Dr p.body lp I H h D);unfold KG at A7;rw[aoh (by simp)];simp[f32,A7,MB]
structure Dt(p:Pg):Prop where
 fit:lH p=true
 lit:gN p.body=true
 Nb:(lB p).1=0
 lw:fw (q8 p)<10000000
def Ki{p:Pg}(h:lH p=true):p.vars.length<=64/\(∀v∈p.vars,dr v=true)/\eA p.body=true:=by
 simp only[lH,Ds,adp,ac2]at h;exact h.2
def Hd{p:Pg}(h:(lB p).1=0):(fa p.vars false p.body).1=0:=(bM.1 h).2
def amq{p:Pg}(h:Dt p)(T:bJ (dW p.body)<=64):Jf false (ag p.vars (dW p.body) (bW p.vars)).1:=by
 have H:=(Fi h.fit h.lit h.Nb T).1;intro x I;by_cases J:0<=x.a
 .exact⟨λ_=>J,λ_=>.inl J⟩
 .refine⟨λU=>?_,λV=>?_⟩
  .have:=(H.out x I (.inr U) (by omega)).1;omega
  .rcases (H.out x I (.inl V) (by omega)).2 with e|⟨e,_⟩
   .exact .inr (.inl e)
   .cases e
def acJ{p:Pg}(h:Dt p):aj ctx 32 [.d (q8 p)] []=some (.ret (.d (q8 (MB p))),[]):=by
 obtain⟨Y,Z,A4⟩:=Df (p:=p) (by have:=h.lw;simp only[q8]at this;omega);exact ago (lp:=false) Y (Ki h.fit).2.2 h.lit (Hd h.Nb) Z
def cdD:Option (List ar×Int×Int)->D
 |none=>.agg [.list [],.int .i64 0,.int .i64 0]
 |some g=>.agg [.list (g.1.map cH),.int .i64 g.2.1,.int .i64 g.2.2]
def cdE:Option (List ar×Int×Int)->Int
 |none=>13
 |some _=>0
def acK{p:Pg}(h:Dt p):aj ctx 11 [.d (q8 p)] []=some (.ret (.bq [.d (cdD (sn p)),.d (.int .i64 (cdE (sn p)))]),[]):=by
 obtain⟨f1,f2,f3⟩:=Ki h.fit;obtain⟨y,A5,A6⟩:=WB p h.lw;have M:=sK false p.body f3 h.lit (Hd h.Nb);have A':=af6 (p:=p) (by omega) f2 M.1 M.2.2;have A0:=C8 p.vars (λv A1=>qq (f2 v A1));have A7:=wF p.vars [] 0 (by omega) (bM.1 h.Nb).1;have A8:=rT (vs:=p.vars) (dW p.body) (bW p.vars);have q1:=y (bW p.vars);have A2:=A' ⟨[],bW p.vars,0,[],[]⟩ (al4 _) A0 ⟨by simp,by simp⟩ (by simp) (by simp only[ac7];omega) (by simp only;omega) (by simp only[ac7];omega);have A9:(0:Nat)+(ag p.vars (dW p.body) (bW p.vars)).1.length=(ag p.vars (dW p.body) (bW p.vars)).1.length:=by omega
 have AA:=u7 (-2) (ag p.vars (dW p.body) (bW p.vars)).1 0;have A3:=acH p (by omega) f2 (acJ h) _ A2 (by simp[Mk.aX];omega) (by simp[Mk.aX];omega) (by
  intro i hi;simp only[Mk.aX,aeg,acY,ac7,qO]at hi⊢;obtain⟨j,e,AB⟩:=Ft _ _ _ i hi;exact⟨j,e,by omega⟩)
 rw[A3];simp only[Mk.aX,Mk.dp,Mk.put,aeg,acY,ac7,qO,ac5,JH,agT];unfold sn;simp only
 by_cases O:4096<(ag p.vars (dW p.body) (bW p.vars)).1.length+1\/64<bJ (dW p.body)
 .rw[ac1 O,ac1 (by omega)];rfl
 .rw[aaf O,aaf (by omega),agm (amq h (by omega))];rfl
def Kj(s:Tx)(l:List Vr)(M:l.length<1000000)(k:Kt)(RF:Option Vr->bS)
 (D:∀w v,k .ret ⟨25,aB,[(4,true,.ptr 300 v 0),(5,true,.d (.bool true))],[⟨300,v,jA w⟩]⟩=RF (some w))
 (H:∀(v:Nat)(b c:AV),k (.exit 0) ⟨25,aB,[(0,true,.d (.list (l.map bF))),(1,true,.d (.str s)),(4,true,.ptr 300 v 0),(6,true,b),(10,true,c)],[⟨300,v,jA xu⟩]⟩=RF none):∀(rest pre:List Vr)(v:Nat),l=pre++rest->
 aL ctx 27 (.loop (Code.at (bh f27) [1,0,1,0,0])) ⟨25,aB,[(0,true,.d (.list (l.map bF))),(1,true,.d (.str s)),(4,true,.ptr 300 v 0),(6,true,.d (.int .i64 pre.length))],[⟨300,v,jA xu⟩]⟩ k=RF (bj rest s)
 |[],pre,v,I=>by
  have Y:pre.length=l.length:=by rw[I];simp
  simp only[jA,xu]at H;rw[Y,ah];simp[f27,H,bj,xu]
 |x::rest,pre,v,I=>by
  have U:pre.length<l.length:=by rw[I];simp
  have V:l[pre.length]=x:=by simp[I]
  have ih:=Kj s l M k RF D H rest (pre++[x]) v (by simp[I]);have O:=b9 ((pre.length:Int)+1);have D:=D x;simp only[jA]at D;rw[ah];by_cases T:x.name=s
  .simp only[T]at D;simp[f27,xu];simp[U,V,bF,dK,T,D,bj]
  .simp[f27,xu]at ih⊢;simp[U,V,bF,dK,T,O,ih,bj]
def qT{vs:List Vr}(M:vs.length<1000000)(s:Tx):aj ctx 27 [.d (.list (vs.map bF)),.d (.str s)] []=some (.ret (.bq [.d (bF (fV vs s)),.d (.bool (bj vs s).isSome)]),[]):=by
 have h:=λk RF D H v=>Kj s vs M k RF D H vs [] v rfl;rw[aoc (by simp)];unfold fV;simp[f27,xu]at h⊢;rw[h _ (λo=>some (.ret (.bq [.d (bF (o.getD xu)),.d (.bool o.isSome)]),[]))]
 .simp[xu]
 .intro w v;simp[bF,dK]
 .intro v b c;simp[bF,dK,xu]
def acL{w:Vr}(Z:w.arr=true->0<=w.lo/\w.lo<=w.hi/\w.hi<=255):aj ctx 28 [.d (.agg (dK w))] []=some (.ret (.d (.int .i64 (cB w))),[]):=by
 have y:=TH w.ty;rw[aod (by simp)];unfold cB;cases J:w.arr with
 |true=>
  have A0:=Z J;have O:=b9 (w.hi-w.lo);have A':=b9 (w.hi-w.lo+1);simp[f28,dK,J,O,A']
 |false=>
  by_cases H:2<w.ty
  .simp[f28,dK,J,H,y]
  .simp[f28,dK,J,H]
def He(p:Pn):aF:=.box [.d (.str p.name),.d (.int .i64 p.ty),.d (.bool p.Mv)]
def Nc(s:Tx)(l:List Pn)(V:l.length<1000000)(k:Kt)(RF:Option Pn->bS)
 (D:∀w v,k .ret ⟨32,aB,[(4,true,.ptr 300 v 0),(5,true,.d (.bool true))],[⟨300,v,He w⟩]⟩=RF (some w))
 (I:∀(v:Nat)(b c:AV),k (.exit 0) ⟨32,aB,[(1,true,.d (.str s)),(4,true,.ptr 300 v 0),(6,true,.d (.list (l.map gz))),(7,true,b),(13,true,c)],[⟨300,v,He Ag⟩]⟩=RF none):∀(rest pre:List Pn)(v:Nat),l=pre++rest->
 aL ctx 161 (.loop (Code.at (bh f161) [1,1,0,1,0,0])) ⟨32,aB,[(1,true,.d (.str s)),(4,true,.ptr 300 v 0),(6,true,.d (.list (l.map gz))),(7,true,.d (.int .i64 pre.length))],[⟨300,v,He Ag⟩]⟩ k=RF (C0 rest s)
 |[],pre,v,J=>by
  have y:pre.length=l.length:=by rw[J];simp
  simp only[He,Ag]at I;rw[y,ah];simp[f161,He,I,C0,Ag]
 |x::rest,pre,v,J=>by
  have M:pre.length<l.length:=by rw[J];simp
  have Y:l[pre.length]=x:=by simp[J]
  have ih:=Nc s l V k RF D I rest (pre++[x]) v (by simp[J]);have Z:=b9 ((pre.length:Int)+1);have D:=D x;simp only[He]at D;rw[ah];by_cases O:s=[]
  .simp only[O]at ih⊢;simp[f161,He,Ag]at ih⊢;simp[M,Z,ih,C0]
  .by_cases U:x.name=s
   .simp only[U]at D;simp[f161,He,Ag];simp[M,Y,gz,U,O,D,C0]
   .simp[f161,He,Ag]at ih⊢;simp[M,Y,gz,U,O,Z,ih,C0]
def aag(q:Int)(s:Tx):aj ctx 161 [.d (.int .i64 q),.d (.str s)] []=some (.ret (.bq [.d (gz (fP q s)),.d (.bool (mn q s).isSome)]),[]):=by
 have V:=wm q;have A':=TH q;have h:=λk RF D I v=>Nc s (dQ q) (by omega) k RF D I (dQ q) [] v rfl;rw[aj7 (by simp)];unfold fP mn;simp[f161,He,Ag]at h⊢;simp[A'];rw[h _ (λo=>some (.ret (.bq [.d (gz (o.getD Ag)),.d (.bool o.isSome)]),[]))]
 .simp[Ag]
 .intro w v;simp[gz]
 .intro v b c;simp[gz,Ag]
def fO(t:Te):AV:=.bq [.d (.int .i64 t.t),.d (.agg [.int .i64 t.e,.int .i64 t.line])]
def RT(vs:List Vr)(x:Ex):Prop:=aj ctx 94 [.d (.list (vs.map bF)),.d (.agg [.int .i64 (bQ x),.int .i64 (iS x),.str (eh x),.str (ic x),.list ((di x).map cm),.int .i64 (lQ x)])] []=some (.ret (fO (aE vs x)),[])
def eN(e:EL):AV:=.d (.agg [.int .i64 e.1,.int .i64 e.2])
def Kk(vs:List Vr)(x:Ex)(t:Int):EL:=if (aE vs x).e=0/\(aE vs x).t≠t then (10,lQ x)else ((aE vs x).e,(aE vs x).line)
def Il{vs:List Vr}{x:Ex}(h:RT vs x):aj ctx 162 [.d (.list (vs.map bF)),.d (.agg [.int .i64 (bQ x),.int .i64 (iS x),.str (eh x),.str (ic x),.list ((di x).map cm),.int .i64 (lQ x)])] []=some (.ret (eN (Kk vs x 1)),[]):=by
 unfold RT at h;rw[aj8 (by simp)];unfold Kk;generalize aE vs x=T at*;by_cases H:T.e=0
 .by_cases D:T.t=1
  .simp[f162,fO,eN,H,D,h]
  .simp[f162,fO,eN,H,D,h]
 .simp[f162,fO,eN,H,h]
def vd{vs:List Vr}{x:Ex}(t:Int)(h:RT vs x):aj ctx 95 [.d (.list (vs.map bF)),.d (.agg [.int .i64 (bQ x),.int .i64 (iS x),.str (eh x),.str (ic x),.list ((di x).map cm),.int .i64 (lQ x)]),.d (.int .i64 t)] []=some (.ret (eN (Kk vs x t)),[]):=by
 unfold RT at h;rw[aoI (by simp)];unfold Kk;generalize aE vs x=T at*;by_cases H:T.e=0
 .by_cases D:T.t=t
  .simp[f95,fO,eN,H,D,h]
  .simp[f95,fO,eN,H,D,h]
 .simp[f95,fO,eN,H,h]
section
variable {vs:List Vr} (O:vs.length<1000000) (A2:∀v∈vs,dr v=true)
theorem amt{op nn line:Int}{name field:Tx}{sub:List Ex}(h:op=1\/op=2):RT vs (.mk op nn name field sub line):=by
 unfold RT;rw[iG (by simp)];have e:aE vs (.mk op nn name field sub line)=gA op:=by
  unfold aE;rw[ac1 h]
 rw[e];rcases h with h|h<;>subst h<;>simp[f94,fO,gA]
include O in
theorem aah{nn line:Int}{name field:Tx}{sub:List Ex}:RT vs (.mk 5 nn name field sub line):=by
 unfold RT;have D:=qT (vs:=vs) O name;rw[iG (by simp)];have e:aE vs (.mk 5 nn name field sub line)=(match bj vs name with
  |none=>du 9 line
  |some v=>(if v.ty<=2 then du 10 line else match mn v.ty field with
   |none=>du 9 line
   |some p=>gA p.ty)):=by
  unfold aE;rw[aaf (by decide),ac1 (by decide)];rfl
 rw[e];cases M:bj vs name with
 |none=>
  simp[M,fV,bF,dK,xu]at D;simp[f94,fO,du,D,ak]
 |some v=>
  have Z:=aag v.ty field;simp[M,fV,bF,dK]at D;by_cases H:v.ty<=2
  .simp[f94,fO,du,D,ak,H]
  .cases A':mn v.ty field with
   |none=>
    simp[A',fP,gz,Ag]at Z;simp[f94,fO,du,D,ak,H,Z,A']
   |some p=>
    simp[A',fP,gz]at Z;simp[f94,fO,gA,D,ak,H,Z,A']
include O in
theorem agp{nn line:Int}{name field:Tx}{v:Vr}{y:Ex}{T:Te}(M:bj vs name=some v)(I:v.arr=true)(H:¬2<v.ty)(U:RT vs y)(Y:aE vs y=T)(J:T.e=0)(V:T.t=1):aj ctx 94 [.d (.list (vs.map bF)),.d (.agg [.int .i64 4,.int .i64 nn,.str name,.str field,.list ([y].map cm),.int .i64 line])] []=some (.ret (fO (gA v.ty)),[]):=by
 have D:=qT (vs:=vs) O name;have hi:=Il U;unfold Kk eN at hi;rw[Y]at hi;clear Y U;rw[iG (by simp)];simp[M,fV,bF,dK]at D;simp[J,V]at hi;simp[f94,fO,gA,du,D,ak,I,H,az,hi,J,V]
include O in
theorem agq{nn line:Int}{name field:Tx}{v:Vr}{y:Ex}{T:Te}(M:bj vs name=some v)(I:v.arr=true)(H:¬2<v.ty)(U:RT vs y)(Y:aE vs y=T)(J:T.e=0)(V:¬T.t=1):aj ctx 94 [.d (.list (vs.map bF)),.d (.agg [.int .i64 4,.int .i64 nn,.str name,.str field,.list ([y].map cm),.int .i64 line])] []=some (.ret (fO (du 10 (lQ y))),[]):=by
 have D:=qT (vs:=vs) O name;have hi:=Il U;unfold Kk eN at hi;rw[Y]at hi;clear Y U;rw[iG (by simp)];simp[M,fV,bF,dK]at D;simp[J,V]at hi;simp[f94,fO,gA,du,D,ak,I,H,az,hi,J,V]
include O in
theorem agr{nn line:Int}{name field:Tx}{v:Vr}{y:Ex}{T:Te}(M:bj vs name=some v)(I:v.arr=true)(H:¬2<v.ty)(U:RT vs y)(Y:aE vs y=T)(J:¬T.e=0):aj ctx 94 [.d (.list (vs.map bF)),.d (.agg [.int .i64 4,.int .i64 nn,.str name,.str field,.list ([y].map cm),.int .i64 line])] []=some (.ret (fO (du T.e T.line)),[]):=by
 have D:=qT (vs:=vs) O name;have hi:=Il U;unfold Kk eN at hi;rw[Y]at hi;clear Y U;rw[iG (by simp)];simp[M,fV,bF,dK]at D;simp[J]at hi;simp[f94,fO,gA,du,D,ak,I,H,az,hi,J]
include O in
theorem ags{op nn line:Int}{name field:Tx}{sub:List Ex}(h:op=3\/op=4)(A0:op=4->∃y,sub=[y]/\RT vs y):RT vs (.mk op nn name field sub line):=by
 unfold RT;have D:=qT (vs:=vs) O name;have e:aE vs (.mk op nn name field sub line)=(match bj vs name with
  |none=>du 9 line
  |some v=>if v.arr≠decide (op=4)\/2<v.ty then du 10 line else if op=4 then BN vs v.ty sub else gA v.ty):=by
  conv=>lhs;unfold aE
  rw[aaf (by omega),ac1 (by omega)];cases bj vs name with
  |none=>rfl
  |some v=>
   simp only
   rw[aaf (by omega)]
 rw[e];clear e;cases M:bj vs name with
 |none=>
  simp[M,fV,bF,dK,xu]at D;rcases h with h|h<;>subst h<;>rw[iG (by simp)]<;>simp[f94,fO,du,D,ak]
 |some v=>
  simp[M,fV,bF,dK]at D;rcases h with h|h<;>subst h
  .cases I:v.arr with
   |true=>(rw[iG (by simp)];simp[f94,fO,du,D,ak,I])
   |false=>
    by_cases H:2<v.ty
    ·(rw[iG (by simp)];simp[f94,fO,du,D,ak,I,H])
    ·(rw[iG (by simp)];simp[f94,fO,gA,D,ak,I,H])
  .cases I:v.arr with
   |false=>(rw[iG (by simp)];simp[f94,fO,du,D,ak,I])
   |true=>
    by_cases H:2<v.ty
    ·(rw[iG (by simp)];simp[f94,fO,du,D,ak,I,H])
    .obtain⟨y,A1,U⟩:=A0 rfl;subst A1;simp only[BN,kP,wj,BM,PH,nZ,PI];by_cases J:(aE vs y).e=0
     .by_cases V:(aE vs y).t=1
      .have:=agp (nn:=nn) (line:=line) (field:=field) O M I H U rfl J V;simpa [J,V,H,I,gA]using this
      .have:=agq (nn:=nn) (line:=line) (field:=field) O M I H U rfl J V;simpa [J,V,H,I,du]using this
     .have:=agr (nn:=nn) (line:=line) (field:=field) O M I H U rfl J;simpa [J,H,I,du]using this
end
section
variable {vs:List Vr}
theorem apu{nn line:Int}{name field:Tx}{a:Ex}(h:RT vs a):RT vs (.mk 6 nn name field [a] line):=by
 have e:aE vs (.mk 6 nn name field [a] line)=df 6 line (aE vs a) (aE vs a):=by
  conv=>lhs;unfold aE
  rw[aaf (by omega),aaf (by omega)];rfl
 unfold RT at h⊢;rw[e,iG (by simp)];clear e;generalize aE vs a=T at*;simp[fO]at h;simp[f94,fO,ak,az,h];by_cases D:T.e=0
 .by_cases I:T.t=1<;>simp[D,I,df,jr,jS,gA,du]
 .simp[D,df]
theorem apv{nn line:Int}{name field:Tx}{a:Ex}(h:RT vs a):RT vs (.mk 7 nn name field [a] line):=by
 have e:aE vs (.mk 7 nn name field [a] line)=df 7 line (aE vs a) (aE vs a):=by
  conv=>lhs;unfold aE
  rw[aaf (by omega),aaf (by omega)];rfl
 unfold RT at h⊢;rw[e,iG (by simp)];clear e;generalize aE vs a=T at*;simp[fO]at h;simp[f94,fO,ak,az,h];by_cases D:T.e=0
 .by_cases I:T.t=2<;>simp[D,I,df,jr,jS,gA,du]
 .simp[D,df]
theorem apw{nn line:Int}{name field:Tx}{a b:Ex}(h:RT vs a)(H:RT vs b):RT vs (.mk 8 nn name field [a,b] line):=by
 have e:aE vs (.mk 8 nn name field [a,b] line)=df 8 line (aE vs a) (aE vs b):=by
  conv=>lhs;unfold aE
  rw[aaf (by omega),aaf (by omega)];rfl
 unfold RT at h H⊢;rw[e,iG (by simp)];clear e;generalize aE vs a=T at*;generalize aE vs b=J at*;simp[fO]at h H;simp[f94,fO,ak,az,h,H];by_cases D:T.e=0
 .by_cases I:J.e=0
  .by_cases O:T.t=1<;>by_cases M:J.t=1<;>simp[D,I,O,M,df,jr,jS,gA,du]
  .simp[D,I,df]
 .simp[D,df]
theorem apx{nn line:Int}{name field:Tx}{a b:Ex}(h:RT vs a)(H:RT vs b):RT vs (.mk 9 nn name field [a,b] line):=by
 have e:aE vs (.mk 9 nn name field [a,b] line)=df 9 line (aE vs a) (aE vs b):=by
  conv=>lhs;unfold aE
  rw[aaf (by omega),aaf (by omega)];rfl
 unfold RT at h H⊢;rw[e,iG (by simp)];clear e;generalize aE vs a=T at*;generalize aE vs b=J at*;simp[fO]at h H;simp[f94,fO,ak,az,h,H];by_cases D:T.e=0
 .by_cases I:J.e=0
  .by_cases O:T.t=1<;>by_cases M:J.t=1<;>simp[D,I,O,M,df,jr,jS,gA,du]
  .simp[D,I,df]
 .simp[D,df]
theorem amu{nn line:Int}{name field:Tx}{a b:Ex}(h:RT vs a)(H:RT vs b):RT vs (.mk 10 nn name field [a,b] line):=by
 have e:aE vs (.mk 10 nn name field [a,b] line)=df 10 line (aE vs a) (aE vs b):=by
  conv=>lhs;unfold aE
  rw[aaf (by omega),aaf (by omega)];rfl
 unfold RT at h H⊢;rw[e,iG (by simp)];clear e;generalize aE vs a=T at*;generalize aE vs b=J at*;simp[fO]at h H;simp[f94,fO,ak,az,h,H];by_cases D:T.e=0
 .by_cases I:J.e=0
  .by_cases O:T.t=1<;>by_cases M:J.t=1<;>simp[D,I,O,M,df,jr,jS,gA,du]
  .simp[D,I,df]
 .simp[D,df]
theorem amv{nn line:Int}{name field:Tx}{a b:Ex}(h:RT vs a)(H:RT vs b):RT vs (.mk 11 nn name field [a,b] line):=by
 have e:aE vs (.mk 11 nn name field [a,b] line)=df 11 line (aE vs a) (aE vs b):=by
  conv=>lhs;unfold aE
  rw[aaf (by omega),aaf (by omega)];rfl
 unfold RT at h H⊢;rw[e,iG (by simp)];clear e;generalize aE vs a=T at*;generalize aE vs b=J at*;simp[fO]at h H;simp[f94,fO,ak,az,h,H];by_cases D:T.e=0
 .by_cases I:J.e=0
  .by_cases O:T.t=1<;>by_cases M:J.t=1<;>simp[D,I,O,M,df,jr,jS,gA,du]
  .simp[D,I,df]
 .simp[D,df]
theorem amw{nn line:Int}{name field:Tx}{a b:Ex}(h:RT vs a)(H:RT vs b):RT vs (.mk 12 nn name field [a,b] line):=by
 have e:aE vs (.mk 12 nn name field [a,b] line)=df 12 line (aE vs a) (aE vs b):=by
  conv=>lhs;unfold aE
  rw[aaf (by omega),aaf (by omega)];rfl
 unfold RT at h H⊢;rw[e,iG (by simp)];clear e;generalize aE vs a=T at*;generalize aE vs b=J at*;simp[fO]at h H;simp[f94,fO,ak,az,h,H];by_cases D:T.e=0
 .by_cases I:J.e=0
  .by_cases O:T.t=1<;>by_cases M:J.t=1<;>simp[D,I,O,M,df,jr,jS,gA,du]
  .simp[D,I,df]
 .simp[D,df]
theorem amx{nn line:Int}{name field:Tx}{a b:Ex}(h:RT vs a)(H:RT vs b):RT vs (.mk 13 nn name field [a,b] line):=by
 have e:aE vs (.mk 13 nn name field [a,b] line)=df 13 line (aE vs a) (aE vs b):=by
  conv=>lhs;unfold aE
  rw[aaf (by omega),aaf (by omega)];rfl
 unfold RT at h H⊢;rw[e,iG (by simp)];clear e;generalize aE vs a=T at*;generalize aE vs b=J at*;simp[fO]at h H;simp[f94,fO,ak,az,h,H];by_cases D:T.e=0
 .by_cases I:J.e=0
  .by_cases M:J.t=T.t<;>simp[D,I,M,df,jr,jS,gA,du]
  .simp[D,I,df]
 .simp[D,df]
end
section
variable {vs:List Vr}
theorem amy{nn line:Int}{name field:Tx}{a b:Ex}(h:RT vs a)(D:RT vs b):RT vs (.mk 14 nn name field [a,b] line):=by
 have e:aE vs (.mk 14 nn name field [a,b] line)=df 14 line (aE vs a) (aE vs b):=by
  conv=>lhs;unfold aE
  rw[aaf (by omega),aaf (by omega)];rfl
 unfold RT at h D⊢;rw[e,iG (by simp)];clear e;generalize aE vs a=T at*;generalize aE vs b=I at*;simp[fO]at h D;simp[f94,fO,ak,az,h,D];by_cases H:T.e=0
 .by_cases J:I.e=0
  .by_cases M:I.t=T.t<;>simp[H,J,M,df,jr,jS,gA,du]
  .simp[H,J,df]
 .simp[H,df]
theorem amz{nn line:Int}{name field:Tx}{a b:Ex}(h:RT vs a)(D:RT vs b):RT vs (.mk 15 nn name field [a,b] line):=by
 have e:aE vs (.mk 15 nn name field [a,b] line)=df 15 line (aE vs a) (aE vs b):=by
  conv=>lhs;unfold aE
  rw[aaf (by omega),aaf (by omega)];rfl
 unfold RT at h D⊢;rw[e,iG (by simp)];clear e;generalize aE vs a=T at*;generalize aE vs b=I at*;simp[fO]at h D;simp[f94,fO,ak,az,h,D];by_cases H:T.e=0
 .by_cases J:I.e=0
  .by_cases O:T.t=1<;>by_cases M:I.t=1<;>simp[H,J,O,M,df,jr,jS,gA,du]
  .simp[H,J,df]
 .simp[H,df]
theorem amA{nn line:Int}{name field:Tx}{a b:Ex}(h:RT vs a)(D:RT vs b):RT vs (.mk 16 nn name field [a,b] line):=by
 have e:aE vs (.mk 16 nn name field [a,b] line)=df 16 line (aE vs a) (aE vs b):=by
  conv=>lhs;unfold aE
  rw[aaf (by omega),aaf (by omega)];rfl
 unfold RT at h D⊢;rw[e,iG (by simp)];clear e;generalize aE vs a=T at*;generalize aE vs b=I at*;simp[fO]at h D;simp[f94,fO,ak,az,h,D];by_cases H:T.e=0
 .by_cases J:I.e=0
  .by_cases O:T.t=1<;>by_cases M:I.t=1<;>simp[H,J,O,M,df,jr,jS,gA,du]
  .simp[H,J,df]
 .simp[H,df]
theorem amB{nn line:Int}{name field:Tx}{a b:Ex}(h:RT vs a)(D:RT vs b):RT vs (.mk 17 nn name field [a,b] line):=by
 have e:aE vs (.mk 17 nn name field [a,b] line)=df 17 line (aE vs a) (aE vs b):=by
  conv=>lhs;unfold aE
  rw[aaf (by omega),aaf (by omega)];rfl
 unfold RT at h D⊢;rw[e,iG (by simp)];clear e;generalize aE vs a=T at*;generalize aE vs b=I at*;simp[fO]at h D;simp[f94,fO,ak,az,h,D];by_cases H:T.e=0
 .by_cases J:I.e=0
  .by_cases O:T.t=1<;>by_cases M:I.t=1<;>simp[H,J,O,M,df,jr,jS,gA,du]
  .simp[H,J,df]
 .simp[H,df]
theorem amC{nn line:Int}{name field:Tx}{a b:Ex}(h:RT vs a)(D:RT vs b):RT vs (.mk 18 nn name field [a,b] line):=by
 have e:aE vs (.mk 18 nn name field [a,b] line)=df 18 line (aE vs a) (aE vs b):=by
  conv=>lhs;unfold aE
  rw[aaf (by omega),aaf (by omega)];rfl
 unfold RT at h D⊢;rw[e,iG (by simp)];clear e;generalize aE vs a=T at*;generalize aE vs b=I at*;simp[fO]at h D;simp[f94,fO,ak,az,h,D];by_cases H:T.e=0
 .by_cases J:I.e=0
  .by_cases O:T.t=1<;>by_cases M:I.t=1<;>simp[H,J,O,M,df,jr,jS,gA,du]
  .simp[H,J,df]
 .simp[H,df]
theorem amD{nn line:Int}{name field:Tx}{a b:Ex}(h:RT vs a)(D:RT vs b):RT vs (.mk 19 nn name field [a,b] line):=by
 have e:aE vs (.mk 19 nn name field [a,b] line)=df 19 line (aE vs a) (aE vs b):=by
  conv=>lhs;unfold aE
  rw[aaf (by omega),aaf (by omega)];rfl
 unfold RT at h D⊢;rw[e,iG (by simp)];clear e;generalize aE vs a=T at*;generalize aE vs b=I at*;simp[fO]at h D;simp[f94,fO,ak,az,h,D];by_cases H:T.e=0
 .by_cases J:I.e=0
  .by_cases O:T.t=2<;>by_cases M:I.t=2<;>simp[H,J,O,M,df,jr,jS,gA,du]
  .simp[H,J,df]
 .simp[H,df]
theorem amE{nn line:Int}{name field:Tx}{a b:Ex}(h:RT vs a)(D:RT vs b):RT vs (.mk 20 nn name field [a,b] line):=by
 have e:aE vs (.mk 20 nn name field [a,b] line)=df 20 line (aE vs a) (aE vs b):=by
  conv=>lhs;unfold aE
  rw[aaf (by omega),aaf (by omega)];rfl
 unfold RT at h D⊢;rw[e,iG (by simp)];clear e;generalize aE vs a=T at*;generalize aE vs b=I at*;simp[fO]at h D;simp[f94,fO,ak,az,h,D];by_cases H:T.e=0
 .by_cases J:I.e=0
  .by_cases O:T.t=2<;>by_cases M:I.t=2<;>simp[H,J,O,M,df,jr,jS,gA,du]
  .simp[H,J,df]
 .simp[H,df]
theorem amF{nn line:Int}{name field:Tx}{a b:Ex}(h:RT vs a)(D:RT vs b):RT vs (.mk 21 nn name field [a,b] line):=by
 have e:aE vs (.mk 21 nn name field [a,b] line)=df 21 line (aE vs a) (aE vs b):=by
  conv=>lhs;unfold aE
  rw[aaf (by omega),aaf (by omega)];rfl
 unfold RT at h D⊢;rw[e,iG (by simp)];clear e;generalize aE vs a=T at*;generalize aE vs b=I at*;simp[fO]at h D;simp[f94,fO,ak,az,h,D];by_cases H:T.e=0
 .by_cases J:I.e=0
  .by_cases O:T.t=2<;>by_cases M:I.t=2<;>simp[H,J,O,M,df,jr,jS,gA,du]
  .simp[H,J,df]
 .simp[H,df]
end
def amG{vs:List Vr}{op nn line:Int}{name field:Tx}{a b:Ex}(A8:8<=op)(A9:op<=21)(h:RT vs a)(D:RT vs b):RT vs (.mk op nn name field [a,b] line):=by
 have A0:op=8\/op=9\/op=10\/op=11\/op=12\/op=13\/op=14\/op=15\/op=16\/op=17\/op=18\/op=19\/op=20\/op=21:=by omega
 rcases A0 with e|e|e|e|e|e|e|e|e|e|e|e|e|e<;>subst e
 .exact apw h D
 .exact apx h D
 .exact amu h D
 .exact amv h D
 .exact amw h D
 .exact amx h D
 .exact amy h D
 .exact amz h D
 .exact amA h D
 .exact amB h D
 .exact amC h D
 .exact amD h D
 .exact amE h D
 .exact amF h D
section
variable {vs:List Vr} (J:vs.length<1000000)
include J
mutual
theorem yk:∀x:Ex,bm x=true->RT vs x
 | .mk op nn name field sub line,H=>by
  simp only[bm,Ds,ac2,ahI,aed]at H;obtain⟨AA,I,_,_,A1⟩:=H;have ih:=Im sub A1;unfold fe at I;by_cases A2:op=1\/op=2
  .exact amt A2
  .by_cases A3:op=5
   .subst A3;exact aah J
   .by_cases A4:op=3\/op=4
    .refine ags J A4 (λA5=>?_);rw[ac1 (.inl A5)]at I;match sub,I with
     |[y],_=>exact⟨y,rfl,ih y (by simp)⟩
    .by_cases Z:op=6\/op=7
     .rw[ac1 (.inr Z)]at I;match sub,I with
      |[y],_=>
       rcases Z with e|e<;>subst e
       .exact apu (ih y (by simp))
       .exact apv (ih y (by simp))
     .rw[aaf (by omega),ac1 (by omega)]at I;match sub,I with
      |[y,z],_=>exact amG (by omega) (by omega) (ih y (by simp)) (ih z (by simp))
theorem Im:∀l:List Ex,bI l=true->∀y∈l,RT vs y
 |[],_,y,M=>by simp at M
 |x::r,H,y,M=>by
  simp only[bI,Ds]at H;rcases ac4.1 M with e|M
  .rw[e];exact yk x H.1
  .exact Im r H.2 y M
end
end
def Nd{op line:Int}{a b:Te}(h:(df op line a b).e=0):(df op line a b).line=0:=by
 rw[(ky h).2.2.2.2];rfl
def acM(vs:List Vr):∀x:Ex,(aE vs x).e=0->(aE vs x).line=0
 | .mk op nn name field sub line,h=>by
  unfold aE at h⊢;split at h
  .rename_i c;rw[ac1 c];rfl
  .rename_i c;rw[aaf c];split at h
   .rename_i O;rw[ac1 O];cases H:bj vs name with
    |none=>rw[H]at h;simp[du]at h
    |some v=>
     rw[H]at h;simp only at h⊢;split at h
     .rename_i T;rw[ac1 T];split at h
      .simp[du]at h
      .rename_i U;rw[aaf U];cases A6:mn v.ty field with
       |none=>rw[A6]at h;simp[du]at h
       |some p=>rfl
     .rename_i T;rw[aaf T];split at h
      .simp[du]at h
      .rename_i U;rw[aaf U];split at h
       .rename_i V;rw[ac1 V];cases sub with
        |nil=>rfl
        |cons y r=>
         simp only[BN]at h⊢;split at h
         .rename_i Y;exact absurd h Y
         .rename_i Y;rw[aaf Y];split at h
          .simp[du]at h
          .rename_i A7;rw[aaf A7];rfl
       .rename_i V;rw[aaf V];rfl
   .rename_i O;rw[aaf O];match sub,h with
    |[],_=>rfl
    |[y],h=>exact Nd h
    |y::z::_,h=>exact Nd h
def vg(vs:List Vr)(x:Ex)(t:Int):Kk vs x t=ew vs x t:=by
 unfold Kk ew;have:=acM vs x;by_cases h:(aE vs x).e=0
 .have J:=this h;by_cases A':(aE vs x).t=t
  .simp[h,A',J]
  .simp[h,A']
 .simp[h]
def RM(vs:List Vr)(lp:Bool)(x:Sm):Prop:=aj ctx 58 [.d (.list (vs.map bF)),.d (.agg (smL x)),.d (.bool lp)] []=some (.ret (eN (eY (lA vs lp x))),[])
def ub(vs:List Vr)(lp:Bool)(l:List Sm):Prop:=aj ctx 29 [.d (.list (vs.map bF)),.d (.list (l.map bZ)),.d (.bool lp)] []=some (.ret (eN (eY (fa vs lp l))),[])
@[simp] def ke(e:EL):aF:=.box [.d (.int .i64 e.1),.d (.int .i64 e.2)]
def Rq{vs:List Vr}{lp:Bool}{l:List Sm}(O:l.length<100000000)(M:∀x∈l,RM vs lp x)(k:Kt)(RF:EL->bS)
 (D:∀e u v X,k .ret ⟨27,aB,[(6,true,.ptr 400 u 0)],[⟨400,u,ke e⟩,⟨500,v,X⟩]⟩=RF e)
 (I:∀(u v:Nat)(X:aF)(b c:AV),k (.exit 0) ⟨27,aB,[(0,true,.d (.list (vs.map bF))),(1,true,.d (.list (l.map bZ))),(2,true,.d (.bool lp)),(6,true,.ptr 400 u 0),(7,true,b),(12,true,c)],[⟨400,u,ke (0,0)⟩,⟨500,v,X⟩]⟩=RF (0,0)):∀(rest pre:List Sm)(u v:Nat)(X:aF),l=pre++rest->
 aL ctx 29 (.loop (Code.at (bh f29) [1,0,1,0,0])) ⟨27,aB,[(0,true,.d (.list (vs.map bF))),(1,true,.d (.list (l.map bZ))),(2,true,.d (.bool lp)),(6,true,.ptr 400 u 0),(7,true,.d (.int .i64 pre.length))],[⟨400,u,ke (0,0)⟩,⟨500,v,X⟩]⟩ k=RF (eY (fa vs lp rest))
 |[],pre,u,v,X,H=>by
  have V:pre.length=l.length:=by rw[H];simp
  simp only[ke]at I;rw[V,ah];simp[f29,I,fa,eY]
 |x::rest,pre,u,v,X,H=>by
  have T:pre.length<l.length:=by rw[H];simp
  have U:l[pre.length]=x:=by simp[H]
  have hm:=M x (by rw[H];simp);have ih:=λu v X=>Rq O M k RF D I rest (pre++[x]) u v X (by simp[H]);have Y:=b9 ((pre.length:Int)+1);have key:fa vs lp (x::rest)=gS (lA vs lp x) (fa vs lp rest):=by rw[fa]
  rw[key];unfold RM eN at hm;generalize lA vs lp x=E at*;generalize fa vs lp rest=F at*;simp only[ke]at D;rw[ah];by_cases J:E.1=0
  .rw[oS J];simp[eY,J]at hm;simp[f29]at ih⊢;simp[T,U,bU,hm,Y,ih]
  .rw[tS J];have D:=D E;simp[eY,J]at hm;simp[f29];simp[T,U,bU,hm,J,D,eY]
def Rs{vs:List Vr}{lp:Bool}{l:List Sm}(O:l.length<100000000)(M:∀x∈l,RM vs lp x):ub vs lp l:=by
 unfold ub;have h:=λk RF D I u v X=>Rq O M k RF D I l [] u v X rfl;rw[aoe (by simp)];simp[f29]at h⊢;rw[h _ (λe=>some (.ret (eN e),[]))]
 .intro a b u v X;simp[eN]
 .intro u v X b c;simp[eN]
def amH{w:Vr}(h:dr w=true):w.arr=true->0<=w.lo/\w.lo<=w.hi/\w.hi<=255:=by
 intro A7;simp only[dr,Ds,A7,ad7,ac2]at h;exact h.2.2.1.2
def Rt(l:List Vr)(A8:l.length<=1000)(M:∀v∈l,dr v=true)(H I:AV)(k:Kt)(RF:EL->bS)
 (O:∀e u v X,e.1≠0->k .ret ⟨58,aB,[(2,true,.ptr 200 u 0)],[⟨150,1,.box [H,.d (.list (l.map bF)),I]⟩,⟨200,u,ke e⟩,⟨350,v,X⟩]⟩=RF e)
 (T:∀(u v:Nat)(X:aF)(a b c:AV),k (.exit 0) ⟨58,aB,[(1,true,.ptr 150 1 0),(2,true,.ptr 200 u 0),(3,true,a),(4,true,b),(11,true,c)],[⟨150,1,.box [H,.d (.list (l.map bF)),I]⟩,⟨200,u,ke (0,0)⟩,⟨350,v,X⟩]⟩=RF (0,0)):∀(rest pre:List Vr)(n:Int)(u v:Nat)(X:aF),l=pre++rest->0<=n->n<=1024->
 aL ctx 10 (.loop (Code.at (bh f10) [1,1,0,1,0,0])) ⟨58,aB,[(1,true,.ptr 150 1 0),(2,true,.ptr 200 u 0),(3,true,.d (.int .i64 n)),(4,true,.d (.int .i64 pre.length))],[⟨150,1,.box [H,.d (.list (l.map bF)),I]⟩,⟨200,u,ke (0,0)⟩,⟨350,v,X⟩]⟩ k=RF (My rest pre n)
 |[],pre,n,u,v,X,D,A9,AA=>by
  have AB:pre.length=l.length:=by rw[D];simp
  simp only[ke]at T;rw[AB,ah];simp[f10,T,My]
 |x::rest,pre,n,u,v,X,D,A9,AA=>by
  have U:pre.length<l.length:=by rw[D];simp
  have Y:l[pre.length]=x:=by simp[D]
  have Z:List.take pre.length (List.map bF l)=List.map bF pre:=by simp[D]
  have y:pre.length<=l.length:=by omega
  have A0:=M x (by rw[D];simp);have AE:=vG A0;have A':=acL (amH A0);have J:=qT (vs:=pre) (by omega) x.name;have ih:=λu v X=>Rt l A8 M H I k RF O T rest (pre++[x]) (n+cB x) u v X (by simp[D]);have AC:=b9 ((pre.length:Int)+1);have A1:=b9 (n+cB x);have A2:=λu v X=>O (11,x.line) u v X (by simp);have A3:=λu v X=>O (13,x.line) u v X (by simp);simp only[ke]at A2 A3;simp[dK]at A';generalize AF:fV pre x.name=W at*;simp[bF,dK]at J;rw[ah];unfold My;cases A4:(bj pre x.name).isSome with
  |true=>
   rw[A4]at J;simp[f10];simp[U,Y,Z,y,bF,dK,J,A2,ak]
  |false=>
   rw[A4]at J;by_cases hZ:1024<n+cB x
   .simp[f10];simp[U,Y,Z,y,bF,dK,J,A',A1,hZ,A3,ak]
   .have ih:=λu v X=>ih u v X (by omega) (by omega);simp[f10]at ih⊢;simp[U,Y,Z,y,bF,dK,J,A',AC,A1,hZ,ih,ak]
def acN{p:Pg}(M:lH p=true)(A5:ub p.vars false p.body):aj ctx 10 [.d (.agg [.str p.name,.list (p.vars.map bF),.list (p.body.map bZ)])] []=some (.ret (eN (eY (lB p))),[]):=by
 simp only[lH,Ds,ac2,adp]at M;obtain⟨_,AG,AD,AH⟩:=M;unfold ub at A5;unfold lB;generalize AI:fa p.vars false p.body=E at*;have h:=λH I k RF O T u v X=>Rt p.vars (by omega) AD H I k RF O T p.vars [] 0 u v X rfl (by omega) (by omega);generalize AJ:My p.vars [] 0=V at*;rw[an5 (by simp)];simp[f10]at h⊢;rw[h _ _ _ (λe=>some (.ret (eN (eY (gS e E))),[]))]
 .intro a b u v X A6;rw[tS A6];simp[eN,eY,A6]
 .intro u v X a b c;rw[oS rfl];simp[A5,eN]
@[reducible] noncomputable def Hf(p:List Nat):Code:=Code.at (bh f96) p
def Rv{x:Sm}{f:Tx}{pre AH:List Tx}(A4:dP x=pre++f::AH)(Z:(dP x).length<100000000){a0:AV}{u v5 v6:Nat}{W X5 X6:aF}(k:Kt)(R1 R2:bS)
 (I:k .ret ⟨91,aB,[(4,true,.ptr 300 u 0)],[⟨250,1,bA x⟩,⟨300,u,ke (11,n6 x)⟩,⟨350,1,W⟩,⟨500,v5,X5⟩,⟨650,v6,X6⟩]⟩=R1)
 (D:∀b c,k (.exit 2) ⟨91,aB,[(0,true,a0),(3,true,.ptr 250 1 0),(4,true,.ptr 300 u 0),(5,true,.ptr 350 1 0),(7,true,.d (.int .i64 pre.length)),(8,true,.ptr 500 v5 0),(10,true,b),(60,true,c)],[⟨250,1,bA x⟩,⟨300,u,ke (0,0)⟩,⟨350,1,W⟩,⟨500,v5,X5⟩,⟨650,v6,X6⟩]⟩=R2):∀(rest J:List Tx),pre=J++rest->
 aL ctx 96 (.loop (Hf [1,1,1,1,0,1,0,0,1,0,0,1,1,0,1,0,0])) ⟨91,aB,[(0,true,a0),(3,true,.ptr 250 1 0),(4,true,.ptr 300 u 0),(5,true,.ptr 350 1 0),(7,true,.d (.int .i64 pre.length)),(8,true,.ptr 500 v5 0),(10,true,.d (.int .i64 J.length))],[⟨250,1,bA x⟩,⟨300,u,ke (0,0)⟩,⟨350,1,W⟩,⟨500,v5,X5⟩,⟨650,v6,X6⟩]⟩ k=if f∈rest then R1 else R2
 |[],J,H=>by
  have A8:J.length=pre.length:=by rw[H];simp
  simp only[ke,bA]at D;rw[A8,ah];simp[Hf,f96,D]
 |c::rest,J,H=>by
  have O:J.length<pre.length:=by rw[H];simp
  have U:pre.length<(dP x).length:=by rw[A4];simp
  have A1:J.length<(dP x).length:=by omega
  have A2:(dP x)[pre.length]=f:=by simp[A4]
  have AC:(dP x)[J.length]=c:=by simp[A4,H]
  have ih:=Rv A4 Z k R1 R2 I D rest (J++[c]) (by simp[H]);have A9:=b9 ((J.length:Int)+1);simp only[ke,bA]at I;rw[ah];by_cases V:c=f
  .have AD:f=c:=V.symm;simp[Hf,f96];simp[O,U,A1,A2,AC,V,I,ak]
  .have AD:¬f=c:=λh=>V h.symm;simp[Hf,f96]at ih⊢;simp[O,U,A1,A2,AC,V,AD,A9,ih,ak]
def Rx{vs:List Vr}{x:Sm}{w:Vr}(Z:(dP x).length<100000000)(hle:(b7 x).length=(dP x).length)(A5:∀y∈b7 x,RT vs y)(k:Kt)(RF:EL->bS)
 (I:∀e u v5 v6 X5 X6,k .ret ⟨91,aB,[(4,true,.ptr 300 u 0)],[⟨250,1,bA x⟩,⟨300,u,ke e⟩,⟨350,1,jA w⟩,⟨500,v5,X5⟩,⟨650,v6,X6⟩]⟩=RF e)
 (D:∀u v5 v6 X5 X6 b c,k (.exit 0) ⟨91,aB,[(0,true,.d (.list (vs.map bF))),(3,true,.ptr 250 1 0),(4,true,.ptr 300 u 0),(5,true,.ptr 350 1 0),(7,true,b),(34,true,c)],[⟨250,1,bA x⟩,⟨300,u,ke (0,0)⟩,⟨350,1,jA w⟩,⟨500,v5,X5⟩,⟨650,v6,X6⟩]⟩=RF (0,0)):∀(rest pre:List Tx)(M A':List Ex)(u v5 v6:Nat)(X5 X6:aF),dP x=pre++rest->b7 x=A'++M->A'.length=pre.length->
 aL ctx 96 (.loop (Hf [1,1,1,1,0,1,0,0])) ⟨91,aB,[(0,true,.d (.list (vs.map bF))),(3,true,.ptr 250 1 0),(4,true,.ptr 300 u 0),(5,true,.ptr 350 1 0),(7,true,.d (.int .i64 pre.length))],[⟨250,1,bA x⟩,⟨300,u,ke (0,0)⟩,⟨350,1,jA w⟩,⟨500,v5,X5⟩,⟨650,v6,X6⟩]⟩ k=RF (eY (iU vs w.ty (n6 x) rest M pre))
 |[],pre,M,A',u,v5,v6,X5,X6,H,A0,A6=>by
  have A8:pre.length=(dP x).length:=by rw[H];simp
  have AI:iU vs w.ty (n6 x) [] M pre=(0,0):=by unfold iU;rfl
  simp only[ke,bA,jA]at D;rw[AI,A8,ah];simp[Hf,f96,D,eY]
 |f::rest,pre,[],A',u,v5,v6,X5,X6,H,A0,A6=>by
  rw[H,A0]at hle;simp at hle;omega
 |f::rest,pre,y::M,A',u,v5,v6,X5,X6,H,A0,A6=>by
  have O:pre.length<(dP x).length:=by rw[H];simp
  have U:(dP x)[pre.length]=f:=by simp[H]
  have A1:pre.length<(b7 x).length:=by omega
  have A2:(b7 x)[pre.length]=y:=by simp[<-A6,A0]
  have AJ:=A5 y (by rw[A0];simp);have Y:=aag w.ty f;have ih:=λu v5 v6 X5 X6=>Rx Z hle A5 k RF I D rest (pre++[f]) M (A'++[y]) u v5 v6 X5 X6 (by simp[H]) (by simp[A0]) (by simp[A6]);have AE:=λa0 u v5 v6 W X5 X6 k R1 R2 I D=>Rv (a0:=a0) (u:=u) (v5:=v5) (v6:=v6) (W:=W) (X5:=X5) (X6:=X6) H Z k R1 R2 I D pre [] rfl;have A9:=b9 ((pre.length:Int)+1);have key:iU vs w.ty (n6 x) (f::rest) (y::M) pre=(match mn w.ty f with
   |none=>(9,n6 x)
   |some q=>if q.Mv=false then (9,n6 x)else if f∈pre then (11,n6 x)else gS (ew vs y q.ty) (iU vs w.ty (n6 x) rest M (pre++[f]))):=by
   conv=>lhs;unfold iU
   rfl
  have AA:=I (9,n6 x);have AF:=I (11,n6 x);have AB:=I (ew vs y (fP w.ty f).ty);have hw:=vd (fP w.ty f).ty AJ;rw[vg]at hw;unfold eN at hw;simp only[ke,bA,jA]at AA AF AB;rw[key];clear key;rw[ah];cases V:mn w.ty f with
  |none=>
   simp[V,fP,gz,Ag]at Y;simp[Hf,f96];simp[O,U,Y,AA,eY,ak]
  |some q=>
   simp only[fP,V,ahx]at hw AB;simp[V,fP,gz]at Y;simp only
   generalize iU vs w.ty (n6 x) rest M (pre++[f])=E at*;generalize ew vs y q.ty=T at*;by_cases hi:q.Mv=false
   .simp[hi]at Y;simp[Hf,f96];simp[O,U,Y,AA,eY,hi,ak]
   .have hi:q.Mv=true:=by simpa using hi
    simp[hi]at Y;simp[Hf,f96]at AE ih⊢;simp[O,U,Y,hi,ak];rw[AE (R1:=RF (11,n6 x)) (R2:=RF (eY (gS T E)))]
    .by_cases hm:f∈pre
     .simp[hm,eY]
     .simp[hm]
    .simp[AF]
    .intro b c;by_cases A7:T.1=0
     .rw[oS A7];simp[O,U,A1,A2,az,hw,A7,A9,ih,ak]
     .rw[tS A7];simp[O,U,A1,A2,az,hw,A7,AB,eY,ak]
def agt{vs:List Vr}(AK:vs.length<1000000){x:Sm}(Z:(dP x).length<100000000)(hle:(b7 x).length=(dP x).length)(A5:∀y∈b7 x,RT vs y):aj ctx 96 [.d (.list (vs.map bF)),.d (.agg (smL x))] []=some (.ret (eN (eY (Zw vs x))),[]):=by
 have A3:=qT AK (gk x);rw[aoJ (by simp)];unfold Zw;cases AG:bj vs (gk x)with
 |none=>
  simp[AG,fV,bF,dK,xu]at A3;simp[f96,A3,eN,eY]
 |some v=>
  have h:=λk RF I D u v5 v6 X5 X6=>Rx (w:=v) Z hle A5 k RF I D (dP x) [] (b7 x) [] u v5 v6 X5 X6 rfl rfl rfl;simp[AG,fV,bF,dK]at A3;by_cases D:v.ty<=2
  .simp[f96,A3,eN,eY,D]
  .generalize AL:iU vs v.ty (n6 x) (dP x) (b7 x) []=E at*;simp[Hf,f96]at h;simp[f96,A3,D];rw[h _ (λe=>some (.ret (eN e),[]))]
   .rw[AL]
   .intro a b u v5 v6 X5 X6;simp[eN]
   .intro u v5 v6 X5 X6 b c;simp[eN]
section
variable {vs:List Vr} {lp:Bool} {x:Sm}
theorem apy(h:bG x=7):RM vs lp x:=by
 unfold RM;rw[xT,qQ (by simp)];cases lp with
 |true=>simp[f58,h,eN,eY]
 |false=>simp[f58,h,eN,eY]
theorem apz(h:bG x=8):RM vs lp x:=by
 unfold RM;rw[xT,qQ (by simp)];simp[f58,h,eN,eY]
theorem apA(O:vs.length<1000000)(h:bG x=9)(U:(dP x).length<100000000)(hle:(b7 x).length=(dP x).length)(V:∀y∈b7 x,RT vs y):RM vs lp x:=by
 have M:=agt O U hle V;unfold RM;rw[xT,qQ (by simp)];generalize Zw vs x=E at*;simp[h,eN]at M;simp[f58,h,eN,M]
theorem apB(h:bG x=5){b:List Sm}(I:aP x=[b])(J:RT vs (dO x))(H:ub vs true b):RM vs lp x:=by
 have hw:=vd 2 J;rw[vg]at hw;unfold ub at H;unfold RM;rw[xT,qQ (by simp)];have e:uq vs (aP x)=fa vs true b:=by rw[I];rfl
 rw[e];generalize ew vs (dO x) 2=T at*;generalize fa vs true b=E at*;simp[eN]at hw H;by_cases D:T.1=0
 .simp[f58,h,I,dZ,eN,hw,H,oS D,D]
 .simp[f58,h,I,eN,hw,tS D,D,eY]
theorem apC(h:bG x=6){b:List Sm}(I:aP x=[b])(J:RT vs (dO x))(H:ub vs true b):RM vs lp x:=by
 have hw:=vd 2 J;rw[vg]at hw;unfold ub at H;unfold RM;rw[xT,qQ (by simp)];have e:uq vs (aP x)=fa vs true b:=by rw[I];rfl
 have Y:(ew vs (dO x) 2).1=0->ew vs (dO x) 2=(0,0):=by
  unfold ew;split
  .intro hh;rename_i c;exact absurd hh c
  .split
   .intro hh;simp at hh
   .intro _;rfl
 rw[e];generalize ew vs (dO x) 2=T at*;generalize fa vs true b=E at*;have Z:eY T=T:=by
  unfold eY;by_cases D:T.1=0
  .rw[ac1 D,Y D]
  .rw[aaf D]
 simp[eN]at hw H;by_cases D:E.1=0
 .simp[eY,D]at H;simp[f58,h,I,dZ,eN,hw,H,oS D,Z]
 .simp[eY,D]at H;simp[f58,h,I,dZ,eN,H,tS D,D,eY]
end
section
variable {vs:List Vr} {lp:Bool} {x:Sm}
theorem apD(A':vs.length<1000000)(h:bG x=1)(H:RT vs (gm x))(J:RT vs (dO x)):RM vs lp x:=by
 have D:=qT A' (eh (gm x));unfold RT at H J;unfold RM;rw[xT,qQ (by simp),ac1 h];unfold JA;generalize aE vs (gm x)=T at*;generalize aE vs (dO x)=U at*;simp[fO]at H J;cases Z:bj vs (eh (gm x))with
 |none=>
  simp[Z,fV,bF,dK,xu]at D;simp[f58,h,D,eN,eY]
 |some w=>
  simp[Z,fV,bF,dK]at D;by_cases M:w.sec=1
  .simp[f58,h,D,M,eN,eY]
  .by_cases I:T.e=0
   .have V:(Mx T).1=0:=I;by_cases O:U.e=0
    .have Y:(Mx U).1=0:=O;by_cases y:U.t=T.t
     .simp[f58,h,D,M,H,I,J,O,y,oS V,oS Y,eN,eY]
     .simp[f58,h,D,M,H,I,J,O,y,oS V,oS Y,eN,eY]
    .have Y:¬(Mx U).1=0:=O;simp[f58,h,D,M,H,I,J,O,gS,eN,eY,Mx]
   .have V:¬(Mx T).1=0:=I;simp[f58,h,D,M,H,I,gS,eN,eY,Mx]
end
@[reducible] noncomputable def uB(p:List Nat):Code:=Code.at (bh f58) p
@[simp] def rn(x:Sm)(e:EL)(O U w85 H AE:Nat)(V Y Y85 I AF AG:aF)(AH:Nat):List dn:=[⟨300,1,bA x⟩,⟨400,1,ke e⟩,⟨450,0,.dead⟩,⟨600,0,.dead⟩,⟨750,O,V⟩,⟨800,U,Y⟩,⟨850,w85,Y85⟩,⟨950,H,I⟩,⟨1000,AH,AG⟩,⟨1150,AE,AF⟩,⟨1200,0,.dead⟩,⟨1250,0,.dead⟩]
section
variable {vs:List Vr} {lp:Bool} {x:Sm}
theorem Ry{w85:Nat}{Y85:aF}(A5:(aP x).length<100000000)(A2:∀b∈aP x,ub vs lp b)(k:Kt)(RF:EL->bS)
 (A':∀e H I,k .ret ⟨242,aB,[(6,true,.ptr 400 1 0)],rn x e 0 0 w85 H 0 .dead .dead Y85 I .dead .dead 0⟩=RF e)
 (Z:∀H I b c,k (.exit 3) ⟨242,aB,[(0,true,.d (.list (vs.map bF))),(2,true,.d (.bool lp)),(4,true,.ptr 300 1 0),(6,true,.ptr 400 1 0),(16,true,b),(128,true,c)],rn x (0,0) 0 0 w85 H 0 .dead .dead Y85 I .dead .dead 0⟩=RF (0,0)):∀(rest pre:List (List Sm))(H:Nat)(I:aF),aP x=pre++rest->
 aL ctx 58 (.loop (uB [1,0,1,0,1,1,1,1,1,0,1,1,0,0])) ⟨242,aB,[(0,true,.d (.list (vs.map bF))),(2,true,.d (.bool lp)),(4,true,.ptr 300 1 0),(6,true,.ptr 400 1 0),(16,true,.d (.int .i64 pre.length))],rn x (0,0) 0 0 w85 H 0 .dead .dead Y85 I .dead .dead 0⟩ k=RF (eY (fj vs lp [] rest))
 |[],pre,H,I,M=>by
  have A8:pre.length=(aP x).length:=by rw[M];simp
  have A9:fj vs lp [] []=(0,0):=by unfold fj;rfl
  simp only[rn,ke,bA]at Z;rw[A9,A8,ah];simp[uB,f58,Z,eY]
 |b::rest,pre,H,I,M=>by
  have A0:pre.length<(aP x).length:=by rw[M];simp
  have A1:(aP x)[pre.length]=b:=by simp[M]
  have J:=A2 b (by rw[M];simp);have ih:=λH I=>Ry A5 A2 k RF A' Z rest (pre++[b]) H I (by simp[M]);have A7:=b9 ((pre.length:Int)+1);have key:fj vs lp [] (b::rest)=gS (fa vs lp b) (fj vs lp [] rest):=by
   conv=>lhs;unfold fj
  rw[key];clear key;unfold ub eN at J;generalize fa vs lp b=E at*;generalize fj vs lp [] rest=F at*;have A4:=A' E;simp only[rn,ke,bA]at A4;rw[ah];by_cases D:E.1=0
  .rw[oS D];simp[eY,D]at J;simp[uB,f58]at ih⊢;simp[A0,A1,dZ,J,A7,ih]
  .rw[tS D];simp[eY,D]at J;simp[uB,f58];simp[A0,A1,dZ,J,D,A4,eY]
theorem apE(h:bG x=3)(A5:(aP x).length<100000000)(AI:RT vs (dO x))(A2:∀b∈aP x,ub vs lp b):RM vs lp x:=by
 have hw:=vd 1 AI;rw[vg]at hw;have AA:=λw85 Y85 k RF A' Z H I=>Ry (w85:=w85) (Y85:=Y85) A5 A2 k RF A' Z (aP x) [] H I rfl;unfold RM;rw[xT,qQ (by simp)];generalize ew vs (dO x) 1=T at*;simp[eN]at hw;by_cases D:T.1=0
 .rw[aaf (by omega),aaf (by omega),ac1 h,oS D];generalize fj vs lp [] (aP x)=E at*;simp[uB,f58,h]at AA;simp[f58,h,hw,D];rw[AA _ _ _ (λe=>some (.ret (eN e),[]))]
  .intro a b H I;simp[eN]
  .intro H I b c;simp[eN]
 .simp[f58,h,hw,D,tS D,eY,eN]
theorem Rz(A5:(aP x).length<100000000)(AJ:(b7 x).length<100000000)(AB:∀y∈b7 x,RT vs y)(A2:∀b∈aP x,ub vs lp b)(k:Kt)(RF:EL->bS)
 (A':∀e O V U Y,k .ret ⟨242,aB,[(6,true,.ptr 400 1 0)],rn x e O U 0 0 0 V Y .dead .dead .dead .dead 0⟩=RF e)
 (Z:∀O V U Y b c,k (.exit 1) ⟨242,aB,[(0,true,.d (.list (vs.map bF))),(2,true,.d (.bool lp)),(4,true,.ptr 300 1 0),(6,true,.ptr 400 1 0),(12,true,b),(83,true,c)],rn x (0,0) O U 0 0 0 V Y .dead .dead .dead .dead 0⟩=RF (0,0)):∀(rest pre:List (List Sm))(O:Nat)(V:aF)(U:Nat)(Y:aF),aP x=pre++rest->
 aL ctx 58 (.loop (uB [1,0,1,0,1,1,1,0,1,0,0])) ⟨242,aB,[(0,true,.d (.list (vs.map bF))),(2,true,.d (.bool lp)),(4,true,.ptr 300 1 0),(6,true,.ptr 400 1 0),(12,true,.d (.int .i64 pre.length))],rn x (0,0) O U 0 0 0 V Y .dead .dead .dead .dead 0⟩ k=RF (eY (fj vs lp ((b7 x).drop pre.length) rest))
 |[],pre,O,V,U,Y,M=>by
  have A8:pre.length=(aP x).length:=by rw[M];simp
  have A9:∀cs,fj vs lp cs []=(0,0):=by intro cs;unfold fj;rfl
  simp only[rn,ke,bA]at Z;rw[A9,A8,ah];simp[uB,f58,Z,eY]
 |b::rest,pre,O,V,U,Y,M=>by
  have A0:pre.length<(aP x).length:=by rw[M];simp
  have A1:(aP x)[pre.length]=b:=by simp[M]
  have J:=A2 b (by rw[M];simp);have ih:=λO V U Y=>Rz A5 AJ AB A2 k RF A' Z rest (pre++[b]) O V U Y (by simp[M]);have A7:=b9 ((pre.length:Int)+1);unfold ub eN at J;have A4:=A' (fa vs lp b);simp only[rn,ke,bA]at A4;rw[ah];by_cases A3:pre.length<(b7 x).length
  .have AK:=AB _ (ag9 A3);have hw:=vd 2 AK;rw[vg]at hw;have key:fj vs lp ((b7 x).drop pre.length) (b::rest)=gS (ew vs (b7 x)[pre.length] 2) (gS (fa vs lp b) (fj vs lp ((b7 x).drop (pre.length+1)) rest)):=by
    rw[aiI A3];conv=>lhs;unfold fj
   rw[key];clear key;have AC:=A' (ew vs (b7 x)[pre.length] 2);simp only[rn,ke,bA]at AC;simp only[acY,ac5,ac7,agT]at ih;generalize fa vs lp b=E at*;generalize fj vs lp ((b7 x).drop (pre.length+1)) rest=F at*;generalize ew vs (b7 x)[pre.length] 2=T at*;unfold eN at hw;by_cases A6:T.1=0
   .rw[oS A6];by_cases D:E.1=0
    .rw[oS D];simp[eY,D]at J;simp[uB,f58]at ih⊢;simp[A0,A1,A3,az,dZ,hw,A6,J,A7,ih]
    .rw[tS D];simp[eY,D]at J;simp[uB,f58];simp[A0,A1,A3,az,dZ,hw,A6,J,D,A4,eY]
   .rw[tS A6];simp[uB,f58];simp[A0,A1,A3,az,hw,A6,AC,eY]
  .have AD:∀n,pre.length<=n->(b7 x).drop n=[]:=λn AL=>List.drop_eq_nil_of_le (by omega);have key:fj vs lp ((b7 x).drop pre.length) (b::rest)=gS (fa vs lp b) (fj vs lp [] rest):=by
    rw[AD _ (aar _)];conv=>lhs;unfold fj
   rw[key];clear key;simp only[acY,ac5,ac7,agT,AD (pre.length+1) (by omega)]at ih;generalize fa vs lp b=E at*;generalize fj vs lp [] rest=F at*;by_cases D:E.1=0
   .rw[oS D];simp[eY,D]at J;simp[uB,f58]at ih⊢;simp[A0,A1,A3,dZ,J,A7,ih]
   .rw[tS D];simp[eY,D]at J;simp[uB,f58];simp[A0,A1,A3,dZ,J,D,A4,eY]
end
section
variable {vs:List Vr} {lp:Bool} {x:Sm}
theorem apF(h:bG x=2)(AA:(aP x).length<100000000)(U:(b7 x).length<100000000)(T:∀y∈b7 x,RT vs y)(AB:∀b∈aP x,ub vs lp b):RM vs lp x:=by
 have Z:=λk RF H D A3 A4 A5 A6=>Rz AA U T AB k RF H D (aP x) [] A3 A4 A5 A6 rfl;unfold RM;rw[xT,qQ (by simp)];rw[aaf (by omega),ac1 h];simp only[ac7,List.drop_zero]at Z;generalize fj vs lp (b7 x) (aP x)=E at*;simp[uB,f58,h]at Z;simp[f58,h];rw[Z _ (λe=>some (.ret (eN e),[]))]
 .intro a b A3 A4 A5 A6;simp[eN]
 .intro A3 A4 A5 A6 b c;simp[eN]
theorem RA{W:aF}(U:(b7 x).length<100000000)(T:∀y∈b7 x,RT vs y)(k:Kt)(RF:EL->bS)
 (H:∀(e:EL) I J,¬e.1=0->k .ret ⟨242,aB,[(6,true,.ptr 400 1 0)],rn x e 0 0 0 0 I .dead .dead .dead .dead J W 1⟩=RF e)
 (D:∀I J b c,k (.exit 5) ⟨242,aB,[(0,true,.d (.list (vs.map bF))),(4,true,.ptr 300 1 0),(6,true,.ptr 400 1 0),(20,true,b),(177,true,c)],rn x (0,0) 0 0 0 0 I .dead .dead .dead .dead J W 1⟩=RF (0,0)):∀(rest pre:List Ex)(I:Nat)(J:aF),b7 x=pre++rest->
 aL ctx 58 (.loop (uB [1,0,1,0,1,1,1,1,1,1,1,0,1,1,1,1,0,1,0,0])) ⟨242,aB,[(0,true,.d (.list (vs.map bF))),(4,true,.ptr 300 1 0),(6,true,.ptr 400 1 0),(20,true,.d (.int .i64 pre.length))],rn x (0,0) 0 0 0 0 I .dead .dead .dead .dead J W 1⟩ k=RF (eY (n7 vs 1 rest))
 |[],pre,I,J,A'=>by
  have AC:pre.length=(b7 x).length:=by rw[A'];simp
  simp only[rn,ke,bA]at D;rw[AC,ah];simp[uB,f58,D,eY,n7]
 |y::rest,pre,I,J,A'=>by
  have A7:pre.length<(b7 x).length:=by rw[A'];simp
  have A8:(b7 x)[pre.length]=y:=by simp[A']
  have hw:=vd 1 (T y (by rw[A'];simp));rw[vg]at hw;have ih:=λI J=>RA U T k RF H D rest (pre++[y]) I J (by simp[A']);have AD:=b9 ((pre.length:Int)+1);have key:n7 vs 1 (y::rest)=gS (ew vs y 1) (n7 vs 1 rest):=rfl;rw[key];clear key;unfold eN at hw;generalize ew vs y 1=E at*;generalize n7 vs 1 rest=F at*;rw[ah];by_cases O:E.1=0
  .rw[oS O];simp[uB,f58]at ih⊢;simp[A7,A8,az,hw,O,AD,ih]
  .rw[tS O];have A9:=λw Y=>H E w Y O;simp only[rn,ke,bA]at A9;simp[uB,f58];simp[A7,A8,az,hw,O,A9,eY]
theorem amI(h:bG x=4)(U:(b7 x).length<100000000)(T:∀y∈b7 x,RT vs y){b:List Sm}(A0:aP x=[b])(A1:ub vs true b){w:Vr}(V:bj vs (gk x)=some w)(M:aj ctx 27 [.d (.list (vs.map bF)),.d (.str (gk x))] []=some (.ret (.bq [.d (bF (fV vs (gk x))),.d (.bool (bj vs (gk x)).isSome)]),[]))(H:¬w.sec=1)(D:w.arr=false)(A2:w.ty=1):
 aj ctx 58 [.d (.list (vs.map bF)),.d (.agg (smL x)),.d (.bool lp)] []=some (.ret (eN (eY (gS (n7 vs 1 (b7 x)) (fa vs true b)))),[]):=by
 have Z:=λW k RF H D I J=>RA (W:=W) U T k RF H D (b7 x) [] I J rfl;unfold ub at A1;rw[qQ (by simp)];generalize fa vs true b=F at*;generalize n7 vs 1 (b7 x)=E at*;simp[V,fV,bF,dK]at M;simp[uB,f58,h,A0]at Z;simp[eN]at A1;simp[f58,h,M,H,D,A2,A0];rw[Z _ _ (λe=>some (.ret (eN (eY (gS e F))),[]))]
 .by_cases O:E.1=0
  .simp[eY,O,gS]
  .simp[eY,O,gS]
 .intro AF AG I J O;simp[eN,gS,O,eY]
 .intro I J c d;simp[dZ,A1,eN,gS]
theorem apG(AE:vs.length<1000000)(h:bG x=4)(U:(b7 x).length<100000000)(T:∀y∈b7 x,RT vs y){b:List Sm}(A0:aP x=[b])(A1:ub vs true b):RM vs lp x:=by
 have M:=qT AE (gk x);unfold RM;rw[xT];rw[aaf (by omega),aaf (by omega),aaf (by omega),ac1 h];have e:uq vs (aP x)=fa vs true b:=by rw[A0];rfl
 unfold coE;rw[e];cases V:bj vs (gk x)with
 |none=>
  rw[qQ (by simp)];simp[V,fV,bF,dK,xu]at M;simp[f58,h,M,eN,eY]
 |some w=>
  by_cases H:w.sec=1
  .rw[qQ (by simp)];simp[V,fV,bF,dK]at M;simp[f58,h,M,H,eN,eY]
  .by_cases D:w.arr=true
   .rw[qQ (by simp)];simp[V,fV,bF,dK]at M;simp[f58,h,M,H,D,eN,eY]
   .have D:w.arr=false:=by simpa using D
    by_cases A2:w.ty=1
    .rw[amI h U T A0 A1 V M H D A2];simp only[aaf H,D,A2];simp
    .rw[qQ (by simp)];simp[V,fV,bF,dK]at M;simp[f58,h,M,H,D,A2,eN,eY]
end
def Lj{α:Type}{l:List α}(h:l.length=1):∃a,l=[a]:=by
 match l,h with
 |[a],_=>exact⟨a,rfl⟩
section
variable {vs:List Vr} (J:vs.length<1000000)
include J
theorem agu{lp:Bool}{x:Sm}(H:j9 x=true)(A2:(aP x).length<100000000)(A3:(b7 x).length<100000000)(A6:(dP x).length<100000000)(V:∀b∈aP x,∀q,ub vs q b):RM vs lp x:=by
 have A8:∃op name to val conds Y fields blocks line,x=.mk op name to val conds Y fields blocks line:=by
  obtain⟨op,name,to,val,conds,Y,fields,blocks,line⟩:=x;exact⟨op,name,to,val,conds,Y,fields,blocks,line,rfl⟩
 have facts:(1<=bG x/\bG x<=9)/\(bG x=1->bm (gm x)=true)/\((bG x=1\/bG x=3\/bG x=5\/bG x=6)->bm (dO x)=true)/\bI (b7 x)=true/\dj (bG x) (b7 x).length (dq x).length (dP x).length (aP x).length=true:=by
  obtain⟨op,name,to,val,conds,Y,fields,blocks,line,rfl⟩:=A8;simp only[j9,Ds,ac2]at H;obtain⟨A4,AB,Z,T,A',I,AC,AD,AE⟩:=H;refine⟨A4,λM=>?_,λM=>?_,A',I⟩
  .simp only[Yz]at M;rw[ac1 M]at Z;simp only[Ds]at Z;exact Z.2
  .simp only[Yz]at M;rw[ac1 M]at T;simp only[Ds]at T;exact T.2
 obtain⟨A4,Z,T,A',I⟩:=facts;have A0:=Im J (b7 x) A';have A9:bG x=1\/bG x=2\/bG x=3\/bG x=4\/bG x=5\/bG x=6\/bG x=7\/bG x=8\/bG x=9:=by omega
 rcases A9 with h|h|h|h|h|h|h|h|h
 .exact apD J h (yk J _ (Z h)) (yk J _ (T (.inl h)))
 .exact apF h A2 A3 A0 (λb D=>V b D lp)
 .exact apE h A2 (yk J _ (T (.inr (.inl h)))) (λb D=>V b D lp)
 .rw[h]at I;simp[dj]at I;obtain⟨b,D⟩:=Lj I.2.2.2;exact apG J h A3 A0 D (V b (by rw[D];simp) true)
 .rw[h]at I;simp[dj]at I;obtain⟨b,D⟩:=Lj I.2.2.2;exact apB h D (yk J _ (T (.inr (.inr (.inl h))))) (V b (by rw[D];simp) true)
 .rw[h]at I;simp[dj]at I;obtain⟨b,D⟩:=Lj I.2.2.2;exact apC h D (yk J _ (T (.inr (.inr (.inr h))))) (V b (by rw[D];simp) true)
 .exact apy h
 .exact apz h
 .rw[h]at I;simp[dj]at I;exact apA J h A6 I.1 A0
mutual
theorem amJ:∀(x:Sm),j9 x=true->TL x<100000000->∀lp,RM vs lp x
 | .mk op name to val conds Y fields blocks line,H,U,lp=>by
  have AA:cu blocks=true:=by
   simp only[j9,Ds]at H;exact H.2.2.2.2.2.2.2.2
  have AF:=QG blocks;simp only[TL]at U;exact agu J H (by simp only[aic];omega) (by simp only[YA];omega) (by simp only[YB];omega) (λb D q=>Ux blocks AA (by omega) b D q)
theorem Lk:∀(l:List Sm),eA l=true->xb l<100000000->∀x∈l,∀lp,RM vs lp x
 |[],_,_,x,O,_=>by simp at O
 |y::r,H,U,x,O,lp=>by
  simp only[eA,Ds]at H;simp only[xb]at U;have M:=amJ y H.1 (by omega);have A1:=Lk r H.2 (by omega);rcases ac4.1 O with h|O
  .rw[h];exact M lp
  .exact A1 x O lp
theorem Ux:∀(bs:List (List Sm)),cu bs=true->A7 bs<100000000->∀b∈bs,∀q,ub vs q b
 |[],_,_,b,D,_=>by simp at D
 |c::r,H,U,b,D,q=>by
  simp only[cu,Ds]at H;simp only[A7]at U;have AG:=H2 c;have M:=Lk c H.1 (by omega);have A1:=Ux r H.2 (by omega);rcases ac4.1 D with h|D
  .rw[h];exact Rs (by omega) (λx O=>M x O q)
  .exact A1 b D q
end
end
def aai{p:Pg}(H:lH p=true)(U:xb p.body<100000000):aj ctx 10 [.d (.agg [.str p.name,.list (p.vars.map bF),.list (p.body.map bZ)])] []=some (.ret (eN (eY (lB p))),[]):=by
 have A5:=H;simp only[lH,Ds,ac2,adp]at A5;obtain⟨_,AH,AI,D⟩:=A5;have AJ:=H2 p.body;exact acN H (Rs (by omega) (λx O=>Lk (by omega) p.body D U x O false))
def Kl(I:Int->Nat)(A3:Fx 45 I)(vars cells:Int)(J M:Nat)(S T:List D)(B:aF)(A9:0<=cells/\cells<=8192)(L:Int):∀(rest pre:List ar)(v:Nat)(A4:aF),((pre++rest).length:Int)-1=L->(pre++rest).length<=5000->∀k:Kt,
 ∃A' A0,aL ctx 63 (.loop (Code.at (bh f63) [1,1,1,1,0,1,0,0])) ⟨66,aB,[(0,true,.ptr 0 0 0),(53,true,.d (.list ((pre++rest).map cH))),(54,true,.d (.int .i64 (pre++rest).length)),(55,true,.d (.int .i64 pre.length))],
  [⟨0,0,gn (pre++rest) vars cells (.vec 1 0 0 J) (.vec 2 0 0 M)⟩,⟨1,0,.vec 1 S⟩,⟨2,0,.vec 1 T⟩,⟨250,1,B⟩,⟨400,v,A4⟩]⟩ k=
  if qe I cells L pre.length rest=true then
   k (.exit 0) ⟨66,aB,[(0,true,.ptr 0 0 0),(53,true,.d (.list ((pre++rest).map cH))),(54,true,.d (.int .i64 (pre++rest).length)),(55,true,.d (.int .i64 (pre++rest).length)),(56,true,.d (.bool false))],
   [⟨0,0,gn (pre++rest) vars cells (.vec 1 0 0 J) (.vec 2 0 0 M)⟩,⟨1,0,.vec 1 S⟩,⟨2,0,.vec 1 T⟩,⟨250,1,B⟩,⟨400,A',A0⟩]⟩
  else k .ret ⟨66,aB,[(2,true,.d (.bool false))],[⟨0,0,gn (pre++rest) vars cells (.vec 1 0 0 J) (.vec 2 0 0 M)⟩,⟨1,0,.vec 1 S⟩,⟨2,0,.vec 1 T⟩,⟨250,1,B⟩,⟨400,A',A0⟩]⟩
 |[],pre,v,A4,A7,Y,k=>by
  refine⟨v,A4,?_⟩;rw[ah];simp[f63,qe]
 |x::rest,pre,v,A4,A7,Y,k=>by
  have A1:=aco I A3 (pre++x::rest) vars cells J M S T pre.length x A9 Y;rw[A7]at A1;have A2:(pre.length:Int)<pre.length+(rest.length+1):=by omega
  have O:IntKind.i64.wrap ((pre.length:Int)+1)=pre.length+1:=jb (by unfold bz;simp at Y;omega);cases A5:dH I cells L pre.length x
  .refine⟨v+1,.box [.d (.int .i64 x.op),.d (.int .i64 x.a),.d (.int .i64 x.b),.d (.int .i64 x.n),.d (.int .i64 x.m)],?_⟩;rw[ah];simp[A5]at A1;simp[f63,qe,A5];simp[A2,A1]
  .obtain⟨A',A0,ih⟩:=Kl I A3 vars cells J M S T B A9 L rest (pre++[x]) (v+1) (.box [.d (.int .i64 x.op),.d (.int .i64 x.a),.d (.int .i64 x.b),.d (.int .i64 x.n),.d (.int .i64 x.m)]) (by simpa using A7) (by simpa using Y) k;refine⟨A',A0,?_⟩;rw[ah];simp[A5]at A1;simp[f63,qe,A5]at ih⊢;simp[A2,O,A1,ih]
def aaj(I:Int->Nat)(A3:Fx 45 I)(ins:List ar)(vars cells:Int)(J M:Nat)(S T:List D)(Y:ins.length<=5000):
 aj ctx 63 [.ptr 0 0 0] [gn ins vars cells (.vec 1 0 0 J) (.vec 2 0 0 M),.vec 1 S,.vec 1 T]=
  some (.ret (.d (.bool (mO I ins vars cells))),[(0,gn ins vars cells (.vec 1 0 0 J) (.vec 2 0 0 M)),(0,.vec 1 S),(0,.vec 1 T)]):=by
 rw[aow (by simp)];unfold mO FY;by_cases A2:1<=(ins.length:Int)
 .have AA:¬((ins.length:Int)<1):=by omega
  obtain⟨H,last,rfl⟩:∃H last,ins=H++[last]:=⟨ins.dropLast,ins.getLast (by intro h;simp[h]at A2),(List.dropLast_concat_getLast _).symm⟩;have AD:tJ (H++[last])=last.op:=by simp[tJ]
  rw[AD];have U:IntKind.i64.wrap ((H.length:Int)+1-1)=H.length:=by rw[jb (by unfold bz;simp at Y;omega)];omega
  simp at U;simp only[acY,ac5,ac7]at Y;by_cases O:(H.length:Int)+1<=4096;rotate_left
  .have V:(4096:Int)<(H.length:Int)+1:=by omega
   simp[f63,O,V,U]
  have V:¬((4096:Int)<(H.length:Int)+1):=by omega
  by_cases Z:0<=cells;rotate_left
  .simp[f63,O,V,Z,U]
  by_cases y:cells<=8192;rotate_left
  .simp[f63,O,V,Z,y,U]
  by_cases A6:0<=vars;rotate_left
  .simp[f63,O,V,Z,y,A6,U]
  by_cases A8:vars<=cells;rotate_left
  .simp[f63,O,V,Z,y,A6,A8,U]
  by_cases AB:last.op=15;rotate_left
  .simp[f63,O,V,Z,y,A6,A8,AB,U]
  have AE:(1:Int)<=(H.length:Int)+1:=by omega
  have AC:=λB=>Kl I A3 vars cells J M S T B ⟨Z,y⟩ H.length (H++[last]) [] 0 .dead (by simp) (by simp;omega);simp[f63,O,V,Z,y,A6,A8,AB,AE,U]at AC⊢;obtain⟨A',A0,AF⟩:=AC _ _;rw[AF];split
  .rename_i q;simp[q]
  .rename_i q;simp[q]
 .have AA:(ins.length:Int)<1:=by omega
  simp[f63,AA,A2]
section
variable (ins:List ar) (vars cells:Int) (H:Nat) (T:List D)
theorem zx(t:Bool)(S:List Bool)(O:S.length<=5000):
 aj ctx 179 [.ptr 0 0 0,.d (.bool t)] [gn ins vars cells (.vec 1 0 0 S.length) (.vec 2 0 0 H),.vec 1 (bD S),.vec 1 T]=
  some (.ret (.d (.bool (decide (S.length<64)))),[(0,gn ins vars cells (.vec 1 1 0 (S.length+1)) (.vec 2 0 0 H)),(1,.vec 1 (bD (S++[t]))),(0,.vec 1 T)]):=by
 have g1:S.length+1<=140737488355328/\S.length<=4611686018427387903:=by omega
 have g2:((S.length:Int)+1<=64)=(S.length<64):=by simp;omega
 rw[akn (by simp)];simp[f179,g1,g2]
theorem Fz(S:List D)(U:Nat):
 aj ctx 111 [.ptr 0 0 0] [gn ins vars cells (.vec 1 0 0 U) (.vec 2 0 0 H),.vec 1 S,.vec 1 T]=
  some (.ret (.d (.bool (decide (U=0)))),[(0,gn ins vars cells (.vec 1 0 0 U) (.vec 2 0 0 H)),(0,.vec 1 S),(0,.vec 1 T)]):=by
 rw[ajT (by simp)];by_cases q:U=0<;>simp[f111,q]
theorem Ng(n:Nat)(t:Bool)(A:List Bool)(Y:A.length<=5000):∀(rest pre:List Bool),(pre++rest).length=n->n<=5000->∀k:Kt,
 aL ctx 180 (.loop (Code.at (bh f180) [1,1,0,1,0,0])) ⟨54,aB,[(0,true,.ptr 0 0 0),(1,true,.d (.int .i64 n)),(2,true,.d (.bool t)),(27,true,.vec 1 0 A.length n),(28,true,.d (.int .i64 n)),(29,true,.d (.int .i64 pre.length))],
  [⟨0,0,gn ins vars cells (.vec 1 0 0 (A++(pre++rest)).length) (.vec 2 0 0 H)⟩,⟨1,0,.vec 1 (bD (A++(pre++rest)))⟩,⟨2,0,.vec 1 T⟩]⟩ k=
  if (t&&rest.any (λb=>!b))=true then k .ret ⟨54,aB,[(6,true,.d (.bool false))],[⟨0,0,gn ins vars cells (.vec 1 0 0 (A++(pre++rest)).length) (.vec 2 0 0 H)⟩,⟨1,0,.vec 1 (bD (A++(pre++rest)))⟩,⟨2,0,.vec 1 T⟩]⟩
  else k (.exit 0) ⟨54,aB,[(0,true,.ptr 0 0 0),(1,true,.d (.int .i64 n)),(2,true,.d (.bool t)),(27,true,.vec 1 0 A.length n),(28,true,.d (.int .i64 n)),(29,true,.d (.int .i64 n)),(30,true,.d (.bool false))],
  [⟨0,0,gn ins vars cells (.vec 1 0 0 (A++(pre++rest)).length) (.vec 2 0 0 H)⟩,⟨1,0,.vec 1 (bD (A++(pre++rest)))⟩,⟨2,0,.vec 1 T⟩]⟩
 |[],pre,J,O,k=>by
  subst J;rw[ah];simp[f180]
 |x::rest,pre,J,O,k=>by
  have ih:=Ng n t A Y rest (pre++[x]) (by simpa using J) O k;have M:(pre.length:Int)<n:=by simp at J;omega
  have I:pre.length<n:=by omega
  have Z:=b9 ((pre.length:Int)+1);rw[ah];simp[f180]at ih⊢;cases t
  .simp[M,I,Z]at ih⊢;exact ih
  .cases x
   .simp[M,I,Z]
   .simp[M,I,Z]at ih⊢;exact ih
theorem Au(n:Nat)(t:Bool)(S:List Bool)(O:S.length<=5000)(J:n<=5000):
 aj ctx 180 [.ptr 0 0 0,.d (.int .i64 n),.d (.bool t)] [gn ins vars cells (.vec 1 0 0 S.length) (.vec 2 0 0 H),.vec 1 (bD S),.vec 1 T]=
  match jP n t S with
  |some S'=>some (.ret (.d (.bool true)),[(0,gn ins vars cells (.vec 1 1 0 S'.length) (.vec 2 0 0 H)),(1,.vec 1 (bD S')),(0,.vec 1 T)])
  |none=>some (.ret (.d (.bool false)),[(0,gn ins vars cells (.vec 1 1 0 S.length) (.vec 2 0 0 H)),(1,.vec 1 (bD S)),(0,.vec 1 T)]):=by
 rw[ako (by simp)];unfold jP;by_cases M:S.length<n
 .have I:(S.length:Int)<n:=by omega
  simp[f180,M,I]
 .have I:¬((S.length:Int)<n):=by omega
  obtain⟨A,B,rfl,A2⟩:∃A B,S=A++B/\B.length=n:=⟨S.take (S.length-n),S.drop (S.length-n),(air _ _).symm,by simp;omega⟩;have Y:(A++B).length -n=A.length:=by simp;omega
  have V:IntKind.i64.wrap (((A++B).length:Int)-n)=A.length:=by rw[(b9 _)];simp;omega
  have A3:=Ng ins vars cells H T n t A (by simp at O;omega) B [] (by simpa using A2) J;have A4:A.length+B.length-A.length=n:=by omega
  have A5:A.length+n-A.length=n:=by omega
  subst A2;rw[Y];have y:¬((A.length:Int)+B.length<B.length):=by omega
  have A':(A.length:Int)<=(A.length:Int)+B.length:=by omega
  have A0:((A.length:Int)+B.length).toNat -A.length=B.length:=by omega
  have A1:¬(A.length+B.length<B.length):=by omega
  simp at M I V;simp[f180]at A3⊢;simp[V,y,A',A0,A1];rw[uU (by kernel_rfl)];simp[y,A',A0,A1,A3];by_cases q:t=true/\false∈B
  .simp[q]
  .rw[aaf q,aaf q];simp[V,y,A',A0,A1];rw[uU (by kernel_rfl)];simp[V]
end
section
variable (ins:List ar) (vars cells:Int) (J:Nat) (T:List D)
def Uy(x:ar)(S:List Bool)(r:bS):Prop:=∃S':List Bool,r=some (.ret (.d (.bool (cM x S).isSome)),[(0,gn ins vars cells (.vec 1 1 0 S'.length) (.vec 2 0 0 J)),(1,.vec 1 (bD S')),(0,.vec 1 T)])/\∀AA,cM x S=some AA->AA=S'
theorem Av{n:Nat}{t:Bool}{S S':List Bool}(h:jP n t S=some S'):S'.length<=S.length:=by
 unfold jP at h;split at h
 .cases h
 .split at h
  .cases h
  .cases h;simp
theorem aak(x:ar)(S:List Bool)(AH:S.length<=64):
 Uy ins vars cells J T x S (aj ctx 112 [.ptr 0 0 0,.d (cH x)] [gn ins vars cells (.vec 1 0 0 S.length) (.vec 2 0 0 J),.vec 1 (bD S),.vec 1 T]):=by
 rw[ajU (by simp)];unfold Uy cM;have hZ:=zx ins vars cells J T true S (by omega);have A8:=zx ins vars cells J T false S (by omega);have he:=Fz ins vars cells J T (bD S) S.length;simp at hZ A8 he;by_cases Z:x.op=1
 .refine⟨S++[decide (x.n=0)||decide (x.n=1)],?_,?_⟩
  .by_cases q:x.n=0
   .simp[f112,Z,q,hZ,fm];split<;>simp[*]
   .by_cases q1:x.n=1
    .simp[f112,Z,q1,hZ,fm];split<;>simp[*]
    .simp[f112,Z,q,q1,A8,fm];split<;>simp[*]
  .simp[Z,fm]
 by_cases A3:x.op=2
 .refine⟨S++[false],?_,?_⟩
  .simp[f112,A3,A8,fm];split<;>simp[*]
  .simp[A3,fm]
 by_cases A4:x.op=3
 .refine⟨S++[true],?_,?_⟩
  .simp[f112,A4,hZ,fm];split<;>simp[*]
  .simp[A4,fm]
 by_cases A5:x.op=13
 .refine⟨S++[true],?_,?_⟩
  .simp[f112,A5,hZ,fm];split<;>simp[*]
  .simp[A5,fm]
 by_cases A6:x.op=14
 .refine⟨S++[true],?_,?_⟩
  .simp[f112,A6,hZ,fm];split<;>simp[*]
  .simp[A6,fm]
 have M:=Au ins vars cells J T 1 false S (by omega) (by omega);by_cases y:x.op=4
 .cases q:jP 1 false S with
  |none=>
   simp[q]at M;refine⟨S,?_,?_⟩
   .simp[f112,y,M,q]
   .simp[y,q]
  |some S1=>
   have AB:=Av q;have U:=zx ins vars cells J T false S1 (by omega);simp[q]at M;simp at U;refine⟨S1++[false],?_,?_⟩
   .simp[f112,y,M,U,q,fm];split<;>simp[*]
   .simp[y,q,fm]
 by_cases A':x.op=5
 .cases q:jP 1 false S with
  |none=>
   simp[q]at M;refine⟨S,?_,?_⟩
   .simp[f112,A',M,q]
   .simp[A',q]
  |some S1=>
   have AB:=Av q;have U:=zx ins vars cells J T true S1 (by omega);simp[q]at M;simp at U;refine⟨S1++[true],?_,?_⟩
   .simp[f112,A',M,U,q,fm];split<;>simp[*]
   .simp[A',q,fm]
 by_cases A0:x.op=6
 .cases q:jP 1 false S with
  |none=>
   simp[q]at M;refine⟨S,?_,?_⟩
   .simp[f112,A0,M,q]
   .simp[A0,q]
  |some S1=>
   simp[q]at M;refine⟨S1,?_,?_⟩
   .simp[f112,A0,M,q]
   .simp[A0,q]
 by_cases A1:x.op=7
 .have H:=Au ins vars cells J T 2 false S (by omega) (by omega);cases q:jP 2 false S with
  |none=>
   simp[q]at H;refine⟨S,?_,?_⟩
   .simp[f112,A1,H,q]
   .simp[A1,q]
  |some S1=>
   simp[q]at H;refine⟨S1,?_,?_⟩
   .simp[f112,A1,H,q]
   .simp[A1,q]
 by_cases A2:x.op=10
 .have H:=Au ins vars cells J T 1 true S (by omega) (by omega);cases q:jP 1 true S with
  |none=>
   simp[q]at H;refine⟨S,?_,?_⟩
   .simp[f112,A2,H,q]
   .simp[A2,q]
  |some S1=>
   have AC:=Fz ins vars cells J T (bD S1) S1.length;simp at AC;simp[q]at H;refine⟨S1,?_,?_⟩
   .simp[f112,A2,H,q,iI,AC];split<;>simp[*]
   .simp[A2,q,iI]
 by_cases O:x.op=8
 .obtain⟨n,A7⟩:∃n:Nat,n=(if x.b=6\/x.b=7 then 1 else 2):=⟨_,rfl⟩;obtain⟨g,A9⟩:∃g,g=(decide (x.b=7)||decide (13<=x.b)):=⟨_,rfl⟩;have AI:n<=2:=by rw[A7];split<;>omega
  have H:=Au ins vars cells J T n (decide (x.a=1)) S (by omega) (by omega);rw[<-A7,<-A9];have AD:(x.b=6/\n=1/\g=false)\/(x.b=7/\n=1/\g=true)\/(x.b≠6/\x.b≠7/\¬13<=x.b/\n=2/\g=false)\/(x.b≠6/\x.b≠7/\13<=x.b/\n=2/\g=true):=by
   rw[A7,A9];by_cases AE:x.b=6
   .simp[AE]
   .by_cases AF:x.b=7
    .simp[AF]
    .by_cases AG:13<=x.b<;>simp[AE,AF,AG]
  clear A7 A9;cases q:jP n (decide (x.a=1)) S with
  |none=>
   simp[q]at H;refine⟨S,?_,?_⟩
   .rcases AD with ⟨I,rfl,rfl⟩|⟨I,rfl,rfl⟩|⟨I,V,Y,rfl,rfl⟩|⟨I,V,Y,rfl,rfl⟩
    .simp at H;simp[f112,O,I,H,q]
    .simp at H;simp[f112,O,I,H,q]
    .simp at H;simp[f112,O,I,V,Y,H,q]
    .simp at H;simp[f112,O,I,V,Y,H,q]
   .simp[O,q]
  |some S1=>
   have AB:=Av q;have U:=zx ins vars cells J T g S1 (by omega);simp[q]at H;simp at U;refine⟨S1++[g],?_,?_⟩
   .rcases AD with ⟨I,rfl,rfl⟩|⟨I,rfl,rfl⟩|⟨I,V,Y,rfl,rfl⟩|⟨I,V,Y,rfl,rfl⟩
    .simp at H;simp[f112,O,I,H,U,q,fm];split<;>simp[*]
    .simp at H;simp[f112,O,I,H,U,q,fm];split<;>simp[*]
    .simp at H;simp[f112,O,I,V,Y,H,U,q,fm];split<;>simp[*]
    .simp at H;simp[f112,O,I,V,Y,H,U,q,fm];split<;>simp[*]
   .simp[O,q,fm]
 .refine⟨S,?_,?_⟩
  .simp[f112,Z,A3,A4,y,A',A0,A1,O,A2,A5,A6,iI,he];split<;>simp[*]
  .simp[Z,A3,A4,y,A',A0,A1,O,A2,A5,A6,iI]
end
def lX(l:List Bool)(x:ar):List Bool:=if x.op=9\/x.op=10 then l.set x.a.toNat true else l
def Bb(l:List Bool)(x:ar):(lX l x).length=l.length:=by unfold lX;split<;>simp
def aal(l:List Bool)(i:Nat)(b:Bool):(bD l).set i (.bool b)=bD (l.set i b):=by simp[bD,ai8]
def Km{x:ar}{S S':List Bool}(J:S.length<=64)(h:cM x S=some S'):S'.length<=64:=by
 have g:∀{t S S'},fm t S=some S'->S'.length<=64:=by
  intro t S S' h;unfold fm at h;split at h
  .cases h;simp;omega
  .cases h
 have e:∀{S S'},iI S=some S'->S'.length<=64:=by
  intro S S' h;unfold iI at h;split at h
  .cases h;simp
  .cases h
 have tk:∀{n t S'},jP n t S=some S'->S'.length<=64:=λh=>alB (Av h) J;unfold cM at h;repeat' split at h
 all_goals first
  |exact g h
  |exact e h
  |exact tk h
  |(obtain⟨y,_,H⟩:=agO.1 h;exact g H)
  |(obtain⟨y,_,H⟩:=agO.1 h;exact e H)
section
variable (ins:List ar) (vars cells:Int)
theorem RB(B:aF):∀(rest pre:List ar)(T:List Bool)(v:Nat)(A5:aF),(pre++rest).length<=5000->(∀x∈rest,x.op=9\/x.op=10->0<=x.a/\x.a<T.length)->∀k:Kt,
 ∃U V,aL ctx 64 (.loop (Code.at (bh f64) [1,0,1,0,0])) ⟨63,aB,[(0,true,.ptr 0 0 0),(11,true,.d (.list ((pre++rest).map cH))),(12,true,.d (.int .i64 (pre++rest).length)),(13,true,.d (.int .i64 pre.length))],
  [⟨0,0,gn ins vars cells (.vec 1 0 0 0) (.vec 2 0 0 T.length)⟩,⟨1,0,.vec 1 []⟩,⟨2,0,.vec 1 (bD T)⟩,⟨300,v,A5⟩,⟨400,0,B⟩]⟩ k=
  k (.exit 0) ⟨63,aB,[(0,true,.ptr 0 0 0),(11,true,.d (.list ((pre++rest).map cH))),(12,true,.d (.int .i64 (pre++rest).length)),(13,true,.d (.int .i64 (pre++rest).length)),(14,true,.d (.bool false))],
   [⟨0,0,gn ins vars cells (.vec 1 0 0 0) (.vec 2 0 0 T.length)⟩,⟨1,0,.vec 1 []⟩,⟨2,0,.vec 1 (bD (rest.foldl lX T))⟩,⟨300,U,V⟩,⟨400,0,B⟩]⟩
 |[],pre,T,v,A5,J,A6,k=>by
  refine⟨v,A5,?_⟩;rw[ah];simp[f64]
 |x::rest,pre,T,v,A5,J,A6,k=>by
  obtain⟨U,V,ih⟩:=RB B rest (pre++[x]) (lX T x) (v+1) (.box [.d (.int .i64 x.op),.d (.int .i64 x.a),.d (.int .i64 x.b),.d (.int .i64 x.n),.d (.int .i64 x.m)]) (by simpa using J) (λy AH h=>by rw[Bb];exact A6 y (by simp[AH]) h) k;refine⟨U,V,?_⟩;have I:(pre.length:Int)<pre.length+(rest.length+1):=by omega
  have H:IntKind.i64.wrap ((pre.length:Int)+1)=pre.length+1:=jb (by unfold bz;simp at J;omega);rw[Bb]at ih;rw[ah];by_cases A3:x.op=9
  .obtain⟨A7,a2⟩:=A6 x (by simp) (.inl A3);have a3:x.a.toNat<T.length:=by omega
   have e:lX T x=T.set x.a.toNat true:=by simp[lX,A3]
   rw[e,<-aal]at ih;simp[f64,A3]at ih⊢;simp[I,H,A7,a3];rw[uU (by kernel_rfl)];simp[H,e,ih]
  .by_cases A4:x.op=10
   .obtain⟨A7,a2⟩:=A6 x (by simp) (.inr A4);have a3:x.a.toNat<T.length:=by omega
    have e:lX T x=T.set x.a.toNat true:=by simp[lX,A4]
    rw[e,<-aal]at ih;simp[f64,A4]at ih⊢;simp[I,H,A7,a3];rw[uU (by kernel_rfl)];simp[H,e,ih]
   .have e:lX T x=T:=by simp[lX,A3,A4]
    rw[e]at ih;simp[f64,A3,A4]at ih⊢;simp[I,H,e,ih]
theorem Io(L:List Bool):∀(rest pre:List ar)(S:List Bool)(v v1:Nat)(B:aF),(pre++rest).length=L.length->L.length<=5000->S.length<=64->∀(C:aF)(Y:Nat)(k:Kt),
 ∃U A' V S',aL ctx 64 (.loop (Code.at (bh f64) [1,1,0,1,0,0])) ⟨63,aB,[(0,true,.ptr 0 0 0),(37,true,.d (.list ((pre++rest).map cH))),(38,true,.d (.int .i64 (pre++rest).length)),(39,true,.d (.int .i64 pre.length))],
  [⟨0,0,gn ins vars cells (.vec 1 v1 0 S.length) (.vec 2 0 0 L.length)⟩,⟨1,v1,.vec 1 (bD S)⟩,⟨2,0,.vec 1 (bD L)⟩,⟨300,Y,C⟩,⟨400,v,B⟩]⟩ k=
  if gV L pre.length rest S=true then
   k (.exit 2) ⟨63,aB,[(0,true,.ptr 0 0 0),(37,true,.d (.list ((pre++rest).map cH))),(38,true,.d (.int .i64 (pre++rest).length)),(39,true,.d (.int .i64 (pre++rest).length)),(40,true,.d (.bool false))],
    [⟨0,0,gn ins vars cells (.vec 1 A' 0 (S':List Bool).length) (.vec 2 0 0 L.length)⟩,⟨1,A',.vec 1 (bD S')⟩,⟨2,0,.vec 1 (bD L)⟩,⟨300,Y,C⟩,⟨400,U,V⟩]⟩
  else k .ret ⟨63,aB,[(2,true,.d (.bool false))],[⟨0,0,gn ins vars cells (.vec 1 A' 0 S'.length) (.vec 2 0 0 L.length)⟩,⟨1,A',.vec 1 (bD S')⟩,⟨2,0,.vec 1 (bD L)⟩,⟨300,Y,C⟩,⟨400,U,V⟩]⟩
 |[],pre,S,v,v1,B,J,AA,A8,C,Y,k=>by
  refine⟨v,v1,B,S,?_⟩;rw[ah];simp[f64,gV]
 |x::rest,pre,S,v,v1,B,J,AA,A8,C,Y,k=>by
  have I:(pre.length:Int)<pre.length+(rest.length+1):=by omega
  have H:IntKind.i64.wrap ((pre.length:Int)+1)=pre.length+1:=jb (by unfold bz;simp at J;omega);have A2:pre.length<L.length:=by simp at J;omega
  obtain⟨AD,hm,AE⟩:=aak ins vars cells L.length (bD L) x S A8;have he:=Fz ins vars cells L.length (bD L) (bD S) S.length;have AB:(L.getD pre.length false)=L[pre.length]:=by simp[A2]
  cases A0:L[pre.length]
  .cases M:cM x S with
   |none=>
    refine⟨v+1,v1+1,.box [.d (.int .i64 x.op),.d (.int .i64 x.a),.d (.int .i64 x.b),.d (.int .i64 x.n),.d (.int .i64 x.m)],AD,?_⟩;rw[ah];have Z:gV L pre.length (x::rest) S=false:=by simp[gV,AB,A0,M]
    rw[Z];simp[M]at hm;simp[f64,I,A2,A0,hm]
   |some A1=>
    have AC:=Km A8 M;obtain rfl:=AE A1 M;obtain⟨U,A',V,S',ih⟩:=Io L rest (pre++[x]) A1 (v+1) (v1+1) (.box [.d (.int .i64 x.op),.d (.int .i64 x.a),.d (.int .i64 x.b),.d (.int .i64 x.n),.d (.int .i64 x.m)]) (by simpa using J) AA AC C Y k;refine⟨U,A',V,S',?_⟩;have Z:gV L pre.length (x::rest) S=gV L (pre++[x]).length rest A1:=by rw[gV,AB,A0];simp[M]
    rw[Z,ah];simp[M]at hm;simp[f64]at ih⊢;simp[I,H,A2,A0,hm,ih]
  .cases S with
   |nil=>
    simp at he;cases M:cM x []with
    |none=>
     refine⟨v+1,v1+1,.box [.d (.int .i64 x.op),.d (.int .i64 x.a),.d (.int .i64 x.b),.d (.int .i64 x.n),.d (.int .i64 x.m)],AD,?_⟩;rw[ah];have Z:gV L pre.length (x::rest) []=false:=by simp[gV,M]
     rw[Z];simp[M]at hm;simp[f64,I,A2,A0,hm,he]
    |some A1=>
     have AC:=Km A8 M;obtain rfl:=AE A1 M;obtain⟨U,A',V,S',ih⟩:=Io L rest (pre++[x]) A1 (v+1) (v1+1) (.box [.d (.int .i64 x.op),.d (.int .i64 x.a),.d (.int .i64 x.b),.d (.int .i64 x.n),.d (.int .i64 x.m)]) (by simpa using J) AA AC C Y k;refine⟨U,A',V,S',?_⟩;have Z:gV L pre.length (x::rest) []=gV L (pre++[x]).length rest A1:=by simp[gV,M]
     rw[Z,ah];simp[M]at hm;simp[f64]at ih⊢;simp[I,H,A2,A0,hm,he,ih]
   |cons y S=>
    refine⟨v+1,v1,.box [.d (.int .i64 x.op),.d (.int .i64 x.a),.d (.int .i64 x.b),.d (.int .i64 x.n),.d (.int .i64 x.m)],y::S,?_⟩;have Z:gV L pre.length (x::rest) (y::S)=false:=by rw[gV,AB,A0];simp
    rw[Z,ah];simp at he;simp[f64,I,A2,A0,he]
theorem WC(J:ins.length<=5000)(AI:∀x∈ins,x.op=9\/x.op=10->0<=x.a/\x.a<ins.length):
 ∃S',aj ctx 64 [.ptr 0 0 0] [gn ins vars cells (.vec 1 0 0 0) (.vec 2 0 0 ins.length),.vec 1 [],.vec 1 (bD (List.replicate ins.length false))]=
  some (.ret (.d (.bool (gV (pP ins) 0 ins []))),[(0,gn ins vars cells (.vec 1 1 0 (S':List Bool).length) (.vec 2 1 0 ins.length)),(1,.vec 1 (bD S')),(1,.vec 1 (bD (pP ins)))]):=by
 have A9:(pP ins).length=ins.length:=by
  have:∀(l:List ar)(T:List Bool),(l.foldl lX T).length=T.length:=by
   intro l;induction l with
   |nil=>intro T;rfl
   |cons x l ih=>intro T;simp only[List.foldl_cons];rw[ih,Bb]
  rw[show pP ins=ins.foldl lX (List.replicate ins.length false)from rfl,this];simp
 have I:=λB=>RB ins vars cells B ins [] (List.replicate ins.length false) 0 .dead J (by simpa using AI);rw[show ins.foldl lX (List.replicate ins.length false)=pP ins from rfl]at I;have H:=λC Y=>Io ins vars cells (pP ins) ins [] [] 0 0 .dead (by simp[A9]) (by omega) (by simp) C Y;generalize pP ins=L at A9 I H;generalize O:aj ctx 64 _ _=r;rw[aoy (by simp)]at O;simp[f64,A9]at I H O;obtain⟨f1,I⟩:=ahg (I .dead);obtain⟨f2,I⟩:=ahg I;rw[I]at O;clear I;generalize f1 _=a at O;generalize f2 _=b at O;simp at O;replace H:=H b a;obtain⟨g1,H⟩:=ahg H;obtain⟨g2,H⟩:=ahg H;obtain⟨g3,H⟩:=ahg H;obtain⟨g4,H⟩:=ahg H;rw[H]at O;clear H;generalize g1 _=A7 at O;generalize g2 _=a2 at O;generalize g3 _=a3 at O;generalize g4 _=S' at O;refine⟨S',?_⟩;rw[<-O];have AF:ins.length<=L.length:=by omega
 have AG:List.take ins.length (List.map D.bool L)=List.map D.bool L:=by rw[<-A9];simp
 cases AJ:gV L 0 ins []
 .simp[AF,AG]
 .simp[AF,AG]
end
def Aw(succ:Nat->List Nat):∀f:Nat,
 (∀at_ H,(lP succ f at_ H).2.length=H.length/\fresh (lP succ f at_ H).2<=fresh H)/\(∀l H,(lj succ f l H).2.length=H.length/\fresh (lj succ f l H).2<=fresh H)
 |0=>by
  have AB:∀at_ H,(lP succ 0 at_ H).2.length=H.length/\fresh (lP succ 0 at_ H).2<=fresh H:=λat_ H=>by unfold lP;exact⟨rfl,aar _⟩
  refine⟨AB,λl H=>?_⟩;cases l with
  |nil=>unfold lj;exact⟨rfl,aar _⟩
  |cons n r=>unfold lj lP;exact⟨rfl,aar _⟩
 |f+1=>by
  have A5:∀at_ H,(lP succ (f+1) at_ H).2.length=H.length/\fresh (lP succ (f+1) at_ H).2<=fresh H:=by
   intro at_ H;unfold lP;split
   .exact⟨rfl,aar _⟩
   .have h:=(Aw succ f).2 (succ at_) (H.set at_ 1);have Y:=yU (l:=H) (i:=at_) (v:=1) (by decide);obtain⟨s,b,he⟩:∃s b,lj succ f (succ at_) (H.set at_ 1)=(b,s):=⟨_,_,rfl⟩;rw[he]at h⊢;simp only[List.length_set]at h;cases b with
    |true=>exact⟨h.1,by simp only;omega⟩
    |false=>
     have I:=yU (l:=s) (i:=at_) (v:=2) (by decide);exact⟨by simp only[List.length_set];exact h.1,by simp only;omega⟩
  refine⟨A5,λl=>?_⟩;induction l with
  |nil=>intro H;unfold lj;exact⟨rfl,aar _⟩
  |cons n r ih=>
   intro H;unfold lj;have h:=A5 n H;obtain⟨s,b,he⟩:∃s b,lP succ (f+1) n H=(b,s):=⟨_,_,rfl⟩;rw[he]at h⊢;cases b with
   |true=>exact h
   |false=>
    have I:=ih s;simp only at h;exact⟨by simp only;rw[I.1,h.1],by simp only;omega⟩
@[simp] def iD(l:List Nat):List D:=l.map λ(n:Nat)=>D.int .i64 (n:Int)
def uc(i:Nat)(x:ar):List Nat:=if x.op=9 then [x.a.toNat]else if x.op=10 then [i+1,x.a.toNat]else if x.op=15 then []else [i+1]
def aam(i:Nat)(x:ar)(hi:i<5000)(A6:x.op=9\/x.op=10->0<=x.a):aj ctx 181 [.d (.int .i64 i),.d (cH x)] []=some (.ret (.d (.list (iD (uc i x)))),[]):=by
 have w:=b9 ((i:Int)+1);rw[akp (by simp)];unfold uc;by_cases A':x.op=9
 .have h:=A6 (.inl A');have I:max x.a 0=x.a:=by omega
  simp[f181,A',I]
 by_cases A0:x.op=10
 .have h:=A6 (.inr A0);have I:max x.a 0=x.a:=by omega
  simp[f181,A0,w,I,List.range']
 by_cases A7:x.op=15
 .simp[f181,A7]
 .simp[f181,A',A0,A7,w]
section
variable (ins:List ar) (vars cells:Int) (J M:Nat) (S T:List D)
def Uz(f:Nat):Prop:=∀(at_:Nat)(H:List Nat),fresh H<f->at_<ins.length->H.length=ins.length->
 aj ctx 113 [.ptr 0 0 0,.d (.int .i64 at_),.vec 1 0 0 ins.length] [gn ins vars cells (.vec 2 0 0 J) (.vec 3 0 0 M),.vec 1 (iD H),.vec 1 S,.vec 1 T]=
  some (.ret (.d (.bool (lP (ig ins) f at_ H).1)),[(0,gn ins vars cells (.vec 2 0 0 J) (.vec 3 0 0 M)),(0,.vec 1 (iD (lP (ig ins) f at_ H).2)),(0,.vec 1 S),(0,.vec 1 T)])
theorem Du(A8:ins.length<=5000)(f at_:Nat)(A1:Uz ins vars cells J M S T f):∀(rest pre:List Nat)(H:List Nat),fresh H<f->(pre++rest).length<5000->(∀n∈rest,n<ins.length)->H.length=ins.length->∀k:Kt,
 aL ctx 113 (.loop (Code.at (bh f113) [1,1,1,0,1,0,1,0,0])) ⟨67,aB,[(0,true,.ptr 0 0 0),(1,true,.d (.int .i64 at_)),(2,true,.vec 1 0 0 ins.length),(41,true,.d (.list (iD (pre++rest)))),(42,true,.d (.int .i64 (pre++rest).length)),(43,true,.d (.int .i64 pre.length))],
  [⟨0,0,gn ins vars cells (.vec 2 0 0 J) (.vec 3 0 0 M)⟩,⟨1,0,.vec 1 (iD H)⟩,⟨2,0,.vec 1 S⟩,⟨3,0,.vec 1 T⟩]⟩ k=
  if (lj (ig ins) f (rest.filter λj=>!jQ ins j) H).1=true then
   k .ret ⟨67,aB,[(6,true,.d (.bool true))],[⟨0,0,gn ins vars cells (.vec 2 0 0 J) (.vec 3 0 0 M)⟩,⟨1,0,.vec 1 (iD (lj (ig ins) f (rest.filter λj=>!jQ ins j) H).2)⟩,⟨2,0,.vec 1 S⟩,⟨3,0,.vec 1 T⟩]⟩
  else k (.exit 0) ⟨67,aB,[(0,true,.ptr 0 0 0),(1,true,.d (.int .i64 at_)),(2,true,.vec 1 0 0 ins.length),(41,true,.d (.list (iD (pre++rest)))),(42,true,.d (.int .i64 (pre++rest).length)),(43,true,.d (.int .i64 (pre++rest).length)),(44,true,.d (.bool false))],
   [⟨0,0,gn ins vars cells (.vec 2 0 0 J) (.vec 3 0 0 M)⟩,⟨1,0,.vec 1 (iD (lj (ig ins) f (rest.filter λj=>!jQ ins j) H).2)⟩,⟨2,0,.vec 1 S⟩,⟨3,0,.vec 1 T⟩]⟩
 |[],pre,H,A2,Z,y,A3,k=>by
  rw[ah];simp[f113,lj]
 |n::rest,pre,H,A2,Z,y,A3,k=>by
  have O:=y n (by simp);have A9:ins[n]?=some ins[n]:=by simp[O]
  have Y:(pre.length:Int)<pre.length+(rest.length+1):=by omega
  have I:IntKind.i64.wrap ((pre.length:Int)+1)=pre.length+1:=jb (by unfold bz;simp at Z;omega);by_cases U:ins[n].op=11
  .have A4:jQ ins n=true:=by simp[jQ,A9,U]
   have ih:=Du A8 f at_ A1 rest (pre++[n]) H A2 (by simpa using Z) (λm hm=>y m (by simp[hm])) A3 k;rw[ah];simp[f113,A4]at ih⊢;simp[Y,I,O,U,ih]
  .have A4:jQ ins n=false:=by simp[jQ,A9,U]
   have V:=A1 n H A2 O A3;have AA:=(Aw (ig ins) f).1 n H;have e:lj (ig ins) f ((n::rest).filter λj=>!jQ ins j) H=if (lP (ig ins) f n H).1=true then (true,(lP (ig ins) f n H).2)else lj (ig ins) f (rest.filter λj=>!jQ ins j) (lP (ig ins) f n H).2:=by
    rw[List.filter_cons,A4];simp only[Bool.not_false,ad7];rw[lj];obtain⟨s,b,he⟩:∃s b,lP (ig ins) f n H=(b,s):=⟨_,_,rfl⟩;rw[he];cases b<;>rfl
   rw[e];obtain⟨s,b,he⟩:∃s b,lP (ig ins) f n H=(b,s):=⟨_,_,rfl⟩;rw[he]at V AA⊢;simp only at AA;rw[ah];cases b
   .have ih:=Du A8 f at_ A1 rest (pre++[n]) s (by omega) (by simpa using Z) (λm hm=>y m (by simp[hm])) (by omega) k;simp[f113]at ih V⊢;simp[Y,I,O,U,V,ih]
   .simp at V;simp[f113];simp[Y,I,O,U,V]
end
def FA(ins:List ar):Prop:=∀i x,ins[i]?=some x->(x.op=9\/x.op=10->0<=x.a/\x.a<(ins.length:Int))/\(x.op≠9->x.op≠15->i+1<ins.length)
def aan{AI:Int->Nat}{ins:List ar}{vars cells:Int}(h:mO AI ins vars cells=true):FA ins:=by
 intro i x A1;simp only[mO,Ds]at h;have A2:=sH h.2 i _ A1;have hi:i<ins.length:=(aap.1 A1).1;simp only[agT]at A2;have AJ:i+1=ins.length->x.op=15:=by
  intro J;have A3:=h.1;simp only[FY,Ds,ac2]at A3;have AB:=A3.2;unfold tJ at AB;rw[aiC,show ins.length-1=i by omega,A1]at AB;simpa using AB
 refine⟨λI=>?_,λA4 AC=>?_⟩
 .unfold dH at A2;rcases I with I|I<;>simp[I]at A2<;>omega
 .have:i+1≠ins.length:=λh=>AC (AJ h);omega
section
variable (ins:List ar) (vars cells:Int) (O U:Nat) (S T:List D)
theorem aao(i:Nat)(x:ar):(uc i x).length<=2:=by
 unfold uc;repeat' split
 all_goals simp
theorem agv(M:FA ins){i:Nat}(hi:i<ins.length):∀j∈uc i ins[i],j<ins.length:=by
 have h:=M i ins[i] (by simp[hi]);intro j I;unfold uc at I;split at I
 .rename_i A4;have:=h.1 (.inl A4);simp at I;omega
 .rename_i A4;split at I
  .rename_i AK;have:=h.1 (.inr AK);have:=h.2 A4 (by omega);simp at I;omega
  .split at I
   .simp at I
   .rename_i AC;have:=h.2 A4 AC;simp at I;omega
theorem acO{i:Nat}(hi:i<ins.length):ig ins i=if ins[i].op=11 then []else (uc i ins[i]).filter λj=>!jQ ins j:=by
 have A1:ins[i]?=some ins[i]:=by simp[hi]
 unfold ig tI jQ xR uc;rw[A1];simp only[ac2];split<;>rfl
theorem Ni(V:ins.length<=5000)(M:FA ins):∀f,Uz ins vars cells O U S T f
 |0=>λat_ H A2 _ _=>by omega
 |f+1=>by
  intro at_ H A2 Y AD;have A':at_<H.length:=by omega
  have AE:H.getD at_ 0=H[at_]:=by simp[A']
  rw[ajV (by simp)];unfold lP;rw[AE];by_cases Z:H[at_]=0
  .rw[aaf (by simp[Z])];have AL:=Mn (l:=H) (i:=at_) (v:=1) (by rw[AE];exact Z) A' (by decide);have AM:(iD H).set at_ (.int .i64 1)=iD (H.set at_ 1):=by simp[iD,ai8]
   rw[acO ins Y];by_cases A5:ins[at_].op=11
   .rw[ac1 A5];have AF:((iD H).set at_ (.int .i64 1)).set at_ (.int .i64 2)=iD ((H.set at_ 1).set at_ 2):=by simp[iD,ai8]
    simp at AF;simp[f113,A',Y,Z,A5,lj,AF]
   .rw[aaf A5];have A0:=aam at_ ins[at_] (by omega) (λh=>((M at_ _ (by simp[Y])).1 h).1);have y:=Du ins vars cells O U S T V f at_ (Ni V M f) (uc at_ ins[at_]) [] (H.set at_ 1) (by omega) (by have:=aao at_ ins[at_];simp;omega) (agv ins M Y) (by simp;omega);simp only[aeg,ac7]at y;rw[<-AM]at y;have A6:=(Aw (ig ins) f).2 ((uc at_ ins[at_]).filter λj=>!jQ ins j) (H.set at_ 1);obtain⟨s,b,he⟩:∃s b,lj (ig ins) f ((uc at_ ins[at_]).filter λj=>!jQ ins j) (H.set at_ 1)=(b,s):=⟨_,_,rfl⟩;rw[he]at y A6⊢;have AG:(iD s).set at_ (.int .i64 2)=iD (s.set at_ 2):=by simp[iD,ai8]
    simp only[List.length_set]at A6;have AN:at_<s.length:=by omega
    simp at AG;cases b
    .simp[f113]at A0 y⊢;simp[A',Y,Z,A5,A0,y,AN,AG]
    .simp[f113]at A0 y⊢;simp[A',Y,Z,A5,A0,y]
  .rw[ac1 Z];simp[f113,A',Y,Z];generalize H[at_]=z;by_cases q:z=1
   .subst q;rfl
   .have q2:¬((z:Int)=1):=by omega
    simp[q,q2]
theorem Hg(V:ins.length<=5000)(M:FA ins):∀(rest pre:List Nat)(H:List Nat),pre++rest=List.range ins.length->H.length=ins.length->∀(v:Nat)(k:Kt),
 ∃A7 AA,aL ctx 65 (.loop (Code.at (bh f65) [1,1,0,1,0,0])) ⟨26,aB,[(0,true,.ptr 0 0 0),(3,true,.vec 650 v 0 ins.length),(17,true,.d (.int .i64 ins.length)),(18,true,.d (.int .i64 pre.length))],
  [⟨0,0,gn ins vars cells (.vec 1 0 0 O) (.vec 2 0 0 U)⟩,⟨1,0,.vec 1 S⟩,⟨2,0,.vec 1 T⟩,⟨650,v,.vec 1 (iD H)⟩]⟩ k=
  if rounds (ig ins) (ins.length+1) rest H=true then
   k .ret ⟨26,aB,[(2,true,.d (.bool true))],[⟨0,0,gn ins vars cells (.vec 1 0 0 O) (.vec 2 0 0 U)⟩,⟨1,0,.vec 1 S⟩,⟨2,0,.vec 1 T⟩,⟨650,A7,.vec 1 (iD AA)⟩]⟩
  else k (.exit 0) ⟨26,aB,[(0,true,.ptr 0 0 0),(3,true,.vec 650 A7 0 ins.length),(17,true,.d (.int .i64 ins.length)),(18,true,.d (.int .i64 ins.length)),(19,true,.d (.bool false))],
   [⟨0,0,gn ins vars cells (.vec 1 0 0 O) (.vec 2 0 0 U)⟩,⟨1,0,.vec 1 S⟩,⟨2,0,.vec 1 T⟩,⟨650,A7,.vec 1 (iD AA)⟩]⟩
 |[],pre,H,A8,AD,v,k=>by
  refine⟨v,H,?_⟩;have AH:pre.length=ins.length:=by simpa using ahw List.length A8
  rw[ah];simp[f65,rounds,AH]
 |n::rest,pre,H,A8,AD,v,k=>by
  have AH:pre.length+(rest.length+1)=ins.length:=by simpa using ahw List.length A8
  have A0:n=pre.length:=by
   have:=ahw (λl=>l[pre.length]?) A8;simp at this;rw[List.getElem?_range (by omega)]at this;simpa using this
  have J:pre.length<ins.length:=by omega
  have A3:=b9 ((pre.length:Int)+1);have AL:fresh H<=H.length:=List.countP_le_length;have A9:=Ni ins vars cells O U S T V M (ins.length+1) pre.length H (by omega) (by omega) AD;have A6:=((Aw (ig ins) (ins.length+1)).1 pre.length H).1;subst A0;rw[rounds];obtain⟨s,b,he⟩:∃s b,lP (ig ins) (ins.length+1) pre.length H=(b,s):=⟨_,_,rfl⟩;rw[he]at A9 A6⊢;simp only at A6;cases b
  .obtain⟨A7,AA,ih⟩:=Hg V M rest (pre++[pre.length]) s (by simpa using A8) (by omega) v k;refine⟨A7,AA,?_⟩;rw[ah];simp[f65]at ih A9⊢;simp[J,A3,A9,ih]
  .refine⟨v,s,?_⟩;rw[ah];simp at A9;simp[f65];simp[J,A3,A9]
theorem WD(V:ins.length<=5000)(M:FA ins):
 aj ctx 65 [.ptr 0 0 0] [gn ins vars cells (.vec 1 0 0 O) (.vec 2 0 0 U),.vec 1 S,.vec 1 T]=
  some (.ret (.d (.bool (rounds (ig ins) (ins.length+1) (List.range ins.length) (List.replicate ins.length 0)))),[(0,gn ins vars cells (.vec 1 0 0 O) (.vec 2 0 0 U)),(0,.vec 1 S),(0,.vec 1 T)]):=by
 have J:=Hg ins vars cells O U S T V M (List.range ins.length) [] (List.replicate ins.length 0) rfl (by simp) 1;obtain⟨f1,J⟩:=ahg J;obtain⟨f2,J⟩:=ahg J;have g1:(ins.length:Int)*8<=140737488355328/\(ins.length:Int)<=4611686018427387904:=by omega
 rw[aoz (by simp)];simp[f65]at J⊢;simp[g1,J];cases AO:rounds (ig ins) (ins.length+1) (List.range ins.length) (List.replicate ins.length 0)<;>simp;trace_state
end
@[simp] def Kn(ins:List ar)(vars cells:Int):D:=.agg [.list (ins.map cH),.int .i64 vars,.int .i64 cells]
def DR(H:Int->Nat)(V:Fx 45 H)(ins:List ar)(vars cells:Int)(J:ins.length<=5000):
 aj ctx 35 [.d (Kn ins vars cells)] []=some (.ret (.d (.bool (qf H ins vars cells))),[]):=by
 have I:=aaj H V ins vars cells 0 ins.length [] (bD (List.replicate ins.length false)) J;have g1:(ins.length:Int)<=140737488355328/\(ins.length:Int)<=4611686018427387904:=by omega
 rw[aoi (by simp)];unfold qf;cases M:mO H ins vars cells
 .simp[M]at I;simp[f35,g1];rw[uU (by kernel_rfl)];simp[I]
 .have O:=aan M;obtain⟨S',T⟩:=WC ins vars cells J (λx Y h=>by
   obtain⟨i,hi,rfl⟩:=List.getElem_of_mem Y;exact (O i _ (by simp[hi])).1 h)
  have U:=WD ins vars cells S'.length ins.length (bD S') (bD (pP ins)) J O;simp[M]at I T U;simp[f35,g1];rw[uU (by kernel_rfl)];simp[I,T];cases Z:gV (pP ins) 0 ins []
  .simp
  .simp[U]
def agw(x y:ar):x=y↔x.op=y.op/\x.a=y.a/\x.b=y.b/\x.n=y.n/\x.m=y.m:=by
 constructor
 .rintro rfl;simp
 .intro h;cases x;cases y;simp_all
instance:DecidableEq ar:=λx y=>decidable_of_iff _ (agw x y).symm
def Dv(e:EL):(eY e).1=0↔e.1=0:=by
 unfold eY;split<;>simp[*]
def acP{p:Pg}{g:List ar×Int×Int}(h:sn p=some g):g.1.length<=4096:=by
 unfold sn at h;simp only at h;split at h
 .cases h
 .cases h;simp only[acY,List.length_map,ac5,ac7];omega
structure FB(x:ar)(s t:Ms):Prop where
 len:t.cells.length=s.cells.length
 cI:∀n∈t.cells,bz n
 sI:∀n∈t.eL,bz n
 oA:t.eL.length<=64
 fuel:t.fuel=s.fuel\/(x.op=11/\t.fuel+1=s.fuel/\s.fuel≠0)
 at_:t.at_=s.at_+1\/((x.op=9\/x.op=10)/\t.at_=x.a)
 ok:t.fault=0->t.eL.length=hZ x s.eL.length/\(x.op=9->t.at_=x.a)/\(x.op=11->t.fuel+1=s.fuel)
def WE{x:ar}{s:Ms}(V:Fit x s.cells.length s.eL.length)(AL:wK s)(H:s.fault=0)(AM:1<=x.op/\x.op<=14)(AN:x.op=1->bz x.n):FB x s (bB x s):=by
 obtain⟨C,S,a,f,AW⟩:=s;obtain⟨O,M,_,_,_⟩:=AL;simp only at V O M H;subst H;have oA:=V.top;have A9:=wL;have AE:=λk=>apf O k;have AO:x.op=1\/x.op=2\/x.op=3\/x.op=4\/x.op=5\/x.op=6\/x.op=7\/x.op=8\/x.op=9\/x.op=10\/x.op=11\/x.op=12\/x.op=13\/x.op=14:=by omega
 rcases AO with e|e|e|e|e|e|e|e|e|e|e|e|e|e
 .have:=V.i1 e;have D:bB x ⟨C,S,a,f,0⟩=⟨C,S++[x.n],a+1,f,0⟩:=by simp[bB,dI,e,Ms.push]
  rw[D];exact⟨rfl,O,tX M (AN e),by simp;omega,.inl rfl,.inl rfl,λ_=>⟨by simp[hZ,e],by omega,by omega⟩⟩
 .have:=V.i2 (by omega);have D:bB x ⟨C,S,a,f,0⟩=⟨C,S++[fo C x.a],a+1,f,0⟩:=by simp[bB,dI,e,Ms.push]
  rw[D];exact⟨rfl,O,tX M (AE _),by simp;omega,.inl rfl,.inl rfl,λ_=>⟨by simp[hZ,e],by omega,by omega⟩⟩
 .have:=V.i2 (by omega);have D:bB x ⟨C,S,a,f,0⟩=⟨C,S++[cg (decide (fo C x.a≠0))],a+1,f,0⟩:=by simp[bB,dI,e,Ms.push]
  rw[D];exact⟨rfl,O,tX M (A9 _),by simp;omega,.inl rfl,.inl rfl,λ_=>⟨by simp[hZ,e],by omega,by omega⟩⟩
 .have:=V.i4 (by omega);by_cases A2:iT x (S.getLast?.getD 0)=true
  .have D:bB x ⟨C,S,a,f,0⟩=⟨C,S.dropLast++[fo C (x.a+(S.getLast?.getD 0-x.n))],a+1,f,0⟩:=by simp[bB,dI,e,Ms.push,Ms.pop,Ms.top,A2]
   rw[D];exact⟨rfl,O,tX (mE M) (AE _),by simp;omega,.inl rfl,.inl rfl,λ_=>⟨by simp[hZ,e];omega,by omega,by omega⟩⟩
  .have D:bB x ⟨C,S,a,f,0⟩=⟨C,S.dropLast,a+1,f,3⟩:=by simp[bB,dI,e,Ms.push,Ms.pop,Ms.top,A2]
   rw[D];exact⟨rfl,O,mE M,by simp;omega,.inl rfl,.inl rfl,λh=>by simp at h⟩
 .have:=V.i4 (by omega);by_cases A2:iT x (S.getLast?.getD 0)=true
  .have D:bB x ⟨C,S,a,f,0⟩=⟨C,S.dropLast++[cg (decide (fo C (x.a+(S.getLast?.getD 0-x.n))≠0))],a+1,f,0⟩:=by by_cases A3:fo C (x.a+(S.getLast?.getD 0-x.n))=0<;>simp[bB,dI,e,Ms.push,Ms.pop,Ms.top,A2,A3]
   rw[D];exact⟨rfl,O,tX (mE M) (A9 _),by simp;omega,.inl rfl,.inl rfl,λ_=>⟨by simp[hZ,e];omega,by omega,by omega⟩⟩
  .have D:bB x ⟨C,S,a,f,0⟩=⟨C,S.dropLast,a+1,f,3⟩:=by simp[bB,dI,e,Ms.push,Ms.pop,Ms.top,A2]
   rw[D];exact⟨rfl,O,mE M,by simp;omega,.inl rfl,.inl rfl,λh=>by simp at h⟩
 .have:=V.i6 e;have D:bB x ⟨C,S,a,f,0⟩=⟨oP C x.a (S.getLast?.getD 0),S.dropLast,a+1,f,0⟩:=by simp[bB,dI,e,Ms.pop,Ms.top]
  rw[D];exact⟨by simp[oP],ZY O _ (Ww M),mE M,by simp;omega,.inl rfl,.inl rfl,λ_=>⟨by simp[hZ,e],by omega,by omega⟩⟩
 .have:=V.i7 e;by_cases A2:iT x (S.dropLast.getLast?.getD 0)=true
  .have D:bB x ⟨C,S,a,f,0⟩=⟨oP C (x.a+(S.dropLast.getLast?.getD 0-x.n)) (S.getLast?.getD 0),S.dropLast.dropLast,a+1,f,0⟩:=by simp[bB,dI,e,Ms.push,Ms.pop,Ms.top,A2]
   rw[D];exact⟨by simp[oP],ZY O _ (Ww M),mE (mE M),by simp;omega,.inl rfl,.inl rfl,λ_=>⟨by simp[hZ,e];omega,by omega,by omega⟩⟩
  .have D:bB x ⟨C,S,a,f,0⟩=⟨C,S.dropLast.dropLast,a+1,f,3⟩:=by simp[bB,dI,e,Ms.push,Ms.pop,Ms.top,A2]
   rw[D];exact⟨rfl,O,mE (mE M),by simp;omega,.inl rfl,.inl rfl,λh=>by simp at h⟩
 .obtain⟨f1,f2⟩:=V.i8 e;have D:bB x ⟨C,S,a,f,0⟩=Mw x ⟨C,S,a+1,f,0⟩:=by simp[bB,dI,fZ,e]
  rw[D];unfold Mw;by_cases A5:x.b=6\/x.b=7
  .have:=f1 A5;rw[ac1 A5];have key:∀p:Int×Bool×Int,bz p.1->FB x ⟨C,S,a,f,0⟩ (if p.2.2=0 then ⟨C,S.dropLast++[p.1],a+1,f,0⟩else ⟨C,S.dropLast,a+1,f,p.2.2⟩):=by
    intro p AA;by_cases A4:p.2.2=0
    .rw[ac1 A4];exact⟨rfl,O,tX (mE M) AA,by simp;omega,.inl rfl,.inl rfl,λ_=>⟨by simp[hZ,e,A5];omega,by omega,by omega⟩⟩
    .rw[aaf A4];exact⟨rfl,O,mE M,by simp;omega,.inl rfl,.inl rfl,λh=>absurd h A4⟩
   exact key _ (aeh x.b (S.getLast?.getD 0) (decide (x.a=1)))
  .have:=f2 A5;rw[aaf A5];have key:∀p:Int×Bool×Int,bz p.1->FB x ⟨C,S,a,f,0⟩ (if p.2.2=0 then ⟨C,S.dropLast.dropLast++[p.1],a+1,f,0⟩else ⟨C,S.dropLast.dropLast,a+1,f,p.2.2⟩):=by
    intro p AA;by_cases A4:p.2.2=0
    .rw[ac1 A4];exact⟨rfl,O,tX (mE (mE M)) AA,by simp;omega,.inl rfl,.inl rfl,λ_=>⟨by simp[hZ,e,A5];omega,by omega,by omega⟩⟩
    .rw[aaf A4];exact⟨rfl,O,mE (mE M),by simp;omega,.inl rfl,.inl rfl,λh=>absurd h A4⟩
   exact key _ (NV x.b (S.dropLast.getLast?.getD 0) (S.getLast?.getD 0) (decide (x.a=1)) (Ww (mE M)))
 .have D:bB x ⟨C,S,a,f,0⟩=⟨C,S,x.a,f,0⟩:=by simp[bB,dI,fZ,e]
  rw[D];exact⟨rfl,O,M,oA,.inl rfl,.inr ⟨.inl e,rfl⟩,λ_=>⟨by simp[hZ,e],λ_=>rfl,by omega⟩⟩
 .have:=V.i10 e;by_cases A3:S.getLast?.getD 0=0
  .have D:bB x ⟨C,S,a,f,0⟩=⟨C,S.dropLast,x.a,f,0⟩:=by simp[bB,dI,fZ,e,Ms.top,Ms.pop,A3]
   rw[D];exact⟨rfl,O,mE M,by simp;omega,.inl rfl,.inr ⟨.inr e,rfl⟩,λ_=>⟨by simp[hZ,e],by omega,by omega⟩⟩
  .have D:bB x ⟨C,S,a,f,0⟩=⟨C,S.dropLast,a+1,f,0⟩:=by simp[bB,dI,fZ,e,Ms.top,Ms.pop,A3]
   rw[D];exact⟨rfl,O,mE M,by simp;omega,.inl rfl,.inl rfl,λ_=>⟨by simp[hZ,e],by omega,by omega⟩⟩
 .by_cases A3:f=0
  .have D:bB x ⟨C,S,a,f,0⟩=⟨C,S,a+1,f,4⟩:=by simp[bB,dI,fZ,e,A3]
   rw[D];exact⟨rfl,O,M,oA,.inl rfl,.inl rfl,λh=>by simp at h⟩
  .have D:bB x ⟨C,S,a,f,0⟩=⟨C,S,a+1,f-1,0⟩:=by simp[bB,dI,fZ,e,A3]
   rw[D];exact⟨rfl,O,M,oA,.inr ⟨e,by simp,A3⟩,.inl rfl,λ_=>⟨by simp[hZ,e],by omega,λ_=>by simp⟩⟩
 .have:=V.i12 e;have D:bB x ⟨C,S,a,f,0⟩=⟨pb x C,S,a+1,f,0⟩:=by simp[bB,dI,fZ,e]
  rw[D];exact⟨Wx this.2,acy O x,M,oA,.inl rfl,.inl rfl,λ_=>⟨by simp[hZ,e],by omega,by omega⟩⟩
 .have:=V.i13 e;have D:bB x ⟨C,S,a,f,0⟩=⟨C,S++[cg (tM C x)],a+1,f,0⟩:=by simp[bB,dI,fZ,e,Ms.push]
  rw[D];exact⟨rfl,O,tX M (A9 _),by simp;omega,.inl rfl,.inl rfl,λ_=>⟨by simp[hZ,e],by omega,by omega⟩⟩
 .have:=V.i2 (by omega);have D:bB x ⟨C,S,a,f,0⟩=⟨C,S++[cg (decide (x.n<=fo C x.a/\fo C x.a<=x.m))],a+1,f,0⟩:=by simp[bB,dI,fZ,e,Ms.push]
  rw[D];exact⟨rfl,O,tX M (A9 _),by simp;omega,.inl rfl,.inl rfl,λ_=>⟨by simp[hZ,e],by omega,by omega⟩⟩
def Ko(l:List ar):Prop:=∀x∈l,bz x.n
def zy{l:List ar}{r:Nat->Nat}{st:Nat->List Bool}{n:Nat}{s:Ms}{x:ar}(y:Good jT n l r st)(A6:Ko l)(I:Lg l st n s)(H:s.fault=0)(J:l[s.at_.toNat]?=some x)(T:x.op≠15):
 Fit x s.cells.length s.eL.length/\(1<=x.op/\x.op<=14)/\Lg l st n (bB x s)/\((bB x s).fault=0->(bB x s).fuel+1=s.fuel\/((bB x s).fuel=s.fuel/\r (bB x s).at_.toNat<r s.at_.toNat)):=by
 obtain⟨AX,AF⟩:=I.here H;have A4:=I.xc.place;have AY:=y.len;obtain⟨AG,A7,AP,AQ,AM⟩:=al0 (S':=st (s.at_.toNat+1)) (y.form _ x J) (y.mv _ x J) (by rw[<-AF];exact I.oA);rw[<-AF]at AG A7;have AH:Fit x s.cells.length s.eL.length:=by rw[I.len];exact AG
 have AI:1<=x.op/\x.op<=14:=by omega
 have Y:=WE AH I.xc H AI (λ_=>A6 x (ac6 J));have AZ:s.at_.toNat+1<l.length:=by
  have:¬s.at_.toNat+1=l.length:=λh=>T ((y.Tl J).2 h);omega
 have AR:(x.op=9\/x.op=10)->0<=x.a/\x.a.toNat<l.length:=λA8=>y.tgt J A8;have AS:0<=(bB x s).at_/\(bB x s).at_.toNat<l.length:=by
  rcases Y.at_ with h|⟨A',A0⟩
  .rw[h];omega
  .rw[A0];exact AR A'
 have AT:(bB x s).at_.toNat∈xR l s.at_.toNat\/(bB x s).fault≠0:=by
  by_cases U:(bB x s).fault=0
  .left;unfold xR;rw[J];simp only
   by_cases AB:x.op=9
   .rw[ac1 AB,(Y.ok U).2.1 AB];simp
   .rw[aaf AB];by_cases AJ:x.op=10
    .rw[ac1 AJ];rcases Y.at_ with h|⟨_,A0⟩
     .rw[h];simp;left;omega
     .rw[A0];simp
    .rw[aaf AJ,aaf T];rcases Y.at_ with h|⟨A',_⟩
     .rw[h];simp;omega
     .omega
  .exact .inr U
 refine⟨AH,AI,⟨⟨Y.cI,Y.sI,by rw[Y.len];exact I.xc.ZW,?_,by omega⟩,by rw[Y.len];exact I.len,Y.oA,λU=>⟨AS.2,?_⟩⟩,λU=>?_⟩
 .have:=I.xc.fuel;rcases Y.fuel with h|⟨_,h,A0⟩<;>omega
 .obtain⟨AU,A_,Aa⟩:=Y.ok U;rw[AU];by_cases A8:x.op=9\/x.op=10
  .have AV:=y.BH _ x J A8;rcases Y.at_ with h|⟨_,h⟩
   .rw[h,<-A7];congr 2;omega
   .rw[h,AV];rcases A8 with e|e
    .rw[<-A7,AQ e];rfl
    .rw[<-A7,AP e];rfl
  .rcases Y.at_ with h|⟨A',_⟩
   .rw[h,<-A7];congr 2;omega
   .exact absurd A' A8
 .by_cases AC:x.op=11
  .exact .inl ((Y.ok U).2.2 AC)
  .right;refine⟨?_,?_⟩
   .rcases Y.fuel with h|⟨h,_⟩
    .exact h
    .exact absurd h AC
   .rcases AT with h|h
    .exact y.aiA _ x J AC _ h
    .exact absurd U h
def agx{l:List ar}{r:Nat->Nat}{st:Nat->List Bool}{n:Nat}(y:Good jT n l r st)(A6:Ko l):∀(f k:Nat)(s:Ms),Lg l st n s->s.fuel=(f:Int)->r s.at_.toNat<=k->∃t,pQ l s t/\Lg l st n t:=by
 intro f;induction f with
 |zero=>
  intro k;induction k with
  |zero=>
   intro s I V AD;by_cases H:s.fault=0
   .obtain⟨x,J⟩:∃x,l[s.at_.toNat]?=some x:=⟨_,ado (I.here H).1⟩;by_cases T:x.op=15
    .exact⟨s,.fin s x H J T,I⟩
    .obtain⟨_,_,Z,A1⟩:=zy y A6 I H J T;by_cases U:(bB x s).fault=0
     .have:=A1 U;have:=Z.xc.fuel;omega
     .exact⟨_,.step s x _ H J T (.fault _ U),Z⟩
   .exact⟨s,.fault s H,I⟩
  |succ k ih=>
   intro s I V AD;by_cases H:s.fault=0
   .obtain⟨x,J⟩:∃x,l[s.at_.toNat]?=some x:=⟨_,ado (I.here H).1⟩;by_cases T:x.op=15
    .exact⟨s,.fin s x H J T,I⟩
    .obtain⟨_,_,Z,A1⟩:=zy y A6 I H J T;by_cases U:(bB x s).fault=0
     .have A1:=A1 U;have:=Z.xc.fuel;obtain⟨t,A',A0⟩:=ih (bB x s) Z (by omega) (by omega);exact⟨t,.step s x _ H J T A',A0⟩
     .exact⟨_,.step s x _ H J T (.fault _ U),Z⟩
   .exact⟨s,.fault s H,I⟩
 |succ f AK=>
  intro k;induction k with
  |zero=>
   intro s I V AD;by_cases H:s.fault=0
   .obtain⟨x,J⟩:∃x,l[s.at_.toNat]?=some x:=⟨_,ado (I.here H).1⟩;by_cases T:x.op=15
    .exact⟨s,.fin s x H J T,I⟩
    .obtain⟨_,_,Z,A1⟩:=zy y A6 I H J T;by_cases U:(bB x s).fault=0
     .have A1:=A1 U;obtain⟨t,A',A0⟩:=AK (r (bB x s).at_.toNat) (bB x s) Z (by omega) (aar _);exact⟨t,.step s x _ H J T A',A0⟩
     .exact⟨_,.step s x _ H J T (.fault _ U),Z⟩
   .exact⟨s,.fault s H,I⟩
  |succ k ih=>
   intro s I V AD;by_cases H:s.fault=0
   .obtain⟨x,J⟩:∃x,l[s.at_.toNat]?=some x:=⟨_,ado (I.here H).1⟩;by_cases T:x.op=15
    .exact⟨s,.fin s x H J T,I⟩
    .obtain⟨_,_,Z,A1⟩:=zy y A6 I H J T;by_cases U:(bB x s).fault=0
     .rcases A1 U with A1|⟨Ab,Ac⟩
      .obtain⟨t,A',A0⟩:=AK (r (bB x s).at_.toNat) (bB x s) Z (by omega) (aar _);exact⟨t,.step s x _ H J T A',A0⟩
      .obtain⟨t,A',A0⟩:=ih (bB x s) Z (by omega) (by omega);exact⟨t,.step s x _ H J T A',A0⟩
     .exact⟨_,.step s x _ H J T (.fault _ U),Z⟩
   .exact⟨s,.fault s H,I⟩
@[simp] def rM(ins:List ar)(vars cells:Int)(s:Ms)(G:List Int)(v:Nat)(c:aF):Mem:=
 [⟨250,1,.box [.d (.list (ins.map cH)),.d (.int .i64 vars),.d (.int .i64 cells)]⟩,⟨400,1,.box [.lit (.slice none 0 0),.d (.int .i64 0),.d (.int .i64 0)]⟩,⟨500,v,c⟩,⟨1701,2,.vec 1 (s.cells.map jD)⟩,
  ⟨2150,1,.box (mB (.d (.list (ins.map cH))) vars cells (.vec 1701 2 0 s.cells.length) s.eL G s.eL.length s.at_ s.fuel s.fault)⟩,⟨4051,0,.dead⟩]
def acQ(ins:List ar)(vars cells:Int){r:Nat->Nat}{st:Nat->List Bool}{n:Nat}(A1:Good jT n ins r st)(A8:Ko ins)(k:Kt)(R:bS){s t:Ms}(h:pQ ins s t):Lg ins st n s->
 (∀X v c G,t.eL.length+G.length=64->k (.exit 0) ⟨89,aB,(3,true,.ptr 250 1 0)::(6,true,.ptr 400 1 0)::(7,true,.ptr 2150 1 0)::X,rM ins vars cells t G v c⟩=R)->
 ∀X v c G,s.eL.length+G.length=64->
 aL ctx 14 (.loop (Code.at (bh f14) [1,1,1,0,0,0])) ⟨89,aB,(3,true,.ptr 250 1 0)::(6,true,.ptr 400 1 0)::(7,true,.ptr 2150 1 0)::X,rM ins vars cells s G v c⟩ k=R:=by
 induction h with
 |fault s h=>
  intro H I X v c G D;have I:=I [(46,true,.d (.bool false))] v c G D;simp at I;rw[ah];simp[f14,eD D,wJ D,h,I]
 |fin s x J M O=>
  intro H I X v c G D;have T:=(H.here J).1;have V:=H.xc.place;have Y:ins[s.at_.toNat]=x:=by
   rw[ado T]at M;exact aiX M
  have I:=I [(8,true,.ptr 500 (v+1) 0),(57,true,.d (.bool true))] (v+1) (.box [.d (.int .i64 x.op),.d (.int .i64 x.a),.d (.int .i64 x.b),.d (.int .i64 x.n),.d (.int .i64 x.m)]) G D;simp[O,J]at I;rw[ah];simp[f14,eD D,Q9 D,wJ D,J,T,V.1,Y,O,ak,I]
 |step s x t J M O AA ih=>
  intro H I X v c G D;obtain⟨A2,A3,A4,_⟩:=zy A1 A8 H J M O;have ih:=ih A4 I;have T:=(H.here J).1;have V:=H.xc.place;have AB:=A1.len;have Y:ins[s.at_.toNat]=x:=by
   rw[ado T]at M;exact aiX M
  have A5:wK {s with at_:=s.at_+1}:=⟨H.xc.cells,H.xc.eL,H.xc.ZW,H.xc.fuel,by simp only;omega⟩;have A6:=b9 (s.at_+1);clear I A4 H;by_cases A9:x.op<=7
  .obtain⟨t1,Z,y,A',U⟩:=Wt (.list (ins.map cH)) vars cells x {s with at_:=s.at_+1} G D A5.ZW A2 ⟨A3.1,A9⟩;have A0:bB x s=t1:=by unfold bB;rw[y]
   rw[A0]at ih;have ih:=ih [(8,true,.ptr 500 (v+1) 0),(68,true,.d (.bool false))] (v+1) (.box [.d (.int .i64 x.op),.d (.int .i64 x.a),.d (.int .i64 x.b),.d (.int .i64 x.n),.d (.int .i64 x.m)]) Z A';simp[mC,kU,J]at U;rw[ah];simp[f14]at ih⊢;simp[eD D,Q9 D,wJ D,Dn D,dx,dR,dS,J,T,V.1,Y,O,A6,U,ak,ih]
  .obtain⟨y,U⟩:=Sj (.list (ins.map cH)) vars cells x {s with at_:=s.at_+1} G (by omega);obtain⟨Z,A',A7⟩:=Sk (.list (ins.map cH)) vars cells x {s with at_:=s.at_+1} G D A2 A5 ⟨by omega,A3.2⟩;have A0:bB x s=fZ x {s with at_:=s.at_+1}:=by unfold bB;rw[y]
   rw[A0]at ih;have ih:=ih [] (v+1) (.box [.d (.int .i64 x.op),.d (.int .i64 x.a),.d (.int .i64 x.b),.d (.int .i64 x.n),.d (.int .i64 x.m)]) Z A';generalize fZ x {s with at_:=s.at_+1}=t1 at*;simp[mC,kU,J]at U A7;rw[ah];simp[f14]at ih⊢;simp[eD D,Q9 D,wJ D,Dn D,dx,dR,dS,J,T,V.1,Y,O,A6,U,A7,ak,ih]
@[simp] def RC(C:List Int)(fault fuel:Int):D:=.agg [.list (C.map jD),.int .i64 fault,.int .i64 fuel]
def acR(ins:List ar)(vars cells:Int)(C:List Int)(fuel:Int)(U:ins.length<=5000)(A0:C.length<=100000)
 (h:qf jT ins vars cells=false\/(C.length:Int)≠vars\/fuel<0\/16384<fuel):
 aj ctx 14 [.d (Kn ins vars cells),.d (.list (C.map jD)),.d (.int .i64 fuel)] []=some (.ret (.d (RC C 0 (-1))),[]):=by
 have H:=DR jT Gs ins vars cells U;have I:=nA C A0;have M:(C.map jD).take C.length=C.map jD:=adK (by simp);rw[adZ (by simp)];generalize qf jT ins vars cells=ok at*;simp at H I;cases ok
 .simp[f14,H,I,M]
 .by_cases T:(C.length:Int)=vars
  .by_cases V:fuel<0
   .simp[f14,H,I,M,T,V]
   .by_cases A1:16384<fuel
    .simp[f14,H,I,M,T,V,A1]
    .rcases h with h|h|h|h
     .cases h
     .exact absurd T h
     .exact absurd h V
     .exact absurd h A1
  .simp[f14,H,I,M,T]
def s0(C:List Int)(cells:Nat)(fuel:Int):Ms:=⟨C++List.replicate (cells-C.length) 0,[],0,fuel,0⟩
def aaq{l:List ar}{r:Nat->Nat}{st:Nat->List Bool}{n:Nat}(O:Good jT n l r st){C:List Int}(Y:∀x∈C,bz x)(A0:C.length<=n)(AC:n<=8192){fuel:Int}(Z:0<=fuel/\fuel<=16384):Lg l st n (s0 C n fuel):=by
 have T:=O.len;refine⟨⟨λx J=>?_,by simp[s0],by simp[s0];omega,Z,by simp[s0]⟩,by simp[s0];omega,by simp[s0],λ_=>⟨by simp[s0];omega,by simp[s0,O.st0]⟩⟩;unfold s0 at J;rcases ada.1 J with J|J
 .exact Y x J
 .rw[(List.mem_replicate.1 J).2];exact kh
def agy(ins:List ar)(vars cells:Int)(C:List Int)(fuel:Int)(A2:qf jT ins vars cells=true)(A5:(C.length:Int)=vars)(Z:0<=fuel/\fuel<=16384)(U:Ko ins)(Y:∀x∈C,bz x)(t:Ms)
 (M:pQ ins (s0 C cells.toNat fuel) t) (A6:t.cells.length=cells.toNat/\t.eL.length<=64):
 aj ctx 14 [.d (Kn ins vars cells),.d (.list (C.map jD)),.d (.int .i64 fuel)] []=some (.ret (.d (RC (t.cells.take vars.toNat) t.fault t.fuel)),[]):=by
 obtain⟨⟨AD,AE,AF,AG⟩,r,st,O⟩:=Tm A2;have AH:=O.len;obtain⟨n,rfl⟩:∃n:Nat,cells=(n:Int):=⟨cells.toNat,by omega⟩;have A7:C.length<=n:=by omega
 have H:=DR jT Gs ins vars n (by omega);rw[A2]at H;have I:=nA C (by omega);have y:=nA (t.cells.take C.length) (by simp;omega);have hinv:=aaq (l:=ins) O Y A7 (by omega) Z;have A3:=λk R J=>acQ ins vars n O U k R M hinv J [] 0 .dead (List.replicate 64 0) (by simp[s0]);have AI:min C.length t.cells.length=C.length:=by simp at A6;omega
 have A4:((t.cells.take C.length).map jD).take C.length=(t.cells.take C.length).map jD:=adK (by simp;omega);have A8:IntKind.i64.wrap ((n:Int)-(C.length:Int))=((n-C.length:Nat):Int):=by rw[show (n:Int)-(C.length:Int)=((n-C.length:Nat):Int) by omega];exact (b9 _)
 have g1:(0:Int)<=(n:Int)-(C.length:Int):=by omega
 rw[adZ (by simp)];subst A5;rw[show (t.cells.take C.length).length=C.length by simp;omega]at y;have f1:¬fuel<0:=by omega
 have f2:¬16384<fuel:=by omega
 simp at H I;simp[f14,s0]at A3;have g2:((n-C.length:Nat):Int)<=4611686018427387904:=by omega
 have g3:(C.length+(n-C.length))*8<=140737488355328/\C.length+(n-C.length)<=4611686018427387904:=by omega
 simp[f14,H,I,f1,f2,A8,g1,g2,g3,ak];refine A3 _ _ ?_;intro X v c G A';have A9:C.length<=t.cells.length:=by omega
 have AA:(C.length:Int)<=(t.cells.length:Int):=by omega
 have AB:mM ((t.cells.map jD).take C.length)=true:=by rw[<-apP];exact xV _
 simp at y A4;simp[eD A',pS,Ra A',wJ A',dx,dR,dS,A9,AA,y,A4,AB,ak]
def Sl(A B:List Int)(V:A.length=B.length)(U:A.length<=100000)(k:Kt)(R:bS):∀(M H:List Int)(i:Nat),A.drop i=M->B.drop i=H->i+M.length=A.length->
 ((if M=H then k (.exit 0) ⟨26,aB,[(0,true,.d (.list (A.map jD))),(1,true,.d (.list (B.map jD))),(5,true,.d (.int .i64 A.length)),(14,true,.d (.bool false))],[]⟩else k .ret ⟨26,aB,[(4,true,.d (.bool false))],[]⟩)=R)->
 aL ctx 38 (.loop (Code.at (bh f38) [1,1,0,1,0,0])) ⟨26,aB,[(0,true,.d (.list (A.map jD))),(1,true,.d (.list (B.map jD))),(5,true,.d (.int .i64 i))],[]⟩ k=R:=by
 intro M;induction M with
 |nil=>
  intro H i Y I hi D;have hi:i=A.length:=by simpa using hi
  subst hi;have A4:H=[]:=by rw[<-I];exact List.drop_eq_nil_of_le (by omega)
  subst A4;simp at D;rw[ah];simp[f38,D]
 |cons a M ih=>
  intro H i Y I hi D;have Z:i<A.length:=by simp at hi;omega
  have y:i<B.length:=by omega
  have A1:A[i]=a:=by
   have:=ahw (·[0]?) Y;simp at this;simpa [Z]using this
  obtain⟨b,O,rfl⟩:∃b O,H=b::O:=by
   match H,I with
   |[],I=>have:=ahw List.length I;simp at this;omega
   |b::O,_=>exact⟨b,O,rfl⟩
  have A2:B[i]=b:=by
   have:=ahw (·[0]?) I;simp at this;simpa [y]using this
  have A5:=b9 ((i:Int)+1);rw[ah];by_cases J:a=b
  .subst J;have ih:=ih O (i+1) (by rw[<-List.tail_drop,Y];rfl) (by rw[<-List.tail_drop,I];rfl) (by simp at hi;omega) (by simpa using D);simp[f38]at ih⊢;simp[Z,y,A1,A2,A5,ak,ih]
  .rw[aaf (by simp[J])]at D;simp[f38];simp[Z,y,A1,A2,J,ak,D]
def WG(A B:List Int)(U:A.length<=100000):aj ctx 38 [.d (.list (A.map jD)),.d (.list (B.map jD))] []=some (.ret (.d (.bool (decide (A=B)))),[]):=by
 rw[aoj (by simp)];by_cases V:A.length=B.length
 .have A3:=λk R D=>Sl A B V U k R A B 0 (by simp) (by simp) (by simp) D;have A':(A.length:Int)=(B.length:Int):=by omega
  simp[f38]at A3;simp[f38,A'];rw[A3];by_cases J:A=B<;>simp[J]
 .have J:A≠B:=λh=>V (by rw[h]);have A':¬(A.length:Int)=(B.length:Int):=by omega
  simp[f38,A',J]
def WH(A B:List Int)(f g u v:Int)(U:A.length<=100000):aj ctx 13 [.d (RC A f u),.d (RC B g v)] []=some (.ret (.d (.bool (decide (A=B/\f=g/\u=v)))),[]):=by
 have T:=WG A B U;rw[an7 (by simp)];try simp at T
 by_cases A0:A=B
 .subst A0;simp at T;by_cases A6:f=g<;>by_cases A7:u=v<;>simp[f13,T,A6,A7]
 .simp[A0]at T;simp[f13,T,A0]
def runM(p:Pg)(C:List Int)(f:Int):List Int×Int×Int:=
 if (¬(C.length:Int)=bW p.vars\/f<0)\/16384<f then (C,0, -1)else ((kG p C f.toNat).1,(kG p C f.toNat).2.1,(kG p C f.toNat).2.2)
def mrD(r:List Int×Int×Int):D:=.agg [.list (r.1.map jD),.int .i64 r.2.1,.int .i64 r.2.2]
def agz{p:Pg}(h:Dt p)(C:List Int)(f:Int)(A':C.length<=2000)(O:∀c∈C,bz c):aj ctx 17 [.d (q8 p),.d (.list (C.map jD)),.d (.int .i64 f)] []=some (.ret (.d (mrD (runM p C f))),[]):=by
 have J:=h.fit;simp only[lH,Ds,ac2,adp]at J;obtain⟨_,A0,H,T⟩:=J;obtain⟨U,V,A1⟩:=Df (p:=p) (by have:=h.lw;simp only[q8]at this;omega);unfold runM;by_cases I:(¬(C.length:Int)=bW p.vars\/f<0)\/16384<f
 .rw[ac1 I,acG (by omega) H C f (by omega) I];rfl
 .rw[aaf I];obtain⟨n,rfl⟩:∃n:Nat,f=n:=⟨f.toNat,by omega⟩;have M:=h.Nb;unfold lB at M;obtain⟨Y,Z⟩:=bM.1 M;have hle:(C.length:Int)<=1024:=by
   have:=wF p.vars [] 0 (by omega) Y;omega
  have y:gY p C:=⟨by omega,by omega,O⟩;rw[ami (by omega) H C n y (by omega) (Z7 (by omega) H (lp:=false) U T h.lit V Z).1];rfl
def pB(L:List pa)(s:PS):List AV:=[.d (.list (L.map arc)),.d (.int .i64 s.at_),.d (.int .i64 s.deep),.vec 1 0 0 s.vars.length]
def pC(L:List pa)(s:PS):List aF:=[.box (pB L s),.vec 8 (s.vars.map bF)]
def Cc(L:List pa)(s:PS):List (Nat×aF):=[(0,.box (pB L s)),(0,.vec 8 (s.vars.map bF))]
def fD(e:Er):D:=.agg [.int .i64 e.e,.int .i64 0,.str [],.int .i64 0,.int .i64 e.line,.int .i64 e.col]
def xd(L:List pa)(e:Er)(s:PS):bS:=some (.panic 159 (fD e),Cc L s)
section
variable {L:List pa} {s:PS}
end
section
variable {L:List pa} {s:PS} (H:L.length<1000000)
include H
end
def apI:List Nat:=[210,214,211,208,145,146,253,255,300,301,282,213,307,305]
structure amN(L:List pa)(D:bP)(f:Nat):Prop where
 le:∀g a c r,D g a c=some r->aj ctx g a c=some r
 out:∀g,apI.contains g=true->D g=aj ctx g
 level:∀n s,D 302 [.ptr 0 0 0,.d (.int .i64 (n:Nat))] (pC L s)=(Jz L f n s).el (λx s=>some (.ret (.d (cm x)),Cc L s)) (xd L)
 unary:∀s,D 306 [.ptr 0 0 0] (pC L s)=(PE L f s).el (λx s=>some (.ret (.d (cm x)),Cc L s)) (xd L)
 amO:∀s,D 309 [.ptr 0 0 0] (pC L s)=(SY L f s).el (λx s=>some (.ret (.d (cm x)),Cc L s)) (xd L)
 index:∀s,D 288 [.ptr 0 0 0] (pC L s)=(PF L f s).el (λx s=>some (.ret (.d (cm x)),Cc L s)) (xd L)
 expr:∀s,D 286 [.ptr 0 0 0] (pC L s)=(sg L f s).el (λx s=>some (.ret (.d (cm x)),Cc L s)) (xd L)
section
variable {L:List pa} {s:PS} {D:bP} {f:Nat} (H:L.length<1000000) (F:amN L D f)
include H F
end
structure asJ(L:List pa)(D:bP)(f:Nat):Prop where
 E:amN L D f
 block:∀ws s,ws.length<1000->D 148 [.ptr 0 0 0,.d (.list (ws.map .str))] (pC L s)=(yW L f ws s).el (λl s=>some (.ret (.d (.list (l.map bZ))),Cc L s)) (xd L)
 stmt:∀s,D 215 [.ptr 0 0 0] (pC L s)=(VV L f s).el (λx s=>some (.ret (.d (bZ x)),Cc L s)) (xd L)
 gg:∀s,D 254 [.ptr 0 0 0] (pC L s)=(adD L f s).el (λx s=>some (.ret (.d (bZ x)),Cc L s)) (xd L)
 acT:∀s,D 283 [.ptr 0 0 0] (pC L s)=(Mt L f s).el (λx s=>some (.ret (.d (bZ x)),Cc L s)) (xd L)
 cases:∀s,D 284 [.ptr 0 0 0] (pC L s)=(Yx L f s).el (λx s=>some (.ret (.d (bZ x)),Cc L s)) (xd L)
 agA:∀s,D 285 [.ptr 0 0 0] (pC L s)=(PG L f s).el (λx s=>some (.ret (.d (bZ x)),Cc L s)) (xd L)
 call:∀H s,D 287 [.ptr 0 0 0,.d (.str H)] (pC L s)=(adE L f H s).el (λx s=>some (.ret (.d (bZ x)),Cc L s)) (xd L)
section
variable {L:List pa} {s:PS} {D:bP} {f:Nat} (I:L.length<1000000) (F:asJ L D f)
include I F
end
inductive TA where
 |level (n:Nat) (s:PS)
 |unary (s:PS)
 |amO (s:PS)
 |index (s:PS)
 |expr (s:PS)
 |block (ws:List Tx) (s:PS)
 |stmt (s:PS)
 |gg (s:PS)
 |acT (s:PS)
 |cases (s:PS)
 |agA (s:PS)
 |call (D:Tx) (s:PS)
def TA.args:TA->List AV
 | .level n _=>[.ptr 0 0 0,.d (.int .i64 n)]
 | .block ws _=>[.ptr 0 0 0,.d (.list (ws.map .str))]
 | .call D _=>[.ptr 0 0 0,.d (.str D)]
 |_=>[.ptr 0 0 0]
def aas{p:Pg}(h:Dt p){C:List Int}(O:gY p C)(f:Nat):gY p (kG p C f).1/\(kG p C f).2.2<=f:=by
 have D:=h.fit;simp only[lH,Ds,ac2,adp]at D;obtain⟨_,T,M,H⟩:=D;obtain⟨U,V,y⟩:=Df (p:=p) (by have:=h.lw;simp only[q8]at this;omega);have I:=h.Nb;unfold lB at I;have Y:=(Z7 (p:=p) (by omega) M (lp:=false) U H h.lit V (bM.1 I).2).2 ⟨C,f⟩ O;unfold kG;generalize bX p.vars p.body ⟨C,f⟩=q at*;obtain⟨w,s⟩:=q;cases w<;>exact Y
def amP{p:Pg}(h:Dt p){C:List Int}(Z:(C.length:Int)=bW p.vars)(J:∀c∈C,bz c):gY p C:=by
 have D:=h.fit;simp only[lH,Ds,ac2,adp]at D;obtain⟨_,T,M,H⟩:=D;have I:=h.Nb;unfold lB at I;have:=wF p.vars [] 0 (by omega) (bM.1 I).1;exact⟨Z,by omega,J⟩
def acU{p:Pg}(h:Dt p){C:List Int}(J:∀c∈C,bz c)(f:Int):(runM p C f).1.length=C.length:=by
 unfold runM;split
 .rfl
 .rename_i H;simp only[alp,Int.not_lt,alY]at H;have:=(aas h (amP h H.1.1 J) f.toNat).1.len;show (kG p C f.toNat).1.length=C.length;omega
def pQ.det{l:List ar}{s t A0:Ms}(h:pQ l s t)(A1:pQ l s A0):t=A0:=by
 induction h with
 |fault s h=>
  cases A1 with
  |fault _ _=>rfl
  |fin _ x I H D=>exact absurd I h
  |step _ x _ I H D _=>exact absurd I h
 |fin s x I H h=>
  cases A1 with
  |fault _ D=>exact absurd I D
  |fin _ _ _ _ _=>rfl
  |step _ y _ _ U D _=>rw[H]at U;cases U;exact absurd h D
 |step s x t I H h _ ih=>
  cases A1 with
  |fault _ D=>exact absurd I D
  |fin _ y _ U D=>rw[H]at U;cases U;exact absurd D h
  |step _ y _ _ U D A2=>rw[H]at U;cases U;exact ih A2
def agB{p:Pg}(J:lH p=true)(Y:gN p.body=true)(Z:(lB p).1=0){l:List ar}{O V:Int}(T:sn p=some (l,O,V))(C:List Int)(A':(C.length:Int)=O)(f:Nat):
 ∃t,pQ l (s0 C V.toNat f) t/\t.cells.take O.toNat=(kG p C f).1/\t.fault=(kG p C f).2.1/\t.fuel=((kG p C f).2.2:Nat):=by
 have A8:=sK false p.body (by simp only[lH,Ds]at J;exact J.2.2.2) Y (bM.1 Z).2;have AI:=V4 J Y Z C f;have AJ:=Fi J Y Z;unfold sn at T;simp only at T;split at T
 .cases T
 .rename_i A9;simp only[alp,Nat.not_lt,Int.not_lt]at A9;obtain⟨g1,g2,g3,g4,g5⟩:=AJ A9.2;have AK:∀w∈p.vars,dr w=true:=by
   simp only[lH,Ds,adp]at J;exact J.2.2.1
  cases T;generalize A3:ag p.vars (dW p.body) (bW p.vars)=g at*;have AL:ej (g.1.map (n8 g.1.length)++[ins 15 0 0 0 0]) 0 0 g.1.length g.1:=by
   intro i x H;have hi:=(aap.1 H).1;rw[agT,ac9 (by simpa using hi),adn,H];simp only[ahK,adl];have hm:=ac6 H;unfold n8 rU;by_cases A4:x.op=9\/x.op=10
   .rw[ac1 A4];by_cases I:0<=x.a
    .rw[aaf (by omega),ac1 I];obtain⟨op,a,b,c,d⟩:=x;simp
    .rw[aaf I];have AA:=g1.out x hm A4 (by omega);rcases AA.2 with e|⟨e,_⟩
     .rw[ac1 ⟨AA.1,e⟩,aaf (by omega)]
     .cases e
   .rw[aaf A4,aaf (by omega)]
  have AM:Fl (g.1.map (n8 g.1.length)++[ins 15 0 0 0 0]) p.vars C.length false (dW p.body):=NQ _ (Db AK A' (dW p.body) false A8.1 A8.2.2);have AB:=AM 0 0 g.1.length (bW p.vars) C (List.replicate (g.2.toNat -C.length) 0) f (by omega) (by rw[A3];simp;omega) (by rw[A3];exact AL) rfl;rw[A3]at AB;obtain⟨t,A5,AR,AN,AS,AT,AU,A6,M⟩:=AB;have AC:∀u:Ms,u.fault=0/\u.eL=[]/\u.at_=((0+g.1.length:Nat):Int)->pQ (g.1.map (n8 g.1.length)++[ins 15 0 0 0 0]) u u:=λu hu=>by
   refine .fin u (ins 15 0 0 0 0) hu.1 ?_ rfl;rw[hu.2.2,show (((0+g.1.length:Nat):Int)).toNat=g.1.length by omega,adb (by simp)];simp
  have A7:t.cells.take (bW p.vars).toNat=(bX p.vars (dW p.body) ⟨C,f⟩).2.cells:=by
   rw[AN,ahb (by omega),adK (by omega)]
  rw[<-AI];unfold kG MB;simp only
  generalize bX p.vars (dW p.body) ⟨C,f⟩=q at*;obtain⟨h,s⟩:=q;cases h with
  |on=>exact⟨t,A5.runs (AC t M),A7,M.1,A6⟩
  |lv=>exact absurd M.1 (by decide)
  |rt=>exact⟨t,A5.runs (AC t ⟨M.1,M.2.1,by rw[M.2.2];simp⟩),A7,M.1,A6⟩
  |ft e=>exact⟨t,A5.runs (.fault t (by rw[M.1];exact M.2)),A7,M.1,A6⟩
def aat{p:Pg}(J:lH p=true)(Y:gN p.body=true)(Z:(lB p).1=0){l:List ar}{O V:Int}(T:sn p=some (l,O,V))(C:List Int)(A':(C.length:Int)=O)(AD:∀x∈C,bz x)(f:Nat)(AV:f<=16384):
 aj ctx 14 [.d (Kn l O V),.d (.list (C.map jD)),.d (.int .i64 f)] []=some (.ret (.d (RC (kG p C f).1 (kG p C f).2.1 ((kG p C f).2.2:Nat))),[]):=by
 obtain⟨t,D,A2,AO,AP⟩:=agB J Y Z T C A' f;have AE:qf jT l O V=true:=by
  have:=Zc J Y Z T;rwa [show DN=jT from funext V8]at this
 have AF:Ko l:=λx H=>by
  have:=(afg J Y Z T x H).1;unfold wY at this;unfold bz;simpa using this
 obtain⟨⟨AW,AX,AY,AZ⟩,r,st,AG⟩:=Tm AE;obtain⟨n,rfl⟩:∃n:Nat,V=(n:Int):=⟨V.toNat,by omega⟩;simp only[Int.toNat_natCast]at D;have hinv:=aaq (l:=l) AG AD (show C.length<=n by omega) (by omega) (fuel:=(f:Int)) (by omega);obtain⟨A0,AQ,AH⟩:=agx AG AF f (r (s0 C n f).at_.toNat) (s0 C n f) hinv rfl (aar _);have e:=D.det AQ;subst e;have:=agy l O n C f AE A' (by omega) AF AD t D ⟨AH.len,AH.oA⟩;rw[A2,AO,AP]at this;exact this
def Sn:aj ctx 16 [] []=some (.ret (.d (.bool true)),[]):=yQ 300 (by kernel_rfl)
def aau{p:Pg}(h:Dt p){g:List ar×Int×Int}(D:sn p=some g)(C:List Int)(fuel:Int)(A':C.length<=2000)(V:∀x∈C,bz x):
 aj ctx 14 [.d (Kn g.1 g.2.1 g.2.2),.d (.list (C.map jD)),.d (.int .i64 fuel)] []=some (.ret (.d (mrD (runM p C fuel))),[]):=by
 have A5:g.2.1=bW p.vars:=by
  unfold sn at D;simp only at D;split at D
  .cases D
  .cases D;rfl
 have A7:=acP D;unfold runM;by_cases Z:(¬(C.length:Int)=bW p.vars\/fuel<0)\/16384<fuel
 .rw[ac1 Z,acR g.1 g.2.1 g.2.2 C fuel (by omega) (by omega) (by rw[A5];rcases Z with (M|M)|M;exact .inr (.inl M);exact .inr (.inr (.inl M));exact .inr (.inr (.inr M)))];rfl
 .rw[aaf Z];simp only[alp,Int.not_lt,alY]at Z;obtain⟨a,rfl⟩:∃n:Nat,fuel=n:=⟨fuel.toNat,by omega⟩;obtain⟨l,AA,AB⟩:=g;simp only at A5;rw[aat h.fit h.lit h.Nb D C (by omega) V a (by omega)];rfl
def WI{p:Pg}(C:List Int)(fuel:Int)(A8:gN p.body=true)(hw:fw (q8 p)<10000000)(V:∀x∈C,bz x):
 aj ctx 4 [.d (q8 p),.d (.list (C.map jD)),.d (.int .i64 fuel)] []=some (.ret (.d (.bool true)),[]):=by
 obtain⟨M,A6,AC⟩:=Df (p:=p) (by simp only[q8]at hw;omega);obtain⟨B,J⟩:=afP M A6;have H:=alg M A6;have I:=Sn;rw[ar9 (by simp)];try simp at I
 cases B with
 |false=>simp[f4,I,J]
 |true=>
  cases y:lH p with
  |false=>
   rw[y]at H;simp[f4,I,J,H]
  |true=>
   rw[y]at H;have O:=aai y (by omega);unfold eN at O;by_cases T:(lB p).1=0;rotate_left
   .simp[f4,I,J,H,O,T,Dv]
   by_cases A':C.length<=2000;rotate_left
   .have g2:(2000:Int)<(C.length:Int):=by omega
    simp[f4,I,J,H,O,T,Dv,g2]
   have g2:¬(2000:Int)<(C.length:Int):=by omega
   have h:Dt p:=⟨y,A8,T,hw⟩;have U:=acK h;by_cases A9:3000<fuel/\fuel<=16384
   .have g4:¬16384<fuel:=by omega
    simp[f4,I,J,H,O,T,Dv,g2,A9,g4]
   .cases D:sn p with
    |none=>
     rw[D]at U;simp[cdD,cdE]at U;by_cases Y:3000<fuel
     .have A0:16384<fuel:=by omega
      have A1:¬fuel<=16384:=by omega
      simp[f4,I,J,H,O,T,Dv,g2,Y,A0,A1,U,ak]
     .simp[f4,I,J,H,O,T,Dv,g2,Y,U,ak]
    |some g=>
     have A2:=aau h D C fuel A' V;have A3:=agz h C fuel A' V;have A7:=acU h V fuel;have A4:=WH (runM p C fuel).1 (runM p C fuel).1 (runM p C fuel).2.1 (runM p C fuel).2.1 (runM p C fuel).2.2 (runM p C fuel).2.2 (by omega);rw[D]at U;generalize runM p C fuel=q at*;obtain⟨c,e,u⟩:=q;simp[cdD,cdE]at U;simp[mrD]at A2 A3 A4;by_cases Y:3000<fuel
     .have A0:16384<fuel:=by omega
      have A1:¬fuel<=16384:=by omega
      simp[f4,I,J,H,O,T,Dv,g2,Y,A0,A1,U,A2,A3,A4,ak]
     .simp[f4,I,J,H,O,T,Dv,g2,Y,U,A2,A3,A4,ak]
end Go.Am
end
section
namespace Go.Am
open Go
set_option maxRecDepth 20000
set_option maxHeartbeats 4000000
def asL:Nat->Nat
 |99=>198
 |143=>200
 |206=>244
 |217=>245
 |219=>246
 |224=>276
 |225=>275
 |266=>274
 |267=>277
 |314=>298
 |_=>0
def asM:Nat->Nat
 |3=>3
 |4=>4
 |5=>5
 |9=>9
 |46=>325
 |51=>283
 |146=>336
 |_=>0
def asN:Nat->Nat
 |1=>2
 |_=>0
def rho:Go.Shelf.Ren:=⟨asL,asM,asN⟩
def agC:Go.Proofs.Lays.n143 Go.Proofs.Tryz.prog rho where
 mixed:=by kernel_rfl
 f143:=by kernel_rfl
 f217:=by kernel_rfl
 f219:=by kernel_rfl
 f224:=by kernel_rfl
 f225:=by kernel_rfl
 f266:=by kernel_rfl
 f267:=by kernel_rfl
 f314:=by kernel_rfl
 t3:=by kernel_rfl
 a3:=by intro w;kernel_rfl
 z3:=by intro w;kernel_rfl
 v3:=by intro w;kernel_rfl
 t4:=by kernel_rfl
 a4:=by intro w;kernel_rfl
 z4:=by intro w;kernel_rfl
 v4:=by intro w;kernel_rfl
 t5:=by kernel_rfl
 a5:=by intro w;kernel_rfl
 z5:=by intro w;kernel_rfl
 v5:=by intro w;kernel_rfl
 t9:=by kernel_rfl
 a9:=by intro w;kernel_rfl
 z9:=by intro w;kernel_rfl
 v9:=by intro w;kernel_rfl
 t46:=by kernel_rfl
 a46:=by intro w;kernel_rfl
 z46:=by intro w;kernel_rfl
 v46:=by intro w;kernel_rfl
 t51:=by kernel_rfl
 a51:=by intro w;kernel_rfl
 z51:=by intro w;kernel_rfl
 v51:=by intro w;kernel_rfl
 t146:=by kernel_rfl
 a146:=by intro w;kernel_rfl
 z146:=by intro w;kernel_rfl
 v146:=by intro w;kernel_rfl
 g1:=by kernel_rfl
def agD:Go.Proofs.Lays.n217 Go.Proofs.Tryz.prog rho where
 mixed:=by kernel_rfl
 f217:=by kernel_rfl
 f266:=by kernel_rfl
 t3:=by kernel_rfl
 a3:=by intro w;kernel_rfl
 z3:=by intro w;kernel_rfl
 v3:=by intro w;kernel_rfl
 t5:=by kernel_rfl
 a5:=by intro w;kernel_rfl
 z5:=by intro w;kernel_rfl
 v5:=by intro w;kernel_rfl
 t9:=by kernel_rfl
 a9:=by intro w;kernel_rfl
 z9:=by intro w;kernel_rfl
 v9:=by intro w;kernel_rfl
def amU:Go.Proofs.Lays.n99 Go.Proofs.Tryz.prog rho where
 mixed:=by kernel_rfl
 f99:=by kernel_rfl
 f206:=by kernel_rfl
 t3:=by kernel_rfl
 a3:=by intro w;kernel_rfl
 z3:=by intro w;kernel_rfl
 v3:=by intro w;kernel_rfl
 t4:=by kernel_rfl
 a4:=by intro w;kernel_rfl
 z4:=by intro w;kernel_rfl
 v4:=by intro w;kernel_rfl
 t9:=by kernel_rfl
 a9:=by intro w;kernel_rfl
 z9:=by intro w;kernel_rfl
 v9:=by intro w;kernel_rfl
end Go.Am
end
