/-
  Texts of one proof, one behind the other.
-/
import Derived.Test.YtccmboenpbjhnaaGreatDoorD5
import Derived.KernelRfl
import Derived.Test.YtccmboenpbjhnaaGreatDoorProg
import Derived.Shelf.Lays
import Derived.Shelf.Strings.Search3
import Derived.Shelf.Strings.Prefix
import Derived.LaidLaws
import Derived.JoinedCond
set_option linter.all false
section
namespace Go.Am
open Go Go.Proofs
variable [Inhabited bA]
def bB(p:Pg)(F:Mc->Rr):Prop:=∀s,eD p s.cells->eD p (F s).2.cells/\(F s).2.fuel<=s.fuel
theorem bB.fL{p:Pg}{F:Mc->Rr}(h:bB p F):bB p (fL F):=λs A=>by
 unfold Am.fL;split
 ·exact⟨A,aai _⟩
 ·have:=h ⟨s.cells,s.fuel-1⟩ A;simp only at this;exact⟨this.1,by omega⟩
theorem bB.bR{p:Pg}{F G:Mc->Rr}(h:bB p F)(N:bB p G):bB p (λs=>bR (F s) G):=λs A=>by
 have a:=h s A;show eD p (Am.bR (F s) G).2.cells/\(Am.bR (F s) G).2.fuel<=s.fuel;generalize F s=q at*;obtain⟨w,t⟩:=q;cases w with
 |on=>
  have b:=N t a.1;exact⟨b.1,ag6 b.2 a.2⟩
 |lv=>exact a
 |rt=>exact a
 |ft e=>exact a
theorem bB.vR{p:Pg}{v:List Int->Vl}{G:Int->Mc->Rr}(h:∀C n t,eD p C->v C=.v n t->aG n)(N:∀n,aG n->bB p (G n)):bB p (λs=>vR (v s.cells) s λn=>G n s):=λs A=>by
 show eD p (Am.vR (v s.cells) s λn=>G n s).2.cells/\(Am.vR (v s.cells) s λn=>G n s).2.fuel<=s.fuel;cases M:v s.cells with
 |f e=>exact⟨A,aai _⟩
 |v n t=>exact N n (h s.cells n t A M) s A
theorem bB.id{p:Pg}(w:Hw):bB p (λs=>(w,s)):=λ_ A=>⟨A,aai _⟩
theorem bB.put{p:Pg}{k n:Int}(D:aG n){F:Mc->Rr}(A':bB p F):bB p (λs=>F ⟨ek s.cells k n,s.fuel⟩):=λs A=>A' ⟨ek s.cells k n,s.fuel⟩ (A.put k D)
theorem bB.left{p:Pg}{F:Mc->Rr}(h:bB p F):bB p (λs=>ia (F s)):=λs A=>by
 have:=h s A;show eD p (ia (F s)).2.cells/\(ia (F s)).2.fuel<=s.fuel;unfold ia;split<;>exact this
theorem NV{p:Pg}{c:List Int->Vl}{b:Mc->Rr}(h:∀C n t,eD p C->c C=.v n t->aG n)(H:bB p b):∀m,bB p (vI c b m)
 |0=>bB.id _
 |m+1=>by
  have e:vI c b (m+1)=fL λs=>vR (c s.cells) s λk=>if k=0 then (.on,s)else bR (b s) λO=>vI c b m O:=by funext s;rfl
  rw[e];refine bB.fL (bB.vR (G:=λk s=>if k=0 then (.on,s)else Am.bR (b s) λO=>vI c b m O) h λn _=>?_);by_cases D:n=0
  ·simp only[D,adI];exact bB.id _
  ·simp only[D,acF];exact bB.bR H (NV h H m)
theorem NW{p:Pg}{c:List Int->Vl}{b:Mc->Rr}(h:∀C n t,eD p C->c C=.v n t->aG n)(H:bB p b):∀m,bB p (vJ c b m)
 |0=>bB.id _
 |m+1=>by
  have e:vJ c b (m+1)=λs=>bR (b s) (fL λs=>vR (c s.cells) s λk=>if k=0 then vJ c b m s else (.on,s)):=by funext s;rfl
  rw[e];refine bB.bR H (bB.fL (bB.vR (G:=λk s=>if k=0 then vJ c b m s else (.on,s)) h λn _=>?_));by_cases D:n=0
  ·simp only[D,adI];exact NW h H m
  ·simp only[D,acF];exact bB.id _
theorem NX{p:Pg}{at_ to I:Int}(V:aG I){b:Mc->Rr}(H:bB p b):∀m,bB p (xU at_ to I b m)
 |0=>bB.id _
 |m+1=>by
  have e:xU at_ to I b (m+1)=fL λs=>if UE (jw s.cells at_) to I=true then (.on,s)else bR (b s) λs=>vR (rl 8 [jw s.cells at_,I] false) s λn=>xU at_ to I b m ⟨ek s.cells at_ n,s.fuel⟩:=by funext s;rfl
  rw[e];refine bB.fL λs A=>?_;have N:=bB.bR H (bB.vR (p:=p) (v:=λC=>rl 8 [jw C at_,I] false) (G:=λn s=>xU at_ to I b m ⟨ek s.cells at_ n,s.fuel⟩) (λC n t T M=>Q7 (by simp[V,r0 T.num]) M) λn D=>bB.put D (NX V H m)) s A;split
  ·exact⟨A,aai _⟩
  ·exact N
section
variable {p:Pg}
theorem abt{to val:Ex}(U:RI p val):bB p (tc p.vars to val):=by
 intro s A;unfold tc;split
 ·exact bB.vR (p:=p) (v:=λC=>cf p.vars C val) (G:=λn s=>(.on,⟨ek s.cells (dw p.vars (ec to)).1 n,s.fuel⟩)) (λC n t T M=>U C n t T M) (λn D=>bB.put D (bB.id _)) s A
 ·cases A6:DD p.vars s.cells (cR to)with
  |f e=>exact⟨A,aai _⟩
  |v k t=>
   simp only[vR];cases M:cf p.vars s.cells val with
   |f e=>exact⟨A,aai _⟩
   |v n t=>
    simp only[EM];split
    ·exact⟨A,aai _⟩
    ·exact⟨A.put _ (U _ _ _ A M),aai _⟩
theorem NZ{name:Tx}:∀(E:List Tx)(xs:List Ex),(∀x∈xs,RI p x)->bB p (kf p.vars name E xs)
 |[],xs,_=>by
  have e:kf p.vars name [] xs=λs=>(.on,s):=by funext s;unfold kf;rfl
  rw[e];exact bB.id _
 |_::_,[],_=>by
  have e:∀f E,kf p.vars name (f::E) []=λs=>(.on,s):=by intro f E;funext s;unfold kf;rfl
  rw[e];exact bB.id _
 |f::E,x::xs,h=>by
  have e:kf p.vars name (f::E) (x::xs)=λs=>vR (cf p.vars s.cells x) s λn=>kf p.vars name E xs ⟨ek s.cells (kK p.vars name f).1 n,s.fuel⟩:=by funext s;rw[kf]
  rw[e];exact bB.vR (v:=λC=>cf p.vars C x) (G:=λn s=>kf p.vars name E xs ⟨ek s.cells (kK p.vars name f).1 n,s.fuel⟩) (λC n t T M=>h x (by simp) C n t T M) λn D=>bB.put D (NZ E xs λy Y=>h y (by simp[Y]))
theorem eD.cU{C:List Int}(h:eD p C)(a k:Int)(A7:a.toNat+(br k).length<=C.length):eD p (uT C a k):=by
 have Z:(uT C a k).length=C.length:=by
  unfold uT;simp only[ab0,FQ,afn,acL];omega
 refine⟨by rw[Z];exact h.len,by rw[Z];exact h.le,λc J=>?_⟩;unfold uT at J;rcases abT.1 J with J|J
 ·rcases abT.1 J with J|J
  ·exact h.num c (acf J)
  ·exact abr _ _ (λn D=>h.num n (ach (acf D))) c J
 ·exact h.num c (ach J)
theorem UR{name:Tx}{w:Vr}(hw:bu p.vars name=some w)(A0:∀C,eD p C->(dw p.vars name).1.toNat+(br w.ty).length<=C.length){E:List Tx}{xs:List Ex}(h:∀x∈xs,RI p x):bB p (oD p.vars name E xs):=by
 have e:oD p.vars name E xs=λs=>bR (kf p.vars name E xs s) λO=>(.on,⟨uT O.cells (dw p.vars name).1 (dw p.vars name).2.ty,O.fuel⟩):=by funext s;rfl
 rw[e];refine bB.bR (NZ E xs h) λs A=>⟨?_,aai _⟩;rw[ny hw];exact A.cU _ _ (A0 _ A)
theorem Xd{name:Tx}{x y z:Ex}(A1:RI p x)(Y:RI p y)(A2:RI p z){b:Mc->Rr}(H:bB p b):bB p (zL p.vars name [x,y,z] b):=by
 have e:zL p.vars name [x,y,z] b=λs=>vR (cf p.vars s.cells x) s λfrom_=>vR (cf p.vars s.cells y) s λA3=>vR (cf p.vars s.cells z) s λI=>xU (dw p.vars name).1 A3 I b (s.fuel+1) ⟨ek s.cells (dw p.vars name).1 from_,s.fuel⟩:=by funext s;rfl
 rw[e];intro s A;simp only
 cases U:cf p.vars s.cells x with
 |f e=>exact⟨A,aai _⟩
 |v A4 t=>
  simp only[vR];cases N:cf p.vars s.cells y with
  |f e=>exact⟨A,aai _⟩
  |v A8 t=>
   simp only
   cases A5:cf p.vars s.cells z with
   |f e=>exact⟨A,aai _⟩
   |v A9 t=>exact NX (A2 _ _ _ A A5) H _ ⟨ek s.cells (dw p.vars name).1 A4,s.fuel⟩ (A.put _ (A1 _ _ _ A U))
end
end Go.Am
end
section
namespace Go.Am
open Go Go.Proofs Go.Proofs.Tryz
variable [Inhabited bA]
set_option maxRecDepth 20000
set_option maxHeartbeats 1000000
@[simp] def kq(p:Pg)(C:List Int)(f v:Nat):List cg:=[⟨0,0,rnB p C f v⟩,⟨1,0,.vec 1 (p.vars.map DL)⟩,⟨2,v,.vec 1 (C.map jD)⟩]
def MK(p:Pg)(x:Sm):Prop:=∀(C:List Int)(f:Nat),eD p C->f<=100000->kT p (iW p.vars x ⟨C,f⟩) (ah ctx 91 [.ptr 0 0 0,.d (cw x)] (iQ p C f))
def BK(p:Pg)(b:List Sm):Prop:=∀(C:List Int)(f:Nat),eD p C->f<=100000->kT p (b8 p.vars b ⟨C,f⟩) (ah ctx 56 [.ptr 0 0 0,.d (.list (b.map cw))] (iQ p C f))
theorem AD{p:Pg}:∀(l:List Sm),(∀x∈l,bB p (iW p.vars x))->bB p (b8 p.vars l)
 |[],_=>by
  have e:b8 p.vars []=λs=>(.on,s):=by funext s;simp[b8]
  rw[e];exact bB.id _
 |x::r,h=>by
  have e:b8 p.vars (x::r)=λs=>bR (iW p.vars x s) λA1=>b8 p.vars r A1:=by funext s;rw[b8]
  rw[e];exact bB.bR (h x (by simp)) (AD r λy A2=>h y (by simp[A2]))
theorem N0{p:Pg}(l:List Sm)(A3:l.length<100000000)(k:Kt)(Q:Rr->bW->Prop)
 (M:∀(Y:Env) C f v v6 X6,Q (.on,⟨C,f⟩) (k (.exit 0) ⟨21,aA,(0,true,.ptr 0 0 0)::Y,kq p C f v++[⟨400,v6,X6⟩]⟩))
 (A:∀(h:Hw) C f v v6 X6,(h=.lv\/h=.rt)->Q (h,⟨C,f⟩) (k .ret ⟨21,aA,[(4,true,.d (.int .i64 (eT h)))],kq p C f v++[⟨400,v6,X6⟩]⟩))
 (E:∀e (Y:Env) C f v v6 X6,Q (.ft e,⟨C,f⟩) (k (.panic 103 (kp e)) ⟨21,aA,Y,kq p C f v++[⟨400,v6,X6⟩]⟩)):
 ∀(A4 pre:List Sm)(C:List Int)(f v v6:Nat)(X6:ay),l=pre++A4->(∀x∈A4,MK p x/\bB p (iW p.vars x))->eD p C->f<=100000->
 Q (b8 p.vars A4 ⟨C,f⟩) (aI ctx 56 (.loop (Code.at (bm f56) [1,0,1,0,0])) ⟨21,aA,[(0,true,.ptr 0 0 0),(8,true,.d (.list (l.map cw))),(9,true,.d (.int .i64 l.length)),(10,true,.d (.int .i64 pre.length))],kq p C f v++[⟨400,v6,X6⟩]⟩ k)
 |[],pre,C,f,v,v6,X6,N,I,H,J=>by
  have e:b8 p.vars [] ⟨C,f⟩=(.on,⟨C,f⟩):=by simp[b8]
  rw[e];have A6:pre.length=l.length:=by rw[N];simp
  have:=M [(8,true,.d (.list (l.map cw))),(9,true,.d (.int .i64 l.length)),(10,true,.d (.int .i64 l.length)),(11,true,.d (.bool false))] C f v v6 X6;simp at this;rw[A6,ai];simp[f56,this]
 |x::r,pre,C,f,v,v6,X6,N,I,H,J=>by
  obtain⟨D,T⟩:=I x (by simp);obtain⟨A7,D⟩:=D C f H J;have T:=T ⟨C,f⟩ H;have e:b8 p.vars (x::r) ⟨C,f⟩=bR (iW p.vars x ⟨C,f⟩) λA1=>b8 p.vars r A1:=by rw[b8]
  rw[e];clear e;have ih:=λC f v v6 X6 H J=>N0 l A3 k Q M A E r (pre++[x]) C f v v6 X6 (by simp[N]) (λy A2=>I y (by simp[A2])) H J;clear I M;have U:pre.length<l.length:=by rw[N];simp
  have V:l[pre.length]=x:=by simp[N]
  have Z:IntKind.i64.wrap ((pre.length:Int)+1)=(pre.length:Int)+1:=aE (by unfold aG;omega);generalize iW p.vars x ⟨C,f⟩=q at*;obtain⟨h,A',A0⟩:=q;simp only at T;rw[ai];cases h with
  |on=>
   have ih:=ih A' A0;simp[eU,eT,b6]at D;simp only[bR];simp[f56]at ih⊢;simp[U,V,b6,D,Z];exact ih _ _ _ T.1 (by omega)
  |lv=>
   have A:=A .lv A' A0;simp[eU,eT,b6]at D A;simp only[bR];simp[f56,U,V,b6,D,Z,A]
  |rt=>
   have A:=A .rt A' A0;simp[eU,eT,b6]at D A;simp only[bR];simp[f56,U,V,b6,D,Z,A]
  |ft e=>
   have E:=λY=>E e Y A' A0;simp[eU,b6]at D E;simp only[bR];simp[f56,U,V,b6,D,Z,E]
theorem Q8{p:Pg}(l:List Sm)(A3:l.length<100000000)(I:∀x∈l,MK p x/\bB p (iW p.vars x)):BK p l:=by
 intro C f H J;have A5:=λ(k:Kt) (Q:Rr->bW->Prop) M A E v6 X6=>N0 l A3 k Q M A E l [] C f 0 v6 X6 rfl I H J;rw[ajm (by simp)];generalize b8 p.vars l ⟨C,f⟩=q at*;simp[f56]at A5⊢;refine A5 _ (λX r=>X=q->kT p q r) (λY C f v v6 X6 O=>?_) (λh C f v v6 X6 hh O=>?_) (λe Y C f v v6 X6 O=>?_) _ _ rfl
 ·subst O;simp[f56];exact⟨_,rfl⟩
 ·subst O;rcases hh with rfl|rfl
  ·simp;exact⟨_,rfl⟩
  ·simp;exact⟨_,rfl⟩
 ·subst O;simp;exact⟨_,rfl⟩
theorem bH(b:List Sm):nL b=.list (b.map cw):=rfl
theorem N1{p:Pg}{x:Sm}{n:Nat}(M:n<100000000)(N:∀b∈aO x,BK p b)(C:List Int)(f:Nat)(H:eD p C)(O:f<=100000):
 kT p (kS p.vars ((aO x).drop n) ⟨C,f⟩) (ah ctx 205 [.ptr 0 0 0,.d (cw x),.d (.int .i64 n)] (iQ p C f)):=by
 rw[aev (by simp)];by_cases h:n<(aO x).length
 ·have A7:(aO x).drop n=(aO x)[n]::(aO x).drop (n+1):=ado h;obtain⟨v,A⟩:=N (aO x)[n] (acN h) C f H O;rw[A7];have e:kS p.vars ((aO x)[n]::(aO x).drop (n+1)) ⟨C,f⟩=b8 p.vars (aO x)[n] ⟨C,f⟩:=by rw[kS]
  rw[e];clear e;generalize b8 p.vars (aO x)[n] ⟨C,f⟩=q at*;obtain⟨w,T,U⟩:=q;cases w<;>simp[eU,eT]at A<;>simp[f205,b6,h,bH,A]<;>exact⟨_,rfl⟩
 ·have A7:(aO x).drop n=[]:=List.drop_eq_nil_of_le (by omega);rw[A7];have e:kS p.vars [] ⟨C,f⟩=(.on,⟨C,f⟩):=by rw[kS]
  rw[e];simp[f205,b6,h];exact⟨_,rfl⟩
theorem N2{p:Pg}{x:Sm}(A4:(bV x).length<100000000)(A5:∀c∈bV x,KV p c)(N:∀b∈aO x,BK p b)(C:List Int)(f:Nat)(H:eD p C)(O:f<=100000)(k:Kt)(Q:Rr->bW->Prop)
 (A1:∀(Y:Env) v6 X6,Q (kS p.vars ((aO x).drop (bV x).length) ⟨C,f⟩) (k (.exit 0) ⟨33,aA,(0,true,.ptr 0 0 0)::(3,true,.ptr 250 1 0)::Y,kq p C f 0++[⟨250,1,bg x⟩,⟨400,v6,X6⟩]⟩))
 (D:∀(h:Hw) C f v v6 X6,(∀e,h≠.ft e)->Q (h,⟨C,f⟩) (k .ret ⟨33,aA,[(4,true,.d (.int .i64 (eT h)))],kq p C f v++[⟨250,1,bg x⟩,⟨400,v6,X6⟩]⟩))
 (E:∀e (Y:Env) C f v v6 X6,Q (.ft e,⟨C,f⟩) (k (.panic 103 (kp e)) ⟨33,aA,Y,kq p C f v++[⟨250,1,bg x⟩,⟨400,v6,X6⟩]⟩)):
 ∀(cs pre:List Ex)(I:List (List Sm))(v6:Nat)(X6:ay),bV x=pre++cs->I=(aO x).drop pre.length->cs.length<=I.length->
 Q (gQ p.vars I cs ⟨C,f⟩) (aI ctx 144 (.loop (Code.at (bm f144) [1,0,1,0,0])) ⟨33,aA,[(0,true,.ptr 0 0 0),(3,true,.ptr 250 1 0),(8,true,.d (.list ((bV x).map du))),(9,true,.d (.int .i64 (bV x).length)),(10,true,.d (.int .i64 pre.length))],kq p C f 0++[⟨250,1,bg x⟩,⟨400,v6,X6⟩]⟩ k)
 |[],pre,I,v6,X6,V,A6,A2=>by
  have A8:(bV x).length=pre.length:=by rw[V];simp
  have e:gQ p.vars I [] ⟨C,f⟩=kS p.vars ((aO x).drop (bV x).length) ⟨C,f⟩:=by
   rw[A6,A8];cases (aO x).drop pre.length with
   |nil=>rw[gQ,kS]
   |cons b r=>rw[gQ,kS]
  rw[e];have:=A1 [(8,true,.d (.list ((bV x).map du))),(9,true,.d (.int .i64 (bV x).length)),(10,true,.d (.int .i64 (bV x).length)),(11,true,.d (.bool false))] v6 X6;rw[<-A8,ai];simp at this;simp[f144,this]
 |c::cs,pre,I,v6,X6,V,A6,A2=>by
  have Z:pre.length<(aO x).length:=by
   rw[A6,acL]at A2;simp only[ab1]at A2;omega
  have A9:I=(aO x)[pre.length]::(aO x).drop (pre++[c]).length:=by
   rw[A6,ado Z];simp
  have e:gQ p.vars I (c::cs) ⟨C,f⟩=vR (cf p.vars C c) ⟨C,f⟩ λn=>if n=0 then gQ p.vars ((aO x).drop (pre++[c]).length) cs ⟨C,f⟩else b8 p.vars (aO x)[pre.length] ⟨C,f⟩:=by
   rw[A9,gQ]
  have ih:=λv6 X6=>N2 A4 A5 N C f H O k Q A1 D E cs (pre++[c]) ((aO x).drop (pre++[c]).length) v6 X6 (by simp[V]) rfl (by
   rw[A9]at A2;simp only[ab1]at A2;omega)
  rw[e];clear e A1;have AD:=A5 c (by rw[V];simp);have A:=iR AD (f:=f) H;have y:pre.length<(bV x).length:=by rw[V];simp
  have A':(bV x)[pre.length]=c:=by simp[V]
  have A0:IntKind.i64.wrap ((pre.length:Int)+1)=(pre.length:Int)+1:=aE (by unfold aG;omega);generalize gQ p.vars ((aO x).drop (pre++[c]).length) cs ⟨C,f⟩=AH at*;rw[ai];cases AA:cf p.vars C c with
  |f e=>
   rw[AA]at A;have E:=λY=>E e Y C f 0;simp at A E;simp only[vR];simp[f144,y,A',aZ,A,A0,E]
  |v n t=>
   rw[AA]at A;simp only[vR];by_cases M:n=0
   ·subst M;simp at A;simp[f144]at ih⊢;simp[y,A',aZ,A,A0,ih]
   ·rw[aah M];obtain⟨AE,J⟩:=N (aO x)[pre.length] (acN Z) C f H O;clear ih;generalize b8 p.vars (aO x)[pre.length] ⟨C,f⟩=q at*;obtain⟨h,T,U⟩:=q;cases h with
    |ft e=>
     have E:=λY=>E e Y T U;simp[eU]at A E J;simp[f144,Z,y,A',aZ,bH,A,M,J,A0,E]
    |on=>
     have D:=D .on T U;simp[eU,eT]at A D J;simp[f144,Z,y,A',aZ,bH,A,M,J,A0,D]
    |lv=>
     have D:=D .lv T U;simp[eU,eT]at A D J;simp[f144,Z,y,A',aZ,bH,A,M,J,A0,D]
    |rt=>
     have D:=D .rt T U;simp[eU,eT]at A D J;simp[f144,Z,y,A',aZ,bH,A,M,J,A0,D]
theorem US{p:Pg}{x:Sm}(A4:(bV x).length<100000000)(A5:∀c∈bV x,KV p c)(N:∀b∈aO x,BK p b)(AF:(bV x).length<=(aO x).length)(C:List Int)(f:Nat)(H:eD p C)(O:f<=100000):
 kT p (gQ p.vars (aO x) (bV x) ⟨C,f⟩) (ah ctx 144 [.ptr 0 0 0,.d (cw x)] (iQ p C f)):=by
 have AB:=λ(k:Kt) (Q:Rr->bW->Prop) A1 D E v6 X6=>N2 A4 A5 N C f H O k Q A1 D E (bV x) [] (aO x) v6 X6 rfl rfl AF;obtain⟨AE,AC⟩:=N1 (n:=(bV x).length) A4 N C f H O;rw[aeb (by simp)];generalize gQ p.vars (aO x) (bV x) ⟨C,f⟩=q at*;generalize kS p.vars ((aO x).drop (bV x).length) ⟨C,f⟩=AG at*;simp[f144,b6]at AB⊢;refine AB _ (λX r=>X=q->kT p q r) (λY v6 X6 A3=>?_) (λh C f v v6 X6 hh A3=>?_) (λe Y C f v v6 X6 A3=>?_) _ _ rfl
 ·subst A3;obtain⟨h,T,U⟩:=AG;cases h<;>simp[eU,eT,b6]at AC<;>simp[f144,AC]<;>exact⟨_,rfl⟩
 ·subst A3;cases h with
  |ft e=>exact absurd rfl (hh e)
  |on=>simp;exact⟨_,rfl⟩
  |lv=>simp;exact⟨_,rfl⟩
  |rt=>simp;exact⟨_,rfl⟩
 ·subst A3;simp;exact⟨_,rfl⟩
section
variable {p:Pg} {x:Sm} {b:List Sm} (A1:KV p (dn x)) (I:aO x=[b]) (A2:BK p b) (A3:bB p (λs=>b8 p.vars b s)) (k:Kt) (Q:Rr->bW->Prop)
 (D:∀(h:Hw) C f v,(∀e,h≠.ft e)->Q (h,⟨C,f⟩) (k .ret ⟨35,aA,[(4,true,.d (.int .i64 (eT h)))],kq p C f v++[⟨250,1,bg x⟩]⟩))
 (E:∀e (Y:Env) C f v,Q (.ft e,⟨C,f⟩) (k (.panic 103 (kp e)) ⟨35,aA,Y,kq p C f v++[⟨250,1,bg x⟩]⟩))
include A1 I A2 A3 D E
theorem N3(A:a6 x=5):∀(m:Nat)(Y:Env)(C:List Int)(f v:Nat),(Y=[]\/Y=[(27,true,.d (.bool false))])->f<m->eD p C->f<=100000->
 Q (vI (λC=>cf p.vars C (dn x)) (λs=>b8 p.vars b s) m ⟨C,f⟩) (aI ctx 148 (.loop (Code.at (bm f148) [1,0,0])) ⟨35,aA,(0,true,.ptr 0 0 0)::(3,true,.ptr 250 1 0)::Y,kq p C f v++[⟨250,1,bg x⟩]⟩ k)
 |0,Y,C,f,v,A4,h,T,y=>by omega
 |m+1,Y,C,f,v,A4,h,T,y=>by
  rcases A4 with rfl|rfl;all_goals
   have H:=kY (p:=p) C f (by omega);rw[vI,fL];rw[ai];by_cases V:f=0
   ·rw[aap V]at H;subst V;have E:=λY=>E 4 Y C 0;simp[A]at H E;simp[f148,A,H,E]
   ·rw[aah V]at H;rw[aah V];have J:=iR A1 (f:=f-1) T;simp only
    cases A5:cf p.vars C (dn x)with
    |f e=>
     rw[A5]at J;have E:=λY=>E e Y C (f-1);simp[A]at H J E;simp only[vR];simp[f148,A,H,J,E]
    |v n t=>
     rw[A5]at J;simp only[vR];by_cases U:n=0
     ·subst U;have D:=D .on C (f-1);simp[eT,A]at H J D;simp[f148,A,H,J,D]
     ·rw[aah U];obtain⟨A7,M⟩:=A2 C (f-1) T (by omega);have Z:=A3 ⟨C,f-1⟩ T;simp only at Z;have ih:=N3 A m;generalize b8 p.vars b ⟨C,f-1⟩=q at*;obtain⟨w,N,O⟩:=q;simp only at Z;cases w with
      |ft e=>
       have E:=λY=>E e Y N O;simp[I,bH,eU,A]at H J M E;simp only[bR];simp[f148,A,H,J,U,I,bH,M,E]
      |lv=>
       have D:=D .lv N O;simp[I,bH,eU,eT,A]at H J M D;simp only[bR];simp[f148,A,H,J,U,I,bH,M,D]
      |rt=>
       have D:=D .rt N O;simp[I,bH,eU,eT,A]at H J M D;simp only[bR];simp[f148,A,H,J,U,I,bH,M,D]
      |on=>
       have ih:=λv=>ih [(27,true,.d (.bool false))] N O v (.inr rfl) (by omega) Z.1 (by omega);simp[I,bH,eU,eT,A]at H J M;simp only[bR];simp[f148,A]at ih⊢;simp[H,J,U,I,bH,M]at ih⊢;exact ih _
theorem N4(A:a6 x=6):∀(m:Nat)(Y:Env)(C:List Int)(f v:Nat),(Y=[]\/Y=[(34,true,.d (.bool false))])->f<m->eD p C->f<=100000->
 Q (vJ (λC=>cf p.vars C (dn x)) (λs=>b8 p.vars b s) m ⟨C,f⟩) (aI ctx 148 (.loop (Code.at (bm f148) [1,0,0])) ⟨35,aA,(0,true,.ptr 0 0 0)::(3,true,.ptr 250 1 0)::Y,kq p C f v++[⟨250,1,bg x⟩]⟩ k)
 |0,Y,C,f,v,A4,h,T,y=>by omega
 |m+1,Y,C,f,v,A4,h,T,y=>by
  rcases A4 with rfl|rfl;all_goals
   rw[vJ,ai];obtain⟨A7,M⟩:=A2 C f T y;have Z:=A3 ⟨C,f⟩ T;simp only at Z;have ih:=N4 A m;generalize b8 p.vars b ⟨C,f⟩=q at*;obtain⟨w,N,O⟩:=q;simp only at Z;cases w with
   |ft e=>
    have E:=λY=>E e Y N O;simp[I,bH,eU,A]at M E;simp only[bR];simp[f148,A,I,bH,M,E]
   |lv=>
    have D:=D .lv N O;simp[I,bH,eU,eT,A]at M D;simp only[bR];simp[f148,A,I,bH,M,D]
   |rt=>
    have D:=D .rt N O;simp[I,bH,eU,eT,A]at M D;simp only[bR];simp[f148,A,I,bH,M,D]
   |on=>
    simp only[bR,fL];have H:=kY (p:=p) N O (by omega);by_cases V:O=0
    ·rw[aap V]at H;subst V;have E:=λY=>E 4 Y N 0;simp[I,bH,eU,eT,A]at M H E;simp[f148,A,I,bH,M,H,E]
    ·rw[aah V]at H;rw[aah V];have J:=iR A1 (f:=O-1) Z.1;cases A5:cf p.vars N (dn x)with
     |f e=>
      rw[A5]at J;have E:=λY=>E e Y N (O-1);simp[I,bH,eU,eT,A]at M H J E;simp only[vR];simp[f148,A,I,bH,M,H,J,E]
     |v n t=>
      rw[A5]at J;simp only[vR];by_cases U:n=0
      ·subst U;have ih:=λv=>ih [(34,true,.d (.bool false))] N (O-1) v (.inr rfl) (by omega) Z.1 (by omega);simp[I,bH,eU,eT,A]at M H J;simp[f148,A]at ih⊢;simp[I,bH,M,H,J]at ih⊢;exact ih _
      ·rw[aah U];have D:=D .on N (O-1);simp[I,bH,eU,eT,A]at M H J D;simp[f148,A,I,bH,M,H,J,U,D]
end
theorem N5{p:Pg}{x:Sm}{b:List Sm}(A1:KV p (dn x))(I:aO x=[b])(A2:BK p b)(A3:bB p (λs=>b8 p.vars b s))(A:a6 x=5\/a6 x=6)(C:List Int)(f:Nat)(T:eD p C)(y:f<=100000):
 kT p (if a6 x=5 then vI (λC=>cf p.vars C (dn x)) (λs=>b8 p.vars b s) (f+1) ⟨C,f⟩else vJ (λC=>cf p.vars C (dn x)) (λs=>b8 p.vars b s) (f+1) ⟨C,f⟩) (ah ctx 148 [.ptr 0 0 0,.d (cw x)] (iQ p C f)):=by
 have A':=λ(k:Kt) (Q:Rr->bW->Prop) D E=>N3 A1 I A2 A3 k Q D E;have A6:=λ(k:Kt) (Q:Rr->bW->Prop) D E=>N4 A1 I A2 A3 k Q D E;rw[aef (by simp)];rcases A with A|A
 ·have A':=λk Q D E=>A' k Q D E A (f+1) [] C f 0 (.inl rfl) (by omega) T y;rw[aap A];generalize vI (λC=>cf p.vars C (dn x)) (λs=>b8 p.vars b s) (f+1) ⟨C,f⟩=q at*;clear A6;simp[f148,b6]at A'⊢;refine A' _ (λX r=>X=q->kT p q r) (λh C f v hh A0=>?_) (λe Y C f v A0=>?_) rfl
  ·subst A0;cases h with
   |ft e=>exact absurd rfl (hh e)
   |on=>simp;exact⟨_,rfl⟩
   |lv=>simp;exact⟨_,rfl⟩
   |rt=>simp;exact⟨_,rfl⟩
  ·subst A0;simp;exact⟨_,rfl⟩
 ·have A':=λk Q D E=>A6 k Q D E A (f+1) [] C f 0 (.inl rfl) (by omega) T y;rw[aah (by omega)];generalize vJ (λC=>cf p.vars C (dn x)) (λs=>b8 p.vars b s) (f+1) ⟨C,f⟩=q at*;clear A6;simp[f148,b6]at A'⊢;refine A' _ (λX r=>X=q->kT p q r) (λh C f v hh A0=>?_) (λe Y C f v A0=>?_) rfl
  ·subst A0;cases h with
   |ft e=>exact absurd rfl (hh e)
   |on=>simp;exact⟨_,rfl⟩
   |lv=>simp;exact⟨_,rfl⟩
   |rt=>simp;exact⟨_,rfl⟩
  ·subst A0;simp;exact⟨_,rfl⟩
end Go.Am
end
section
namespace Go.Am
open Go Go.Proofs Go.Proofs.Tryz
variable [Inhabited bA]
set_option maxRecDepth 20000
set_option maxHeartbeats 1600000
section
variable {p:Pg} {x:Sm} {b:List Sm} {w:Vr} (D:aO x=[b]) (AH:BK p b) (AI:bB p (λs=>b8 p.vars b s)) (k:Kt) (Q:Rr->bW->Prop)
 (I:∀(h:Hw) C f v,(∀e,h≠.ft e)->Q (h,⟨C,f⟩) (k .ret ⟨111,aA,[(4,true,.d (.int .i64 (eT h)))],kq p C f v++[⟨250,1,bg x⟩,⟨400,1,iB w⟩]⟩))
 (J:∀e (Y:Env) C f v,Q (.ft e,⟨C,f⟩) (k (.panic 103 (kp e)) ⟨111,aA,Y,kq p C f v++[⟨250,1,bg x⟩,⟨400,1,iB w⟩]⟩))
include D AH AI I J
theorem N6{a:Nat}{to H:Int}(AM:aG H):∀(m:Nat)(C:List Int)(f v:Nat),f<m->eD p C->f<=100000->a<C.length->
 Q (xU a to H (λs=>b8 p.vars b s) m ⟨C,f⟩) (aI ctx 147 (.loop (Code.at (bm f147) [1,1,1,1,1,1,0,0])) ⟨111,aA,[(0,true,.ptr 0 0 0),(3,true,.ptr 250 1 0),(5,true,.d (.int .i64 a)),(8,true,.d (.int .i64 to)),(9,true,.d (.int .i64 H))],kq p C f v++[⟨250,1,bg x⟩,⟨400,1,iB w⟩]⟩ k)
 |0,C,f,v,h,O,AN,N=>by omega
 |m+1,C,f,v,h,O,AN,N=>by
  have E:=kY (p:=p) C f (by omega);rw[xU,fL];rw[ai];by_cases AJ:f=0
  ·rw[aap AJ]at E;subst AJ;have J:=λY=>J 4 Y C 0;simp at E J;simp[f147,E,J]
  ·rw[aah AJ]at E;rw[aah AJ];have AZ:jw C (a:Int)=C[a]:=by unfold jw;simp[N]
   simp only[AZ];cases hu:UE C[a] to H with
   |true=>
    rw[aap rfl];have I:=I .on C (f-1);simp[UE]at hu;simp[eT]at E I;rcases hu with ⟨A4,A5⟩|⟨A4,A5⟩
    ·simp[f147,E,N,A4,A5,I]
    ·have T:¬0<=H:=by omega
     simp[f147,E,N,A4,A5,T,I]
   |false=>
    rw[aah (by simp)];have Ae:¬((0<=H/\to<C[a])\/(H<0/\C[a]<to)):=by
     simpa [UE]using hu
    obtain⟨Af,M⟩:=AH C (f-1) O (by omega);have U:=AI ⟨C,f-1⟩ O;simp only at U;have ih:=N6 (a:=a) (to:=to) AM m;generalize b8 p.vars b ⟨C,f-1⟩=q at*;obtain⟨h,A,V⟩:=q;simp only at U;generalize Z:C[a]=AT at*;by_cases y:0<=H
    ·have g1:¬to<AT:=by omega
     have g2:¬H<0:=by omega
     cases h with
     |ft e=>
      have J:=λY=>J e Y A V;simp[eU,D,bH]at E M J;simp only[bR];simp[f147,E,N,Z,y,g1,g2,D,bH,M,J]
     |lv=>
      have I:=I .lv A V;simp[eU,eT,D,bH]at E M I;simp only[bR];simp[f147,E,N,Z,y,g1,g2,D,bH,M,I]
     |rt=>
      have I:=I .rt A V;simp[eU,eT,D,bH]at E M I;simp only[bR];simp[f147,E,N,Z,y,g1,g2,D,bH,M,I]
     |on=>
      have A0:a<A.length:=by
       have A4:=U.1.len;have A5:=O.len;omega
      have A7:jw A (a:Int)=A[a]:=by unfold jw;simp[A0]
      have A1:=uU 8 A[a] H false (by rw[<-A7];exact r0 U.1.num _) AM;simp only[bR,A7];have AB:rl 8 [A[a],H] false=if (kl 8 A[a] H false).2.2=0 then .v (kl 8 A[a] H false).1 (kl 8 A[a] H false).2.1 else .f (kl 8 A[a] H false).2.2:=rfl
      have AC:=Q5 8 A[a] H false (by rw[<-A7];exact r0 U.1.num _);rw[AB];clear AB;generalize kl 8 A[a] H false=r at*;obtain⟨A8,A_,A9⟩:=r;simp only at AC⊢;by_cases T:A9=0
      ·rw[aap T];subst T;simp only[vR];have AD:eD p (ek A a A8):=U.1.put _ AC;have ih:=λv=>ih (ek A a A8) V v (by omega) AD (by omega) (by simpa [ek]using A0);simp[eU,eT,D,bH,A6]at E M A1;simp[f147,ek,D,bH]at ih⊢;simp[E,N,A0,Z,y,g1,g2,D,bH,M,A1,aj]at ih⊢;try simp[List.map_set]at ih⊢
       exact ih _
      ·rw[aah T];simp only[vR];have J:=λY=>J A9 Y A V;simp[eU,eT,D,bH,A6,kp]at E M A1 J;simp[f147,E,N,A0,Z,y,g1,g2,D,bH,M,A1,T,kp,J,aj,List.range']
    ·have g1:¬AT<to:=by omega
     have g2:H<0:=by omega
     cases h with
     |ft e=>
      have J:=λY=>J e Y A V;simp[eU,D,bH]at E M J;simp only[bR];simp[f147,E,N,Z,y,g1,g2,D,bH,M,J]
     |lv=>
      have I:=I .lv A V;simp[eU,eT,D,bH]at E M I;simp only[bR];simp[f147,E,N,Z,y,g1,g2,D,bH,M,I]
     |rt=>
      have I:=I .rt A V;simp[eU,eT,D,bH]at E M I;simp only[bR];simp[f147,E,N,Z,y,g1,g2,D,bH,M,I]
     |on=>
      have A0:a<A.length:=by
       have A4:=U.1.len;have A5:=O.len;omega
      have A7:jw A (a:Int)=A[a]:=by unfold jw;simp[A0]
      have A1:=uU 8 A[a] H false (by rw[<-A7];exact r0 U.1.num _) AM;simp only[bR,A7];have AB:rl 8 [A[a],H] false=if (kl 8 A[a] H false).2.2=0 then .v (kl 8 A[a] H false).1 (kl 8 A[a] H false).2.1 else .f (kl 8 A[a] H false).2.2:=rfl
      have AC:=Q5 8 A[a] H false (by rw[<-A7];exact r0 U.1.num _);rw[AB];clear AB;generalize kl 8 A[a] H false=r at*;obtain⟨A8,A_,A9⟩:=r;simp only at AC⊢;by_cases T:A9=0
      ·rw[aap T];subst T;simp only[vR];have AD:eD p (ek A a A8):=U.1.put _ AC;have ih:=λv=>ih (ek A a A8) V v (by omega) AD (by omega) (by simpa [ek]using A0);simp[eU,eT,D,bH,A6]at E M A1;simp[f147,ek,D,bH]at ih⊢;simp[E,N,A0,Z,y,g1,g2,D,bH,M,A1,aj]at ih⊢;try simp[List.map_set]at ih⊢
       exact ih _
      ·rw[aah T];simp only[vR];have J:=λY=>J A9 Y A V;simp[eU,eT,D,bH,A6,kp]at E M A1 J;simp[f147,E,N,A0,Z,y,g1,g2,D,bH,M,A1,T,kp,J,aj,List.range']
end
theorem Xf{p:Pg}(AU:p.vars.length<=1000)(Aa:∀w∈p.vars,dB w=true){x:Sm}{b:List Sm}{w:Vr}{AE AK AF:Ex}(AG:bV x=[AE,AK,AF])(hw:bu p.vars (gG x)=some w)(N:w.arr=false)(Ab:w.ty<=2)(A4:KV p AE)(A5:KV p AK)(T:KV p AF)(A8:RI p AE)(A9:RI p AF)
 (D:aO x=[b]) (AH:BK p b) (AI:bB p (λs=>b8 p.vars b s)) (C:List Int) (f:Nat) (O:eD p C) (AN:f<=100000):
 kT p (zL p.vars (gG x) [AE,AK,AF] (λs=>b8 p.vars b s) ⟨C,f⟩) (ah ctx 147 [.ptr 0 0 0,.d (cw x)] (iQ p C f)):=by
 have A2:=rZ AU hw C f;have Ac:=Jn AU Aa hw N Ab O;obtain⟨a,AV⟩:∃a:Nat,(dw p.vars (gG x)).1=a:=⟨(dw p.vars (gG x)).1.toNat,by omega⟩;rw[AV]at A2 Ac;have AW:a<C.length:=by omega
 have A':=iR A4 (f:=f) O;have A3:=iR A5 (f:=f) O;have AA:=iR T (f:=f) O;unfold zL;simp only
 rw[AV,aee (by simp)];cases AO:cf p.vars C AE with
 |f e=>
  rw[AO]at A';simp[bn,dk]at A2 A';simp[f147,b6,aZ,AG,A2,A',vR];exact⟨_,rfl⟩
 |v AL t1=>
  rw[AO]at A';cases AX:cf p.vars C AK with
  |f e=>
   rw[AX]at A3;simp[bn,dk]at A2 A' A3;simp[f147,b6,aZ,AG,A2,A',A3,vR];exact⟨_,rfl⟩
  |v AY t2=>
   rw[AX]at A3;cases AP:cf p.vars C AF with
   |f e=>
    rw[AP]at AA;simp[bn,dk]at A2 A' A3 AA;simp[f147,b6,aZ,AG,A2,A',A3,AA,vR];exact⟨_,rfl⟩
   |v AQ t3=>
    rw[AP]at AA;simp only[vR];have Ad:aG AQ:=A9 C AQ t3 O AP;have AD:eD p (ek C a AL):=O.put _ (A8 C AL t1 O AO);have AR:=λ(k:Kt) (Q:Rr->bW->Prop) I J=>N6 (x:=x) (w:=w) D AH AI k Q I J (a:=a) (to:=AY) Ad (f+1) (ek C a AL) f 0 (by omega) AD AN (by simpa [ek]using AW);generalize xU a AY AQ (λs=>b8 p.vars b s) (f+1) ⟨ek C a AL,f⟩=q at*;simp[bn,dk]at A2 A' A3 AA;simp[f147,ek,D,bH,AG,aZ]at AR;simp[f147,b6,aZ,AG,D,bH,A2,A',A3,AA,AW,aj];try simp[List.map_set]at AR⊢
    refine AR _ (λX r=>X=q->kT p q r) (λh C f v hh AS=>?_) (λe Y C f v AS=>?_) rfl
    ·subst AS;cases h with
     |ft e=>exact absurd rfl (hh e)
     |on=>simp;exact⟨_,rfl⟩
     |lv=>simp;exact⟨_,rfl⟩
     |rt=>simp;exact⟨_,rfl⟩
    ·subst AS;simp;exact⟨_,rfl⟩
theorem UT{p:Pg}{x:Sm}{b:List Sm}{j:Nat}(AA:j<(aO x).length)(AB:(aO x)[j]=b)(O:BK p b){n:Int}{l:List Int}(AP:l.length<100000000)(C:List Int)(f:Nat)(N:eD p C)(T:f<=100000)(AI AJ:AV)(k:Kt)(P:Bool->bW->Prop)
 (D:∀i:Int,P false (k (.exit 2) ⟨57,aA,[(0,true,.ptr 0 0 0),(3,true,.ptr 250 1 0),(5,true,.d (.int .i64 n)),(6,true,.d (.int .i64 j)),(7,true,.d (hM l)),(8,true,.d (.int .i64 i)),(14,true,AI),(15,true,AJ),(16,true,.d (.int .i64 j)),(25,true,.d (.bool false))],kq p C f 0++[⟨250,1,bg x⟩]⟩))
 (A:∀(h:Hw) E H v,b8 p.vars b ⟨C,f⟩=(h,⟨E,H⟩)->(∀e,h≠.ft e)->P true (k .ret ⟨57,aA,[(4,true,.d (.int .i64 (eT h)))],kq p E H v++[⟨250,1,bg x⟩]⟩))
 (I:∀e (Y:Env) E H v,b8 p.vars b ⟨C,f⟩=(.ft e,⟨E,H⟩)->P true (k (.panic 103 (kp e)) ⟨57,aA,Y,kq p E H v++[⟨250,1,bg x⟩]⟩)):
 ∀(rest pre:List Int),l=pre++rest->P (iU n rest) (aI ctx 145 (.loop (Code.at (bm f145) [1,1,0,1,0,0,1,1,0,0,1,1,0,0])) ⟨57,aA,[(0,true,.ptr 0 0 0),(3,true,.ptr 250 1 0),(5,true,.d (.int .i64 n)),(6,true,.d (.int .i64 j)),(7,true,.d (hM l)),(8,true,.d (.int .i64 pre.length)),(14,true,AI),(15,true,AJ),(16,true,.d (.int .i64 j))],kq p C f 0++[⟨250,1,bg x⟩]⟩ k)
 |[],pre,J=>by
  have D:=D pre.length;have A0:l.length=pre.length:=by rw[J];simp
  have M:IntKind.i64.wrap ((pre.length:Int)+1)=(pre.length:Int)+1:=aE (by unfold aG;omega);have g:¬(pre.length:Int)+1<pre.length:=by omega
  rw[ai];simp[hM]at D;simp[f145,hM,iU,A0,M,g,D]
 |[a],pre,J=>by
  have D:=D pre.length;have A0:l.length=pre.length+1:=by rw[J];simp
  have M:IntKind.i64.wrap ((pre.length:Int)+1)=(pre.length:Int)+1:=aE (by unfold aG;omega);rw[ai];simp[hM]at D;simp[f145,hM,iU,A0,M,D]
 |a::c::r,pre,J=>by
  have ih:=UT AA AB O AP C f N T AI AJ k P D A I r (pre++[a,c]) (by simp[J]);have A0:l.length=pre.length+(r.length+2):=by rw[J];simp
  have M:IntKind.i64.wrap ((pre.length:Int)+1)=(pre.length:Int)+1:=aE (by unfold aG;omega);have A2:IntKind.i64.wrap ((pre.length:Int)+2)=(pre.length:Int)+2:=aE (by unfold aG;omega);have U:pre.length<l.length:=by omega
  have V:pre.length+1<l.length:=by omega
  have A3:(pre.length:Int)+1<l.length:=by omega
  have A4:l[pre.length]=a:=by simp[J]
  have A5:l[pre.length+1]=c:=by simp[J]
  have A6:((pre.length:Int)+1).toNat=pre.length+1:=by omega
  have A7:(0:Int)<=(pre.length:Int)+1:=by omega
  rw[ai];by_cases Z:a<=n
  ·by_cases A1:n<=c
   ·have e:iU n (a::c::r)=true:=by simp[iU,Z,A1]
    rw[e];obtain⟨AQ,y⟩:=O C f N T;clear ih D;generalize b8 p.vars b ⟨C,f⟩=q at*;obtain⟨h,E,H⟩:=q;cases h with
    |ft e=>
     have I:=λY=>I e Y E H;simp[eU]at y I;simp[f145,hM,U,V,A3,A4,A5,A6,A7,M,A2,Z,A1,AA,AB,bH,y,I]
    |on=>
     have A:=A .on E H;simp[eU,eT]at y A;simp[f145,hM,U,V,A3,A4,A5,A6,A7,M,A2,Z,A1,AA,AB,bH,y,A]
    |lv=>
     have A:=A .lv E H;simp[eU,eT]at y A;simp[f145,hM,U,V,A3,A4,A5,A6,A7,M,A2,Z,A1,AA,AB,bH,y,A]
    |rt=>
     have A:=A .rt E H;simp[eU,eT]at y A;simp[f145,hM,U,V,A3,A4,A5,A6,A7,M,A2,Z,A1,AA,AB,bH,y,A]
   ·have e:iU n (a::c::r)=iU n r:=by simp[iU,A1]
    rw[e];simp[f145,hM]at ih⊢;simp[U,V,A3,A4,A5,A6,A7,M,A2,Z,A1];exact ih
  ·have e:iU n (a::c::r)=iU n r:=by simp[iU,Z]
   rw[e];simp[f145,hM]at ih⊢;simp[U,V,A3,A4,A5,A6,A7,M,A2,Z];exact ih
theorem N7{p:Pg}{x:Sm}(AG:(cx x).length<100000000)(AH:∀l∈cx x,l.length<100000000)(O:∀b∈aO x,BK p b){n:Int}(C:List Int)(f:Nat)(N:eD p C)(T:f<=100000)(k:Kt)(Q:Rr->bW->Prop)
 (AC:∀(Y:Env),Q (kS p.vars ((aO x).drop (cx x).length) ⟨C,f⟩) (k (.exit 0) ⟨57,aA,(0,true,.ptr 0 0 0)::(3,true,.ptr 250 1 0)::Y,kq p C f 0++[⟨250,1,bg x⟩]⟩))
 (A:∀(h:Hw) C f v,(∀e,h≠.ft e)->Q (h,⟨C,f⟩) (k .ret ⟨57,aA,[(4,true,.d (.int .i64 (eT h)))],kq p C f v++[⟨250,1,bg x⟩]⟩))
 (I:∀e (Y:Env) C f v,Q (.ft e,⟨C,f⟩) (k (.panic 103 (kp e)) ⟨57,aA,Y,kq p C f v++[⟨250,1,bg x⟩]⟩)):
 ∀(ls pre:List (List Int))(A':List (List Sm)),cx x=pre++ls->A'=(aO x).drop pre.length->ls.length<=A'.length->
 Q (gR p.vars A' n ls ⟨C,f⟩) (aI ctx 145 (.loop (Code.at (bm f145) [1,1,0,1,0,0])) ⟨57,aA,[(0,true,.ptr 0 0 0),(3,true,.ptr 250 1 0),(5,true,.d (.int .i64 n)),(14,true,.d (.list ((cx x).map hM))),(15,true,.d (.int .i64 (cx x).length)),(16,true,.d (.int .i64 pre.length))],kq p C f 0++[⟨250,1,bg x⟩]⟩ k)
 |[],pre,A',J,D,AD=>by
  have A0:(cx x).length=pre.length:=by rw[J];simp
  have e:gR p.vars A' n [] ⟨C,f⟩=kS p.vars ((aO x).drop (cx x).length) ⟨C,f⟩:=by
   rw[D,A0];cases (aO x).drop pre.length with
   |nil=>rw[gR,kS]
   |cons b r=>rw[gR,kS]
  rw[e];have:=AC [(5,true,.d (.int .i64 n)),(14,true,.d (.list ((cx x).map hM))),(15,true,.d (.int .i64 (cx x).length)),(16,true,.d (.int .i64 (cx x).length)),(17,true,.d (.bool false))];rw[<-A0,ai];simp at this;simp[f145,this]
 |l::ls,pre,A',J,D,AD=>by
  have AK:pre.length<(aO x).length:=by
   rw[D,acL]at AD;simp only[ab1]at AD;omega
  have AL:A'=(aO x)[pre.length]::(aO x).drop (pre++[l]).length:=by
   rw[D,ado AK];simp
  have e:gR p.vars A' n (l::ls) ⟨C,f⟩=if iU n l=true then b8 p.vars (aO x)[pre.length] ⟨C,f⟩else gR p.vars ((aO x).drop (pre++[l]).length) n ls ⟨C,f⟩:=by
   rw[AL,gR]
  have ih:=N7 AG AH O (n:=n) C f N T k Q AC A I ls (pre++[l]) ((aO x).drop (pre++[l]).length) (by simp[J]) rfl (by
   rw[AL]at AD;simp only[ab1]at AD;omega)
  rw[e];clear e AC;have U:pre.length<(cx x).length:=by rw[J];simp
  have V:(cx x)[pre.length]=l:=by simp[J]
  have M:IntKind.i64.wrap ((pre.length:Int)+1)=(pre.length:Int)+1:=aE (by unfold aG;omega);have AM:=λ(k:Kt) (P:Bool->bW->Prop) D A I=>UT (x:=x) (n:=n) AK rfl (O _ (acN AK)) (AH l (by rw[J];simp)) C f N T (.d (.list ((cx x).map hM))) (.d (.int .i64 (cx x).length)) k P D A I l [] rfl;generalize gR p.vars ((aO x).drop (pre++[l]).length) n ls ⟨C,f⟩=AR at*;generalize AX:b8 p.vars (aO x)[pre.length] ⟨C,f⟩=AS at*;rw[ai];simp[f145,hM]at AM ih⊢;simp[U,V,hM];refine AM _ (λt r=>t=iU n l->Q (if iU n l=true then AS else AR) r) (λi AE=>?_) (λh E H v A8 hh AE=>?_) (λe Y E H v A8 AE=>?_) rfl
  ·rw[aah (by simp[<-AE])];simp[M];exact ih
  ·rw[aap AE.symm,A8];have A:=A h E H v hh;simp at A;simp[A]
  ·rw[aap AE.symm,A8];have I:=I e Y E H v;simp at I;simp[I]
theorem UW{p:Pg}{x:Sm}(AT:KV p (dn x))(AG:(cx x).length<100000000)(AH:∀l∈cx x,l.length<100000000)(O:∀b∈aO x,BK p b)(AU:(cx x).length<=(aO x).length)(C:List Int)(f:Nat)(N:eD p C)(T:f<=100000):
 kT p (vR (cf p.vars C (dn x)) ⟨C,f⟩ λn=>gR p.vars (aO x) n (cx x) ⟨C,f⟩) (ah ctx 145 [.ptr 0 0 0,.d (cw x)] (iQ p C f)):=by
 have A9:=iR AT (f:=f) N;obtain⟨AQ,AN⟩:=N1 (n:=(cx x).length) AG O C f N T;rw[aec (by simp)];cases A8:cf p.vars C (dn x)with
 |f e=>
  rw[A8]at A9;simp at A9;simp[f145,b6,A9,vR];exact⟨_,rfl⟩
 |v n t=>
  rw[A8]at A9;simp only[vR];have AO:=λ(k:Kt) (Q:Rr->bW->Prop) AC A I=>N7 AG AH O (n:=n) C f N T k Q AC A I (cx x) [] (aO x) rfl rfl AU;generalize gR p.vars (aO x) n (cx x) ⟨C,f⟩=q at*;generalize kS p.vars ((aO x).drop (cx x).length) ⟨C,f⟩=AW at*;simp at A9;simp[f145,b6]at AO⊢;simp[A9];refine AO _ (λX r=>X=q->kT p q r) (λY AF=>?_) (λh C f v hh AF=>?_) (λe Y C f v AF=>?_) rfl
  ·subst AF;obtain⟨h,E,H⟩:=AW;cases h<;>simp[eU,eT,b6]at AN<;>simp[f145,AN]<;>exact⟨_,rfl⟩
  ·subst AF;cases h with
   |ft e=>exact absurd rfl (hh e)
   |on=>simp;exact⟨_,rfl⟩
   |lv=>simp;exact⟨_,rfl⟩
   |rt=>simp;exact⟨_,rfl⟩
  ·subst AF;simp;exact⟨_,rfl⟩
section
variable {p:Pg} (O:p.vars.length<=1000) (T:∀w∈p.vars,dB w=true)
include O T
theorem N8{x:Sm}{w:Vr}{line:Int}(hw:bu p.vars (gG x)=some w)(J:2<w.ty)(A6:(dp x).length<100000000){a:Int}(k:Kt)(Q:Rr->bW->Prop)
 (A0:∀(Y:Env) C f v v9 D,eD p C->Q (.on,⟨C,f⟩) (k (.exit 0) ⟨71,aA,(0,true,.ptr 0 0 0)::(3,true,.ptr 250 1 0)::(4,true,.d (.int .i64 a))::(5,true,.ptr 350 1 0)::Y,kq p C f v++[⟨250,1,bg x⟩,⟨350,1,iB w⟩,⟨550,v9,D⟩,⟨3551,0,.dead⟩]⟩))
 (M:∀e (Y:Env) C f v v1 AH v2 AI v9 D AJ AK,Q (.ft e,⟨C,f⟩) (k (.panic 103 (kp e)) ⟨71,aA,Y,kq p C f v++[⟨250,v1,AH⟩,⟨350,v2,AI⟩,⟨550,v9,D⟩,⟨3551,AJ,AK⟩]⟩)):
 ∀(I pre:List Tx)(xs:List Ex)(pp:List Tx)(C:List Int)(f v v9:Nat)(D:ay),dp x=pre++I->xs=(bV x).drop pre.length->xs.length=I.length->(jt p.vars w.ty line I xs pp).1=0->(∀y∈xs,KV p y/\RI p y)->eD p C->
 Q (kf p.vars (gG x) I xs ⟨C,f⟩) (aI ctx 149 (.loop (Code.at (bm f149) [1,1,0,1,0,0])) ⟨71,aA,[(0,true,.ptr 0 0 0),(3,true,.ptr 250 1 0),(4,true,.d (.int .i64 a)),(5,true,.ptr 350 1 0),(19,true,.d (.list ((dp x).map .str))),(20,true,.d (.int .i64 (dp x).length)),(21,true,.d (.int .i64 pre.length))],kq p C f v++[⟨250,1,bg x⟩,⟨350,1,iB w⟩,⟨550,v9,D⟩,⟨3551,0,.dead⟩]⟩ k)
 |[],pre,xs,pp,C,f,v,v9,D,U,A1,A2,E,N,H=>by
  have AY:(dp x).length=pre.length:=by rw[U];simp
  have e:kf p.vars (gG x) [] xs ⟨C,f⟩=(.on,⟨C,f⟩):=by unfold kf;rfl
  rw[e];have:=A0 [(19,true,.d (.list ((dp x).map .str))),(20,true,.d (.int .i64 (dp x).length)),(21,true,.d (.int .i64 (dp x).length)),(22,true,.d (.bool false))] C f v v9 D H;rw[<-AY,ai];simp at this;simp[f149,this]
 |fl::I,pre,[],pp,C,f,v,v9,D,U,A1,A2,E,N,H=>by simp at A2
 |fl::I,pre,y::A3,pp,C,f,v,v9,D,U,A1,A2,E,N,H=>by
  have AZ:=A0;unfold jt at E;cases A4:lW w.ty fl with
  |none=>rw[A4]at E;simp at E
  |some q=>
   rw[A4]at E;simp only at E;by_cases g1:q.Iy=false
   ·rw[aap g1]at E;simp at E
   ·rw[aah g1]at E;by_cases g2:fl∈pp
    ·rw[aap g2]at E;simp at E
    ·rw[aah g2]at E;obtain⟨_,g3⟩:=ee.1 E;obtain⟨q1,q2,j,q3,Au⟩:=ND hw J A4;have AL:=ug (cells:=C.length) T (by have:=H.len;omega) hw J;have hle:=DP O T hw H;have Z:=UN O hw J A4 ⟨hle.1,by omega⟩ C f;have V:=iR (N y (by simp)).1 (f:=f) H;have A_:=(N y (by simp)).2 C;have e:kf p.vars (gG x) (fl::I) (y::A3) ⟨C,f⟩=vR (cf p.vars C y) ⟨C,f⟩ λn=>kf p.vars (gG x) I A3 ⟨ek C (kK p.vars (gG x) fl).1 n,f⟩:=by rw[kf]
     rw[e];clear e E;obtain⟨o,A'⟩:∃o:Nat,(kK p.vars (gG x) fl).1=o:=⟨(kK p.vars (gG x) fl).1.toNat,by omega⟩;rw[A']at Z⊢;have Aa:o<C.length:=by omega
     have AM:pre.length<(dp x).length:=by rw[U];simp
     have AN:(dp x)[pre.length]=fl:=by simp[U]
     have A7:pre.length<(bV x).length:=by
      have:((bV x).drop pre.length).length=(y::A3).length:=by rw[<-A1]
      simp only[acL,ab1]at this;omega
     have AO:=ado A7;rw[<-A1]at AO;injection AO with Ab Ac
     have AP:(bV x)[pre.length]=y:=Ab.symm;have AQ:IntKind.i64.wrap ((pre.length:Int)+1)=(pre.length:Int)+1:=aE (by unfold aG;omega);rw[ai];cases A8:cf p.vars C y with
     |f e=>
      rw[A8]at V;have M:=λY=>M e Y C f;simp[cE]at Z;simp at V M;simp only[vR];simp[f149,AM,AN,A7,AP,aZ,Z,cE,V,AQ,aj];apply M
     |v n t=>
      rw[A8]at V;simp only[vR];have Ad:eD p (ek C o n):=H.put _ (A_ n t H A8);have ih:=λv v9 D=>N8 hw J A6 k Q AZ M I (pre++[fl]) A3 (pp++[fl]) (ek C o n) f v v9 D (by simp[U]) (by simpa using Ac) (by simpa using A2) g3 (λz Ae=>N z (by simp[Ae])) Ad;simp[cE]at Z;simp at V;simp[f149,ek]at ih⊢;simp[AM,AN,A7,AP,aZ,Z,cE,V,Aa,AQ,aj]at ih⊢;try simp[List.map_set]at ih⊢
      apply ih
theorem Xg{x:Sm}{w:Vr}{line:Int}(hw:bu p.vars (gG x)=some w)(J:2<w.ty)(A6:(dp x).length<100000000)(Af:(bV x).length=(dp x).length)(h:(jt p.vars w.ty line (dp x) (bV x) []).1=0)(N:∀y∈bV x,KV p y/\RI p y)(C:List Int)(f:Nat)(H:eD p C):
 NU p (oD p.vars (gG x) (dp x) (bV x) ⟨C,f⟩) (ah ctx 149 [.ptr 0 0 0,.d (cw x)] (iQ p C f)):=by
 have A9:=rZ O hw C f;have hle:=DP O T hw H;obtain⟨o,A'⟩:∃o:Nat,(dw p.vars (gG x)).1=o:=⟨(dw p.vars (gG x)).1.toNat,by omega⟩;have AA:=λ(k:Kt) (Q:Rr->bW->Prop) A0 M v9 D=>N8 O T (line:=line) hw J A6 (a:=o) k Q A0 M (dp x) [] (bV x) [] C f 0 v9 D rfl rfl Af h N H;have AR:=EC w.ty;unfold oD;rw[A']at A9;rw[ny hw,A'];rw[aeg (by simp)];generalize kf p.vars (gG x) (dp x) (bV x) ⟨C,f⟩=q at*;simp[bn,dk]at A9;simp[f149,b6]at AA⊢;simp[A9,bn,dk];refine AA _ (λX r=>X=q->NU p (bR q λAS=>(.on,⟨uT AS.cells o w.ty,AS.fuel⟩)) r) (λY A Ag v v9 D AB AC=>?_) (λe Y A Ag v v1 AH v2 AI v9 D AJ AK AC=>?_) _ _ rfl;rotate_left
 ·subst AC;simp[bR];exact⟨_,rfl⟩
 ·subst AC;clear AA;have AT:=AB.num;have Av:=AB.le;have AL:=ug (cells:=A.length) T (by have:=AB.len;omega) hw J;rw[A']at AL;generalize AU:br w.ty=pl at*;have Ah:o+pl.length<=A.length:=by omega
  have AD:((A.drop o).take pl.length).length=pl.length:=by simp;omega
  have AV:=ajO w.ty;unfold pnN at AV;rw[AU]at AV;have AE:=Xa w.ty ((A.drop o).take pl.length) (by rw[AD];omega) (λy Ai=>AT y (ach (acf Ai)));have AF:(gg w.ty ((A.drop o).take pl.length)).length=pl.length:=by rw[FQ,AD]
  have AG:uT A o w.ty=A.take o++gg w.ty ((A.drop o).take pl.length)++A.drop (o+(gg w.ty ((A.drop o).take pl.length)).length):=by
   unfold uT;rw[AF,AU];simp
  have AW:=Xb A (gg w.ty ((A.drop o).take pl.length)) o (by omega);rw[<-AG]at AW;have AX:(uT A o w.ty).length=A.length:=by
   rw[AG];simp only[ab0,afn,acL,AF];omega
  rw[AD]at AE;generalize Aj:gg w.ty ((A.drop o).take pl.length)=A5 at*;have Ak:(A5.map jD).take (A.length-o)=A5.map jD:=acI (by simp;omega);have Al:(A5.map jD).take pl.length=A5.map jD:=acI (by simp;omega);have An:IntKind.i64.wrap ((o:Int)+(pl.length:Int))=(o:Int)+(pl.length:Int):=aE (by unfold aG;omega);have Ao:((o:Int)+(pl.length:Int)).toNat=o+pl.length:=by omega
  have Ap:o<=A.length:=by omega
  have Aq:(o:Int)<=(A.length:Int):=by omega
  have Ar:(0:Int)<=(o:Int)+(pl.length:Int):=by omega
  have As:(o:Int)<=(o:Int)+(pl.length:Int):=by omega
  have At:o+(A.length-o)<=A.length:=by omega
  simp only[bR];clear AT Aj AG;try simp at AR
  simp only[List.map_take,List.map_drop]at AE;simp[f149,AR,AE,AF,Ak,Al,AW,AX,An,Ao,Ap,Aq,Ar,As,At,Ah,DM,aj];refine⟨if v=0 then 0 else 1,?_⟩;simp[NT,AX]
end
theorem Oa(n:Int):ah ctx 146 [.d (.int .i64 n)] []=some (.ret (.d (.int .i64 (if n=1 then 0 else n))),[]):=by
 rw[aed (by simp)];by_cases h:n=1
 ·simp[f146,h]
 ·simp[f146,h]
section
variable {p:Pg} {x:Sm} {C:List Int} {f:Nat} (M:eD p C) (N:f<=100000)
include M N
theorem xu{R:Mc->Rr}(h:f≠0->kT p (R ⟨C,f-1⟩) (ah ctx 91 [.ptr 0 0 0,.d (cw x)] (iQ p C f))):kT p (fL R ⟨C,f⟩) (ah ctx 91 [.ptr 0 0 0,.d (cw x)] (iQ p C f)):=by
 unfold fL;by_cases E:f=0
 ·rw[aap E];have A:=kY (p:=p) C f (by omega);rw[aap E]at A;subst E;rw[xj (by simp)];simp at A;simp[f91,b6,A];exact⟨_,rfl⟩
 ·rw[aah E];exact h E
theorem agF(D:a6 x=1\/a6 x=9){q:Rr}(H:q.1=.on\/∃e,q.1=.ft e)(E:f≠0)(O:a6 x=1->NU p q (ah ctx 143 [.ptr 0 0 0,.d (cw x)] (iQ p C (f-1))))(T:a6 x=9->NU p q (ah ctx 149 [.ptr 0 0 0,.d (cw x)] (iQ p C (f-1)))):
 kT p q (ah ctx 91 [.ptr 0 0 0,.d (cw x)] (iQ p C f)):=by
 have A:=kY (p:=p) C f (by omega);rw[aah E]at A;obtain⟨w,I,J⟩:=q;rw[xj (by simp)];rcases D with D|D
 ·obtain⟨v,h⟩:=O D;rcases H with H|⟨e,H⟩<;>simp only at H<;>subst H<;>simp[NT,b6,D]at A h<;>simp[f91,b6,D,A,h]<;>exact⟨_,rfl⟩
 ·obtain⟨v,h⟩:=T D;rcases H with H|⟨e,H⟩<;>simp only at H<;>subst H<;>simp[NT,b6,D]at A h<;>simp[f91,b6,D,A,h]<;>exact⟨_,rfl⟩
theorem aqG(D:a6 x=2){q:Rr}(E:f≠0)(h:kT p q (ah ctx 144 [.ptr 0 0 0,.d (cw x)] (iQ p C (f-1)))):
 kT p q (ah ctx 91 [.ptr 0 0 0,.d (cw x)] (iQ p C f)):=by
 have A:=kY (p:=p) C f (by omega);rw[aah E]at A;obtain⟨w,I,J⟩:=q;obtain⟨v,h⟩:=h;rw[xj (by simp)];cases w<;>simp[eU,eT,b6,D]at A h<;>simp[f91,b6,D,A,h]<;>exact⟨_,rfl⟩
theorem aqH(D:a6 x=3){q:Rr}(E:f≠0)(h:kT p q (ah ctx 145 [.ptr 0 0 0,.d (cw x)] (iQ p C (f-1)))):
 kT p q (ah ctx 91 [.ptr 0 0 0,.d (cw x)] (iQ p C f)):=by
 have A:=kY (p:=p) C f (by omega);rw[aah E]at A;obtain⟨w,I,J⟩:=q;obtain⟨v,h⟩:=h;rw[xj (by simp)];cases w<;>simp[eU,eT,b6,D]at A h<;>simp[f91,b6,D,A,h]<;>exact⟨_,rfl⟩
theorem aqI(D:a6 x=4){q:Rr}(E:f≠0)(h:kT p q (ah ctx 147 [.ptr 0 0 0,.d (cw x)] (iQ p C (f-1)))):
 kT p (ia q) (ah ctx 91 [.ptr 0 0 0,.d (cw x)] (iQ p C f)):=by
 have A:=kY (p:=p) C f (by omega);have hle:=Oa;rw[aah E]at A;obtain⟨w,I,J⟩:=q;obtain⟨v,h⟩:=h;rw[xj (by simp)];cases w<;>simp[eU,eT,b6,D]at A h<;>simp[f91,b6,D,A,h,hle,ia]<;>exact⟨_,rfl⟩
theorem aaD(D:a6 x=5\/a6 x=6){q:Rr}(E:f≠0)(h:kT p q (ah ctx 148 [.ptr 0 0 0,.d (cw x)] (iQ p C (f-1)))):
 kT p (ia q) (ah ctx 91 [.ptr 0 0 0,.d (cw x)] (iQ p C f)):=by
 have A:=kY (p:=p) C f (by omega);have hle:=Oa;rw[aah E]at A;obtain⟨w,I,J⟩:=q;obtain⟨v,h⟩:=h;rw[xj (by simp)];rcases D with D|D
 ·cases w<;>simp[eU,eT,b6,D]at A h<;>simp[f91,b6,D,A,h,hle,ia]<;>exact⟨_,rfl⟩
 ·cases w<;>simp[eU,eT,b6,D]at A h<;>simp[f91,b6,D,A,h,hle,ia]<;>exact⟨_,rfl⟩
theorem aaE(D:a6 x=7\/a6 x=8)(E:f≠0):kT p (if a6 x=7 then .lv else .rt,⟨C,f-1⟩) (ah ctx 91 [.ptr 0 0 0,.d (cw x)] (iQ p C f)):=by
 have A:=kY (p:=p) C f (by omega);rw[aah E]at A;rw[xj (by simp)];rcases D with D|D
 ·simp at A;simp[f91,b6,D,A];exact⟨_,rfl⟩
 ·simp at A;simp[f91,b6,D,A];exact⟨_,rfl⟩
end
end Go.Am
end
section
namespace Go.Am
open Go
def UY(x:aU):Prop:=xp x.n=true/\xp x.m=true
def iC(l:List aU):Prop:=∀x∈l,UY x
theorem iC.nil:iC []:=λ_ h=>by simp at h
theorem iC.app{a b:List aU}(J:iC a)(D:iC b):iC (a++b):=λx A=>(abT.1 A).elim (J x) (D x)
theorem iC.cons{x:aU}{l:List aU}(A:UY x)(T:iC l):iC (x::l):=λy E=>by
 rcases aan.1 E with rfl|E
 ·exact A
 ·exact T y E
theorem iC.one{x:aU}(A:UY x):iC [x]:=.cons A .nil
theorem nm0{op a b:Int}:UY (ins op a b 0 0):=⟨rfl,rfl⟩
theorem EP{f:aU->aU}(M:∀x,(f x).n=x.n/\(f x).m=x.m){l:List aU}(h:iC l):iC (l.map f):=λy E=>by
 obtain⟨x,A,rfl⟩:=acb.1 E;have:=h x A;unfold UY at*;rw[(M x).1,(M x).2];exact this
theorem iC.mv{l:List aU}(h:iC l)(k:Nat):iC (oW k l):=EP (λx=>by unfold oB;split<;>exact⟨rfl,rfl⟩) h
theorem iC.out{l:List aU}(h:iC l):iC (EI l):=EP (λx=>by unfold Ny;split<;>exact⟨rfl,rfl⟩) h
theorem iC.rt{l:List aU}(h:iC l)(k:Int):iC (l.map (rtI k)):=EP (λx=>by unfold rtI;split<;>exact⟨rfl,rfl⟩) h
theorem iC.jn{a b:List aU}(J:iC a)(D:iC b):iC (jn a b):=J.app (D.mv _)
theorem iC.ch:∀(H N:List (List aU)),(∀t∈H,iC t)->(∀b∈N,iC b)->iC (lB H N)
 |[],[],_,_=>by unfold lB;exact .nil
 |_::_,[],_,_=>by unfold lB;exact .nil
 |[],b::r,I,D=>by
  have ih:=iC.ch [] r I (λx A=>D x (by simp[A]));rw[abe];split
  ·exact D b (by simp)
  ·exact .jn ((D b (by simp)).app (.one nm0)) ih
 |t::H,b::r,I,D=>by
  have ih:=iC.ch H r (λx A=>I x (by simp[A])) (λx A=>D x (by simp[A]));rw[lB];refine .jn (((I t (by simp)).app (.one nm0)).app (.mv ?_ _)) ih;split
  ·exact D b (by simp)
  ·exact (D b (by simp)).app (.one nm0)
section
variable {vs:List Vr} (O:∀w∈vs,dB w=true)
include O
omit O in
theorem zQ:∀{l:List Ex},mh l=true->∀x∈l,mH x=true
 |y::r,h,x,A=>by
  simp only[mh,Ds]at h;rcases aan.1 A with rfl|A
  ·exact h.1
  ·exact zQ h.2 x A
end
end Go.Am
end
section
namespace Go.Am
open Go Go.Proofs
variable [Inhabited bA]
set_option maxRecDepth 20000
theorem GH{v:Vl}{s:Mc}{g:Int->Rr}(h:∀n,(g n).1=.on\/∃e,(g n).1=.ft e):(vR v s g).1=.on\/∃e,(vR v s g).1=.ft e:=by
 cases v with
 |f e=>exact .inr ⟨e,rfl⟩
 |v n t=>exact h n
theorem agH(vs:List Vr)(to val:Ex)(s:Mc):(tc vs to val s).1=.on\/∃e,(tc vs to val s).1=.ft e:=by
 unfold tc;split
 ·exact GH λn=>.inl rfl
 ·refine GH λk=>GH λn=>?_;unfold EM;split
  ·exact .inr ⟨3,rfl⟩
  ·exact .inl rfl
theorem UZ(vs:List Vr)(name:Tx):∀(A5:List Tx)(xs:List Ex)(s:Mc),(kf vs name A5 xs s).1=.on\/∃e,(kf vs name A5 xs s).1=.ft e
 |[],xs,s=>by unfold kf;exact .inl rfl
 |_::_,[],s=>by unfold kf;exact .inl rfl
 |f::A5,x::xs,s=>by
  rw[kf];exact GH λn=>UZ vs name A5 xs _
theorem Xh(vs:List Vr)(name:Tx)(A5:List Tx)(xs:List Ex)(s:Mc):(oD vs name A5 xs s).1=.on\/∃e,(oD vs name A5 xs s).1=.ft e:=by
 have h:=UZ vs name A5 xs s;unfold oD;generalize kf vs name A5 xs s=q at*;obtain⟨w,t⟩:=q;rcases h with h|⟨e,h⟩<;>simp only at h<;>subst h
 ·exact .inl rfl
 ·exact .inr ⟨e,rfl⟩
def SK(p:Pg)(x:Sm):Prop:=MK p x/\bB p (iW p.vars x)
def LK(p:Pg)(b:List Sm):Prop:=BK p b/\bB p (b8 p.vars b)
section
variable {p:Pg} (A3:p.vars.length<=1000) (A1:∀w∈p.vars,dB w=true)
include A3 A1
theorem Ob:∀(M:List (List Sm))(cs:List Ex),(∀b∈M,bB p (b8 p.vars b))->(∀c∈cs,RI p c)->bB p (gQ p.vars M cs)
 |[],cs,_,_=>by
  have e:gQ p.vars [] cs=λs=>(.on,s):=by funext s;rw[gQ]
  rw[e];exact bB.id _
 |b::M,[],h,_=>by
  have e:gQ p.vars (b::M) []=b8 p.vars b:=by funext s;rw[gQ]
  rw[e];exact h b (by simp)
 |b::M,c::cs,h,AA=>by
  have e:gQ p.vars (b::M) (c::cs)=λs=>vR (cf p.vars s.cells c) s λn=>if n=0 then gQ p.vars M cs s else b8 p.vars b s:=by funext s;rw[gQ]
  rw[e];refine bB.vR (v:=λC=>cf p.vars C c) (G:=λn s=>if n=0 then gQ p.vars M cs s else b8 p.vars b s) (λC n t A U=>AA c (by simp) C n t A U) λn _=>?_;by_cases H:n=0
  ·simp only[H,adI];exact Ob M cs (λb J=>h b (by simp[J])) (λy Z=>AA y (by simp[Z]))
  ·simp only[H,acF];exact h b (by simp)
theorem Oc(n:Int):∀(M:List (List Sm))(ls:List (List Int)),(∀b∈M,bB p (b8 p.vars b))->bB p (gR p.vars M n ls)
 |[],ls,_=>by
  have e:gR p.vars [] n ls=λs=>(.on,s):=by funext s;rw[gR]
  rw[e];exact bB.id _
 |b::M,[],h=>by
  have e:gR p.vars (b::M) n []=b8 p.vars b:=by funext s;rw[gR]
  rw[e];exact h b (by simp)
 |b::M,l::ls,h=>by
  have e:gR p.vars (b::M) n (l::ls)=λs=>if iU n l=true then b8 p.vars b s else gR p.vars M n ls s:=by funext s;rw[gR]
  rw[e];by_cases H:iU n l=true
  ·simp only[H,adI];exact h b (by simp)
  ·simp only[H];exact Oc n M ls (λb J=>h b (by simp[J]))
theorem aj0{lp:Bool}{x:Sm}(N:nu x=true)(D:mI x=true)(AC:ub x)(h:(zH p.vars lp x).1=0)(AE:∀(lp:Bool) (cs:List Ex),dL (aO x)=true->(fJ p.vars lp cs (aO x)).1=0->∀b∈aO x,LK p b):SK p x:=by
 have A4:=λ(y:Ex) A6 T AF=>UQ A3 A1 y A6 T AF;obtain⟨_,_,⟨AW,_⟩,⟨AX,AY⟩,AZ,_⟩:=AC;cases NA N h with
 |@asg to val line v V U A_ ft Aa A8 Ab AK=>
  simp only[mI,Ds]at D;have A':=A4 val A8 D.2.1 Ab;have e:iW p.vars (.mk 1 [] to val [] [] [] [] line)=fL (λs=>tc p.vars to val s):=by funext s;simp[iW]
  refine⟨λC f A E=>?_,?_⟩
  ·rw[e];refine xu A E λI=>agF A E (.inl rfl) (agH ..) I (λ_=>?_) (λh=>by simp[a6]at h);cases EJ ft Aa with
   |num h=>simp[cB]at V
   |ri h=>simp[cB]at V
   |fld _ _ _ _=>simp[cB]at V
   |one o _ _ _=>simp[cB]at V;omega
   |two o _ _ _ _ _ _=>simp[cB]at V;omega
   |@var name Ac Ad AM AG AN=>exact ajY A3 A1 AM AG AN A'.1 C (f-1) A
   |@idx name Ac Ad y AM AG AN AO Ae ty=>
    have Af:mH y=true:=by
     have:=D.1;simp[mH,mh]at this;exact this
    exact ajZ A3 A1 AM AG AN (A4 y AO Af Ae).1 A'.1 C (f-1) A
  ·rw[e];exact bB.fL (abt A'.2)
 |@cnd to val Y A0 line V AL AP A6 T AF A7 hh=>
  simp only[mI,Ds]at D;have AH:∀c∈Y,KV p c/\RI p c:=λc A9=>A4 c ((zF _).1 AP c A9) (zQ D.2.2.1 c A9) (ta (FZ T hh c A9)).1;have O:=AE lp Y A7 hh;have e:iW p.vars (.mk 2 [] to val Y [] [] A0 line)=fL (λs=>gQ p.vars A0 Y s):=by funext s;simp[iW]
  refine⟨λC f A E=>?_,?_⟩
  ·rw[e];exact xu A E λI=>aqG A E rfl I (US (x:=.mk 2 [] to val Y [] [] A0 line) AW (λc AA=>(AH c AA).1) (λb J=>(O b J).1) T C (f-1) A (by omega))
  ·rw[e];exact bB.fL (Ob A3 A1 A0 Y (λb J=>(O b J).2) (λc AA=>(AH c AA).2))
 |@cas to val AB A0 line V A8 AI T AF An A7 hh=>
  simp only[mI,Ds]at D;have A':=A4 val A8 D.2.1 (ta AI).1;have O:=AE lp [] A7 hh;have e:iW p.vars (.mk 3 [] to val [] AB [] A0 line)=fL (λs=>vR (cf p.vars s.cells val) s λn=>gR p.vars A0 n AB s):=by funext s;simp[iW]
  refine⟨λC f A E=>?_,?_⟩
  ·rw[e];exact xu A E λI=>aqH A E rfl I (UW (x:=.mk 3 [] to val [] AB [] A0 line) A'.1 AX AY (λb J=>(O b J).1) T C (f-1) A (by omega))
  ·rw[e];exact bB.fL (bB.vR (v:=λC=>cf p.vars C val) (G:=λn s=>gR p.vars A0 n AB s) (λC n t A U=>A'.2 C n t A U) λn _=>Oc A3 A1 n A0 AB λb J=>(O b J).2)
 |@cnt name to val x y z b line v H V AL U A_ AG AK Ag Ah AO Ai Aj Ak A7 hh=>
  simp only[mI,mh,Ds]at D;have AQ:=A4 x Ag D.2.2.1.1 (ta Ah).1;have AT:=A4 y AO D.2.2.1.2.1 (ta Ai).1;have AR:=A4 z Aj D.2.2.1.2.2.1 (ta Ak).1;have O:=AE true [] (by simpa [aO,dL]using A7) (by simp[aO,fJ,eS,hh]) b (by simp[aO]);have AJ:(λq=>kS p.vars [b] q)=λs=>b8 p.vars b s:=by funext s;rw[kS]
  have e:iW p.vars (.mk 4 name to val [x,y,z] [] [] [b] line)=fL (λs=>ia (zL p.vars name [x,y,z] (λs=>b8 p.vars b s) s)):=by funext s;simp[iW,AJ]
  refine⟨λC f A E=>?_,?_⟩
  ·rw[e];exact xu A E λI=>aqI A E rfl I (Xf A3 A1 (x:=.mk 4 name to val [x,y,z] [] [] [b] line) rfl U AG (by omega) AQ.1 AT.1 AR.1 AQ.2 AR.2 rfl O.1 O.2 C (f-1) A (by omega))
  ·rw[e];exact bB.fL (bB.left (Xd AQ.2 AT.2 AR.2 O.2))
 |@whl to val b line V A8 AI A7 hh=>
  simp only[mI,Ds]at D;have A':=A4 val A8 D.2.1 (ta AI).1;have O:=AE true [] (by simpa [aO,dL]using A7) (by simp[aO,fJ,eS,hh]) b (by simp[aO]);have AJ:(λq=>kS p.vars [b] q)=λs=>b8 p.vars b s:=by funext s;rw[kS]
  have e:iW p.vars (.mk 5 [] to val [] [] [] [b] line)=fL (λs=>ia (vI (λC=>cf p.vars C val) (λs=>b8 p.vars b s) (s.fuel+1) s)):=by funext s;simp[iW,AJ]
  refine⟨λC f A E=>?_,?_⟩
  ·rw[e];exact xu A E λI=>aaD A E (.inl rfl) I (by
    have:=N5 (x:=.mk 5 [] to val [] [] [] [b] line) A'.1 rfl O.1 O.2 (.inl rfl) C (f-1) A (by omega);simpa [a6]using this)
  ·rw[e];exact bB.fL (bB.left λs AC=>NV (λC n t A U=>A'.2 C n t A U) O.2 (s.fuel+1) s AC)
 |@rep to val b line V A8 AI A7 hh=>
  simp only[mI,Ds]at D;have A':=A4 val A8 D.2.1 (ta AI).1;have O:=AE true [] (by simpa [aO,dL]using A7) (by simp[aO,fJ,eS,hh]) b (by simp[aO]);have AJ:(λq=>kS p.vars [b] q)=λs=>b8 p.vars b s:=by funext s;rw[kS]
  have e:iW p.vars (.mk 6 [] to val [] [] [] [b] line)=fL (λs=>ia (vJ (λC=>cf p.vars C val) (λs=>b8 p.vars b s) (s.fuel+1) s)):=by funext s;simp[iW,AJ]
  refine⟨λC f A E=>?_,?_⟩
  ·rw[e];exact xu A E λI=>aaD A E (.inr rfl) I (by
    have:=N5 (x:=.mk 6 [] to val [] [] [] [b] line) A'.1 rfl O.1 O.2 (.inr rfl) C (f-1) A (by omega);simpa [a6]using this)
  ·rw[e];exact bB.fL (bB.left λs AC=>NW (λC n t A U=>A'.2 C n t A U) O.2 (s.fuel+1) s AC)
 |@ext to val line V AL Ao=>
  have e:iW p.vars (.mk 7 [] to val [] [] [] [] line)=fL (λs=>(.lv,s)):=by funext s;simp[iW]
  refine⟨λC f A E=>?_,?_⟩
  ·rw[e];exact xu A E λI=>by simpa [a6]using aaE (x:=.mk 7 [] to val [] [] [] [] line) A E (.inl rfl) I
  ·rw[e];exact bB.fL (bB.id _)
 |@ret to val line V AL=>
  have e:iW p.vars (.mk 8 [] to val [] [] [] [] line)=fL (λs=>(.rt,s)):=by funext s;simp[iW]
  refine⟨λC f A E=>?_,?_⟩
  ·rw[e];exact xu A E λI=>by simpa [a6]using aaE (x:=.mk 8 [] to val [] [] [] [] line) A E (.inr rfl) I
  ·rw[e];exact bB.fL (bB.id _)
 |@cal name to val Y fields line v H V AL U AK AP AS Ap hh=>
  simp only[mI,Ds]at D;have Al:=NI fields Y [] AS hh;have AH:∀c∈Y,KV p c/\RI p c:=λc A9=>A4 c ((zF _).1 AP c A9) (zQ D.2.2.1 c A9) (Al c A9);have e:iW p.vars (.mk 9 name to val Y [] fields [] line)=fL (λs=>oD p.vars name fields Y s):=by funext s;simp[iW]
  refine⟨λC f A E=>?_,?_⟩
  ·rw[e];exact xu A E λI=>agF A E (.inr rfl) (Xh ..) I (λh=>by simp[a6]at h) (λ_=>Xg A3 A1 (x:=.mk 9 name to val Y [] fields [] line) U AK AZ AS hh AH C (f-1) A)
  ·rw[e];exact bB.fL (UR U (λC A=>by
    have:=ug (cells:=C.length) A1 (by have:=A.len;omega) U AK;omega) (λy Z=>(AH y Z).2))
mutual
theorem agI:∀(x:Sm)(lp:Bool),nu x=true->mI x=true->Bb x->(zH p.vars lp x).1=0->SK p x
 | .mk op name to val Y AB fields A0 line,lp,N,D,H,h=>by
  have AU:=(QU _).1 H;have AV:=D;simp only[mI,Ds]at AV;exact aj0 A3 A1 N D AU.1 h (λlp cs A6 T=>B7 A0 lp cs A6 AV.2.2.2.2 AU.2 T)
theorem xw:∀(l:List Sm)(lp:Bool),ej l=true->iT l=true->ke l->(dW p.vars lp l).1=0->∀x∈l,SK p x
 |[],_,_,_,_,_,x,A2=>absurd A2 (acX)
 |y::r,lp,N,D,H,h,x,A2=>by
  simp only[ej,Ds]at N;simp only[iT,Ds]at D;simp only[ke]at H;simp only[dW]at h;obtain⟨A6,T⟩:=ee.1 h;rcases aan.1 A2 with I|A2
  ·rw[I];exact agI y lp N.1 D.1 H.1 A6
  ·exact xw r lp N.2 D.2 H.2 T x A2
theorem B7:∀(l:List (List Sm))(lp:Bool)(cs:List Ex),dL l=true->uc l=true->nw l->(fJ p.vars lp cs l).1=0->∀b∈l,LK p b
 |[],_,_,_,_,_,_,b,J=>absurd J (acX)
 |y::r,lp,[],N,D,H,h,b,J=>by
  simp only[dL,Ds]at N;simp only[uc,Ds]at D;simp only[nw]at H;simp only[fJ]at h;obtain⟨A6,T⟩:=ee.1 h;rcases aan.1 J with I|J
  ·have Z:=xw y lp N.1 D.1 H.1.2 A6;rw[I];exact⟨Q8 y (by have:=H.1.1;omega) Z,AD y λx A2=>(Z x A2).2⟩
  ·exact B7 r lp [] N.2 D.2 H.2 T b J
 |y::r,lp,c::cs,N,D,H,h,b,J=>by
  simp only[dL,Ds]at N;simp only[uc,Ds]at D;simp only[nw]at H;simp only[fJ]at h;obtain⟨A6,T⟩:=ee.1 h;obtain⟨T,AF⟩:=ee.1 T;rcases aan.1 J with I|J
  ·have Z:=xw y lp N.1 D.1 H.1.2 T;rw[I];exact⟨Q8 y (by have:=H.1.1;omega) Z,AD y λx A2=>(Z x A2).2⟩
  ·exact B7 r lp cs N.2 D.2 H.2 AF b J
end
theorem U0{l:List Sm}{lp:Bool}(AS:l.length<100000000)(N:ej l=true)(D:iT l=true)(H:ke l)(h:(dW p.vars lp l).1=0):LK p l:=by
 have Z:=xw A3 A1 l lp N D H h;exact⟨Q8 l (by omega) Z,AD l λx A2=>(Z x A2).2⟩
end
end Go.Am
end
section
namespace Go.Am
open Go Go.Proofs Go.Proofs.Tryz
variable [Inhabited bA]
set_option maxRecDepth 20000
set_option maxHeartbeats 1600000
@[simp] theorem aj2:rq Tryz.prog 99=some [.lit (.pointer none)]:=by kernel_rfl
theorem Jr(l:List Vr)(I:l.length<=1000)(J M N X5 O:ay)(T U V Y Z y:AV)(k:Kt)(Q:bW->Prop)
 (E:∀v1 v6 X6,Q (k (.exit 0) ⟨73,aA,[(3,true,.ptr 250 1 0),(6,true,.ptr 400 1 0),(8,true,.ptr 500 1 0),(40,true,.d (.list (l.map bn))),(41,true,.d (.int .i64 l.length)),(42,true,.d (.int .i64 l.length)),(43,true,.d (.bool false))],
  [⟨250,1,J⟩,⟨400,1,M⟩,⟨450,1,N⟩,⟨500,1,.box [.ptr 1100 1 0]⟩,⟨600,v6,X6⟩,⟨951,1,O⟩,⟨1100,1,.box [T,U,V,Y,.vec 1101 v1 0 l.length,Z,y]⟩,⟨1101,v1,.vec 1 (l.map DL)⟩]⟩)):
 ∀(rest pre:List Vr)(v1 v6:Nat)(X6:ay),l=pre++rest->Q (aI ctx 22 (.loop (Code.at (bm f22) [1,1,1,1,0,1,0,0])) ⟨73,aA,[(3,true,.ptr 250 1 0),(6,true,.ptr 400 1 0),(8,true,.ptr 500 1 0),(40,true,.d (.list (l.map bn))),(41,true,.d (.int .i64 l.length)),(42,true,.d (.int .i64 pre.length))],
  [⟨250,1,J⟩,⟨400,1,M⟩,⟨450,1,N⟩,⟨500,1,.box [.ptr 1100 1 0]⟩,⟨600,v6,X6⟩,⟨951,1,O⟩,⟨1100,1,.box [T,U,V,Y,.vec 1101 v1 0 pre.length,Z,y]⟩,⟨1101,v1,.vec 1 (pre.map DL)⟩]⟩ k)
 |[],pre,v1,v6,X6,H=>by
  have E:=E v1 v6 X6;simp at H;subst H;rw[ai];simp[f22,E]
 |v::r,pre,v1,v6,X6,H=>by
  have ih:=λv1 v6 X6=>Jr l I J M N X5 O T U V Y Z y k Q E r (pre++[v]) v1 v6 X6 (by simp[H]);clear E;have A8:pre.length<l.length:=by rw[H];simp
  have A9:l[pre.length]=v:=by simp[H]
  have AA:=EC v.ty;have AB:IntKind.i64.wrap ((pre.length:Int)+1)=(pre.length:Int)+1:=aE (by unfold aG;omega);have AC:pre.length+1<=4611686018427387904:=by omega
  have AD:(pre.length+1)*24<=140737488355328:=by omega
  have AE:pre.length+1<=281474976710656:=by omega
  rw[ai];simp[f22]at ih⊢;simp[A8,A9,bn,dk,AA,AB,AC,AD,AE,DL,aj]at ih⊢;apply ih
theorem Xi(e:Int)(d0 d1 d2 d3:D)(n:Nat)(A':List D)(C:List Int)(f:Nat):wW ctx 55 [.ptr 0 0 0,.ptr 1 0 0,.fR 103 (kp e)] [.box [.ptr 2 0 0],.box [.lit (.slice none 0 0),.d (.int .i64 0),.d (.int .i64 0)],.box [.d d0,.d d1,.d d2,.d d3,.vec 3 0 0 n,.vec 4 0 0 C.length,.d (.int .i64 f)],.vec 1 A',.vec 1 (C.map jD)]=
 some (.ret (.bM []),[(0,.box [.ptr 2 0 0]),(0,.box [.vec 4 0 0 C.length,.d (.int .i64 e),.d (.int .i64 f)]),(0,.box [.d d0,.d d1,.d d2,.d d3,.vec 3 0 0 n,.vec 4 0 0 C.length,.d (.int .i64 f)]),(0,.vec 1 A'),(0,.vec 1 (C.map jD))]):=by
 rw[aad (by rfl) (by rfl) (by simp)];simp[f55];erw[zy rfl];simp[kp,aj]
theorem abu(b f2:D)(d0 d1 d2 d3:D)(n:Nat)(A':List D)(C:List Int)(f:Nat):wW ctx 55 [.ptr 0 0 0,.ptr 1 0 0,.lit .nilIface] [.box [.ptr 2 0 0],.box [.vec 3 0 0 C.length,.d b,.d f2],.box [.d d0,.d d1,.d d2,.d d3,.vec 4 0 0 n,.vec 3 0 0 C.length,.d (.int .i64 f)],.vec 1 (C.map jD),.vec 1 A']=
 some (.ret (.bM []),[(0,.box [.ptr 2 0 0]),(0,.box [.vec 3 0 0 C.length,.d b,.d f2]),(0,.box [.d d0,.d d1,.d d2,.d d3,.vec 4 0 0 n,.vec 3 0 0 C.length,.d (.int .i64 f)]),(0,.vec 1 (C.map jD)),(0,.vec 1 A')]):=by
 rw[aad (by rfl) (by rfl) (by simp)];simp[f55];erw[zy rfl];simp
theorem agJ{p:Pg}(A2:p.vars.length<=1000)(A5:∀v∈p.vars,dB v=true)(C:List Int)(f:Nat)(A0:eD p C)(AJ:f<=16384)(AF:BK p p.body):ah ctx 22 [.d (oC p),.d (.list (C.map jD)),.d (.int .i64 f)] []=
 some (.ret (.d (.agg [.list ((gi p C f).1.map jD),.int .i64 (gi p C f).2.1,.int .i64 (gi p C f).2.2])),[]):=by
 have I:=NJ p A2 A5;have A6:=uV C (by have:=A0.le;omega);have AG:=A0.len;obtain⟨AK,A⟩:=AF C f A0 (by omega);have g1:¬((f:Int)<0):=by omega
 have g2:¬(16384<(f:Int)):=by omega
 have A1:=λJ M N O T U V Y Z y k Q E v1 v6 X6=>Jr p.vars A2 J M N .dead O T U V Y Z y k Q E p.vars [] v1 v6 X6 rfl;have AH:=λe=>Xi e;have A7:=abu;unfold gi;rw[aab (by simp)];simp[f22]at A1;simp[f22,lO,nK,gA,CY,I,A6,AG,g1,g2,aj];generalize b8 p.vars p.body ⟨C,f⟩=q at*;obtain⟨w,A3,A4⟩:=q;cases w with
 |ft e=>
  simp[eU]at A;refine A1 _ _ _ _ _ _ _ _ _ _ _ (λr=>r=some (.ret (.d (.agg [.list (A3.map jD),.int .i64 e,.int .i64 A4])),[])) (λv1 v6 X6=>?_) _ _ _;simp[f22,lO,nK,gA,CY,A,AH,aj]
 |on=>
  simp[eU,eT]at A;refine A1 _ _ _ _ _ _ _ _ _ _ _ (λr=>r=some (.ret (.d (.agg [.list (A3.map jD),.int .i64 0,.int .i64 A4])),[])) (λv1 v6 X6=>?_) _ _ _;simp[f22,lO,nK,gA,CY,A,A7,aj]
 |lv=>
  simp[eU,eT]at A;refine A1 _ _ _ _ _ _ _ _ _ _ _ (λr=>r=some (.ret (.d (.agg [.list (A3.map jD),.int .i64 0,.int .i64 A4])),[])) (λv1 v6 X6=>?_) _ _ _;simp[f22,lO,nK,gA,CY,A,A7,aj]
 |rt=>
  simp[eU,eT]at A;refine A1 _ _ _ _ _ _ _ _ _ _ _ (λr=>r=some (.ret (.d (.agg [.list (A3.map jD),.int .i64 0,.int .i64 A4])),[])) (λv1 v6 X6=>?_) _ _ _;simp[f22,lO,nK,gA,CY,A,A7,aj]
theorem Xj{p:Pg}(A2:p.vars.length<=1000)(A5:∀v∈p.vars,dB v=true)(C:List Int)(f:Int)(A0:C.length<=100000)(AI:(¬(C.length:Int)=dX p.vars\/f<0)\/16384<f):ah ctx 22 [.d (oC p),.d (.list (C.map jD)),.d (.int .i64 f)] []=
 some (.ret (.d (.agg [.list (C.map jD),.int .i64 0,.int .i64 (-1)])),[]):=by
 have I:=NJ p A2 A5;have A6:=uV C A0;rw[aab (by simp)];simp[f22,lO,nK,gA,CY,I,A6,AI,aj]
end Go.Am
end
section
namespace Go.Am
open Go
theorem zS:∀(l p:List Vr)(n:Int),n<=1024->(FT l p n).1=0->n+dX l<=1024
 |[],_,n,A,_=>by simp[dX];exact A
 |v::r,p,n,A,h=>by
  unfold FT at h;split at h
  ·simp at h
  ·split at h
   ·simp at h
   ·have:=zS r _ _ (by omega) h;simp only[dX];omega
end Go.Am
end
section
namespace Go.Am
open Go Go.Proofs
variable [Inhabited bA]
set_option maxRecDepth 20000
structure th(p:Pg):Prop where
 fit:mG p=true
 lit:iT p.body=true
 U2:(lY p).1=0
 lw:hZ (oC p)<10000000
end Go.Am
end
section
namespace Go.Am
open Go Go.Proofs Go.Proofs.Tryz
variable [Inhabited bA]
set_option maxRecDepth 20000
theorem DR(s:Tx)(l:List Vr)(I:l.length<1000000)(k:Kt)(RF:Option Vr->bW)
 (A:∀w v,k .ret ⟨25,aA,[(4,true,.ptr 300 v 0),(5,true,.d (.bool true))],[⟨300,v,iB w⟩]⟩=RF (some w))
 (D:∀(v:Nat)(b c:AV),k (.exit 0) ⟨25,aA,[(0,true,.d (.list (l.map bn))),(1,true,.d (.str s)),(4,true,.ptr 300 v 0),(6,true,b),(10,true,c)],[⟨300,v,iB rk⟩]⟩=RF none):∀(rest pre:List Vr)(v:Nat),l=pre++rest->
 aI ctx 38 (.loop (Code.at (bm f38) [1,0,1,0,0])) ⟨25,aA,[(0,true,.d (.list (l.map bn))),(1,true,.d (.str s)),(4,true,.ptr 300 v 0),(6,true,.d (.int .i64 pre.length))],[⟨300,v,iB rk⟩]⟩ k=RF (bu rest s)
 |[],pre,v,E=>by
  have T:pre.length=l.length:=by rw[E];simp
  simp only[iB,rk]at D;rw[T,ai];simp[f38,D,bu,rk]
 |x::rest,pre,v,E=>by
  have N:pre.length<l.length:=by rw[E];simp
  have O:l[pre.length]=x:=by simp[E]
  have ih:=DR s l I k RF A D rest (pre++[x]) v (by simp[E]);have J:IntKind.i64.wrap ((pre.length:Int)+1)=(pre.length:Int)+1:=aE (by unfold aG;omega);have A:=A x;simp only[iB]at A;rw[ai];by_cases M:x.name=s
  ·simp only[M]at A;simp[f38,rk];simp[N,O,bn,dk,M,A,bu]
  ·simp[f38,rk]at ih⊢;simp[N,O,bn,dk,M,J,ih,bu]
theorem ml{vs:List Vr}(I:vs.length<1000000)(s:Tx):ah ctx 38 [.d (.list (vs.map bn)),.d (.str s)] []=some (.ret (.bM [.d (bn (fV vs s)),.d (.bool (bu vs s).isSome)]),[]):=by
 have h:=λk RF A D v=>DR s vs I k RF A D vs [] v rfl;rw[ajf (by simp)];unfold fV;simp[f38,rk]at h⊢;rw[h _ (λo=>some (.ret (.bM [.d (bn (o.getD rk)),.d (.bool o.isSome)]),[]))]
 ·simp[rk]
 ·intro w v;simp[bn,dk]
 ·intro v b c;simp[bn,dk,rk]
theorem Od(k:Int):ah ctx 52 [.d (.int .i64 k)] []=some (.ret (.d (.list ((br k).map cE))),[]):=by
 by_cases h:10<=k/\k<=31
 ·have:k=10\/k=11\/k=12\/k=13\/k=14\/k=15\/k=16\/k=17\/k=18\/k=19\/k=20\/k=21\/k=22\/k=23\/k=24\/k=25\/k=26\/k=27\/k=28\/k=29\/k=30\/k=31:=by omega
  rcases this with h|h|h|h|h|h|h|h|h|h|h|h|h|h|h|h|h|h|h|h|h|h<;>subst h
  ·exact aqb
  ·exact aqc
  ·exact aqd
  ·exact aqe
  ·exact aqf
  ·exact aqg
  ·exact aqh
  ·exact aqi
  ·exact aqj
  ·exact aqk
  ·exact aql
  ·exact aqm
  ·exact aqn
  ·exact aqo
  ·exact aqp
  ·exact aqq
  ·exact aqr
  ·exact aqs
  ·exact aqt
  ·exact aqu
  ·exact aqv
  ·exact aqw
 ·have U:br k=[]:=by
   have e:∀n:Int,10<=n->n<=31->¬n=k:=λn a b c=>h (by omega);unfold br K6;simp only[xf];rw[aah (e _ (by decide) (by decide)),aah (e _ (by decide) (by decide)),aah (e _ (by decide) (by decide)),aah (e _ (by decide) (by decide)),aah (e _ (by decide) (by decide)),aah (e _ (by decide) (by decide)),aah (e _ (by decide) (by decide)),aah (e _ (by decide) (by decide)),aah (e _ (by decide) (by decide)),aah (e _ (by decide) (by decide)),aah (e _ (by decide) (by decide)),aah (e _ (by decide) (by decide)),aah (e _ (by decide) (by decide)),aah (e _ (by decide) (by decide)),aah (e _ (by decide) (by decide)),aah (e _ (by decide) (by decide)),aah (e _ (by decide) (by decide)),aah (e _ (by decide) (by decide)),aah (e _ (by decide) (by decide)),aah (e _ (by decide) (by decide)),aah (e _ (by decide) (by decide))]
  rw[U];rw[ajl (by simp)];by_cases A:k<10
  ·simp[f52,A]
  ·have D:31<k:=by omega
   simp[f52,A,D]
theorem Xk{w:Vr}(V:w.arr=true->0<=w.lo/\w.lo<=w.hi/\w.hi<=255):ah ctx 39 [.d (.agg (dk w))] []=some (.ret (.d (.int .i64 (b5 w))),[]):=by
 have Y:=Od w.ty;rw[ajg (by simp)];unfold b5;cases H:w.arr with
 |true=>
  have q:=V H;have J:IntKind.i64.wrap (w.hi-w.lo)=w.hi-w.lo:=aE (by unfold aG;omega);have Z:IntKind.i64.wrap (w.hi-w.lo+1)=w.hi-w.lo+1:=aE (by unfold aG;omega);simp[f39,dk,H,J,Z]
 |false=>
  by_cases D:2<w.ty
  ·simp[f39,dk,H,D,Y]
  ·simp[f39,dk,H,D]
def Bj(p:Pn):ay:=.box [.d (.str p.name),.d (.int .i64 p.ty),.d (.bool p.Iy)]
theorem F6(s:Tx)(l:List Pn)(N:l.length<1000000)(k:Kt)(RF:Option Pn->bW)
 (A:∀w v,k .ret ⟨32,aA,[(4,true,.ptr 300 v 0),(5,true,.d (.bool true))],[⟨300,v,Bj w⟩]⟩=RF (some w))
 (E:∀(v:Nat)(b c:AV),k (.exit 0) ⟨32,aA,[(1,true,.d (.str s)),(4,true,.ptr 300 v 0),(6,true,.d (.list (l.map cE))),(7,true,b),(13,true,c)],[⟨300,v,Bj tZ⟩]⟩=RF none):∀(rest pre:List Pn)(v:Nat),l=pre++rest->
 aI ctx 179 (.loop (Code.at (bm f179) [1,1,0,1,0,0])) ⟨32,aA,[(1,true,.d (.str s)),(4,true,.ptr 300 v 0),(6,true,.d (.list (l.map cE))),(7,true,.d (.int .i64 pre.length))],[⟨300,v,Bj tZ⟩]⟩ k=RF (xg rest s)
 |[],pre,v,H=>by
  have V:pre.length=l.length:=by rw[H];simp
  simp only[Bj,tZ]at E;rw[V,ai];simp[f179,Bj,E,xg,tZ]
 |x::rest,pre,v,H=>by
  have I:pre.length<l.length:=by rw[H];simp
  have O:l[pre.length]=x:=by simp[H]
  have ih:=F6 s l N k RF A E rest (pre++[x]) v (by simp[H]);have U:IntKind.i64.wrap ((pre.length:Int)+1)=(pre.length:Int)+1:=aE (by unfold aG;omega);have A:=A x;simp only[Bj]at A;rw[ai];by_cases J:s=[]
  ·simp only[J]at ih⊢;simp[f179,Bj,tZ]at ih⊢;simp[I,U,ih,xg]
  ·by_cases M:x.name=s
   ·simp only[M]at A;simp[f179,Bj,tZ];simp[I,O,cE,M,J,A,xg]
   ·simp[f179,Bj,tZ]at ih⊢;simp[I,O,cE,M,J,U,ih,xg]
theorem U3(q:Int)(s:Tx):ah ctx 179 [.d (.int .i64 q),.d (.str s)] []=some (.ret (.bM [.d (cE (fP q s)),.d (.bool (lW q s).isSome)]),[]):=by
 have N:=zD q;have Y:=Od q;have h:=λk RF A E v=>F6 s (br q) (by omega) k RF A E (br q) [] v rfl;rw[aem (by simp)];unfold fP lW;simp[f179,Bj,tZ]at h⊢;simp[Y];rw[h _ (λo=>some (.ret (.bM [.d (cE (o.getD tZ)),.d (.bool o.isSome)]),[]))]
 ·simp[tZ]
 ·intro w v;simp[cE]
 ·intro v b c;simp[cE,tZ]
def dM(t:Te):AV:=.bM [.d (.int .i64 t.t),.d (.agg [.int .i64 t.e,.int .i64 t.line])]
def RT(vs:List Vr)(x:Ex):Prop:=ah ctx 109 [.d (.list (vs.map bn)),.d (.agg [.int .i64 (cB x),.int .i64 (iN x),.str (ec x),.str (fa x),.list ((cR x).map du),.int .i64 (m5 x)])] []=some (.ret (dM (aR vs x)),[])
def cW(e:EL):AV:=.d (.agg [.int .i64 e.1,.int .i64 e.2])
def DS(vs:List Vr)(x:Ex)(t:Int):EL:=if (aR vs x).e=0/\(aR vs x).t≠t then (10,m5 x)else ((aR vs x).e,(aR vs x).line)
theorem B8{vs:List Vr}{x:Ex}(h:RT vs x):ah ctx 180 [.d (.list (vs.map bn)),.d (.agg [.int .i64 (cB x),.int .i64 (iN x),.str (ec x),.str (fa x),.list ((cR x).map du),.int .i64 (m5 x)])] []=some (.ret (cW (DS vs x 1)),[]):=by
 unfold RT at h;rw[aen (by simp)];unfold DS;generalize aR vs x=T at*;by_cases D:T.e=0
 ·by_cases A:T.t=1
  ·simp[f180,dM,cW,D,A,h]
  ·simp[f180,dM,cW,D,A,h]
 ·simp[f180,dM,cW,D,h]
theorem pE{vs:List Vr}{x:Ex}(t:Int)(h:RT vs x):ah ctx 110 [.d (.list (vs.map bn)),.d (.agg [.int .i64 (cB x),.int .i64 (iN x),.str (ec x),.str (fa x),.list ((cR x).map du),.int .i64 (m5 x)]),.d (.int .i64 t)] []=some (.ret (cW (DS vs x t)),[]):=by
 unfold RT at h;rw[ad6 (by simp)];unfold DS;generalize aR vs x=T at*;by_cases D:T.e=0
 ·by_cases A:T.t=t
  ·simp[f110,dM,cW,D,A,h]
  ·simp[f110,dM,cW,D,A,h]
 ·simp[f110,dM,cW,D,h]
section
variable {vs:List Vr} (J:vs.length<1000000) (q:∀v∈vs,dB v=true)
theorem agK{op nn line:Int}{name field:Tx}{sub:List Ex}(h:op=1\/op=2):RT vs (.mk op nn name field sub line):=by
 unfold RT;rw[dV (by simp)];have e:aR vs (.mk op nn name field sub line)=gN op:=by
  unfold aR;rw[aap h]
 rw[e];rcases h with h|h<;>subst h<;>simp[f109,dM,gN]
include J in
theorem U4{nn line:Int}{name field:Tx}{sub:List Ex}:RT vs (.mk 5 nn name field sub line):=by
 unfold RT;have A:=ml (vs:=vs) J name;rw[dV (by simp)];have e:aR vs (.mk 5 nn name field sub line)=(match bu vs name with
  |none=>cF 9 line
  |some v=>(if v.ty<=2 then cF 10 line else match lW v.ty field with
   |none=>cF 9 line
   |some p=>gN p.ty)):=by
  unfold aR;rw[aah (by decide),aap (by decide)];rfl
 rw[e];cases I:bu vs name with
 |none=>
  simp[I,fV,bn,dk,rk]at A;simp[f109,dM,cF,A,aj]
 |some v=>
  have U:=U3 v.ty field;simp[I,fV,bn,dk]at A;by_cases D:v.ty<=2
  ·simp[f109,dM,cF,A,aj,D]
  ·cases V:lW v.ty field with
   |none=>
    simp[V,fP,cE,tZ]at U;simp[f109,dM,cF,A,aj,D,U,V]
   |some p=>
    simp[V,fP,cE]at U;simp[f109,dM,gN,A,aj,D,U,V]
include J in
theorem abv{nn line:Int}{name field:Tx}{v:Vr}{y:Ex}{T:Te}(I:bu vs name=some v)(E:v.arr=true)(D:¬2<v.ty)(M:RT vs y)(O:aR vs y=T)(H:T.e=0)(N:T.t=1):ah ctx 109 [.d (.list (vs.map bn)),.d (.agg [.int .i64 4,.int .i64 nn,.str name,.str field,.list ([y].map du),.int .i64 line])] []=some (.ret (dM (gN v.ty)),[]):=by
 have A:=ml (vs:=vs) J name;have hi:=B8 M;unfold DS cW at hi;rw[O]at hi;clear O M;rw[dV (by simp)];simp[I,fV,bn,dk]at A;simp[H,N]at hi;simp[f109,dM,gN,cF,A,aj,E,D,aZ,hi,H,N]
include J in
theorem abw{nn line:Int}{name field:Tx}{v:Vr}{y:Ex}{T:Te}(I:bu vs name=some v)(E:v.arr=true)(D:¬2<v.ty)(M:RT vs y)(O:aR vs y=T)(H:T.e=0)(N:¬T.t=1):ah ctx 109 [.d (.list (vs.map bn)),.d (.agg [.int .i64 4,.int .i64 nn,.str name,.str field,.list ([y].map du),.int .i64 line])] []=some (.ret (dM (cF 10 (m5 y))),[]):=by
 have A:=ml (vs:=vs) J name;have hi:=B8 M;unfold DS cW at hi;rw[O]at hi;clear O M;rw[dV (by simp)];simp[I,fV,bn,dk]at A;simp[H,N]at hi;simp[f109,dM,gN,cF,A,aj,E,D,aZ,hi,H,N]
include J in
theorem abx{nn line:Int}{name field:Tx}{v:Vr}{y:Ex}{T:Te}(I:bu vs name=some v)(E:v.arr=true)(D:¬2<v.ty)(M:RT vs y)(O:aR vs y=T)(H:¬T.e=0):ah ctx 109 [.d (.list (vs.map bn)),.d (.agg [.int .i64 4,.int .i64 nn,.str name,.str field,.list ([y].map du),.int .i64 line])] []=some (.ret (dM (cF T.e T.line)),[]):=by
 have A:=ml (vs:=vs) J name;have hi:=B8 M;unfold DS cW at hi;rw[O]at hi;clear O M;rw[dV (by simp)];simp[I,fV,bn,dk]at A;simp[H]at hi;simp[f109,dM,gN,cF,A,aj,E,D,aZ,hi,H]
include J in
theorem aby{op nn line:Int}{name field:Tx}{sub:List Ex}(h:op=3\/op=4)(Y:op=4->∃y,sub=[y]/\RT vs y):RT vs (.mk op nn name field sub line):=by
 unfold RT;have A:=ml (vs:=vs) J name;have e:aR vs (.mk op nn name field sub line)=(match bu vs name with
  |none=>cF 9 line
  |some v=>if v.arr≠decide (op=4)\/2<v.ty then cF 10 line else if op=4 then K7 vs v.ty sub else gN v.ty):=by
  conv=>lhs;unfold aR
  rw[aah (by omega),aap (by omega)];cases bu vs name with
  |none=>rfl
  |some v=>
   simp only
   rw[aah (by omega)]
 rw[e];clear e;cases I:bu vs name with
 |none=>
  simp[I,fV,bn,dk,rk]at A;rcases h with h|h<;>subst h<;>rw[dV (by simp)]<;>simp[f109,dM,cF,A,aj]
 |some v=>
  simp[I,fV,bn,dk]at A;rcases h with h|h<;>subst h
  ·cases E:v.arr with
   |true=>(rw[dV (by simp)];simp[f109,dM,cF,A,aj,E])
   |false=>
    by_cases D:2<v.ty
    ·(rw[dV (by simp)];simp[f109,dM,cF,A,aj,E,D])
    ·(rw[dV (by simp)];simp[f109,dM,gN,A,aj,E,D])
  ·cases E:v.arr with
   |false=>(rw[dV (by simp)];simp[f109,dM,cF,A,aj,E])
   |true=>
    by_cases D:2<v.ty
    ·(rw[dV (by simp)];simp[f109,dM,cF,A,aj,E,D])
    ·obtain⟨y,Z,M⟩:=Y rfl;subst Z;simp only[K7,ads,adt,Th,Ti,Tj,adu];by_cases H:(aR vs y).e=0
     ·by_cases N:(aR vs y).t=1
      ·have:=abv (nn:=nn) (line:=line) (field:=field) J I E D M rfl H N;simpa [H,N,D,E,gN]using this
      ·have:=abw (nn:=nn) (line:=line) (field:=field) J I E D M rfl H N;simpa [H,N,D,E,cF]using this
     ·have:=abx (nn:=nn) (line:=line) (field:=field) J I E D M rfl H;simpa [H,D,E,cF]using this
end
section
variable {vs:List Vr}
set_option maxHeartbeats 1000000 in
theorem aj3{nn line:Int}{name field:Tx}{a:Ex}(h:RT vs a):RT vs (.mk 6 nn name field [a] line):=by
 have e:aR vs (.mk 6 nn name field [a] line)=b7 6 line (aR vs a) (aR vs a):=by
  conv=>lhs;unfold aR
  rw[aah (by omega),aah (by omega)];rfl
 unfold RT at h⊢;rw[e,dV (by simp)];clear e;generalize aR vs a=T at*;simp[dM]at h;simp[f109,dM,aj,aZ,h];by_cases A:T.e=0
 ·by_cases E:T.t=1<;>simp[A,E,b7,ic,lf,gN,cF]
 ·simp[A,b7]
set_option maxHeartbeats 1000000 in
theorem aj4{nn line:Int}{name field:Tx}{a:Ex}(h:RT vs a):RT vs (.mk 7 nn name field [a] line):=by
 have e:aR vs (.mk 7 nn name field [a] line)=b7 7 line (aR vs a) (aR vs a):=by
  conv=>lhs;unfold aR
  rw[aah (by omega),aah (by omega)];rfl
 unfold RT at h⊢;rw[e,dV (by simp)];clear e;generalize aR vs a=T at*;simp[dM]at h;simp[f109,dM,aj,aZ,h];by_cases A:T.e=0
 ·by_cases E:T.t=2<;>simp[A,E,b7,ic,lf,gN,cF]
 ·simp[A,b7]
set_option maxHeartbeats 1000000 in
theorem aj5{nn line:Int}{name field:Tx}{a b:Ex}(h:RT vs a)(D:RT vs b):RT vs (.mk 8 nn name field [a,b] line):=by
 have e:aR vs (.mk 8 nn name field [a,b] line)=b7 8 line (aR vs a) (aR vs b):=by
  conv=>lhs;unfold aR
  rw[aah (by omega),aah (by omega)];rfl
 unfold RT at h D⊢;rw[e,dV (by simp)];clear e;generalize aR vs a=T at*;generalize aR vs b=H at*;simp[dM]at h D;simp[f109,dM,aj,aZ,h,D];by_cases A:T.e=0
 ·by_cases E:H.e=0
  ·by_cases J:T.t=1<;>by_cases I:H.t=1<;>simp[A,E,J,I,b7,ic,lf,gN,cF]
  ·simp[A,E,b7]
 ·simp[A,b7]
set_option maxHeartbeats 1000000 in
theorem aj6{nn line:Int}{name field:Tx}{a b:Ex}(h:RT vs a)(D:RT vs b):RT vs (.mk 9 nn name field [a,b] line):=by
 have e:aR vs (.mk 9 nn name field [a,b] line)=b7 9 line (aR vs a) (aR vs b):=by
  conv=>lhs;unfold aR
  rw[aah (by omega),aah (by omega)];rfl
 unfold RT at h D⊢;rw[e,dV (by simp)];clear e;generalize aR vs a=T at*;generalize aR vs b=H at*;simp[dM]at h D;simp[f109,dM,aj,aZ,h,D];by_cases A:T.e=0
 ·by_cases E:H.e=0
  ·by_cases J:T.t=1<;>by_cases I:H.t=1<;>simp[A,E,J,I,b7,ic,lf,gN,cF]
  ·simp[A,E,b7]
 ·simp[A,b7]
set_option maxHeartbeats 1000000 in
theorem agL{nn line:Int}{name field:Tx}{a b:Ex}(h:RT vs a)(D:RT vs b):RT vs (.mk 10 nn name field [a,b] line):=by
 have e:aR vs (.mk 10 nn name field [a,b] line)=b7 10 line (aR vs a) (aR vs b):=by
  conv=>lhs;unfold aR
  rw[aah (by omega),aah (by omega)];rfl
 unfold RT at h D⊢;rw[e,dV (by simp)];clear e;generalize aR vs a=T at*;generalize aR vs b=H at*;simp[dM]at h D;simp[f109,dM,aj,aZ,h,D];by_cases A:T.e=0
 ·by_cases E:H.e=0
  ·by_cases J:T.t=1<;>by_cases I:H.t=1<;>simp[A,E,J,I,b7,ic,lf,gN,cF]
  ·simp[A,E,b7]
 ·simp[A,b7]
set_option maxHeartbeats 1000000 in
theorem agM{nn line:Int}{name field:Tx}{a b:Ex}(h:RT vs a)(D:RT vs b):RT vs (.mk 11 nn name field [a,b] line):=by
 have e:aR vs (.mk 11 nn name field [a,b] line)=b7 11 line (aR vs a) (aR vs b):=by
  conv=>lhs;unfold aR
  rw[aah (by omega),aah (by omega)];rfl
 unfold RT at h D⊢;rw[e,dV (by simp)];clear e;generalize aR vs a=T at*;generalize aR vs b=H at*;simp[dM]at h D;simp[f109,dM,aj,aZ,h,D];by_cases A:T.e=0
 ·by_cases E:H.e=0
  ·by_cases J:T.t=1<;>by_cases I:H.t=1<;>simp[A,E,J,I,b7,ic,lf,gN,cF]
  ·simp[A,E,b7]
 ·simp[A,b7]
set_option maxHeartbeats 1000000 in
theorem agN{nn line:Int}{name field:Tx}{a b:Ex}(h:RT vs a)(D:RT vs b):RT vs (.mk 12 nn name field [a,b] line):=by
 have e:aR vs (.mk 12 nn name field [a,b] line)=b7 12 line (aR vs a) (aR vs b):=by
  conv=>lhs;unfold aR
  rw[aah (by omega),aah (by omega)];rfl
 unfold RT at h D⊢;rw[e,dV (by simp)];clear e;generalize aR vs a=T at*;generalize aR vs b=H at*;simp[dM]at h D;simp[f109,dM,aj,aZ,h,D];by_cases A:T.e=0
 ·by_cases E:H.e=0
  ·by_cases J:T.t=1<;>by_cases I:H.t=1<;>simp[A,E,J,I,b7,ic,lf,gN,cF]
  ·simp[A,E,b7]
 ·simp[A,b7]
set_option maxHeartbeats 1000000 in
theorem agO{nn line:Int}{name field:Tx}{a b:Ex}(h:RT vs a)(D:RT vs b):RT vs (.mk 13 nn name field [a,b] line):=by
 have e:aR vs (.mk 13 nn name field [a,b] line)=b7 13 line (aR vs a) (aR vs b):=by
  conv=>lhs;unfold aR
  rw[aah (by omega),aah (by omega)];rfl
 unfold RT at h D⊢;rw[e,dV (by simp)];clear e;generalize aR vs a=T at*;generalize aR vs b=H at*;simp[dM]at h D;simp[f109,dM,aj,aZ,h,D];by_cases A:T.e=0
 ·by_cases E:H.e=0
  ·by_cases I:H.t=T.t<;>simp[A,E,I,b7,ic,lf,gN,cF]
  ·simp[A,E,b7]
 ·simp[A,b7]
end
section
variable {vs:List Vr}
set_option maxHeartbeats 1000000 in
theorem agP{nn line:Int}{name field:Tx}{a b:Ex}(h:RT vs a)(A:RT vs b):RT vs (.mk 14 nn name field [a,b] line):=by
 have e:aR vs (.mk 14 nn name field [a,b] line)=b7 14 line (aR vs a) (aR vs b):=by
  conv=>lhs;unfold aR
  rw[aah (by omega),aah (by omega)];rfl
 unfold RT at h A⊢;rw[e,dV (by simp)];clear e;generalize aR vs a=T at*;generalize aR vs b=E at*;simp[dM]at h A;simp[f109,dM,aj,aZ,h,A];by_cases D:T.e=0
 ·by_cases H:E.e=0
  ·by_cases I:E.t=T.t<;>simp[D,H,I,b7,ic,lf,gN,cF]
  ·simp[D,H,b7]
 ·simp[D,b7]
set_option maxHeartbeats 1000000 in
theorem agQ{nn line:Int}{name field:Tx}{a b:Ex}(h:RT vs a)(A:RT vs b):RT vs (.mk 15 nn name field [a,b] line):=by
 have e:aR vs (.mk 15 nn name field [a,b] line)=b7 15 line (aR vs a) (aR vs b):=by
  conv=>lhs;unfold aR
  rw[aah (by omega),aah (by omega)];rfl
 unfold RT at h A⊢;rw[e,dV (by simp)];clear e;generalize aR vs a=T at*;generalize aR vs b=E at*;simp[dM]at h A;simp[f109,dM,aj,aZ,h,A];by_cases D:T.e=0
 ·by_cases H:E.e=0
  ·by_cases J:T.t=1<;>by_cases I:E.t=1<;>simp[D,H,J,I,b7,ic,lf,gN,cF]
  ·simp[D,H,b7]
 ·simp[D,b7]
set_option maxHeartbeats 1000000 in
theorem agR{nn line:Int}{name field:Tx}{a b:Ex}(h:RT vs a)(A:RT vs b):RT vs (.mk 16 nn name field [a,b] line):=by
 have e:aR vs (.mk 16 nn name field [a,b] line)=b7 16 line (aR vs a) (aR vs b):=by
  conv=>lhs;unfold aR
  rw[aah (by omega),aah (by omega)];rfl
 unfold RT at h A⊢;rw[e,dV (by simp)];clear e;generalize aR vs a=T at*;generalize aR vs b=E at*;simp[dM]at h A;simp[f109,dM,aj,aZ,h,A];by_cases D:T.e=0
 ·by_cases H:E.e=0
  ·by_cases J:T.t=1<;>by_cases I:E.t=1<;>simp[D,H,J,I,b7,ic,lf,gN,cF]
  ·simp[D,H,b7]
 ·simp[D,b7]
set_option maxHeartbeats 1000000 in
theorem agS{nn line:Int}{name field:Tx}{a b:Ex}(h:RT vs a)(A:RT vs b):RT vs (.mk 17 nn name field [a,b] line):=by
 have e:aR vs (.mk 17 nn name field [a,b] line)=b7 17 line (aR vs a) (aR vs b):=by
  conv=>lhs;unfold aR
  rw[aah (by omega),aah (by omega)];rfl
 unfold RT at h A⊢;rw[e,dV (by simp)];clear e;generalize aR vs a=T at*;generalize aR vs b=E at*;simp[dM]at h A;simp[f109,dM,aj,aZ,h,A];by_cases D:T.e=0
 ·by_cases H:E.e=0
  ·by_cases J:T.t=1<;>by_cases I:E.t=1<;>simp[D,H,J,I,b7,ic,lf,gN,cF]
  ·simp[D,H,b7]
 ·simp[D,b7]
set_option maxHeartbeats 1000000 in
theorem agT{nn line:Int}{name field:Tx}{a b:Ex}(h:RT vs a)(A:RT vs b):RT vs (.mk 18 nn name field [a,b] line):=by
 have e:aR vs (.mk 18 nn name field [a,b] line)=b7 18 line (aR vs a) (aR vs b):=by
  conv=>lhs;unfold aR
  rw[aah (by omega),aah (by omega)];rfl
 unfold RT at h A⊢;rw[e,dV (by simp)];clear e;generalize aR vs a=T at*;generalize aR vs b=E at*;simp[dM]at h A;simp[f109,dM,aj,aZ,h,A];by_cases D:T.e=0
 ·by_cases H:E.e=0
  ·by_cases J:T.t=1<;>by_cases I:E.t=1<;>simp[D,H,J,I,b7,ic,lf,gN,cF]
  ·simp[D,H,b7]
 ·simp[D,b7]
set_option maxHeartbeats 1000000 in
theorem agU{nn line:Int}{name field:Tx}{a b:Ex}(h:RT vs a)(A:RT vs b):RT vs (.mk 19 nn name field [a,b] line):=by
 have e:aR vs (.mk 19 nn name field [a,b] line)=b7 19 line (aR vs a) (aR vs b):=by
  conv=>lhs;unfold aR
  rw[aah (by omega),aah (by omega)];rfl
 unfold RT at h A⊢;rw[e,dV (by simp)];clear e;generalize aR vs a=T at*;generalize aR vs b=E at*;simp[dM]at h A;simp[f109,dM,aj,aZ,h,A];by_cases D:T.e=0
 ·by_cases H:E.e=0
  ·by_cases J:T.t=2<;>by_cases I:E.t=2<;>simp[D,H,J,I,b7,ic,lf,gN,cF]
  ·simp[D,H,b7]
 ·simp[D,b7]
set_option maxHeartbeats 1000000 in
theorem agV{nn line:Int}{name field:Tx}{a b:Ex}(h:RT vs a)(A:RT vs b):RT vs (.mk 20 nn name field [a,b] line):=by
 have e:aR vs (.mk 20 nn name field [a,b] line)=b7 20 line (aR vs a) (aR vs b):=by
  conv=>lhs;unfold aR
  rw[aah (by omega),aah (by omega)];rfl
 unfold RT at h A⊢;rw[e,dV (by simp)];clear e;generalize aR vs a=T at*;generalize aR vs b=E at*;simp[dM]at h A;simp[f109,dM,aj,aZ,h,A];by_cases D:T.e=0
 ·by_cases H:E.e=0
  ·by_cases J:T.t=2<;>by_cases I:E.t=2<;>simp[D,H,J,I,b7,ic,lf,gN,cF]
  ·simp[D,H,b7]
 ·simp[D,b7]
set_option maxHeartbeats 1000000 in
theorem agW{nn line:Int}{name field:Tx}{a b:Ex}(h:RT vs a)(A:RT vs b):RT vs (.mk 21 nn name field [a,b] line):=by
 have e:aR vs (.mk 21 nn name field [a,b] line)=b7 21 line (aR vs a) (aR vs b):=by
  conv=>lhs;unfold aR
  rw[aah (by omega),aah (by omega)];rfl
 unfold RT at h A⊢;rw[e,dV (by simp)];clear e;generalize aR vs a=T at*;generalize aR vs b=E at*;simp[dM]at h A;simp[f109,dM,aj,aZ,h,A];by_cases D:T.e=0
 ·by_cases H:E.e=0
  ·by_cases J:T.t=2<;>by_cases I:E.t=2<;>simp[D,H,J,I,b7,ic,lf,gN,cF]
  ·simp[D,H,b7]
 ·simp[D,b7]
end
end Go.Am
end
section
namespace Go.Am
open Go Go.Proofs
variable [Inhabited bA]
set_option maxRecDepth 20000
theorem agX{vs:List Vr}{op nn line:Int}{name field:Tx}{a b:Ex}(A4:8<=op)(A5:op<=21)(h:RT vs a)(A:RT vs b):RT vs (.mk op nn name field [a,b] line):=by
 have Y:op=8\/op=9\/op=10\/op=11\/op=12\/op=13\/op=14\/op=15\/op=16\/op=17\/op=18\/op=19\/op=20\/op=21:=by omega
 rcases Y with e|e|e|e|e|e|e|e|e|e|e|e|e|e<;>subst e
 ·exact aj5 h A
 ·exact aj6 h A
 ·exact agL h A
 ·exact agM h A
 ·exact agN h A
 ·exact agO h A
 ·exact agP h A
 ·exact agQ h A
 ·exact agR h A
 ·exact agS h A
 ·exact agT h A
 ·exact agU h A
 ·exact agV h A
 ·exact agW h A
section
variable {vs:List Vr} (H:vs.length<1000000)
include H
mutual
theorem r6:∀x:Ex,dJ x=true->RT vs x
 | .mk op nn name field sub line,D=>by
  simp only[dJ,Ds,aam,akq,ac7]at D;obtain⟨A6,E,_,_,Z⟩:=D;have ih:=B9 sub Z;unfold gI at E;by_cases q:op=1\/op=2
  ·exact agK q
  ·by_cases A':op=5
   ·subst A';exact U4 H
   ·by_cases A0:op=3\/op=4
    ·refine aby H A0 (λA1=>?_);rw[aap (.inl A1)]at E;match sub,E with
     |[y],_=>exact⟨y,rfl,ih y (by simp)⟩
    ·by_cases U:op=6\/op=7
     ·rw[aap (.inr U)]at E;match sub,E with
      |[y],_=>
       rcases U with e|e<;>subst e
       ·exact aj3 (ih y (by simp))
       ·exact aj4 (ih y (by simp))
     ·rw[aah (by omega),aap (by omega)]at E;match sub,E with
      |[y,z],_=>exact agX (by omega) (by omega) (ih y (by simp)) (ih z (by simp))
theorem B9:∀l:List Ex,cS l=true->∀y∈l,RT vs y
 |[],_,y,I=>by simp at I
 |x::r,D,y,I=>by
  simp only[cS,Ds]at D;rcases aan.1 I with e|I
  ·rw[e];exact r6 x D.1
  ·exact B9 r D.2 y I
end
end
theorem F7{op line:Int}{a b:Te}(h:(b7 op line a b).e=0):(b7 op line a b).line=0:=by
 rw[(rY h).2.2.2.2];rfl
theorem Xl(vs:List Vr):∀x:Ex,(aR vs x).e=0->(aR vs x).line=0
 | .mk op nn name field sub line,h=>by
  unfold aR at h⊢;split at h
  ·rename_i c;rw[aap c];rfl
  ·rename_i c;rw[aah c];split at h
   ·rename_i J;rw[aap J];cases D:bu vs name with
    |none=>rw[D]at h;simp[cF]at h
    |some v=>
     rw[D]at h;simp only at h⊢;split at h
     ·rename_i M;rw[aap M];split at h
      ·simp[cF]at h
      ·rename_i N;rw[aah N];cases A2:lW v.ty field with
       |none=>rw[A2]at h;simp[cF]at h
       |some p=>rfl
     ·rename_i M;rw[aah M];split at h
      ·simp[cF]at h
      ·rename_i N;rw[aah N];split at h
       ·rename_i O;rw[aap O];cases sub with
        |nil=>rfl
        |cons y r=>
         simp only[K7]at h⊢;split at h
         ·rename_i T;exact absurd h T
         ·rename_i T;rw[aah T];split at h
          ·simp[cF]at h
          ·rename_i A3;rw[aah A3];rfl
       ·rename_i O;rw[aah O];rfl
   ·rename_i J;rw[aah J];match sub,h with
    |[],_=>rfl
    |[y],h=>exact F7 h
    |y::z::_,h=>exact F7 h
theorem pF(vs:List Vr)(x:Ex)(t:Int):DS vs x t=dy vs x t:=by
 unfold DS dy;have:=Xl vs x;by_cases h:(aR vs x).e=0
 ·have H:=this h;by_cases V:(aR vs x).t=t
  ·simp[h,V,H]
  ·simp[h,V]
 ·simp[h]
end Go.Am
end
section
namespace Go.Am
open Go Go.Proofs Go.Proofs.Tryz
variable [Inhabited bA]
set_option maxRecDepth 20000
def RM(vs:List Vr)(lp:Bool)(x:Sm):Prop:=ah ctx 71 [.d (.list (vs.map bn)),.d (.agg (smL x)),.d (.bool lp)] []=some (.ret (cW (di (zH vs lp x))),[])
def oH(vs:List Vr)(lp:Bool)(l:List Sm):Prop:=ah ctx 40 [.d (.list (vs.map bn)),.d (.list (l.map cw)),.d (.bool lp)] []=some (.ret (cW (di (dW vs lp l))),[])
@[simp] def gr(e:EL):ay:=.box [.d (.int .i64 e.1),.d (.int .i64 e.2)]
theorem Js{vs:List Vr}{lp:Bool}{l:List Sm}(M:l.length<100000000)(J:∀x∈l,RM vs lp x)(k:Kt)(RF:EL->bW)
 (A:∀e u v X,k .ret ⟨27,aA,[(6,true,.ptr 400 u 0)],[⟨400,u,gr e⟩,⟨500,v,X⟩]⟩=RF e)
 (H:∀(u v:Nat)(X:ay)(b c:AV),k (.exit 0) ⟨27,aA,[(0,true,.d (.list (vs.map bn))),(1,true,.d (.list (l.map cw))),(2,true,.d (.bool lp)),(6,true,.ptr 400 u 0),(7,true,b),(12,true,c)],[⟨400,u,gr (0,0)⟩,⟨500,v,X⟩]⟩=RF (0,0)):∀(rest pre:List Sm)(u v:Nat)(X:ay),l=pre++rest->
 aI ctx 40 (.loop (Code.at (bm f40) [1,0,1,0,0])) ⟨27,aA,[(0,true,.d (.list (vs.map bn))),(1,true,.d (.list (l.map cw))),(2,true,.d (.bool lp)),(6,true,.ptr 400 u 0),(7,true,.d (.int .i64 pre.length))],[⟨400,u,gr (0,0)⟩,⟨500,v,X⟩]⟩ k=RF (di (dW vs lp rest))
 |[],pre,u,v,X,D=>by
  have T:pre.length=l.length:=by rw[D];simp
  simp only[gr]at H;rw[T,ai];simp[f40,H,dW,di]
 |x::rest,pre,u,v,X,D=>by
  have N:pre.length<l.length:=by rw[D];simp
  have O:l[pre.length]=x:=by simp[D]
  have hm:=J x (by rw[D];simp);have ih:=λu v X=>Js M J k RF A H rest (pre++[x]) u v X (by simp[D]);have U:IntKind.i64.wrap ((pre.length:Int)+1)=(pre.length:Int)+1:=aE (by unfold aG;omega);have key:dW vs lp (x::rest)=eS (zH vs lp x) (dW vs lp rest):=by rw[dW]
  rw[key];unfold RM cW at hm;generalize zH vs lp x=E at*;generalize dW vs lp rest=F at*;simp only[gr]at A;rw[ai];by_cases I:E.1=0
  ·rw[kI I];simp[di,I]at hm;simp[f40]at ih⊢;simp[N,O,b6,hm,U,ih]
  ·rw[oA I];have A:=A E;simp[di,I]at hm;simp[f40];simp[N,O,b6,hm,I,A,di]
theorem Jt{vs:List Vr}{lp:Bool}{l:List Sm}(M:l.length<100000000)(J:∀x∈l,RM vs lp x):oH vs lp l:=by
 unfold oH;have h:=λk RF A H u v X=>Js M J k RF A H l [] u v X rfl;rw[ajh (by simp)];simp[f40]at h⊢;rw[h _ (λe=>some (.ret (cW e),[]))]
 ·intro a b u v X;simp[cW]
 ·intro u v X b c;simp[cW]
theorem agY{w:Vr}(h:dB w=true):w.arr=true->0<=w.lo/\w.lo<=w.hi/\w.hi<=255:=by
 intro A4;simp only[dB,Ds,A4,adI,aam]at h;exact h.2.2.1.2
theorem Ju(l:List Vr)(A5:l.length<=1000)(J:∀v∈l,dB v=true)(D H:AV)(k:Kt)(RF:EL->bW)
 (M:∀e u v X,e.1≠0->k .ret ⟨58,aA,[(2,true,.ptr 200 u 0)],[⟨150,1,.box [D,.d (.list (l.map bn)),H]⟩,⟨200,u,gr e⟩,⟨350,v,X⟩]⟩=RF e)
 (N:∀(u v:Nat)(X:ay)(a b c:AV),k (.exit 0) ⟨58,aA,[(1,true,.ptr 150 1 0),(2,true,.ptr 200 u 0),(3,true,a),(4,true,b),(11,true,c)],[⟨150,1,.box [D,.d (.list (l.map bn)),H]⟩,⟨200,u,gr (0,0)⟩,⟨350,v,X⟩]⟩=RF (0,0)):∀(rest pre:List Vr)(n:Int)(u v:Nat)(X:ay),l=pre++rest->0<=n->n<=1024->
 aI ctx 15 (.loop (Code.at (bm f15) [1,1,0,1,0,0])) ⟨58,aA,[(1,true,.ptr 150 1 0),(2,true,.ptr 200 u 0),(3,true,.d (.int .i64 n)),(4,true,.d (.int .i64 pre.length))],[⟨150,1,.box [D,.d (.list (l.map bn)),H]⟩,⟨200,u,gr (0,0)⟩,⟨350,v,X⟩]⟩ k=RF (FT rest pre n)
 |[],pre,n,u,v,X,A,A6,A7=>by
  have A8:pre.length=l.length:=by rw[A];simp
  simp only[gr]at N;rw[A8,ai];simp[f15,N,FT]
 |x::rest,pre,n,u,v,X,A,A6,A7=>by
  have O:pre.length<l.length:=by rw[A];simp
  have T:l[pre.length]=x:=by simp[A]
  have U:List.take pre.length (List.map bn l)=List.map bn pre:=by simp[A]
  have Y:pre.length<=l.length:=by omega
  have q:=J x (by rw[A];simp);have AB:=Ba q;have Z:=Xk (agY q);have I:=ml (vs:=pre) (by omega) x.name;have ih:=λu v X=>Ju l A5 J D H k RF M N rest (pre++[x]) (n+b5 x) u v X (by simp[A]);have A9:IntKind.i64.wrap ((pre.length:Int)+1)=(pre.length:Int)+1:=aE (by unfold aG;omega);have y:IntKind.i64.wrap (n+b5 x)=n+b5 x:=aE (by unfold aG;omega);have A':=λu v X=>M (11,x.line) u v X (by simp);have A0:=λu v X=>M (13,x.line) u v X (by simp);simp only[gr]at A' A0;simp[dk]at Z;generalize AC:fV pre x.name=W at*;simp[bn,dk]at I;rw[ai];unfold FT;cases A1:(bu pre x.name).isSome with
  |true=>
   rw[A1]at I;simp[f15];simp[O,T,U,Y,bn,dk,I,A',aj]
  |false=>
   rw[A1]at I;by_cases Cm:1024<n+b5 x
   ·simp[f15];simp[O,T,U,Y,bn,dk,I,Z,y,Cm,A0,aj]
   ·have ih:=λu v X=>ih u v X (by omega) (by omega);simp[f15]at ih⊢;simp[O,T,U,Y,bn,dk,I,Z,A9,y,Cm,ih,aj]
theorem Xm{p:Pg}(J:mG p=true)(A2:oH p.vars false p.body):ah ctx 15 [.d (.agg [.str p.name,.list (p.vars.map bn),.list (p.body.map cw)])] []=some (.ret (cW (di (lY p))),[]):=by
 simp only[mG,Ds,aam,aaH]at J;obtain⟨_,AD,AA,AE⟩:=J;unfold oH at A2;unfold lY;generalize AF:dW p.vars false p.body=E at*;have h:=λD H k RF M N u v X=>Ju p.vars (by omega) AA D H k RF M N p.vars [] 0 u v X rfl (by omega) (by omega);generalize AG:FT p.vars [] 0=V at*;rw[ai7 (by simp)];simp[f15]at h⊢;rw[h _ _ _ (λe=>some (.ret (cW (di (eS e E))),[]))]
 ·intro a b u v X A3;rw[oA A3];simp[cW,di,A3]
 ·intro u v X a b c;rw[kI rfl];simp[A2,cW]
@[reducible] noncomputable def Bk(p:List Nat):Code:=Code.at (bm f111) p
theorem Jv{x:Sm}{f:Tx}{pre AF:List Tx}(A2:dp x=pre++f::AF)(V:(dp x).length<100000000){a0:AV}{u v5 v6:Nat}{W X5 X6:ay}(k:Kt)(R1 R2:bW)
 (H:k .ret ⟨91,aA,[(4,true,.ptr 300 u 0)],[⟨250,1,bg x⟩,⟨300,u,gr (11,kR x)⟩,⟨350,1,W⟩,⟨500,v5,X5⟩,⟨650,v6,X6⟩]⟩=R1)
 (A:∀b c,k (.exit 2) ⟨91,aA,[(0,true,a0),(3,true,.ptr 250 1 0),(4,true,.ptr 300 u 0),(5,true,.ptr 350 1 0),(7,true,.d (.int .i64 pre.length)),(8,true,.ptr 500 v5 0),(10,true,b),(60,true,c)],[⟨250,1,bg x⟩,⟨300,u,gr (0,0)⟩,⟨350,1,W⟩,⟨500,v5,X5⟩,⟨650,v6,X6⟩]⟩=R2):∀(rest I:List Tx),pre=I++rest->
 aI ctx 111 (.loop (Bk [1,1,1,1,0,1,0,0,1,0,0,1,1,0,1,0,0])) ⟨91,aA,[(0,true,a0),(3,true,.ptr 250 1 0),(4,true,.ptr 300 u 0),(5,true,.ptr 350 1 0),(7,true,.d (.int .i64 pre.length)),(8,true,.ptr 500 v5 0),(10,true,.d (.int .i64 I.length))],[⟨250,1,bg x⟩,⟨300,u,gr (0,0)⟩,⟨350,1,W⟩,⟨500,v5,X5⟩,⟨650,v6,X6⟩]⟩ k=if f∈rest then R1 else R2
 |[],I,D=>by
  have A6:I.length=pre.length:=by rw[D];simp
  simp only[gr,bg]at A;rw[A6,ai];simp[Bk,f111,A]
 |c::rest,I,D=>by
  have M:I.length<pre.length:=by rw[D];simp
  have N:pre.length<(dp x).length:=by rw[A2];simp
  have A':I.length<(dp x).length:=by omega
  have A0:(dp x)[pre.length]=f:=by simp[A2]
  have AA:(dp x)[I.length]=c:=by simp[A2,D]
  have ih:=Jv A2 V k R1 R2 H A rest (I++[c]) (by simp[D]);have A7:IntKind.i64.wrap ((I.length:Int)+1)=(I.length:Int)+1:=aE (by unfold aG;omega);simp only[gr,bg]at H;rw[ai];by_cases O:c=f
  ·have AB:f=c:=O.symm;simp[Bk,f111];simp[M,N,A',A0,AA,O,H,aj]
  ·have AB:¬f=c:=λh=>O h.symm;simp[Bk,f111]at ih⊢;simp[M,N,A',A0,AA,O,AB,A7,ih,aj]
theorem Jw{vs:List Vr}{x:Sm}{w:Vr}(V:(dp x).length<100000000)(hle:(bV x).length=(dp x).length)(A3:∀y∈bV x,RT vs y)(k:Kt)(RF:EL->bW)
 (H:∀e u v5 v6 X5 X6,k .ret ⟨91,aA,[(4,true,.ptr 300 u 0)],[⟨250,1,bg x⟩,⟨300,u,gr e⟩,⟨350,1,iB w⟩,⟨500,v5,X5⟩,⟨650,v6,X6⟩]⟩=RF e)
 (A:∀u v5 v6 X5 X6 b c,k (.exit 0) ⟨91,aA,[(0,true,.d (.list (vs.map bn))),(3,true,.ptr 250 1 0),(4,true,.ptr 300 u 0),(5,true,.ptr 350 1 0),(7,true,b),(34,true,c)],[⟨250,1,bg x⟩,⟨300,u,gr (0,0)⟩,⟨350,1,iB w⟩,⟨500,v5,X5⟩,⟨650,v6,X6⟩]⟩=RF (0,0)):∀(rest pre:List Tx)(J Y:List Ex)(u v5 v6:Nat)(X5 X6:ay),dp x=pre++rest->bV x=Y++J->Y.length=pre.length->
 aI ctx 111 (.loop (Bk [1,1,1,1,0,1,0,0])) ⟨91,aA,[(0,true,.d (.list (vs.map bn))),(3,true,.ptr 250 1 0),(4,true,.ptr 300 u 0),(5,true,.ptr 350 1 0),(7,true,.d (.int .i64 pre.length))],[⟨250,1,bg x⟩,⟨300,u,gr (0,0)⟩,⟨350,1,iB w⟩,⟨500,v5,X5⟩,⟨650,v6,X6⟩]⟩ k=RF (di (jt vs w.ty (kR x) rest J pre))
 |[],pre,J,Y,u,v5,v6,X5,X6,D,Z,A4=>by
  have A6:pre.length=(dp x).length:=by rw[D];simp
  have AG:jt vs w.ty (kR x) [] J pre=(0,0):=by unfold jt;rfl
  simp only[gr,bg,iB]at A;rw[AG,A6,ai];simp[Bk,f111,A,di]
 |f::rest,pre,[],Y,u,v5,v6,X5,X6,D,Z,A4=>by
  rw[D,Z]at hle;simp at hle;omega
 |f::rest,pre,y::J,Y,u,v5,v6,X5,X6,D,Z,A4=>by
  have M:pre.length<(dp x).length:=by rw[D];simp
  have N:(dp x)[pre.length]=f:=by simp[D]
  have A':pre.length<(bV x).length:=by omega
  have A0:(bV x)[pre.length]=y:=by simp[<-A4,Z]
  have AH:=A3 y (by rw[Z];simp);have U:=U3 w.ty f;have ih:=λu v5 v6 X5 X6=>Jw V hle A3 k RF H A rest (pre++[f]) J (Y++[y]) u v5 v6 X5 X6 (by simp[D]) (by simp[Z]) (by simp[A4]);have AC:=λa0 u v5 v6 W X5 X6 k R1 R2 H A=>Jv (a0:=a0) (u:=u) (v5:=v5) (v6:=v6) (W:=W) (X5:=X5) (X6:=X6) D V k R1 R2 H A pre [] rfl;have A7:IntKind.i64.wrap ((pre.length:Int)+1)=(pre.length:Int)+1:=aE (by unfold aG;omega);have key:jt vs w.ty (kR x) (f::rest) (y::J) pre=(match lW w.ty f with
   |none=>(9,kR x)
   |some q=>if q.Iy=false then (9,kR x)else if f∈pre then (11,kR x)else eS (dy vs y q.ty) (jt vs w.ty (kR x) rest J (pre++[f]))):=by
   conv=>lhs;unfold jt
   rfl
  have A8:=H (9,kR x);have AD:=H (11,kR x);have A9:=H (dy vs y (fP w.ty f).ty);have hw:=pE (fP w.ty f).ty AH;rw[pF]at hw;unfold cW at hw;simp only[gr,bg,iB]at A8 AD A9;rw[key];clear key;rw[ai];cases O:lW w.ty f with
  |none=>
   simp[O,fP,cE,tZ]at U;simp[Bk,f111];simp[M,N,U,A8,di,aj]
  |some q=>
   simp only[fP,O,acV]at hw A9;simp[O,fP,cE]at U;simp only
   generalize jt vs w.ty (kR x) rest J (pre++[f])=E at*;generalize dy vs y q.ty=T at*;by_cases hi:q.Iy=false
   ·simp[hi]at U;simp[Bk,f111];simp[M,N,U,A8,di,hi,aj]
   ·have hi:q.Iy=true:=by simpa using hi
    simp[hi]at U;simp[Bk,f111]at AC ih⊢;simp[M,N,U,hi,aj];rw[AC (R1:=RF (11,kR x)) (R2:=RF (di (eS T E)))]
    ·by_cases hm:f∈pre
     ·simp[hm,di]
     ·simp[hm]
    ·simp[AD]
    ·intro b c;by_cases A5:T.1=0
     ·rw[kI A5];simp[M,N,A',A0,aZ,hw,A5,A7,ih,aj]
     ·rw[oA A5];simp[M,N,A',A0,aZ,hw,A5,A9,di,aj]
theorem abz{vs:List Vr}(AI:vs.length<1000000){x:Sm}(V:(dp x).length<100000000)(hle:(bV x).length=(dp x).length)(A3:∀y∈bV x,RT vs y):ah ctx 111 [.d (.list (vs.map bn)),.d (.agg (smL x))] []=some (.ret (cW (di (Uk vs x))),[]):=by
 have A1:=ml AI (gG x);rw[ad7 (by simp)];unfold Uk;cases AE:bu vs (gG x)with
 |none=>
  simp[AE,fV,bn,dk,rk]at A1;simp[f111,A1,cW,di]
 |some v=>
  have h:=λk RF H A u v5 v6 X5 X6=>Jw (w:=v) V hle A3 k RF H A (dp x) [] (bV x) [] u v5 v6 X5 X6 rfl rfl rfl;simp[AE,fV,bn,dk]at A1;by_cases A:v.ty<=2
  ·simp[f111,A1,cW,di,A]
  ·generalize AJ:jt vs v.ty (kR x) (dp x) (bV x) []=E at*;simp[Bk,f111]at h;simp[f111,A1,A];rw[h _ (λe=>some (.ret (cW e),[]))]
   ·rw[AJ]
   ·intro a b u v5 v6 X5 X6;simp[cW]
   ·intro u v5 v6 X5 X6 b c;simp[cW]
section
variable {vs:List Vr} {lp:Bool} {x:Sm}
theorem aj7(h:a6 x=7):RM vs lp x:=by
 unfold RM;rw[rP,mf (by simp)];cases lp with
 |true=>simp[f71,h,cW,di]
 |false=>simp[f71,h,cW,di]
theorem aj8(h:a6 x=8):RM vs lp x:=by
 unfold RM;rw[rP,mf (by simp)];simp[f71,h,cW,di]
theorem aj9(M:vs.length<1000000)(h:a6 x=9)(N:(dp x).length<100000000)(hle:(bV x).length=(dp x).length)(O:∀y∈bV x,RT vs y):RM vs lp x:=by
 have J:=abz M N hle O;unfold RM;rw[rP,mf (by simp)];generalize Uk vs x=E at*;simp[h,cW]at J;simp[f71,h,cW,J]
theorem aka(h:a6 x=5){b:List Sm}(H:aO x=[b])(I:RT vs (dn x))(D:oH vs true b):RM vs lp x:=by
 have hw:=pE 2 I;rw[pF]at hw;unfold oH at D;unfold RM;rw[rP,mf (by simp)];have e:s8 vs (aO x)=dW vs true b:=by rw[H];rfl
 rw[e];generalize dy vs (dn x) 2=T at*;generalize dW vs true b=E at*;simp[cW]at hw D;by_cases A:T.1=0
 ·simp[f71,h,H,nL,cW,hw,D,kI A,A]
 ·simp[f71,h,H,cW,hw,oA A,A,di]
theorem akb(h:a6 x=6){b:List Sm}(H:aO x=[b])(I:RT vs (dn x))(D:oH vs true b):RM vs lp x:=by
 have hw:=pE 2 I;rw[pF]at hw;unfold oH at D;unfold RM;rw[rP,mf (by simp)];have e:s8 vs (aO x)=dW vs true b:=by rw[H];rfl
 have U:(dy vs (dn x) 2).1=0->dy vs (dn x) 2=(0,0):=by
  unfold dy;split
  ·intro hh;rename_i c;exact absurd hh c
  ·split
   ·intro hh;simp at hh
   ·intro _;rfl
 rw[e];generalize dy vs (dn x) 2=T at*;generalize dW vs true b=E at*;have V:di T=T:=by
  unfold di;by_cases A:T.1=0
  ·rw[aap A,U A]
  ·rw[aah A]
 simp[cW]at hw D;by_cases A:E.1=0
 ·simp[di,A]at D;simp[f71,h,H,nL,cW,hw,D,kI A,V]
 ·simp[di,A]at D;simp[f71,h,H,nL,cW,D,oA A,A,di]
end
section
variable {vs:List Vr} {lp:Bool} {x:Sm}
theorem akc(Y:vs.length<1000000)(h:a6 x=1)(D:RT vs (fB x))(H:RT vs (dn x)):RM vs lp x:=by
 have A:=ml Y (ec (fB x));unfold RT at D H;unfold RM;rw[rP,mf (by simp),aap h];unfold asE;generalize aR vs (fB x)=T at*;generalize aR vs (dn x)=M at*;simp[dM]at D H;cases U:bu vs (ec (fB x))with
 |none=>
  simp[U,fV,bn,dk,rk]at A;simp[f71,h,A,cW,di]
 |some w=>
  simp[U,fV,bn,dk]at A;by_cases I:w.sec=1
  ·simp[f71,h,A,I,cW,di]
  ·by_cases E:T.e=0
   ·have N:(FR T).1=0:=E;by_cases J:M.e=0
    ·have O:(FR M).1=0:=J;by_cases V:M.t=T.t
     ·simp[f71,h,A,I,D,E,H,J,V,kI N,kI O,cW,di]
     ·simp[f71,h,A,I,D,E,H,J,V,kI N,kI O,cW,di]
    ·have O:¬(FR M).1=0:=J;simp[f71,h,A,I,D,E,H,J,eS,cW,di,FR]
   ·have N:¬(FR T).1=0:=E;simp[f71,h,A,I,D,E,eS,cW,di,FR]
end
@[reducible] noncomputable def oZ(p:List Nat):Code:=Code.at (bm f71) p
@[simp] def mK(x:Sm)(e:EL)(M N w85 D AB:Nat)(O U Y85 H AC AD:ay)(AE:Nat):List cg:=[⟨300,1,bg x⟩,⟨400,1,gr e⟩,⟨450,0,.dead⟩,⟨600,0,.dead⟩,⟨750,M,O⟩,⟨800,N,U⟩,⟨850,w85,Y85⟩,⟨950,D,H⟩,⟨1000,AE,AD⟩,⟨1150,AB,AC⟩,⟨1200,0,.dead⟩,⟨1250,0,.dead⟩]
section
variable {vs:List Vr} {lp:Bool} {x:Sm}
theorem Jx{w85:Nat}{Y85:ay}(A2:(aO x).length<100000000)(A':∀b∈aO x,oH vs lp b)(k:Kt)(RF:EL->bW)
 (Y:∀e D H,k .ret ⟨242,aA,[(6,true,.ptr 400 1 0)],mK x e 0 0 w85 D 0 .dead .dead Y85 H .dead .dead 0⟩=RF e)
 (V:∀D H b c,k (.exit 3) ⟨242,aA,[(0,true,.d (.list (vs.map bn))),(2,true,.d (.bool lp)),(4,true,.ptr 300 1 0),(6,true,.ptr 400 1 0),(16,true,b),(128,true,c)],mK x (0,0) 0 0 w85 D 0 .dead .dead Y85 H .dead .dead 0⟩=RF (0,0)):∀(rest pre:List (List Sm))(D:Nat)(H:ay),aO x=pre++rest->
 aI ctx 71 (.loop (oZ [1,0,1,0,1,1,1,1,1,0,1,1,0,0])) ⟨242,aA,[(0,true,.d (.list (vs.map bn))),(2,true,.d (.bool lp)),(4,true,.ptr 300 1 0),(6,true,.ptr 400 1 0),(16,true,.d (.int .i64 pre.length))],mK x (0,0) 0 0 w85 D 0 .dead .dead Y85 H .dead .dead 0⟩ k=RF (di (fJ vs lp [] rest))
 |[],pre,D,H,J=>by
  have A5:pre.length=(aO x).length:=by rw[J];simp
  have A6:fJ vs lp [] []=(0,0):=by unfold fJ;rfl
  simp only[mK,gr,bg]at V;rw[A6,A5,ai];simp[oZ,f71,V,di]
 |b::rest,pre,D,H,J=>by
  have Z:pre.length<(aO x).length:=by rw[J];simp
  have q:(aO x)[pre.length]=b:=by simp[J]
  have I:=A' b (by rw[J];simp);have ih:=λD H=>Jx A2 A' k RF Y V rest (pre++[b]) D H (by simp[J]);have A4:IntKind.i64.wrap ((pre.length:Int)+1)=(pre.length:Int)+1:=aE (by unfold aG;omega);have key:fJ vs lp [] (b::rest)=eS (dW vs lp b) (fJ vs lp [] rest):=by
   conv=>lhs;unfold fJ
  rw[key];clear key;unfold oH cW at I;generalize dW vs lp b=E at*;generalize fJ vs lp [] rest=F at*;have A1:=Y E;simp only[mK,gr,bg]at A1;rw[ai];by_cases A:E.1=0
  ·rw[kI A];simp[di,A]at I;simp[oZ,f71]at ih⊢;simp[Z,q,nL,I,A4,ih]
  ·rw[oA A];simp[di,A]at I;simp[oZ,f71];simp[Z,q,nL,I,A,A1,di]
theorem akd(h:a6 x=3)(A2:(aO x).length<100000000)(AF:RT vs (dn x))(A':∀b∈aO x,oH vs lp b):RM vs lp x:=by
 have hw:=pE 1 AF;rw[pF]at hw;have A7:=λw85 Y85 k RF Y V D H=>Jx (w85:=w85) (Y85:=Y85) A2 A' k RF Y V (aO x) [] D H rfl;unfold RM;rw[rP,mf (by simp)];generalize dy vs (dn x) 1=T at*;simp[cW]at hw;by_cases A:T.1=0
 ·rw[aah (by omega),aah (by omega),aap h,kI A];generalize fJ vs lp [] (aO x)=E at*;simp[oZ,f71,h]at A7;simp[f71,h,hw,A];rw[A7 _ _ _ (λe=>some (.ret (cW e),[]))]
  ·intro a b D H;simp[cW]
  ·intro D H b c;simp[cW]
 ·simp[f71,h,hw,A,oA A,di,cW]
theorem Jy(A2:(aO x).length<100000000)(AG:(bV x).length<100000000)(A8:∀y∈bV x,RT vs y)(A':∀b∈aO x,oH vs lp b)(k:Kt)(RF:EL->bW)
 (Y:∀e M O N U,k .ret ⟨242,aA,[(6,true,.ptr 400 1 0)],mK x e M N 0 0 0 O U .dead .dead .dead .dead 0⟩=RF e)
 (V:∀M O N U b c,k (.exit 1) ⟨242,aA,[(0,true,.d (.list (vs.map bn))),(2,true,.d (.bool lp)),(4,true,.ptr 300 1 0),(6,true,.ptr 400 1 0),(12,true,b),(83,true,c)],mK x (0,0) M N 0 0 0 O U .dead .dead .dead .dead 0⟩=RF (0,0)):∀(rest pre:List (List Sm))(M:Nat)(O:ay)(N:Nat)(U:ay),aO x=pre++rest->
 aI ctx 71 (.loop (oZ [1,0,1,0,1,1,1,0,1,0,0])) ⟨242,aA,[(0,true,.d (.list (vs.map bn))),(2,true,.d (.bool lp)),(4,true,.ptr 300 1 0),(6,true,.ptr 400 1 0),(12,true,.d (.int .i64 pre.length))],mK x (0,0) M N 0 0 0 O U .dead .dead .dead .dead 0⟩ k=RF (di (fJ vs lp ((bV x).drop pre.length) rest))
 |[],pre,M,O,N,U,J=>by
  have A5:pre.length=(aO x).length:=by rw[J];simp
  have A6:∀cs,fJ vs lp cs []=(0,0):=by intro cs;unfold fJ;rfl
  simp only[mK,gr,bg]at V;rw[A6,A5,ai];simp[oZ,f71,V,di]
 |b::rest,pre,M,O,N,U,J=>by
  have Z:pre.length<(aO x).length:=by rw[J];simp
  have q:(aO x)[pre.length]=b:=by simp[J]
  have I:=A' b (by rw[J];simp);have ih:=λM O N U=>Jy A2 AG A8 A' k RF Y V rest (pre++[b]) M O N U (by simp[J]);have A4:IntKind.i64.wrap ((pre.length:Int)+1)=(pre.length:Int)+1:=aE (by unfold aG;omega);unfold oH cW at I;have A1:=Y (dW vs lp b);simp only[mK,gr,bg]at A1;rw[ai];by_cases A0:pre.length<(bV x).length
  ·have AH:=A8 _ (acN A0);have hw:=pE 2 AH;rw[pF]at hw;have key:fJ vs lp ((bV x).drop pre.length) (b::rest)=eS (dy vs (bV x)[pre.length] 2) (eS (dW vs lp b) (fJ vs lp ((bV x).drop (pre.length+1)) rest)):=by
    rw[ado A0];conv=>lhs;unfold fJ
   rw[key];clear key;have A9:=Y (dy vs (bV x)[pre.length] 2);simp only[mK,gr,bg]at A9;simp only[ab0,ab1,ae8,ac3]at ih;generalize dW vs lp b=E at*;generalize fJ vs lp ((bV x).drop (pre.length+1)) rest=F at*;generalize dy vs (bV x)[pre.length] 2=T at*;unfold cW at hw;by_cases A3:T.1=0
   ·rw[kI A3];by_cases A:E.1=0
    ·rw[kI A];simp[di,A]at I;simp[oZ,f71]at ih⊢;simp[Z,q,A0,aZ,nL,hw,A3,I,A4,ih]
    ·rw[oA A];simp[di,A]at I;simp[oZ,f71];simp[Z,q,A0,aZ,nL,hw,A3,I,A,A1,di]
   ·rw[oA A3];simp[oZ,f71];simp[Z,q,A0,aZ,hw,A3,A9,di]
  ·have AA:∀n,pre.length<=n->(bV x).drop n=[]:=λn AI=>List.drop_eq_nil_of_le (by omega);have key:fJ vs lp ((bV x).drop pre.length) (b::rest)=eS (dW vs lp b) (fJ vs lp [] rest):=by
    rw[AA _ (aai _)];conv=>lhs;unfold fJ
   rw[key];clear key;simp only[ab0,ab1,ae8,ac3,AA (pre.length+1) (by omega)]at ih;generalize dW vs lp b=E at*;generalize fJ vs lp [] rest=F at*;by_cases A:E.1=0
   ·rw[kI A];simp[di,A]at I;simp[oZ,f71]at ih⊢;simp[Z,q,A0,nL,I,A4,ih]
   ·rw[oA A];simp[di,A]at I;simp[oZ,f71];simp[Z,q,A0,nL,I,A,A1,di]
end
section
variable {vs:List Vr} {lp:Bool} {x:Sm}
theorem ake(h:a6 x=2)(A7:(aO x).length<100000000)(O:(bV x).length<100000000)(N:∀y∈bV x,RT vs y)(A8:∀b∈aO x,oH vs lp b):RM vs lp x:=by
 have U:=λk RF D A A0 A1 A2 A3=>Jy A7 O N A8 k RF D A (aO x) [] A0 A1 A2 A3 rfl;unfold RM;rw[rP,mf (by simp)];rw[aah (by omega),aap h];simp only[ae8,List.drop_zero]at U;generalize fJ vs lp (bV x) (aO x)=E at*;simp[oZ,f71,h]at U;simp[f71,h];rw[U _ (λe=>some (.ret (cW e),[]))]
 ·intro a b A0 A1 A2 A3;simp[cW]
 ·intro A0 A1 A2 A3 b c;simp[cW]
theorem Jz{W:ay}(O:(bV x).length<100000000)(N:∀y∈bV x,RT vs y)(k:Kt)(RF:EL->bW)
 (D:∀(e:EL) H I,¬e.1=0->k .ret ⟨242,aA,[(6,true,.ptr 400 1 0)],mK x e 0 0 0 0 H .dead .dead .dead .dead I W 1⟩=RF e)
 (A:∀H I b c,k (.exit 5) ⟨242,aA,[(0,true,.d (.list (vs.map bn))),(4,true,.ptr 300 1 0),(6,true,.ptr 400 1 0),(20,true,b),(177,true,c)],mK x (0,0) 0 0 0 0 H .dead .dead .dead .dead I W 1⟩=RF (0,0)):∀(rest pre:List Ex)(H:Nat)(I:ay),bV x=pre++rest->
 aI ctx 71 (.loop (oZ [1,0,1,0,1,1,1,1,1,1,1,0,1,1,1,1,0,1,0,0])) ⟨242,aA,[(0,true,.d (.list (vs.map bn))),(4,true,.ptr 300 1 0),(6,true,.ptr 400 1 0),(20,true,.d (.int .i64 pre.length))],mK x (0,0) 0 0 0 0 H .dead .dead .dead .dead I W 1⟩ k=RF (di (lX vs 1 rest))
 |[],pre,H,I,V=>by
  have A9:pre.length=(bV x).length:=by rw[V];simp
  simp only[mK,gr,bg]at A;rw[A9,ai];simp[oZ,f71,A,di,lX]
 |y::rest,pre,H,I,V=>by
  have A4:pre.length<(bV x).length:=by rw[V];simp
  have A5:(bV x)[pre.length]=y:=by simp[V]
  have hw:=pE 1 (N y (by rw[V];simp));rw[pF]at hw;have ih:=λH I=>Jz O N k RF D A rest (pre++[y]) H I (by simp[V]);have AA:IntKind.i64.wrap ((pre.length:Int)+1)=(pre.length:Int)+1:=aE (by unfold aG;omega);have key:lX vs 1 (y::rest)=eS (dy vs y 1) (lX vs 1 rest):=rfl;rw[key];clear key;unfold cW at hw;generalize dy vs y 1=E at*;generalize lX vs 1 rest=F at*;rw[ai];by_cases M:E.1=0
  ·rw[kI M];simp[oZ,f71]at ih⊢;simp[A4,A5,aZ,hw,M,AA,ih]
  ·rw[oA M];have A6:=λw Y=>D E w Y M;simp only[mK,gr,bg]at A6;simp[oZ,f71];simp[A4,A5,aZ,hw,M,A6,di]
set_option maxHeartbeats 1000000 in
theorem agZ(h:a6 x=4)(O:(bV x).length<100000000)(N:∀y∈bV x,RT vs y){b:List Sm}(Z:aO x=[b])(q:oH vs true b){w:Vr}(T:bu vs (gG x)=some w)(J:ah ctx 38 [.d (.list (vs.map bn)),.d (.str (gG x))] []=some (.ret (.bM [.d (bn (fV vs (gG x))),.d (.bool (bu vs (gG x)).isSome)]),[]))(D:¬w.sec=1)(A:w.arr=false)(A':w.ty=1):
 ah ctx 71 [.d (.list (vs.map bn)),.d (.agg (smL x)),.d (.bool lp)] []=some (.ret (cW (di (eS (lX vs 1 (bV x)) (dW vs true b)))),[]):=by
 have U:=λW k RF D A H I=>Jz (W:=W) O N k RF D A (bV x) [] H I rfl;unfold oH at q;rw[mf (by simp)];generalize dW vs true b=F at*;generalize lX vs 1 (bV x)=E at*;simp[T,fV,bn,dk]at J;simp[oZ,f71,h,Z]at U;simp[cW]at q;simp[f71,h,J,D,A,A',Z];rw[U _ _ (λe=>some (.ret (cW (di (eS e F))),[]))]
 ·by_cases M:E.1=0
  ·simp[di,M,eS]
  ·simp[di,M,eS]
 ·intro AC AD H I M;simp[cW,eS,M,di]
 ·intro H I c d;simp[nL,q,cW,eS]
theorem akf(AB:vs.length<1000000)(h:a6 x=4)(O:(bV x).length<100000000)(N:∀y∈bV x,RT vs y){b:List Sm}(Z:aO x=[b])(q:oH vs true b):RM vs lp x:=by
 have J:=ml AB (gG x);unfold RM;rw[rP];rw[aah (by omega),aah (by omega),aah (by omega),aap h];have e:s8 vs (aO x)=dW vs true b:=by rw[Z];rfl
 unfold coE;rw[e];cases T:bu vs (gG x)with
 |none=>
  rw[mf (by simp)];simp[T,fV,bn,dk,rk]at J;simp[f71,h,J,cW,di]
 |some w=>
  by_cases D:w.sec=1
  ·rw[mf (by simp)];simp[T,fV,bn,dk]at J;simp[f71,h,J,D,cW,di]
  ·by_cases A:w.arr=true
   ·rw[mf (by simp)];simp[T,fV,bn,dk]at J;simp[f71,h,J,D,A,cW,di]
   ·have A:w.arr=false:=by simpa using A
    by_cases A':w.ty=1
    ·rw[agZ h O N Z q T J D A A'];simp only[aah D,A,A'];simp
    ·rw[mf (by simp)];simp[T,fV,bn,dk]at J;simp[f71,h,J,D,A,A',cW,di]
end
end Go.Am
end
section
namespace Go.Am
open Go Go.Proofs
variable [Inhabited bA]
set_option maxRecDepth 20000
theorem ER{α:Type}{l:List α}(h:l.length=1):∃a,l=[a]:=by
 match l,h with
 |[a],_=>exact⟨a,rfl⟩
section
variable {vs:List Vr} (H:vs.length<1000000)
include H
theorem abA{lp:Bool}{x:Sm}(D:nu x=true)(A2:(aO x).length<100000000)(A3:(bV x).length<100000000)(A6:(dp x).length<100000000)(T:∀b∈aO x,∀q,oH vs q b):RM vs lp x:=by
 have A7:∃op name to val U V fields M line,x=.mk op name to val U V fields M line:=by
  obtain⟨op,name,to,val,U,V,fields,M,line⟩:=x;exact⟨op,name,to,val,U,V,fields,M,line,rfl⟩
 have facts:(1<=a6 x/\a6 x<=9)/\(a6 x=1->dJ (fB x)=true)/\((a6 x=1\/a6 x=3\/a6 x=5\/a6 x=6)->dJ (dn x)=true)/\cS (bV x)=true/\gO (a6 x) (bV x).length (cx x).length (dp x).length (aO x).length=true:=by
  obtain⟨op,name,to,val,U,V,fields,M,line,rfl⟩:=A7;simp only[nu,Ds,aam]at D;obtain⟨A4,AA,Y,N,Z,E,AB,AC,AD⟩:=D;refine⟨A4,λI=>?_,λI=>?_,Z,E⟩
  ·simp only[Tk]at I;rw[aap I]at Y;simp only[Ds]at Y;exact Y.2
  ·simp only[Tk]at I;rw[aap I]at N;simp only[Ds]at N;exact N.2
 obtain⟨A4,Y,N,Z,E⟩:=facts;have A':=B9 H (bV x) Z;have A8:a6 x=1\/a6 x=2\/a6 x=3\/a6 x=4\/a6 x=5\/a6 x=6\/a6 x=7\/a6 x=8\/a6 x=9:=by omega
 rcases A8 with h|h|h|h|h|h|h|h|h
 ·exact akc H h (r6 H _ (Y h)) (r6 H _ (N (.inl h)))
 ·exact ake h A2 A3 A' (λb A=>T b A lp)
 ·exact akd h A2 (r6 H _ (N (.inr (.inl h)))) (λb A=>T b A lp)
 ·rw[h]at E;simp[gO]at E;obtain⟨b,A⟩:=ER E.2.2.2;exact akf H h A3 A' A (T b (by rw[A];simp) true)
 ·rw[h]at E;simp[gO]at E;obtain⟨b,A⟩:=ER E.2.2.2;exact aka h A (r6 H _ (N (.inr (.inr (.inl h))))) (T b (by rw[A];simp) true)
 ·rw[h]at E;simp[gO]at E;obtain⟨b,A⟩:=ER E.2.2.2;exact akb h A (r6 H _ (N (.inr (.inr (.inr h))))) (T b (by rw[A];simp) true)
 ·exact aj7 h
 ·exact aj8 h
 ·rw[h]at E;simp[gO]at E;exact aj9 H h A6 E.1 A'
mutual
theorem ag0:∀(x:Sm),nu x=true->Ns x<100000000->∀lp,RM vs lp x
 | .mk op name to val U V fields M line,D,O,lp=>by
  have A9:dL M=true:=by
   simp only[nu,Ds]at D;exact D.2.2.2.2.2.2.2.2
  have AE:=IN M;simp only[Ns]at O;exact abA H D (by simp only[adx];omega) (by simp only[adv];omega) (by simp only[adw];omega) (λb A q=>Oe M A9 (by omega) b A q)
theorem ES:∀(l:List Sm),ej l=true->qQ l<100000000->∀x∈l,∀lp,RM vs lp x
 |[],_,_,x,J,_=>by simp at J
 |y::r,D,O,x,J,lp=>by
  simp only[ej,Ds]at D;simp only[qQ]at O;have I:=ag0 y D.1 (by omega);have A0:=ES r D.2 (by omega);rcases aan.1 J with h|J
  ·rw[h];exact I lp
  ·exact A0 x J lp
theorem Oe:∀(A1:List (List Sm)),dL A1=true->uR A1<100000000->∀b∈A1,∀q,oH vs q b
 |[],_,_,b,A,_=>by simp at A
 |c::r,D,O,b,A,q=>by
  simp only[dL,Ds]at D;simp only[uR]at O;have AF:=BY c;have I:=ES c D.1 (by omega);have A0:=Oe r D.2 (by omega);rcases aan.1 A with h|A
  ·rw[h];exact Jt (by omega) (λx J=>I x J q)
  ·exact A0 b A q
end
end
theorem U5{p:Pg}(D:mG p=true)(O:qQ p.body<100000000):ah ctx 15 [.d (.agg [.str p.name,.list (p.vars.map bn),.list (p.body.map cw)])] []=some (.ret (cW (di (lY p))),[]):=by
 have A5:=D;simp only[mG,Ds,aam,aaH]at A5;obtain⟨_,AG,AH,A⟩:=A5;have AI:=BY p.body;exact Xm D (Jt (by omega) (λx J=>ES (by omega) p.body A O x J false))
@[simp] def iD(l:List Nat):List D:=l.map λ(n:Nat)=>D.int .i64 (n:Int)
section
variable (ins:List aU) (vars cells:Int) (A E:Nat) (S T:List D)
end
@[simp] def axk(ins:List aU)(vars cells:Int):D:=.agg [.list (ins.map qR),.int .i64 vars,.int .i64 cells]
theorem abB(x y:aU):x=y↔x.op=y.op/\x.a=y.a/\x.b=y.b/\x.n=y.n/\x.m=y.m:=by
 constructor
 ·rintro rfl;simp
 ·intro h;cases x;cases y;simp_all
instance:DecidableEq aU:=λx y=>decidable_of_iff _ (abB x y).symm
theorem akg(e:EL):(di e).1=0↔e.1=0:=by
 unfold di;split<;>simp[*]
end Go.Am
end
section
namespace Go.Am
open Go Go.Proofs
variable [Inhabited bA]
structure alL(x:aU)(s t:Ms):Prop where
 len:t.cells.length=s.cells.length
 cI:∀n∈t.cells,aG n
 sI:∀n∈t.s6,aG n
 h64:t.s6.length<=64
 fuel:t.fuel=s.fuel\/(x.op=11/\t.fuel+1=s.fuel/\s.fuel≠0)
 at_:t.at_=s.at_+1\/((x.op=9\/x.op=10)/\t.at_=x.a)
 ok:t.fault=0->t.s6.length=Cm x s.s6.length/\(x.op=9->t.at_=x.a)/\(x.op=11->t.fuel+1=s.fuel)
end Go.Am
end
section
namespace Go.Am
open Go Go.Proofs
variable [Inhabited bA]
set_option maxRecDepth 20000
@[simp] def rM(ins:List aU)(vars cells:Int)(s:Ms)(G:List Int)(v:Nat)(c:ay):Mem:=
 [⟨250,1,.box [.d (.list (ins.map qR)),.d (.int .i64 vars),.d (.int .i64 cells)]⟩,⟨400,1,.box [.lit (.slice none 0 0),.d (.int .i64 0),.d (.int .i64 0)]⟩,⟨500,v,c⟩,⟨1701,2,.vec 1 (s.cells.map jD)⟩,
  ⟨2150,1,.box (mB (.d (.list (ins.map qR))) vars cells (.vec 1701 2 0 s.cells.length) s.s6 G s.s6.length s.at_ s.fuel s.fault)⟩,⟨4051,0,.dead⟩]
@[simp] def ag1(C:List Int)(fault fuel:Int):D:=.agg [.list (C.map jD),.int .i64 fault,.int .i64 fuel]
def s0(C:List Int)(cells:Nat)(fuel:Int):Ms:=⟨C++List.replicate (cells-C.length) 0,[],0,fuel,0⟩
end Go.Am
end
section
namespace Go.Am
open Go Go.Proofs Go.Proofs.Tryz
variable [Inhabited bA]
set_option maxRecDepth 20000
theorem Ks(A B:List Int)(T:A.length=B.length)(O:A.length<=100000)(k:Kt)(R:bW):∀(J E:List Int)(i:Nat),A.drop i=J->B.drop i=E->i+J.length=A.length->
 ((if J=E then k (.exit 0) ⟨26,aA,[(0,true,.d (.list (A.map jD))),(1,true,.d (.list (B.map jD))),(5,true,.d (.int .i64 A.length)),(14,true,.d (.bool false))],[]⟩else k .ret ⟨26,aA,[(4,true,.d (.bool false))],[]⟩)=R)->
 aI ctx 47 (.loop (Code.at (bm f47) [1,1,0,1,0,0])) ⟨26,aA,[(0,true,.d (.list (A.map jD))),(1,true,.d (.list (B.map jD))),(5,true,.d (.int .i64 i))],[]⟩ k=R:=by
 intro J;induction J with
 |nil=>
  intro E i U H hi D;have hi:i=A.length:=by simpa using hi
  subst hi;have A1:E=[]:=by rw[<-H];exact List.drop_eq_nil_of_le (by omega)
  subst A1;simp at D;rw[ai];simp[f47,D]
 |cons a J ih=>
  intro E i U H hi D;have V:i<A.length:=by simp at hi;omega
  have Y:i<B.length:=by omega
  have y:A[i]=a:=by
   have:=ac8 (·[0]?) U;simp at this;simpa [V]using this
  obtain⟨b,M,rfl⟩:∃b M,E=b::M:=by
   match E,H with
   |[],H=>have:=ac8 List.length H;simp at this;omega
   |b::M,_=>exact⟨b,M,rfl⟩
  have A':B[i]=b:=by
   have:=ac8 (·[0]?) H;simp at this;simpa [Y]using this
  have A2:IntKind.i64.wrap ((i:Int)+1)=(i:Int)+1:=aE (by unfold aG;omega);rw[ai];by_cases I:a=b
  ·subst I;have ih:=ih M (i+1) (by rw[<-akE,U];rfl) (by rw[<-akE,H];rfl) (by simp at hi;omega) (by simpa using D);simp[f47]at ih⊢;simp[V,Y,y,A',A2,aj,ih]
  ·rw[aah (by simp[I])]at D;simp[f47];simp[V,Y,y,A',I,aj,D]
theorem Q9(A B:List Int)(O:A.length<=100000):ah ctx 47 [.d (.list (A.map jD)),.d (.list (B.map jD))] []=some (.ret (.d (.bool (decide (A=B)))),[]):=by
 rw[ajj (by simp)];by_cases T:A.length=B.length
 ·have A0:=λk R D=>Ks A B T O k R A B 0 (by simp) (by simp) (by simp) D;have Z:(A.length:Int)=(B.length:Int):=by omega
  simp[f47]at A0;simp[f47,Z];rw[A0];by_cases I:A=B<;>simp[I]
 ·have I:A≠B:=λh=>T (by rw[h]);have Z:¬(A.length:Int)=(B.length:Int):=by omega
  simp[f47,Z,I]
theorem DU(A B:List Int)(f g u v:Int)(O:A.length<=100000):ah ctx 18 [.d (ag1 A f u),.d (ag1 B g v)] []=some (.ret (.d (.bool (decide (A=B/\f=g/\u=v)))),[]):=by
 have N:=Q9 A B O;rw[ai8 (by simp)];try simp at N
 by_cases q:A=B
 ·subst q;simp at N;by_cases A3:f=g<;>by_cases A4:u=v<;>simp[f18,N,A3,A4]
 ·simp[q]at N;simp[f18,N,q]
theorem Xo{p:Pg}(U:iT p.body=true)(hw:hZ (oC p)<10000000):∃b,ah ctx 28 [.d (oC p)] []=some (.ret (.d (.bool b)),[])/\(b=true->th p):=by
 obtain⟨E,H,V⟩:=xo (p:=p) (by simp only[oC]at hw;omega);obtain⟨B,J⟩:=aba E H;have I:=afp E H;cases B with
 |false=>
  refine⟨false,?_,by simp⟩;rw[QQ (by simp)];simp[f28,J]
 |true=>
  cases A:mG p with
  |false=>
   rw[A]at I;refine⟨false,?_,by simp⟩;rw[QQ (by simp)];simp[f28,J,I]
  |true=>
   rw[A]at I;have O:=U5 A (by omega);unfold cW at O;refine⟨decide ((lY p).1=0),?_,λh=>⟨A,U,by simpa using h,hw⟩⟩;rw[QQ (by simp)];simp[f28,J,I,O,akg]
def runM(p:Pg)(C:List Int)(f:Int):List Int×Int×Int:=
 if (¬(C.length:Int)=dX p.vars\/f<0)\/16384<f then (C,0, -1)else ((gi p C f.toNat).1,(gi p C f.toNat).2.1,(gi p C f.toNat).2.2)
def mrD(r:List Int×Int×Int):D:=.agg [.list (r.1.map jD),.int .i64 r.2.1,.int .i64 r.2.2]
theorem AE{p:Pg}(h:th p)(C:List Int)(f:Int)(A0:C.length<=2000)(Y:∀c∈C,aG c):ah ctx 22 [.d (oC p),.d (.list (C.map jD)),.d (.int .i64 f)] []=some (.ret (.d (mrD (runM p C f))),[]):=by
 have A:=h.fit;simp only[mG,Ds,aam,aaH]at A;obtain⟨_,A1,M,Z⟩:=A;obtain⟨E,H,V⟩:=xo (p:=p) (by have:=h.lw;simp only[oC]at this;omega);unfold runM;by_cases N:(¬(C.length:Int)=dX p.vars\/f<0)\/16384<f
 ·rw[aap N,Xj (by omega) M C f (by omega) N];rfl
 ·rw[aah N];obtain⟨n,rfl⟩:∃n:Nat,f=n:=⟨f.toNat,by omega⟩;have T:=h.U2;unfold lY at T;obtain⟨q,y⟩:=ee.1 T;have hle:(C.length:Int)<=1024:=by
   have:=zS p.vars [] 0 (by omega) q;omega
  have A':eD p C:=⟨by omega,by omega,Y⟩;rw[agJ (by omega) M C n A' (by omega) (U0 (by omega) M (lp:=false) E Z h.lit H y).1];rfl
end Go.Am
end
section
namespace Go.Am
open Go Go.Proofs
variable [Inhabited bA]
set_option maxRecDepth 20000
def pB(L:List eJ)(s:PS):List AV:=[.d (.list (L.map pA)),.d (.int .i64 s.at_),.d (.int .i64 s.deep),.vec 1 0 0 s.vars.length]
def pC(L:List eJ)(s:PS):List ay:=[.box (pB L s),.vec 8 (s.vars.map bn)]
def vK(L:List eJ)(s:PS):List (Nat×ay):=[(0,.box (pB L s)),(0,.vec 8 (s.vars.map bn))]
def fD(e:Er):D:=.agg [.int .i64 e.e,.int .i64 0,.str [],.int .i64 0,.int .i64 e.line,.int .i64 e.Dl]
def qT(L:List eJ)(e:Er)(s:PS):bW:=some (.panic 161 (fD e),vK L s)
section
variable {L:List eJ} {s:PS}
@[simp] theorem awf(a b:Tx):(a == b)=decide (a=b):=by by_cases h:a=b<;>simp[h]
@[simp] theorem axl{β:Type}{b:Bool}{x y:β}:(if b=false then x else y)=if b=true then y else x:=by cases b<;>rfl
end
section
variable {L:List eJ} {s:PS} (A:L.length<1000000)
include A
end
structure Sh where
 k:Int
 name:Tx
 ins:Tx
 outs:Tx
 n:Int
@[simp] def shD(x:Sh):D:=.agg [.int .i64 x.k,.str x.name,.str x.ins,.str x.outs,.int .i64 x.n]
end Go.Am
end
section
namespace Go.Am
open Go
section
variable {D A α β:Type}
def PR.le(r E:PR D A α):Prop:=r=.out\/r=E
theorem PR.le.refl(r:PR D A α):r.le r:=.inr rfl
theorem PR.le.out(r:PR D A α):PR.le .out r:=.inl rfl
theorem PR.le.bind{r E:PR D A α}{k H:α->A->PR D A β}(h:r.le E)(N:∀a s,(k a s).le (H a s)):(r.bind k).le (E.bind H):=by
 rcases h with h|h
 ·subst h;exact .inl rfl
 ·subst h;cases r with
  |ok a s=>exact N a s
  |bad e s=>exact .inr rfl
  |out=>exact .inl rfl
theorem PR.le.ite{c:Prop}[Decidable c]{a b I J:PR D A α}(h:a.le I)(O:b.le J):(if c then a else b).le (if c then I else J):=by
 split
 ·exact h
 ·exact O
theorem PR.le.el{r E:PR D A α}{M:Type}{f:α->A->Option M}{g:D->A->Option M}(h:r.le E):Le (r.el f g) (E.el f g):=by
 rcases h with h|h
 ·subst h;exact Le.none
 ·subst h;exact Le.refl _
end
section
variable (L:List eJ)
structure azM(f g:Nat):Prop where
 level:∀n s,(sY L f n s).le (sY L g n s)
 loop:∀n x s,(zB L f n x s).le (zB L g n x s)
 unary:∀s,(vC L f s).le (vC L g s)
 unop:∀op t s,(Dp L f op t s).le (Dp L g op t s)
 expr:∀s,(kH L f s).le (kH L g s)
 index:∀s,(vE L f s).le (vE L g s)
 DV:∀s,(vD L f s).le (vD L g s)
structure azN(f g:Nat):Prop where
 block:∀w s,(m4 L f w s).le (m4 L g w s)
 vF:∀w l s,(vF L f w l s).le (vF L g w l s)
 stmt:∀s,(Av L f s).le (Av L g s)
 sB:∀s,(Dq L f s).le (Dq L g s)
 xx:∀s,(qB L f s).le (qB L g s)
 lV:∀c l s,(lV L f c l s).le (lV L g c l s)
 cases:∀s,(zC L f s).le (zC L g s)
 s4:∀v c l s,(s4 L f v c l s).le (s4 L g v c l s)
 xd:∀l s,(xd L f l s).le (xd L g l s)
 AF:∀s,(sZ L f s).le (sZ L g s)
 call:∀n s,(Dr L f n s).le (Dr L g n s)
 xe:∀n c l s,(xe L f n c l s).le (xe L g n c l s)
end
end Go.Am
end
section
namespace Go.Am
open Go Go.Proofs
variable [Inhabited bA]
set_option maxRecDepth 20000
def akh:List Nat:=[219,223,220,217,154,155,262,264,309,310,291,222,316,314]
structure ag2(L:List eJ)(A:bj)(f:Nat):Prop where
 le:∀g a c r,A g a c=some r->ah ctx g a c=some r
 out:∀g,akh.contains g=true->A g=ah ctx g
 level:∀n s,A 311 [.ptr 0 0 0,.d (.int .i64 (n:Nat))] (pC L s)=(sY L f n s).el (λx s=>some (.ret (.d (du x)),vK L s)) (qT L)
 unary:∀s,A 315 [.ptr 0 0 0] (pC L s)=(vC L f s).el (λx s=>some (.ret (.d (du x)),vK L s)) (qT L)
 DV:∀s,A 318 [.ptr 0 0 0] (pC L s)=(vD L f s).el (λx s=>some (.ret (.d (du x)),vK L s)) (qT L)
 index:∀s,A 297 [.ptr 0 0 0] (pC L s)=(vE L f s).el (λx s=>some (.ret (.d (du x)),vK L s)) (qT L)
 expr:∀s,A 295 [.ptr 0 0 0] (pC L s)=(kH L f s).el (λx s=>some (.ret (.d (du x)),vK L s)) (qT L)
section
variable {L:List eJ} {s:PS} {A:bj} {f:Nat} (D:L.length<1000000) (F:ag2 L A f)
include D F
end
structure aqK(L:List eJ)(A:bj)(f:Nat):Prop where
 E:ag2 L A f
 block:∀ws s,ws.length<1000->A 157 [.ptr 0 0 0,.d (.list (ws.map .str))] (pC L s)=(m4 L f ws s).el (λl s=>some (.ret (.d (.list (l.map cw))),vK L s)) (qT L)
 stmt:∀s,A 224 [.ptr 0 0 0] (pC L s)=(Av L f s).el (λx s=>some (.ret (.d (cw x)),vK L s)) (qT L)
 sB:∀s,A 263 [.ptr 0 0 0] (pC L s)=(Dq L f s).el (λx s=>some (.ret (.d (cw x)),vK L s)) (qT L)
 xx:∀s,A 292 [.ptr 0 0 0] (pC L s)=(qB L f s).el (λx s=>some (.ret (.d (cw x)),vK L s)) (qT L)
 cases:∀s,A 293 [.ptr 0 0 0] (pC L s)=(zC L f s).el (λx s=>some (.ret (.d (cw x)),vK L s)) (qT L)
 AF:∀s,A 294 [.ptr 0 0 0] (pC L s)=(sZ L f s).el (λx s=>some (.ret (.d (cw x)),vK L s)) (qT L)
 call:∀D s,A 296 [.ptr 0 0 0,.d (.str D)] (pC L s)=(Dr L f D s).el (λx s=>some (.ret (.d (cw x)),vK L s)) (qT L)
section
variable {L:List eJ} {s:PS} {A:bj} {f:Nat} (H:L.length<1000000) (F:aqK L A f)
include H F
end
inductive TA where
 |level (n:Nat) (s:PS)
 |unary (s:PS)
 |DV (s:PS)
 |index (s:PS)
 |expr (s:PS)
 |block (ws:List Tx) (s:PS)
 |stmt (s:PS)
 |sB (s:PS)
 |xx (s:PS)
 |cases (s:PS)
 |AF (s:PS)
 |call (A:Tx) (s:PS)
def TA.args:TA->List AV
 | .level n _=>[.ptr 0 0 0,.d (.int .i64 n)]
 | .block ws _=>[.ptr 0 0 0,.d (.list (ws.map .str))]
 | .call A _=>[.ptr 0 0 0,.d (.str A)]
 |_=>[.ptr 0 0 0]
def TA.st:TA->PS
 | .level _ s=>s
 | .unary s=>s
 | .DV s=>s
 | .index s=>s
 | .expr s=>s
 | .block _ s=>s
 | .stmt s=>s
 | .sB s=>s
 | .xx s=>s
 | .cases s=>s
 | .AF s=>s
 | .call _ s=>s
end Go.Am
end
section
namespace Go.Am
open Go
section
variable {α β:Type}
def Tr(r:PM α)(Q:α->PS->Prop):Prop:=match r with
 | .ok a s=>Q a s
 | .bad e _=>1<=e.line/\e.e≠0
 | .out=>False
theorem Tr.bind{r:PM α}{k:α->PS->PM β}{Q:α->PS->Prop}{D:β->PS->Prop}(h:Tr r Q)(E:∀a s,Q a s->Tr (k a s) D):Tr (r.bind k) D:=by
 cases r with
 |ok a s=>exact E a s h
 |bad e s=>exact h
 |out=>exact h.elim
theorem Tr.mono{r:PM α}{Q D:α->PS->Prop}(h:Tr r Q)(E:∀a s,Q a s->D a s):Tr r D:=by
 cases r with
 |ok a s=>exact E a s h
 |bad e s=>exact h
 |out=>exact h.elim
theorem Tr.ok{a:α}{s:PS}{Q:α->PS->Prop}(h:Q a s):Tr (.ok a s) Q:=h
end
structure OkL(L:List eJ):Prop where
 ends:∀(i:Nat)(t:eJ),L[i]?=some t->(t.kind=0↔i+1=L.length)
 line:∀(i:Nat)(t:eJ),L[i]?=some t->1<=t.line
 len:L.length<=49999
structure Iv(L:List eJ)(s:PS):Prop where
 at_:s.at_<L.length
 d0:0<=s.deep
 d1:s.deep<=32
 vs:s.vars.length<=64
structure Fw(L:List eJ)(s A:PS):Prop where
 iv:Iv L A
 deep:A.deep=s.deep
 vars:A.vars=s.vars
 at_:s.at_<=A.at_
structure Fs(L:List eJ)(s A:PS):Prop extends Fw L s A where
 lt:s.at_<A.at_
theorem Fw.refl{L s}(h:Iv L s):Fw L s s:=⟨h,rfl,rfl,aai _⟩
theorem Fw.trans{L s s1 s2}(h:Fw L s s1)(k:Fw L s1 s2):Fw L s s2:=⟨k.iv,k.deep.trans h.deep,k.vars.trans h.vars,ag6 h.at_ k.at_⟩
theorem Fs.trans{L s s1 s2}(h:Fs L s s1)(k:Fw L s1 s2):Fs L s s2:=⟨h.toFw.trans k,afQ h.lt k.at_⟩
section
variable {L:List eJ} (H:OkL L)
include H
structure Dn(L:List eJ)(s A:PS):Prop where
 iv:Iv L A
 deep:A.deep=s.deep+1
 vars:A.vars=s.vars
 at_:A.at_=s.at_
structure Fv(L:List eJ)(s A:PS):Prop where
 iv:Iv L A
 deep:A.deep=s.deep
 at_:s.at_<=A.at_
structure azO(L:List eJ)(f:Nat):Prop where
 level:∀(n:Nat)(s:PS),n<=6->Iv L s->20*(L.length-s.at_)+(10-n)<=f->Tr (sY L f n s) λ_ A=>Fs L s A
 loop:∀(n:Nat)(x:Ex)(s:PS),n<6->Iv L s->20*(L.length-s.at_)+1<=f->Tr (zB L f n x s) λ_ A=>Fw L s A
 unary:∀s:PS,Iv L s->20*(L.length-s.at_)+3<=f->Tr (vC L f s) λ_ A=>Fs L s A
 unop:∀(op:Int)(t:eJ)(s:PS),Iv L s->L[s.at_]?=some t->t.kind≠0->20*(L.length-s.at_)+2<=f->Tr (Dp L f op t s) λ_ A=>Fs L s A
 expr:∀s:PS,Iv L s->20*(L.length-s.at_)+11<=f->Tr (kH L f s) λ_ A=>Fs L s A
 index:∀s:PS,Iv L s->20*(L.length-s.at_)+1<=f->Tr (vE L f s) λ_ A=>Fs L s A
 DV:∀s:PS,Iv L s->20*(L.length-s.at_)+2<=f->Tr (vD L f s) λ_ A=>Fs L s A
end
section
variable {L:List eJ} (E:OkL L)
include E
structure azP(L:List eJ)(f:Nat):Prop where
 block:∀(ws:List Tx)(s:PS),Iv L s->20*(L.length-s.at_)+19<=f->Tr (m4 L f ws s) λ_ A=>Fw L s A
 loop:∀(ws:List Tx)(l:List Sm)(s:PS),Iv L s->l.length<=s.at_->20*(L.length-s.at_)+18<=f->Tr (vF L f ws l s) λ_ A=>Fw L s A
 stmt:∀s:PS,Iv L s->20*(L.length-s.at_)+17<=f->Tr (Av L f s) λ_ A=>Fs L s A
 sB:∀s:PS,Iv L s->20*(L.length-s.at_)+16<=f->Tr (Dq L f s) λ_ A=>Fs L s A
 xx:∀s:PS,Iv L s->20*(L.length-s.at_)+15<=f->Tr (qB L f s) λ_ A=>Fs L s A
 lV:∀(c:List Ex)(l:List (List Sm))(s:PS),Iv L s->c.length<=s.at_->l.length<=s.at_->20*(L.length-s.at_)+14<=f->Tr (lV L f c l s) λ_ A=>Fs L s A
 cases:∀s:PS,Iv L s->20*(L.length-s.at_)+15<=f->Tr (zC L f s) λ_ A=>Fs L s A
 s4:∀(v:Ex)(c:List (List Int))(l:List (List Sm))(s:PS),Iv L s->c.length<=s.at_->l.length<=s.at_->20*(L.length-s.at_)+14<=f->Tr (s4 L f v c l s) λ_ A=>Fs L s A
 xd:∀(l:List Sm)(s:PS),Iv L s->l.length<=s.at_->20*(L.length-s.at_)+18<=f->Tr (xd L f l s) λ_ A=>Fw L s A
 AF:∀s:PS,Iv L s->20*(L.length-s.at_)+15<=f->Tr (sZ L f s) λ_ A=>Fs L s A
 call:∀(D:Tx)(s:PS),Iv L s->20*(L.length-s.at_)+15<=f->Tr (Dr L f D s) λ_ A=>Fs L s A
 xe:∀(D:Tx)(c:List Tx)(l:List Ex)(s:PS),Iv L s->c.length<=s.at_->l.length<=s.at_->20*(L.length-s.at_)+14<=f->Tr (xe L f D c l s) λ_ A=>Fs L s A
end
abbrev ag3:=Option (Out×List (Nat×ay))
theorem ag4(c:Prop)[Decidable c](a b:Bool)(l:List (Nat×ay)):(if c then (some (Out.ret (.d (.bool a)),l):ag3)else some (Out.ret (.d (.bool b)),l))=some (Out.ret (.d (.bool (if c then a else b))),l):=by split<;>rfl
theorem Xp(a b:Bool)(l:List (Nat×ay)):(some (Out.ret (.d (.bool a)),l):ag3)=some (Out.ret (.d (.bool b)),l)↔(a=true↔b=true):=by
 cases a<;>cases b<;>simp
end Go.Am
end
section
namespace Go.Am
open Go Go.Proofs Go.Proofs.Tryz
variable [Inhabited bA]
set_option maxRecDepth 20000
theorem Xq{n:Int}(A:0<=n)(D:n<=255):IntKind.u8.wrap n=n:=by
 simp[IntKind.wrap,IntKind.bits,IntKind.signed];omega
theorem DW(c:UInt8):ah ctx 210 [.d (.int .u8 c.toNat)] []=some (.ret (.d (.bool (pz c))),[]):=by
 rw[aey (by simp)];simp[f210,aj];grind [pz]
theorem zT(c:UInt8):ah ctx 214 [.d (.int .u8 c.toNat)] []=some (.ret (.d (.bool (ot c))),[]):=by
 rw[aeB (by simp)];simp[f214,aj];grind [ot]
theorem F9(c:UInt8):ah ctx 212 [.d (.int .u8 c.toNat)] []=some (.ret (.d (.bool (eB c))),[]):=by
 rw[aez (by simp)];simp[f212,aj,DW,zT];simp only[ag4,Xp];grind [eB]
theorem Ga(c:UInt8):ah ctx 258 [.d (.int .u8 c.toNat)] []=some (.ret (.d (.int .i64 (fo c))),[]):=by
 rw[aeP (by simp)];simp[f258,aj,zT];have E:c.toNat<256:=c.toNat_lt;have w:∀y:Int, -9223372036854775808<=y->y<=9223372036854775807->IntKind.i64.wrap y=y:=λy A D=>aE ⟨A,D⟩;have H:∀y:Int,0<=y->y<=255->IntKind.u8.wrap y=y:=λy A D=>Xq A D;grind [fo,ot]
theorem pG{s:Tx}{i:Nat}(h:i<s.length):im s i=s[i]:=by simp[im,h]
theorem aaG(c:UInt8)(n:Nat)(A2:n<256):((c.toNat:Int)=n)↔c=UInt8.ofNat n:=by
 constructor
 ·intro h;have h:c.toNat=n:=by omega
  rw[<-h];simp
 ·rintro rfl;simp;omega
@[simp] def tp(s:Tx)(i:Nat):ay:=.box [.d (.str s),.d (.int .i64 i),.d (.int .i64 (fq (s.take i)).1),.d (.int .i64 (fq (s.take i)).2)]
theorem JA(s:Tx)(i:Nat)(h:i<=s.length):ah ctx 151 [.ptr 0 0 0] [tp s i]=some (.ret (.d (.str (s.drop i))),[(0,tp s i)]):=by
 rw[aei (by simp)];simp[f151,aj,h]
theorem Gb(s:Tx)(i n:Nat)(h:i+n<=s.length)(H:s.length<=100000)(k:Kt):∀(r j:Nat),j+r=n->
 aI ctx 153 (.loop (Code.at (bm f153) [1,0,0])) ⟨42,aA,[(0,true,.ptr 0 0 0),(4,true,.d (.int .i64 n)),(5,true,.d (.int .i64 j))],[⟨0,0,tp s (i+j)⟩]⟩ k=
  k (.exit 0) ⟨42,aA,[(0,true,.ptr 0 0 0),(4,true,.d (.int .i64 n)),(5,true,.d (.int .i64 n)),(6,true,.d (.bool false))],[⟨0,0,tp s (i+n)⟩]⟩
 |0,j,I=>by
  have I:j=n:=by omega
  subst I;rw[ai];simp[f153]
 |r+1,j,I=>by
  have ih:=Gb s i n h H k r (j+1) (by omega);have D:i+j<s.length:=by omega
  have A':=Tf (s:=s) (i:=i+j);have A:=zz D;rw[show i+(j+1)=i+j+1 by omega]at ih;generalize A0:fq (s.take (i+j))=p at*;generalize A1:fq (s.take (i+j+1))=q at*;obtain⟨l,c⟩:=p;obtain⟨A3,A4⟩:=q;simp only at A';have J:IntKind.i64.wrap (c+1)=c+1:=aE (by unfold aG;omega);have M:IntKind.i64.wrap (l+1)=l+1:=aE (by unfold aG;omega);have N:IntKind.i64.wrap ((i:Int)+j+1)=(i:Int)+j+1:=aE (by unfold aG;omega);have O:IntKind.i64.wrap ((j:Int)+1)=(j:Int)+1:=aE (by unfold aG;omega);have T:j<n:=by omega
  rw[ai];simp[f153,A0,A1]at ih⊢;have U:(0:Int)<=(i:Int)+j:=by omega
  have V:((i:Int)+j).toNat=i+j:=by omega
  have Y:=pG D;have Z:=aaG s[i+j] 10 (by omega);simp at Z;unfold jq at A;by_cases E:s[i+j]=10
  ·rw[aap E]at A;cases A;simp[T,J,M,N,O,D,aj,U,V,Y,E,ih]
  ·rw[aah E]at A;cases A;simp[T,J,M,N,O,D,aj,U,V,Y,Z,E,ih]
theorem xy(s:Tx)(i n:Nat)(h:i+n<=s.length)(H:s.length<=100000):ah ctx 153 [.ptr 0 0 0,.d (.int .i64 n)] [tp s i]=some (.ret (.bM []),[(0,tp s (i+n))]):=by
 have y:=λk=>Gb s i n h H k n 0 (by omega);rw[aek (by simp)];simp[f153]at y⊢;simp[y]
theorem xX(t:Tx)(c:UInt8):ah ctx 208 [.d (.str t),.d (.int .u8 c.toNat)] []=some (.ret (.d (.int .i64 (Go.Lib.indexByte t c))),[]):=by
 rw[aex (by simp)];simp[f208,aj]
set_option maxHeartbeats 1000000 in
theorem xz(s:Tx)(J:s.length<=100000)(k:Kt)(R:bW):∀(f i:Nat),i<=s.length->s.length-i<f->
 (k .ret ⟨51,aA,[(2,true,.d (.bool (eY f (s.drop i)).2))],[⟨0,0,tp s (i+(eY f (s.drop i)).1)⟩]⟩=R)->
 aI ctx 150 (.loop (Code.at (bm f150) [1,0,0])) ⟨51,aA,[(0,true,.ptr 0 0 0)],[⟨0,0,tp s i⟩]⟩ k=R
 |0,i,hi,A1,A=>by omega
 |f+1,i,hi,A1,A=>by
  have D:=JA s i hi;cases O:s.drop i with
  |nil=>
   rw[O]at D A;simp[eY]at D A;rw[ai];simp[f150,D,A,aj]
  |cons c r=>
   have A9:i+(r.length+1)=s.length:=by have:=ac8 List.length O;simp at this;omega
   have M:=xX (c::r) 10;rw[vA]at M;rw[O]at D A;unfold eY at A;have T:im (c::r) 0=c:=rfl;have A2:=Iu (c::r);by_cases E:vz c=true
   ·rw[aap E]at A;have H:=xy s i 1 (by omega) J;have Y:s.drop (i+1)=r:=by rw[<-akE,O];rfl
    have ih:=xz s J k R f (i+1) (by omega) (by omega) (by rw[Y,show i+1+(eY f r).1=i+(1+(eY f r).1) by omega];exact A);simp[vz]at E;rw[ai];simp[f150]at D H ih⊢;rcases E with (E|E)|E<;>simp[D,T,E,H,ih,aj]
   rw[aah E]at A;have Z:¬(c.toNat:Int)=32:=λh=>E (by simp[vz];omega);have q:¬(c.toNat:Int)=10:=λh=>E (by simp[vz];omega);have y:¬(c.toNat:Int)=9:=λh=>E (by simp[vz];omega);have I:=Dk 47 47 c r;have N:=Dk 40 42 c r;by_cases A':c=47/\r.head?=some 47
   ·rw[aap A']at A;have I:Go.Lib.hasPrefix (c::r) [47,47]=true:=by rw[I];simp[A']
    have H:=xy s i (gZ (c::r)) (by simp at A2;omega) J;have Y:s.drop (i+gZ (c::r))=(c::r).drop (gZ (c::r)):=by rw[<-akG,O]
    have AA:0<gZ (c::r):=by simp[gZ,A'.1]
    have ih:=xz s J k R f (i+gZ (c::r)) (by simp at A2;omega) (by omega) (by rw[Y,aci];exact A);generalize gZ (c::r)=n at*;rw[ai];by_cases U:n<(c::r).length
    ·rw[aap U]at M;have A3:¬((n:Int)<0):=by omega
     simp[f150]at D H ih M⊢;simp[D,T,Z,q,y,I,M,A3,H,ih,aj]
    ·rw[aah U]at M;have A7:n=r.length+1:=by simp at U A2;omega
     subst A7;simp[f150]at D H ih M⊢;simp[D,T,Z,q,y,I,M,H,ih,aj]
   rw[aah A']at A;have I:Go.Lib.hasPrefix (c::r) [47,47]=false:=by rw[I];simpa using A'
   by_cases A0:c=40/\r.head?=some 42
   ·rw[aap A0]at A;have N:Go.Lib.hasPrefix (c::r) [40,42]=true:=by rw[N];simp[A0]
    have V:=FN r.tail;have A5:(2:Int)<=(r.length:Int)+1:=by cases r with|nil=>simp at A0|cons d r=>simp;omega
    have A6:r.length-1<4294967281:=by omega
    cases A4:me r.tail with
    |none=>
     rw[A4]at A V;simp at A V D;rw[ai];simp[f150];simp[D,T,Z,q,y,I,N,A5,A6,V,A,aj]
    |some m=>
     rw[A4]at A V;have hm:=wY A4;have AB:r.tail.length=r.length-1:=by simp
     have H:=xy s i (m+4) (by omega) J;have Y:s.drop (i+(m+4))=(c::r).drop (m+4):=by rw[<-akG,O]
     have ih:=xz s J k R f (i+(m+4)) (by omega) (by omega) (by rw[Y,aci];exact A);have A3:¬((m:Int)<0):=by omega
     have A8:IntKind.i64.wrap ((m:Int)+4)=m+4:=aE (by unfold aG;omega);rw[ai];simp[f150]at D H ih V⊢;simp[D,T,Z,q,y,I,N,A5,A6,V,A3,A8,H,ih,aj]
   rw[aah A0]at A;have N:Go.Lib.hasPrefix (c::r) [40,42]=false:=by rw[N];simpa using A0
   simp at A D;rw[ai];simp[f150];simp[D,T,Z,q,y,I,N,A,aj]
theorem abC(s:Tx)(i:Nat)(hi:i<=s.length)(J:s.length<=100000)(f:Nat)(A1:s.length-i<f):
 ah ctx 150 [.ptr 0 0 0] [tp s i]=some (.ret (.d (.bool (eY f (s.drop i)).2)),[(0,tp s (i+(eY f (s.drop i)).1))]):=by
 have U:=λk R=>xz s J k R f i hi A1;rw[aeh (by simp)];simp[f150]at U⊢;rw[U];simp
theorem Ku(c:UInt8)(b:Int):ah ctx 257 [.d (.int .u8 c.toNat),.ptr 0 0 0] [.box [.d (.int .i64 b)]]=some (.ret (.d (.bool (decide ((fo c:Int)<b)))),[(0,.box [.d (.int .i64 b)])]):=by
 rw[aeO (by simp)];simp[f257,aj,Ga]
theorem Bl(s:Tx)(E:s.length<=100000)(k:Kt):∀(r n:Nat),n+r=s.length->
 aI ctx 211 (.loop (Code.at (bm f211) [1,1,0,0,0])) ⟨20,aA,[(0,true,.d (.str s)),(1,true,.fn 212 []),(5,true,.d (.int .i64 n))],[]⟩ k=
  k (.exit 0) ⟨20,aA,[(0,true,.d (.str s)),(1,true,.fn 212 []),(5,true,.d (.int .i64 (n+((s.drop n).takeWhile eB).length:Nat))),(16,true,.d (.bool false))],[]⟩
 |0,n,H=>by
  have H:n=s.length:=by omega
  subst H;rw[ai];simp[f211]
 |r+1,n,H=>by
  have D:n<s.length:=by omega
  have ih:=Bl s E k r (n+1) (by omega);have N:IntKind.i64.wrap ((n:Int)+1)=(n:Int)+1:=aE (by unfold aG;omega);have I:=pG D;have A:=F9 s[n];have O:s.drop n=s[n]::s.drop (n+1):=ado D;rw[O,List.takeWhile_cons];rw[ai];cases J:eB s[n]with
  |true=>
   rw[J]at A;have e:n+1+(List.takeWhile eB (s.drop (n+1))).length=n+((List.takeWhile eB (s.drop (n+1))).length+1):=by omega
   rw[e]at ih;simp[f211]at ih A⊢;simp[D,I,A,N,ih]
  |false=>
   rw[J]at A;simp[f211]at A⊢;simp[D,I,A]
theorem Ra(s:Tx)(E:s.length<=100000):ah ctx 211 [.d (.str s),.fn 212 []] []=some (.ret (.d (.int .i64 (s.takeWhile eB).length)),[]):=by
 have M:=λk=>Bl s E k s.length 0 (by omega);rw[Ug (by simp)];simp[f211]at M⊢;simp[M]
theorem Bm(s:Tx)(E:s.length<=100000)(b:Nat)(k:Kt):∀(r n:Nat),n+r=s.length->
 aI ctx 211 (.loop (Code.at (bm f211) [1,1,0,0,0])) ⟨20,aA,[(0,true,.d (.str s)),(1,true,.fn 257 [.ptr 0 0 0]),(5,true,.d (.int .i64 n))],[⟨0,0,.box [.d (.int .i64 b)]⟩]⟩ k=
  k (.exit 0) ⟨20,aA,[(0,true,.d (.str s)),(1,true,.fn 257 [.ptr 0 0 0]),(5,true,.d (.int .i64 (n+((s.drop n).takeWhile (λc=>decide (fo c<b))).length:Nat))),(16,true,.d (.bool false))],[⟨0,0,.box [.d (.int .i64 b)]⟩]⟩
 |0,n,H=>by
  have H:n=s.length:=by omega
  subst H;rw[ai];simp[f211]
 |r+1,n,H=>by
  have D:n<s.length:=by omega
  have ih:=Bm s E b k r (n+1) (by omega);have N:IntKind.i64.wrap ((n:Int)+1)=(n:Int)+1:=aE (by unfold aG;omega);have I:=pG D;have A:=Ku s[n] b;have O:s.drop n=s[n]::s.drop (n+1):=ado D;rw[O,List.takeWhile_cons];rw[ai];by_cases J:fo s[n]<b
  ·have e:n+1+(List.takeWhile (λc=>decide (fo c<b)) (s.drop (n+1))).length=n+((List.takeWhile (λc=>decide (fo c<b)) (s.drop (n+1))).length+1):=by omega
   rw[e]at ih;simp[f211,J]at ih A⊢;simp[D,I,A,N,ih]
  ·simp[f211,J]at A⊢;simp[D,I,A]
theorem Rb(s:Tx)(E:s.length<=100000)(b:Nat):ah ctx 211 [.d (.str s),.fn 257 [.ptr 0 0 0]] [.box [.d (.int .i64 b)]]=
 some (.ret (.d (.int .i64 (s.takeWhile (λc=>decide (fo c<b))).length)),[(0,.box [.d (.int .i64 b)])]):=by
 have M:=λk=>Bm s E b k s.length 0 (by omega);rw[Ug (by simp)];simp[f211]at M⊢;simp[M]
theorem abD(c:UInt8):fo c<=99:=by
 unfold fo ot;split
 ·rename_i h;simp at h;omega
 ·split<;>omega
set_option maxHeartbeats 1000000 in
theorem JB(s:Tx)(A7:s.length<=100000)(b:Nat)(A8:2<=b/\b<=16)(n v:Nat)(D:ay)(O:n<=s.length)(k:Kt)(R:bW):∀(rest:Tx)(i x:Nat),(s.drop i).take rest.length=rest->i+rest.length=n->x<=9223372036854775807->
 (match Ez b x rest with
  |none=>k .ret ⟨83,aA,[(2,true,.d (.int .i64 0)),(3,true,.d (.int .i64 0)),(4,true,.d (.int .i64 2))],[⟨350,1,.box [.d (.int .i64 b)]⟩,⟨500,v,D⟩]⟩
  |some y=>k (.exit 2) ⟨83,aA,[(0,true,.d (.str s)),(5,true,.ptr 350 1 0),(9,true,.d (.int .i64 n)),(10,true,.d (.int .i64 y)),(11,true,.d (.int .i64 n)),(63,true,.d (.bool false))],[⟨350,1,.box [.d (.int .i64 b)]⟩,⟨500,v,D⟩]⟩)=R->
 aI ctx 215 (.loop (Code.at (bm f215) [1,1,1,1,1,1,0,1,0,0])) ⟨83,aA,[(0,true,.d (.str s)),(5,true,.ptr 350 1 0),(9,true,.d (.int .i64 n)),(10,true,.d (.int .i64 x)),(11,true,.d (.int .i64 i))],[⟨350,1,.box [.d (.int .i64 b)]⟩,⟨500,v,D⟩]⟩ k=R
 |[],i,x,A',hi,AN,I=>by
  have hi:i=n:=by simpa using hi
  subst hi;simp[Ez]at I;rw[ai];simp[f215,I]
 |c::rest,i,x,A',hi,AN,I=>by
  simp only[ab1]at hi A';have A:i<s.length:=by omega
  have T:i<n:=by omega
  have AO:s.drop i=s[i]::s.drop (i+1):=ado A;rw[AO,List.take_succ_cons]at A';have J:s[i]=c:=(List.cons.inj A').1;have AP:=(List.cons.inj A').2;have AE:=pG A;have Y:=Ga c;have Ag:=abD c;have AQ:IntKind.i64.wrap ((i:Int)+1)=(i:Int)+1:=aE (by unfold aG;omega);have AF:IntKind.i64.wrap (9223372036854775807-(fo c:Int))=((9223372036854775807-fo c:Nat):Int):=by rw[aE (by unfold aG;omega)];omega
  have AR:(9223372036854775807-fo c)/b<=9223372036854775807:=ag6 (Nat.div_le_self _ _) (Nat.sub_le _ _);have AG:IntKind.i64.wrap (((9223372036854775807-fo c:Nat):Int)/(b:Int))=(((9223372036854775807-fo c)/b:Nat):Int):=by
   rw[<-Int.natCast_ediv];generalize (9223372036854775807-fo c)/b=z at AR;exact aE (by unfold aG;omega)
  have AH:b≠0:=by omega
  unfold Ez at I;rw[ai];by_cases A2:(9223372036854775807-fo c)/b<x
  ·have A9:((9223372036854775807-fo c:Nat):Int)/(b:Int)<x:=by rw[<-Int.natCast_ediv];exact Int.ofNat_lt.2 A2
   rw[aap A2]at I;simp at I Y;simp[f215];simp[T,A,AE,J,Y,AF,AG,AH,A9,I]
  ·have A9:¬(((9223372036854775807-fo c:Nat):Int)/(b:Int)<x):=by rw[<-Int.natCast_ediv];exact λh=>A2 (Int.ofNat_lt.1 h)
   rw[aah A2]at I;have hm:x*b<=9223372036854775807-fo c:=by
    have AA:x<=(9223372036854775807-fo c)/b:=by omega
    have:=aaC b AA;have AB:=Nat.div_mul_le_self (9223372036854775807-fo c) b;omega
   have AS:(x:Int)*(b:Int)=((x*b:Nat):Int):=by simp
   have AT:IntKind.i64.wrap ((x:Int)*b)=((x*b:Nat):Int):=by rw[AS];exact aE (by unfold aG;omega)
   have AU:IntKind.i64.wrap (((x*b:Nat):Int)+fo c)=((x*b+fo c:Nat):Int):=by rw[aE (by unfold aG;omega)];simp
   have ih:=JB s A7 b A8 n v D O k R rest (i+1) (x*b+fo c) AP (by omega) (by omega) I;generalize Ah:x*b+fo c=Ai at*;generalize x*b=Aj at*;simp[f215]at ih⊢;simp[T,A,AE,J,Y,AQ,AF,AG,AT,AU,AH,A9,ih]
theorem jJ{a:UInt8}{p s:Tx}(h:(a::p).isPrefixOf s=true):s.head?=some a/\p.length+1<=s.length:=by
 have U:=List.isPrefixOf_iff_prefix.1 h;refine⟨?_,by simpa using U.length_le⟩;obtain⟨t,rfl⟩:=U;rfl
theorem xA(s:Tx):(Go.Lib.hasPrefix s [50,35]=true/\Go.Lib.hasPrefix s [56,35]=false/\Go.Lib.hasPrefix s [49,54,35]=false/\nj s=(2,2)/\2<=s.length)\/
 (Go.Lib.hasPrefix s [50,35]=false/\Go.Lib.hasPrefix s [56,35]=true/\Go.Lib.hasPrefix s [49,54,35]=false/\nj s=(8,2)/\2<=s.length)\/
 (Go.Lib.hasPrefix s [50,35]=false/\Go.Lib.hasPrefix s [56,35]=false/\Go.Lib.hasPrefix s [49,54,35]=true/\nj s=(16,3)/\3<=s.length)\/
 (Go.Lib.hasPrefix s [50,35]=false/\Go.Lib.hasPrefix s [56,35]=false/\Go.Lib.hasPrefix s [49,54,35]=false/\nj s=(10,0)/\0<=s.length):=by
 unfold Go.Lib.hasPrefix nj;have Ak:([50,35]:Tx).isPrefixOf s=true->([56,35]:Tx).isPrefixOf s=true->False:=λh g=>by
  have h:=(jJ h).1;have g:=(jJ g).1;rw[h]at g;revert g;decide
 have Al:([50,35]:Tx).isPrefixOf s=true->([49,54,35]:Tx).isPrefixOf s=true->False:=λh g=>by
  have h:=(jJ h).1;have g:=(jJ g).1;rw[h]at g;revert g;decide
 have An:([56,35]:Tx).isPrefixOf s=true->([49,54,35]:Tx).isPrefixOf s=true->False:=λh g=>by
  have h:=(jJ h).1;have g:=(jJ g).1;rw[h]at g;revert g;decide
 have Ao:([50,35]:Tx).isPrefixOf s=true->2<=s.length:=λh=>(jJ h).2;have Ap:([56,35]:Tx).isPrefixOf s=true->2<=s.length:=λh=>(jJ h).2;have Aq:([49,54,35]:Tx).isPrefixOf s=true->3<=s.length:=λh=>(jJ h).2;cases AB:([50,35]:Tx).isPrefixOf s<;>cases Ar:([56,35]:Tx).isPrefixOf s<;>cases As:([49,54,35]:Tx).isPrefixOf s<;>simp_all
set_option maxHeartbeats 2000000 in
theorem Rc(s:Tx)(A7:s.length<=100000):ah ctx 215 [.d (.str s)] []=some (.ret (.bM [.d (.int .i64 (mF s).1),.d (.int .i64 (mF s).2.1),.d (.int .i64 (mF s).2.2)]),[]):=by
 obtain⟨b,h,AI,A8,At⟩:∃b h,nj s=(b,h)/\(2<=b/\b<=16)/\h<=s.length:=by
  rcases xA s with ⟨_,_,_,e,M⟩|⟨_,_,_,e,M⟩|⟨_,_,_,e,M⟩|⟨_,_,_,e,M⟩<;>exact⟨_,_,e,by omega,by omega⟩
 have hw:=Rb (s.drop h) (by simp;omega) b;obtain⟨E,A3⟩:∃E,E=(s.drop h).takeWhile (λc=>decide (fo c<b)):=⟨_,rfl⟩;rw[<-A3]at hw;have Au:E.length<=s.length-h:=by
  have:=(agD (λc=>decide (fo c<b)) (l:=s.drop h)).length_le;rw[<-A3]at this;simpa using this
 have AV:(s.drop h).take E.length=E:=by
  rw[A3];exact List.prefix_iff_eq_take.1 (agD _) |>.symm
 obtain⟨n,O⟩:∃n,n=h+E.length:=⟨_,rfl⟩;have AW:n<=s.length:=by omega
 have AJ:=λv D k R=>JB s A7 b A8 n v D AW k R E h 0 AV O.symm (by omega);have wn:IntKind.i64.wrap ((h:Int)+E.length)=(n:Int):=by rw[aE (by unfold aG;omega)];omega
 have Av:¬((n:Int)<0):=by omega
 have Aw:(0:Int)<=n:=by omega
 obtain⟨F,H⟩:∃F:Nat×Nat×Nat,F=BV s b h E:=⟨_,rfl⟩;have AX:mF s=F:=by unfold mF;rw[H,AI];simp only[<-A3]
 rw[AX];have AY:IntKind.i64.wrap 1=1:=aE (by unfold aG;omega);have AZ:IntKind.i64.wrap 2=2:=aE (by unfold aG;omega);have A_:IntKind.i64.wrap 3=3:=aE (by unfold aG;omega);have Aa:List.range' 0 3=[0,1,2]:=rfl;have key:∀(v:Nat)(D:ay)(k:Kt),n≠h->(n<s.length->eB (im s n)=false/\im s n≠35)->
  (∀x,k (.exit 2) ⟨83,aA,[(0,true,.d (.str s)),(5,true,.ptr 350 1 0),(9,true,.d (.int .i64 n)),(10,true,.d (.int .i64 x)),(11,true,.d (.int .i64 n)),(63,true,.d (.bool false))],[⟨350,1,.box [.d (.int .i64 b)]⟩,⟨500,v,D⟩]⟩=some (.ret (.bM [.d (.int .i64 n),.d (.int .i64 x),.d (.int .i64 0)]),[]))->
  (k .ret ⟨83,aA,[(2,true,.d (.int .i64 0)),(3,true,.d (.int .i64 0)),(4,true,.d (.int .i64 2))],[⟨350,1,.box [.d (.int .i64 b)]⟩,⟨500,v,D⟩]⟩=some (.ret (.bM [.d (.int .i64 0),.d (.int .i64 0),.d (.int .i64 2)]),[]))->
  aI ctx 215 (.loop (Code.at (bm f215) [1,1,1,1,1,1,0,1,0,0])) ⟨83,aA,[(0,true,.d (.str s)),(5,true,.ptr 350 1 0),(9,true,.d (.int .i64 n)),(10,true,.d (.int .i64 (0:Nat))),(11,true,.d (.int .i64 h))],[⟨350,1,.box [.d (.int .i64 b)]⟩,⟨500,v,D⟩]⟩ k=
   some (.ret (.bM [.d (.int .i64 F.1),.d (.int .i64 F.2.1),.d (.int .i64 F.2.2)]),[]):=by
  intro v D k AA AB Ab Ac;have Ad:¬(E=[]\/∃c,s[h+E.length]?=some c/\(eB c=true\/c=35)):=by
   rintro (J|⟨c,J,N⟩)
   ·exact AA (by rw[O,J];rfl)
   ·rw[<-O]at J;obtain⟨A,Ae⟩:=aaf.1 J;have AC:=AB A;rw[pG A,Ae]at AC;rcases N with N|N
    ·rw[AC.1]at N;cases N
    ·exact AC.2 N
  unfold BV at H;rw[aah Ad,<-O]at H;refine AJ v D k _ ?_;cases Y:Ez b 0 E with
  |none=>rw[Y]at H;rw[H];exact Ac
  |some x=>rw[Y]at H;rw[H];exact Ab x
 have err:∀c,n<s.length->im s n=c->(eB c=true\/c=35)->F=(0,0,5):=by
  intro c A J N;unfold BV at H;rw[H,aap (.inr ⟨c,by rw[<-O,acB A,<-pG A,J],N⟩)]
 have AK:n=h->F=(0,0,5):=by
  intro he;unfold BV at H;rw[H,aap (.inl (List.length_eq_zero_iff.1 (by omega)))]
 have V:=F9 (im s n);have AL:=aaG (im s n) 35 (by omega);simp at AL;clear H AJ;rw[aeC (by simp)];rcases xA s with ⟨A4,A5,A6,e,M⟩|⟨A4,A5,A6,e,M⟩|⟨A4,A5,A6,e,M⟩|⟨A4,A5,A6,e,M⟩;all_goals
  obtain⟨U,AD⟩:∃U:Nat,U=h:=⟨_,rfl⟩;rw[AI]at e;cases e;have AM:=Int.ofNat_le.2 M;simp[f215]at hw wn AM key AK;simp[f215,Aa];iterate 4 (rw[ai];simp[A4,A5,A6,AY,AZ,A_,aj])
  simp[M,AM,hw,wn];by_cases Z:n=U
  ·have A0:=AK (Z.trans AD);rw[AD]at Z;simp[Z,A0]
  ·have q:¬((n:Int)=(U:Int)):=by omega
   rw[AD]at q Z;simp at q;by_cases A:n<s.length
   ·cases T:eB (im s n)
    ·rw[T]at V;by_cases A1:im s n=35
     ·have A0:=err _ A A1 (.inr rfl);rw[A1]at V;simp at V;simp[q,A,V,A1,A0]
     ·have Af:¬((im s n).toNat:Int)=35:=λh=>A1 (AL.1 h);simp[q,A,V,Af];exact key _ _ _ Z (λ_=>⟨T,A1⟩) (λx=>by simp) (by simp)
    ·have A0:=err _ A rfl (.inl T);rw[T]at V;simp[q,A,V,A0]
   ·simp[q,A];exact key _ _ _ Z (λh=>absurd h A) (λx=>by simp) (by simp)
def qU(s:Tx):Nat->List Tx->Int
 |_,[]=> -1
 |i,x::r=>if s=x then (i:Int)else qU s (i+1) r
theorem JD(s:Tx):∀(l:List Tx)(i:Nat),decide (0<=qU s i l)=decide (s∈l)
 |[],i=>by simp[qU]
 |x::r,i=>by
  have:=JD s r (i+1);unfold qU;by_cases h:s=x
  ·simp[h]
  ·simp only[aah h,this];simp[h]
theorem Bn(l:List Tx)(E:l.length<=1000)(s:Tx)(k:Kt)(R:bW):∀(rest:List Tx)(i:Nat),l.drop i=rest->i+rest.length=l.length->
 ((if 0<=qU s i rest then k .ret ⟨19,aA,[(4,true,.d (.int .i64 (qU s i rest)))],[]⟩else k (.exit 0) ⟨19,aA,[(0,true,.d (.list (l.map .str))),(1,true,.d (.str s)),(7,true,.d (.int .i64 l.length)),(8,true,.d (.int .i64 l.length)),(9,true,.d (.bool false))],[]⟩)=R)->
 aI ctx 287 (.loop (Code.at (bm f287) [1,0,1,0,0])) ⟨19,aA,[(0,true,.d (.list (l.map .str))),(1,true,.d (.str s)),(7,true,.d (.int .i64 l.length)),(8,true,.d (.int .i64 i))],[]⟩ k=R
 |[],i,H,hi,h=>by
  have hi:i=l.length:=by simpa using hi
  subst hi;rw[ai];simp[qU]at h;simp[f287,h]
 |x::rest,i,H,hi,h=>by
  have I:i<l.length:=by simp at hi;omega
  have M:l[i]=x:=by
   have:=ac8 (·[0]?) H;simp at this;simpa [I]using this
  have U:IntKind.i64.wrap ((i:Int)+1)=(i:Int)+1:=aE (by unfold aG;omega);unfold qU at h;rw[ai];by_cases A:s=x
  ·simp[A]at h;simp[f287];simp[I,M,A,h]
  ·rw[aah A]at h;have ih:=Bn l E s k R rest (i+1) (by rw[<-akE,H];rfl) (by simp at hi;omega) h;simp[f287]at ih⊢;simp[I,M,A,U,ih]
theorem JE(s:Tx):∀(l:List Tx)(i:Nat),¬0<=qU s i l->qU s i l= -1
 |[],i,_=>rfl
 |x::r,i,h=>by
  unfold qU at h⊢;split
  ·rename_i A;rw[aap A]at h;omega
  ·rename_i A;rw[aah A]at h;exact JE s r (i+1) h
theorem Rd(l:List Tx)(E:l.length<=1000)(s:Tx):ah ctx 287 [.d (.list (l.map .str)),.d (.str s)] []=some (.ret (.d (.int .i64 (qU s 0 l))),[]):=by
 have N:=λk R h=>Bn l E s k R l 0 rfl (by simp) h;rw[aeV (by simp)];simp[f287]at N⊢;rw[N];split
 ·simp
 ·rename_i h;simp[JE s l 0 h]
theorem JF(l:List Tx)(E:l.length<=1000)(s:Tx):ah ctx 256 [.d (.list (l.map .str)),.d (.str s)] []=some (.ret (.d (.bool (decide (s∈l)))),[]):=by
 have h:=Rd l E s;rw[aeN (by simp)];simp[f256,h,<-JD s l 0]
theorem Re:ah ctx 140 [.d (.str Tg)] []=some (.ret (.d (.list (jr.map .str))),[]):=bk 300 (by kernel_rfl)
theorem Xr(s:Tx):ah ctx 213 [.d (.str s)] []=some (.ret (.d (.bool (tW s))),[]):=by
 have J:=Re;have O:=JF jr (by decide) s;unfold Tg at J;generalize jr.map D.str=W at J O;rw[aeA (by simp)];simp[f213,J,O,tW]
theorem xY(c:UInt8):∀(l:Tx),0<=Go.Lib.indexByte l c↔c∈l
 |[]=>by simp[Go.Lib.indexByte]
 |b::r=>by
  have ih:=xY c r;have A2:=Go.Lib.indexByte_ge r c;unfold Go.Lib.indexByte;by_cases h:b=c
  ·simp[h]
  ·have V:¬c=b:=λe=>h e.symm;simp only[beq_iff_eq,h,acF,aan,V,false_or,<-ih];split<;>omega
theorem Xs(c:UInt8)(r:Tx):rO (c::r)=if Go.Lib.hasPrefix (c::r) [58,61]=true then 2 else if Go.Lib.hasPrefix (c::r) [60,61]=true then 2 else if Go.Lib.hasPrefix (c::r) [62,61]=true then 2 else if Go.Lib.hasPrefix (c::r) [60,62]=true then 2 else if Go.Lib.hasPrefix (c::r) [46,46]=true then 2 else if 0<=Go.Lib.indexByte zA c then 1 else 0:=by
 have hm:=xY c zA;unfold rO Iw Go.Lib.hasPrefix;simp only[List.any_cons,List.any_nil,Bool.or_false,afP,hm];grind
theorem Xt(c:UInt8)(r:Tx):ah ctx 216 [.d (.str (c::r))] []=some (.ret (.d (.int .i64 (rO (c::r)))),[]):=by
 have Y:List.range' 0 5=[0,1,2,3,4]:=rfl;have Z:IntKind.i64.wrap 1=1:=aE (by unfold aG;omega);have q:IntKind.i64.wrap 2=2:=aE (by unfold aG;omega);have y:IntKind.i64.wrap 3=3:=aE (by unfold aG;omega);have A':IntKind.i64.wrap 4=4:=aE (by unfold aG;omega);have A0:IntKind.i64.wrap 5=5:=aE (by unfold aG;omega);have T:=xX zA c;rw[aeD (by simp)];simp[f216,Y];iterate 6 (try (rw[ai];simp[Z,q,y,A',A0,aj]))
 have A1:im (c::r) 0=c:=rfl;rw[Xs];unfold zA at T⊢;simp[A1,T];grind
theorem Oh(s:Tx):(mF s).1<=s.length:=by
 unfold mF BV;rcases xA s with ⟨_,_,_,e,A⟩|⟨_,_,_,e,A⟩|⟨_,_,_,e,A⟩|⟨_,_,_,e,A⟩;all_goals
  rw[e];simp only
  split
  ·simp
  ·split
   ·simp
   ·rename_i x _;simp only
    have:=(agD (λc=>decide (fo c<(nj s).1)) (l:=s.drop (nj s).2)).length_le;rw[e]at this;simp only[acL]at this;omega
theorem JG(c:UInt8)(r:Tx):rO (c::r)<=(c::r).length:=by
 unfold rO;split
 ·rename_i h;simp only[Iw,List.any_cons,List.any_nil,Bool.or_false,afP]at h;rcases h with h|h|h|h|h<;>exact (jJ h).2
 ·simp only
  split<;>simp
set_option maxHeartbeats 1000000 in
theorem Xu(c:UInt8)(r:Tx)(V:(c::r).length<=100000)(line Dl:Int):ah ctx 152 [.d (.str (c::r)),.d (pA ⟨0,[],0,line,Dl⟩)] []=
 some (.ret (.bM [.d (pA ⟨(jN (c::r)).2.1,(c::r).take (jN (c::r)).2.2.1,(jN (c::r)).2.2.2,line,Dl⟩),.d (.int .i64 (jN (c::r)).1)]),[]):=by
 have I:im (c::r) 0=c:=rfl;have A:=DW c;have J:=zT c;have hw:=Ra (c::r) V;have T:=Rc (c::r) V;have Y:=Xt c r;have N:((c::r).takeWhile eB).length<=(c::r).length:=(agD _).length_le;have O:=Oh (c::r);have U:=JG c r;have M:=Xr ((c::r).take ((c::r).takeWhile eB).length);unfold jN;generalize y:((c::r).takeWhile eB).length=Z at*;generalize A':rO (c::r)=q at*;generalize A0:mF (c::r)=F at*;obtain⟨n,x,e⟩:=F;simp only at T O;rw[aej (by simp)];simp only[ab1]at N O U;cases E:pz c with
 |true=>
  rw[E]at A;cases D:tW ((c::r).take Z)with
  |true=>
   rw[D]at M;simp[f152,aj,I,A,hw,N,M,E,D]
  |false=>
   rw[D]at M;by_cases H:16<Z
   ·simp[f152,aj,I,A,hw,N,M,E,D,H];omega
   ·simp[f152,aj,I,A,hw,N,M,E,D,H];omega
 |false=>
  rw[E]at A;cases D:ot c with
  |true=>
   rw[D]at J;by_cases H:e=0
   ·simp[f152,aj,I,A,J,T,O,E,D,H]
   ·simp[f152,aj,I,A,J,T,O,E,D,H]
  |false=>
   rw[D]at J;by_cases H:q=0
   ·simp[f152,aj,I,A,J,Y,U,E,D,H]
   ·simp[f152,aj,I,A,J,Y,U,E,D,H]
theorem Xv{s:Tx}(h:(mF s).2.2=0):1<=(mF s).1:=by
 unfold mF BV at h⊢;split
 ·rename_i M;rw[aap M]at h;simp at h
 ·rename_i M;rw[aah M]at h;split
  ·rename_i A0;rw[A0]at h;simp at h
  ·simp only
   simp only[akD]at M;have:=List.length_pos_iff.2 M.1;omega
theorem Xw{c:UInt8}{r:Tx}(h:(jN (c::r)).1=0):1<=(jN (c::r)).2.2.1/\(jN (c::r)).2.2.1<=(c::r).length:=by
 have Y:((c::r).takeWhile eB).length<=(c::r).length:=(agD _).length_le;have A1:=Oh (c::r);have A2:=JG c r;have A3:pz c=true->1<=((c::r).takeWhile eB).length:=by
  intro O;have:eB c=true:=by unfold eB;rw[O];rfl
  simp[this]
 have A4:=Xv (s:=c::r);unfold jN at h⊢;simp only at h⊢;generalize ((c::r).takeWhile eB).length=AG at*;generalize rO (c::r)=AH at*;generalize mF (c::r)=F at*;by_cases T:pz c=true
 ·simp only[aap T]at h⊢;have:=A3 T;split at h
  ·rename_i hw;rw[aap hw];exact⟨this,Y⟩
  ·rename_i hw;rw[aah hw];split at h
   ·simp at h
   ·rename_i A5;rw[aah A5];exact⟨this,Y⟩
 ·simp only[aah T]at h⊢;by_cases Z:ot c=true
  ·simp only[aap Z]at h⊢;split at h
   ·rename_i he;rw[aap he];exact⟨A4 he,A1⟩
   ·rename_i he;exact absurd h he
  ·simp only[aah Z]at h⊢;split at h
   ·simp at h
   ·rename_i he;rw[aah he];exact⟨by simp only;omega,A2⟩
set_option maxHeartbeats 1000000 in
theorem JI(s:Tx)(A6:s.length<=16384):∀(f i:Nat)(out:List eJ)(v4 v5 D:Nat)(E H:ay),i<=s.length->s.length-i<f->out.length<=i->
 aI ctx 92 (.loop (Code.at (bm f92) [1,1,1,1,0,0])) ⟨62,aA,[(4,true,.ptr 300 1 0),(5,true,.ptr 950 1 0),(6,true,.vec 400 v4 0 out.length)],
  [⟨200,1,.vec 5 []⟩,⟨300,1,.box [.d (.int .i64 0),.d (.str []),.d (.int .i64 0),.d (.int .i64 0),.d (.int .i64 0)]⟩,⟨400,v4,.vec 5 (out.map pA)⟩,⟨500,v5,E⟩,⟨550,D,H⟩,⟨950,1,tp s i⟩]⟩
  (BR 0 (uM Tryz.prog PI 0 [.tmp 2,.tmp 3,.cell 4 55]))=some (.ret (.bM [.d (.list ((BW s f i out).1.map pA)),.d (.int .i64 (BW s f i out).2.1),.d (pA (BW s f i out).2.2)]),[])
 |0,i,out,v4,v5,D,E,H,hi,A7,A8=>by omega
 |f+1,i,out,v4,v5,D,E,H,hi,A7,A8=>by
  have A:=abC s i hi (by omega) (s.length+1) (by omega);have A9:=Ar (s.length+1) (s.drop i);unfold BW;generalize eY (s.length+1) (s.drop i)=g at*;obtain⟨n,ok⟩:=g;simp only[acL]at A9;simp only at A⊢;obtain⟨j,AA⟩:∃j,j=i+n:=⟨_,rfl⟩;have AB:j<=s.length:=by omega
  have AI:((i+n:Nat):Int)=(i:Int)+n:=by omega
  rw[<-AA]at A⊢;have I:=JA s j AB;generalize J:fq (s.take j)=p at*;obtain⟨l,c⟩:=p;rw[ai];cases ok with
  |false=>
   simp[J]at A;simp[f92,aj,A,here]
  |true=>
   simp only[Bool.true_eq_false,acF];cases U:s.drop j with
   |nil=>
    rw[U]at I;simp[J]at A I;have g1:(out.length+1)*48<=140737488355328/\out.length<=4611686018427387903:=by omega
    simp[f92,aj,A,I,here,g1]
   |cons a r=>
    rw[U]at I;have AJ:j+(r.length+1)=s.length:=by have:=ac8 List.length U;simp at this;omega
    have N:=Xu a r (by simp;omega) l c;have q:=Xw (c:=a) (r:=r);have AC:¬(a::r=[]):=by simp
    simp only[aah AC];generalize jN (a::r)=F at*;obtain⟨e,AD,m,x⟩:=F;simp only at N q⊢;simp[J]at A I;have g1:(out.length+1)*48<=140737488355328/\out.length<=4611686018427387903:=by omega
    by_cases he:e=0
    ·subst he;obtain⟨AK,AE⟩:=q rfl;simp only[ab1]at AE;have y:=xy s j m (by omega) (by omega);have ih:=λv4 v5 D E H=>JI s A6 f (j+m) (out++[⟨AD,(a::r).take m,x,l,c⟩]) v4 v5 D E H (by omega) (by omega) (by simp;omega);have A':min m (r.length+1)=m:=by omega
     have AL:((min m (r.length+1):Nat):Int)=m:=by rw[A']
     simp at N;simp[f92,J]at ih y⊢;simp[aj,A,I,N,g1,A',y,ih]
    ·simp at N;have AF:¬((e:Int)=0):=by omega
     simp[f92,aj,A,I,N,he,AF,here]
theorem abE(s:Tx):ah ctx 92 [.d (.str s)] []=some (.ret (.bM [.d (.list ((EA s).1.map pA)),.d (.int .i64 (EA s).2.1),.d (pA (EA s).2.2)]),[]):=by
 rw[ajv (by simp)];unfold EA;by_cases h:16384<s.length
 ·have V:(16384:Int)<s.length:=by omega
  simp[f92,aj,h,V]
 ·have V:¬((16384:Int)<s.length):=by omega
  have O:=λv4 v5 D E H=>JI s (by omega) (s.length+1) 0 [] v4 v5 D E H (by omega) (by omega) (by simp);rw[aah h];generalize BW s (s.length+1) 0 []=L at*;have J:fq []=(1,1):=rfl;simp[f92,J]at O;simp[f92,aj,h,V];exact O _ _ _ _ _
end Go.Am
end
section
namespace Go.Am
open Go Go.Proofs
variable [Inhabited bA]
def Gc(p q:Int×Int):Prop:=p.1<q.1\/(p.1=q.1/\p.2<q.2)
theorem JL(p:Int×Int)(c:UInt8):Gc p (jq p c):=by
 unfold Gc jq;split
 ·left;simp only;omega
 ·right;simp only;exact⟨trivial,by omega⟩
theorem U9{p q r:Int×Int}(h:Gc p q)(k:Gc q r):Gc p r:=by
 unfold Gc at*;omega
theorem Oi{s:Tx}:∀(d i:Nat),i+d+1<=s.length->Gc (fq (s.take i)) (fq (s.take (i+d+1)))
 |0,i,h=>by
  rw[zz (show i+0<s.length by omega)];exact JL _ _
 |d+1,i,h=>by
  have:=Oi (s:=s) d i (by omega);rw[zz (show i+(d+1)<s.length by omega)];exact U9 this (JL _ _)
theorem Oj{s:Tx}{i j:Nat}(h:i<j)(M:j<=s.length):¬((fq (s.take j)).1=(fq (s.take i)).1/\(fq (s.take j)).2=(fq (s.take i)).2):=by
 have:=Oi (s:=s) (j-i-1) i (by omega);rw[show i+(j-i-1)+1=j by omega]at this;unfold Gc at this;omega
inductive Laid(s:Tx):Nat->List eJ->Prop
 |fin (i:Nat) (h:i<=s.length):Laid s i [here (fq (s.take s.length))]
 |sign (i j m:Nat) (k n:Int) (r:List eJ) (I:i<=j) (A:j+m<=s.length) (D:1<=m) (h:Laid s (j+m) r):
  Laid s i (⟨k,(s.drop j).take m,n,(fq (s.take j)).1,(fq (s.take j)).2⟩::r)
theorem Laid.weaken{s:Tx}{i E:Nat}{r:List eJ}(h:Laid s i r)(hi:E<=i):Laid s E r:=by
 cases h with
 |fin _ h=>exact .fin E (by omega)
 |sign _ j m k n r I A D h=>exact .sign E j m k n r (by omega) A D h
theorem Laid.step{s:Tx}{i:Nat}{t:eJ}{r:List eJ}(h:Laid s i (t::r))(hi:i<=s.length):
 (¬(t.line=(fq (s.take i)).1/\t.Dl=(fq (s.take i)).2)/\i<s.length/\Laid s (i+1) (t::r))\/
 ((t.line=(fq (s.take i)).1/\t.Dl=(fq (s.take i)).2)/\t.text.length<=s.length-i/\(s.drop i).take t.text.length=t.text/\((i<s.length/\Laid s (i+1) r)\/(i=s.length/\r=[]))):=by
 cases h with
 |fin _ h=>
  by_cases he:i=s.length
  ·subst he;right;simp[here]
  ·left;have H:i<s.length:=by omega
   exact⟨Oj H (aai _),H,.fin _ (by omega)⟩
 |sign _ j m k n r I A D h=>
  by_cases he:i=j
  ·subst he;right;have J:((s.drop i).take m).length=m:=by simp;omega
   refine⟨⟨rfl,rfl⟩,?_,?_,.inl ⟨by omega,h.weaken (by omega)⟩⟩
   ·simp only[J];omega
   ·simp only[J]
  ·left;have H:i<j:=by omega
   exact⟨Oj H (by omega),by omega,.sign _ j m k n r (by omega) A D h⟩
end Go.Am
end
section
namespace Go.Am
open Go Go.Proofs Go.Proofs.Tryz
variable [Inhabited bA]
set_option maxRecDepth 100000
theorem abF(x y A E H I J M:D)(ag:List D):wW ctx 93 [.ptr 0 0 0,.ptr 1 0 0,.ptr 2 0 0,.lit .nilIface] [.box [.d x,.vec 3 0 0 ag.length,.d y],.box [.d A],.box [.d E,.d H,.d I,.d J,.d M],.vec 8 ag]=
 some (.ret (.bM []),[(0,.box [.d x,.vec 3 1 0 ag.length,.d y]),(0,.box [.d A]),(0,.box [.d E,.d H,.d I,.d J,.d M]),(1,.vec 8 ag)]):=by
 rw[ajw (by rfl) (by rfl) (by simp)];simp[f93];erw[zy rfl];simp
theorem Va{U:Tx}{N:List eJ}{a:Tx}{R c:List D}{n m:Int}(Z:EA U=(N,0,⟨0,[],0,0,0⟩))
 (V:ah ctx 94 [.ptr 0 0 0] [.box [.d (.list (N.map pA)),.d (.int .i64 0),.d (.int .i64 0),.vec 1 0 0 0],.vec 8 []]=
  some (.ret (.agg [.d (.str a),.vec 1 1 0 R.length,.d (.list c)]),[(0,.box [.d (.list (N.map pA)),.d (.int .i64 n),.d (.int .i64 m),.vec 1 1 0 R.length]),(1,.vec 8 R)])):
 ah ctx 57 [.d (.str U)] []=some (.ret (.bM [.d (.agg [.str a,.list R,.list c]),.d (.int .i64 0),.d (.agg [.int .i64 0,.str [],.int .i64 0,.int .i64 0,.int .i64 0])]),[]):=by
 have O:=abE U;rw[Z]at O;have Y:=λx y A E H I J M=>abF x y A E H I J M R;simp only at O;generalize N.map pA=T at*;have q:List.take R.length R=R:=List.take_length;rw[ajn (by simp)];simp at O Y V;simp[f57,lO,nK,gA,CY,O,aj,V,Y,q]
def Vb:Tx:=[80,82,79,71,82,65,77,32,112,32,86,65,82,32,97,32,58,32,73,78,84,59,32,69,78,68,95,86,65,82,32,97,32,58,61,32,55,59,32,97,32,58,61,32,97,32,47,32,48,59,32,69,78,68,95,80,82,79,71,82,65,77]
def JM:List eJ:=[⟨2,[80,82,79,71,82,65,77],0,1,1⟩,⟨1,[112],0,1,9⟩,⟨2,[86,65,82],0,1,11⟩,⟨1,[97],0,1,15⟩,⟨4,[58],0,1,17⟩,⟨2,[73,78,84],0,1,19⟩,⟨4,[59],0,1,22⟩,⟨2,[69,78,68,95,86,65,82],0,1,24⟩,
 ⟨1,[97],0,1,32⟩,⟨4,[58,61],0,1,34⟩,⟨3,[55],7,1,37⟩,⟨4,[59],0,1,38⟩,⟨1,[97],0,1,40⟩,⟨4,[58,61],0,1,42⟩,⟨1,[97],0,1,45⟩,⟨4,[47],0,1,47⟩,⟨3,[48],0,1,49⟩,⟨4,[59],0,1,50⟩,⟨2,[69,78,68,95,80,82,79,71,82,65,77],0,1,52⟩,⟨0,[],0,1,63⟩]
theorem Rf:EA Vb=(JM,0,⟨0,[],0,0,0⟩):=by kernel_rfl
def uX:Pg:=⟨[112],[⟨[97],1,0,false,0,0,0,1⟩],[.mk 1 [] (.mk 3 0 [97] [] [] 1) (.mk 1 7 [] [] [] 1) [] [] [] [] 1,.mk 1 [] (.mk 3 0 [97] [] [] 1) (.mk 11 0 [] [] [.mk 3 0 [97] [] [] 1,.mk 1 0 [] [] [] 1] 1) [] [] [] [] 1]⟩
theorem Vc:ah ctx 94 [.ptr 0 0 0] [.box [.d (.list (JM.map pA)),.d (.int .i64 0),.d (.int .i64 0),.vec 1 0 0 0],.vec 8 []]=
 some (.ret (.agg [.d (.str uX.name),.vec 1 1 0 (uX.vars.map bn).length,.d (.list (uX.body.map cw))]),[(0,.box [.d (.list (JM.map pA)),.d (.int .i64 19),.d (.int .i64 0),.vec 1 1 0 (uX.vars.map bn).length]),(1,.vec 8 (uX.vars.map bn))]):=bk 300 (by kernel_rfl)
theorem abG:th uX:=⟨by kernel_rfl,by kernel_rfl,by kernel_rfl,by decide+kernel⟩
theorem Xx:runM uX [0] 9=([7],1,7):=by kernel_rfl
theorem ag7:ah ctx 27 [] []=some (.ret (.d (.bool true)),[]):=by
 have D:=Va Rf Vc;have A:=AE abG [0] 9 (by decide) (by simp[aG]);rw[Xx]at A;simp only[oC]at A;generalize uX.name=a at*;generalize uX.body.map cw=c at*;generalize uX.vars.map bn=R at*;rw[ai9 (by simp)];simp[Vb]at D;simp[mrD]at A;simp[f27,D,A]
end Go.Am
end
section
namespace Go.Am
open Go Go.Proofs
variable [Inhabited bA]
set_option maxRecDepth 20000
set_option maxHeartbeats 1600000
theorem zU{p:Pg}(h:th p){C:List Int}(J:eD p C)(f:Nat):eD p (gi p C f).1/\(gi p C f).2.2<=f:=by
 have A:=h.fit;simp only[mG,Ds,aam,aaH]at A;obtain⟨_,M,I,D⟩:=A;obtain⟨N,O,V⟩:=xo (p:=p) (by have:=h.lw;simp only[oC]at this;omega);have E:=h.U2;unfold lY at E;have T:=(U0 (p:=p) (by omega) I (lp:=false) N D h.lit O (ee.1 E).2).2 ⟨C,f⟩ J;unfold gi;generalize b8 p.vars p.body ⟨C,f⟩=q at*;obtain⟨w,s⟩:=q;cases w<;>exact T
theorem JN{p:Pg}(h:th p){C:List Int}(U:(C.length:Int)=dX p.vars)(H:∀c∈C,aG c):eD p C:=by
 have A:=h.fit;simp only[mG,Ds,aam,aaH]at A;obtain⟨_,M,I,D⟩:=A;have E:=h.U2;unfold lY at E;have:=zS p.vars [] 0 (by omega) (ee.1 E).1;exact⟨U,by omega,H⟩
theorem JO{p:Pg}(h:th p){C:List Int}(H:∀c∈C,aG c)(f:Int):(runM p C f).1.length=C.length:=by
 unfold runM;split
 ·rfl
 ·rename_i D;simp only[akD,Int.not_lt,Classical.not_not]at D;have:=(zU h (JN h D.1.1 H) f.toNat).1.len;show (gi p C f.toNat).1.length=C.length;omega
end Go.Am
end
section
namespace Go.Am
open Go Go.Proofs Go.Proofs.Tryz
variable [Inhabited bA]
set_option maxRecDepth 20000
set_option maxHeartbeats 1600000
def zV(l:List Sm):Prop:=ah ctx 29 [.d (.list (l.map cw))] []=some (.ret (.d (.bool (oF l))),[])
theorem aki(x:Sm):UG x=(decide (a6 x=8)||oE (aO x)):=by
 obtain⟨op,name,to,val,Ag,Ah,fields,AT,line⟩:=x;simp only[UG,a6,aO]<;>rfl
theorem JP{l:List Sm}{i:Nat}{x:Sm}(hi:i<l.length)(AG:l[i]=x)(AK:(aO x).length<100000000)(k:Kt)(Q:Bool->bW->Prop)
 (A:∀Y:Env,Q false (k (.exit 2) ⟨36,aA,(0,true,.d (.list (l.map cw)))::(3,true,.d (.int .i64 i))::Y,[]⟩))
 (H:Q true (k .ret ⟨36,aA,[(2,true,.d (.bool true))],[]⟩)):∀(rest pre:List (List Sm)),aO x=pre++rest->(∀b∈rest,zV b)->
 Q (oE rest) (aI ctx 29 (.loop (Code.at (bm f29) [1,0,1,0,0,1,0,0,1,1,0,0])) ⟨36,aA,[(0,true,.d (.list (l.map cw))),(3,true,.d (.int .i64 i)),(4,true,.d (.int .i64 pre.length))],[]⟩ k)
 |[],pre,I,U=>by
  have AL:pre.length=(aO x).length:=by rw[I];simp
  have A:=A [(4,true,.d (.int .i64 pre.length)),(24,true,.d (.bool false))];try simp at A
  rw[ai];simp[f29,oE];simp[hi,AG,b6 x,AL]at A⊢;simp[A]
 |b::rest,pre,I,U=>by
  have A6:pre.length<(aO x).length:=by rw[I];simp
  have A7:(aO x)[pre.length]=b:=by simp[I]
  have J:=U b (by simp);unfold zV at J;have ih:=JP hi AG AK k Q A H rest (pre++[b]) (by simp[I]) (λy AM=>U y (by simp[AM]));have A8:IntKind.i64.wrap ((pre.length:Int)+1)=(pre.length:Int)+1:=aE (by unfold aG;omega);rw[ai];simp only[oE];generalize oE rest=q at*;cases D:oF b with
  |true=>
   rw[D]at J;simp[f29]at J⊢;simp[hi,AG,b6 x,A6,A7,nL,J,A8];exact H
  |false=>
   rw[D]at J;simp[f29]at ih J⊢;simp[hi,AG,b6 x,A6,A7,nL,J,A8]at ih⊢;exact ih
theorem JQ{l:List Sm}(AN:l.length<100000000)(k:Kt)(Q:Bool->bW->Prop)
 (A:∀Y:Env,Q false (k (.exit 0) ⟨36,aA,Y,[]⟩)) (H:Q true (k .ret ⟨36,aA,[(2,true,.d (.bool true))],[]⟩)):∀(rest pre:List Sm),l=pre++rest->(∀x∈rest,(aO x).length<100000000/\∀b∈aO x,zV b)->
 Q (oF rest) (aI ctx 29 (.loop (Code.at (bm f29) [1,0,1,0,0])) ⟨36,aA,[(0,true,.d (.list (l.map cw))),(3,true,.d (.int .i64 pre.length))],[]⟩ k)
 |[],pre,I,U=>by
  have AL:pre.length=l.length:=by rw[I];simp
  rw[AL,ai];simp[f29,oF,A]
 |x::rest,pre,I,U=>by
  have A6:pre.length<l.length:=by rw[I];simp
  have A7:l[pre.length]=x:=by simp[I]
  obtain⟨AK,Ai⟩:=U x (by simp);have e:=aki x;have ih:=JQ AN k Q A H rest (pre++[x]) (by simp[I]) (λy AM=>U y (by simp[AM]));have A8:IntKind.i64.wrap ((pre.length:Int)+1)=(pre.length:Int)+1:=aE (by unfold aG;omega);have AU:=λk Q A H=>JP (i:=pre.length) A6 A7 AK k Q A H (aO x) [] rfl Ai;rw[ai];simp only[oF,e];generalize oF rest=q at*;by_cases AV:a6 x=8
  ·simp[f29,A6,A7,b6 x,AV,A8,aj];exact H
  ·generalize oE (aO x)=u at*;simp[f29]at ih AU⊢;simp[A6,A7,b6 x,AV,A8,aj];refine AU _ (λb r=>b=u->Q (u||q) r) (λY hu=>?_) (λhu=>?_) rfl
   ·rw[<-hu];simp[A8];exact ih
   ·rw[<-hu];simp;exact H
theorem zW{l:List Sm}(AN:l.length<100000000)(U:∀x∈l,(aO x).length<100000000/\∀b∈aO x,zV b):zV l:=by
 have AW:=λk Q A H=>JQ AN k Q A H l [] rfl U;unfold zV;rw[aja (by simp)];generalize oF l=q at*;simp[f29]at AW⊢;refine AW _ (λb r=>b=q->r=some (.ret (.d (.bool q)),[])) (λY AO=>?_) (λAO=>?_) rfl
 ·rw[<-AO];simp
 ·rw[<-AO];simp
mutual
theorem akj:∀x:Sm,Bb x->(aO x).length<100000000/\∀b∈aO x,zV b
 | .mk op name to val Ag Ah fields AT line,E=>by
  simp only[Bb]at E;exact⟨E.1.2.2.2.2.2,Vd AT E.2⟩
theorem JR:∀l:List Sm,ke l->∀x∈l,(aO x).length<100000000/\∀b∈aO x,zV b
 |[],_,x,A=>absurd A (acX)
 |y::r,E,x,A=>by
  simp only[ke]at E;rcases aan.1 A with AH|A
  ·rw[AH];exact akj y E.1
  ·exact JR r E.2 x A
theorem Vd:∀l:List (List Sm),nw l->∀b∈l,zV b
 |[],_,b,D=>absurd D (acX)
 |y::r,E,b,D=>by
  simp only[nw]at E;rcases aan.1 D with AH|D
  ·rw[AH];exact zW E.1.1 (JR y E.1.2)
  ·exact Vd r E.2 b D
end
theorem DX:∀a b:List Sm,ej (a++b)=true->ej b=true
 |[],b,h=>h
 |x::a,b,h=>by
  simp only[afK,ej,Ds]at h;exact DX a b h.2
theorem Gd:∀a b:List Sm,iT (a++b)=true->iT a=true/\iT b=true
 |[],b,h=>⟨rfl,h⟩
 |x::a,b,h=>by
  simp only[afK,iT,Ds]at h⊢;have:=Gd a b h.2;exact⟨⟨h.1,this.1⟩,this.2⟩
theorem Ge{vs:List Vr}{lp:Bool}:∀a b:List Sm,(dW vs lp (a++b)).1=0->(dW vs lp b).1=0
 |[],b,h=>h
 |x::a,b,h=>by
  simp only[afK,dW]at h;exact Ge a b (ee.1 h).2
theorem th.parts{p:Pg}(h:th p){a b:List Sm}(A':p.body=a++b):th ⟨p.name,p.vars,a⟩/\th ⟨p.name,p.vars,b⟩:=by
 have M:=h.fit;have AI:=h.lit;have AX:=h.U2;have hw:=h.lw;simp only[mG,Ds]at M;unfold lY at AX;obtain⟨AY,A2⟩:=ee.1 AX;rw[A']at M AI A2;simp only[oC,hZ,dP,A',List.map_append,xl]at hw;have AZ:=Gd a b AI;refine⟨⟨?_,AZ.1,ee.2 ⟨AY,B6 a b A2⟩,?_⟩,⟨?_,AZ.2,ee.2 ⟨AY,Ge a b A2⟩,?_⟩⟩
 ·simp only[mG,Ds];exact⟨M.1,M.2.1,M.2.2.1,zM a b M.2.2.2⟩
 ·simp only[oC,hZ,dP];omega
 ·simp only[mG,Ds];exact⟨M.1,M.2.1,M.2.2.1,DX a b M.2.2.2⟩
 ·simp only[oC,hZ,dP];omega
theorem Rg{p:Pg}(h:th p){a b:List Sm}(A':p.body=a++b)(H:oF a=false)(C:List Int)(f:Int)(AH:0<=f)(Aj:f<=16384)(V:∀c∈C,aG c):
 if (runM ⟨p.name,p.vars,a⟩ C f).2.1≠0\/(runM ⟨p.name,p.vars,a⟩ C f).2.2<0 then runM p C f=runM ⟨p.name,p.vars,a⟩ C f
 else runM p C f=runM ⟨p.name,p.vars,b⟩ (runM ⟨p.name,p.vars,a⟩ C f).1 (runM ⟨p.name,p.vars,a⟩ C f).2.2:=by
 obtain⟨A3,D⟩:=h.parts A';obtain⟨n,rfl⟩:∃n:Nat,f=n:=⟨f.toNat,by omega⟩;by_cases A_:(C.length:Int)=dX p.vars
 ·have e:∀l:List Sm,runM ⟨p.name,p.vars,l⟩ C n=((gi ⟨p.name,p.vars,l⟩ C n).1,(gi ⟨p.name,p.vars,l⟩ C n).2.1,(((gi ⟨p.name,p.vars,l⟩ C n).2.2:Nat):Int)):=λl=>by
   unfold runM;rw[aah (by simp only;omega)];simp
  have Aa:=e p.body;have Ak:=e a;have N:=Q1 h.fit h.U2 A' H C n;have J:=zU A3 (JN A3 A_ V) n;rw[show (⟨p.name,p.vars,p.body⟩:Pg)=p from rfl]at Aa;rw[Aa,Ak];generalize gi ⟨p.name,p.vars,a⟩ C n=q at*;obtain⟨c,u,g⟩:=q;simp only at N J⊢;by_cases hu:u=0
  ·subst hu;simp only[ne_eq,not_true_eq_false,acF,false_or]at N⊢;rw[aah (by omega),N];unfold runM;rw[aah (by have:=J.1.len;simp only at this⊢;omega)];simp
  ·rw[aap hu]at N;rw[aap (.inl hu),N]
 ·have e:∀l:List Sm,runM ⟨p.name,p.vars,l⟩ C n=(C,0, -1):=λl=>by
   unfold runM;rw[aap (.inl (.inl A_))]
  rw[e a,aap (.inr (by simp)),<-e p.body]
theorem Gp{p:Pg}(C:List Int)(AC fuel:Int)(AI:iT p.body=true)(hw:hZ (oC p)<10000000)(V:∀x∈C,aG x):
 ah ctx 8 [.d (oC p),.d (.int .i64 AC),.d (.list (C.map jD)),.d (.int .i64 fuel)] []=some (.ret (.d (.bool true)),[]):=by
 obtain⟨b,D,Al⟩:=Xo AI hw;obtain⟨Aj,An,Ar⟩:=xo (p:=p) (by simp only[oC]at hw;omega);have O:=ag7;rw[apF (by simp)];try simp at D
 cases b with
 |false=>simp[f8,O,D]
 |true=>
 have h:=Al rfl;by_cases Ab:C.length<=2000;rotate_left
 ·have g2:(2000:Int)<(C.length:Int):=by omega
  simp[f8,O,D,g2]
 have g2:¬(2000:Int)<(C.length:Int):=by omega
 by_cases A0:fuel<0
 ·simp[f8,O,D,g2,A0]
 by_cases A4:3000<fuel
 ·simp[f8,O,D,g2,A0,A4]
 by_cases A9:AC<0
 ·simp[f8,O,D,g2,A0,A4,A9]
 by_cases AD:(p.body.length:Int)<AC
 ·simp[f8,O,D,g2,A0,A4,A9,AD]
 obtain⟨n,rfl⟩:∃n:Nat,AC=n:=⟨AC.toNat,by omega⟩;have E:n<=p.body.length:=by omega
 have A':p.body=p.body.take n++p.body.drop n:=(akA n p.body).symm;have T:zV (p.body.take n):=zW (by simp;omega) (λx A=>JR p.body An x (acf A));unfold zV at T;have AP:(p.body.take n).map cw=(p.body.map cw).take n:=List.map_take;have Ao:(p.body.drop n).map cw=(p.body.map cw).drop n:=List.map_drop;have AJ:∀a:Sm,(cw a).size=19:=λa=>by rw[b6];rfl
 cases AQ:oF (p.body.take n)with
 |true=>
  rw[AQ,AP]at T;try simp at T
  simp[f8,O,D,g2,A0,A4,A9,AD,E,AJ,T]
 |false=>
  obtain⟨A3,Ap⟩:=h.parts A';have N:=Rg h A' AQ C fuel (by omega) (by omega) V;have Z:=AE h C fuel Ab V;have AA:=AE A3 C fuel Ab V;have AR:=JO h V fuel;have As:=JO A3 V fuel;have Aq:∀c∈(runM ⟨p.name,p.vars,p.body.take n⟩ C fuel).1,aG c:=by
   unfold runM;split
   ·exact V
   ·rename_i Ac;simp only[akD,Int.not_lt,Classical.not_not]at Ac;exact (zU A3 (JN A3 Ac.1.1 V) _).1.num
  have AB:=λf=>AE Ap (runM ⟨p.name,p.vars,p.body.take n⟩ C fuel).1 f (by omega) Aq;rw[AQ,AP]at T;simp only[oC,AP,Ao]at Z AA AB;generalize runM ⟨p.name,p.vars,p.body.take n⟩ C fuel=q2 at*;obtain⟨A2,AF,A5⟩:=q2;try dsimp only at*
  by_cases Ad:AF≠0\/A5<0
  ·rw[aap Ad]at N;rw[N]at Z;have A1:=DU A2 A2 AF AF A5 A5 (by omega);simp[mrD]at Z AA T A1;by_cases he:AF=0
   ·have AS:A5<0:=by omega
    simp[f8,O,D,g2,A0,A4,A9,AD,E,AJ,T,Z,AA,he,AS,A1,aj];try simp[he]at A1
    try simp[A1]
   ·simp[f8,O,D,g2,A0,A4,A9,AD,E,AJ,T,Z,AA,he,A1,aj]
  ·rw[aah Ad]at N;have AB:=AB A5;rw[N]at Z AR;try dsimp only at Z AB AR
   generalize runM ⟨p.name,p.vars,p.body.drop n⟩ A2 A5=q3 at*;obtain⟨Ae,Af,g3⟩:=q3;have A1:=DU Ae Ae Af Af g3 g3 (by first|omega|(dsimp only at AR;omega));have he:AF=0:=by omega
   have AS:¬A5<0:=by omega
   subst he;simp[mrD]at Z AA AB T A1;simp[f8,O,D,g2,A0,A4,A9,AD,E,AJ,T,Z,AA,AB,AS,A1,aj]
end Go.Am
end
section
namespace Go.Am
open Go
set_option maxRecDepth 20000
def aqM:Nat->Nat
 |99=>207
 |143=>209
 |206=>253
 |217=>254
 |219=>255
 |224=>285
 |225=>284
 |266=>283
 |267=>286
 |314=>307
 |_=>0
def aqN:Nat->Nat
 |3=>3
 |4=>4
 |5=>5
 |9=>9
 |46=>327
 |51=>285
 |146=>338
 |_=>0
def aqO:Nat->Nat
 |1=>2
 |_=>0
def rho:Go.Shelf.Ren:=⟨aqM,aqN,aqO⟩
theorem abH:Go.Proofs.Lays.n143 Go.Proofs.Tryz.prog rho where
 mixed:=by kernel_rfl
 f143:=by kernel_rfl
 f217:=by kernel_rfl
 f219:=by kernel_rfl
 f224:=by kernel_rfl
 f225:=by kernel_rfl
 f266:=by kernel_rfl
 f267:=by kernel_rfl
 f314:=by kernel_rfl
 t3:=by kernel_rfl
 a3:=by intro w;kernel_rfl
 z3:=by intro w;kernel_rfl
 v3:=by intro w;kernel_rfl
 t4:=by kernel_rfl
 a4:=by intro w;kernel_rfl
 z4:=by intro w;kernel_rfl
 v4:=by intro w;kernel_rfl
 t5:=by kernel_rfl
 a5:=by intro w;kernel_rfl
 z5:=by intro w;kernel_rfl
 v5:=by intro w;kernel_rfl
 t9:=by kernel_rfl
 a9:=by intro w;kernel_rfl
 z9:=by intro w;kernel_rfl
 v9:=by intro w;kernel_rfl
 t46:=by kernel_rfl
 a46:=by intro w;kernel_rfl
 z46:=by intro w;kernel_rfl
 v46:=by intro w;kernel_rfl
 t51:=by kernel_rfl
 a51:=by intro w;kernel_rfl
 z51:=by intro w;kernel_rfl
 v51:=by intro w;kernel_rfl
 t146:=by kernel_rfl
 a146:=by intro w;kernel_rfl
 z146:=by intro w;kernel_rfl
 v146:=by intro w;kernel_rfl
 g1:=by kernel_rfl
theorem abI:Go.Proofs.Lays.n217 Go.Proofs.Tryz.prog rho where
 mixed:=by kernel_rfl
 f217:=by kernel_rfl
 f266:=by kernel_rfl
 t3:=by kernel_rfl
 a3:=by intro w;kernel_rfl
 z3:=by intro w;kernel_rfl
 v3:=by intro w;kernel_rfl
 t5:=by kernel_rfl
 a5:=by intro w;kernel_rfl
 z5:=by intro w;kernel_rfl
 v5:=by intro w;kernel_rfl
 t9:=by kernel_rfl
 a9:=by intro w;kernel_rfl
 z9:=by intro w;kernel_rfl
 v9:=by intro w;kernel_rfl
theorem ag9:Go.Proofs.Lays.n99 Go.Proofs.Tryz.prog rho where
 mixed:=by kernel_rfl
 f99:=by kernel_rfl
 f206:=by kernel_rfl
 t3:=by kernel_rfl
 a3:=by intro w;kernel_rfl
 z3:=by intro w;kernel_rfl
 v3:=by intro w;kernel_rfl
 t4:=by kernel_rfl
 a4:=by intro w;kernel_rfl
 z4:=by intro w;kernel_rfl
 v4:=by intro w;kernel_rfl
 t9:=by kernel_rfl
 a9:=by intro w;kernel_rfl
 z9:=by intro w;kernel_rfl
 v9:=by intro w;kernel_rfl
end Go.Am
end
section
namespace Go.Am
open Go Go.Proofs
variable [Inhabited bA]
set_option maxRecDepth 20000
theorem uY{P:Program}{g:FuncId}{fn:Func}(U:P.funcs[g]?=some fn)(V:fn.body.isSome=true)(Y:(fn.name == "runtime.NumGoroutine")=false):ga P g=true:=by
 unfold ga;rw[U];simp only[V,Y];rfl
theorem vM{w F s v}(h:aJ w F (.str s) v):∃b:ByteArray,v=.string b/\b.data.toList=s:=by
 cases h with
 |str b s h=>exact⟨b,rfl,h⟩
theorem Ok{w F k n v}(h:aJ w F (.int k n) v):v=.int k n:=by cases h;rfl
theorem Cc{N:List D}{a b:D}{w F}{vs:Array Value}(A:N=[a,b])(I:N.length=vs.size)(E:∀(i:Nat) x v,N[i]?=some x->vs[i]?=some v->aJ w F x v):
 ∃x y,vs=#[x,y]/\aJ w F a x/\aJ w F b y:=by
 subst A;obtain⟨l⟩:=vs;match l,I with
 |[x,y],_=>exact⟨x,y,rfl,E 0 a x rfl rfl,E 1 b y rfl rfl⟩
theorem abJ{w:World}{F}(J:eh w F aA):∃m,w.cell? ⟨2,0,none⟩=some (.int .i64 m):=by
 obtain⟨_,_,q,H,M⟩:=J (2,.int .i64 (id (α:=Int) (default:bA))) (by simp[aA]);generalize id (α:=Int) (default:bA)=z at H;obtain rfl:=Ok H;exact⟨z,M 0 _ (by simp[Value.cells])⟩
theorem akk:pV ctx 207 (ng To):=by
 refine pV.lift ⟨uY Tryz.func207 (by kernel_rfl) (by kernel_rfl),λN d A F w vs J T I E=>?_⟩;unfold To at A;split at A
 ·rename_i s p;obtain⟨x,y,rfl,H,M⟩:=Cc rfl I E;obtain⟨a,rfl,rfl⟩:=vM H;obtain⟨b,rfl,rfl⟩:=vM M;refine (Any.strings_HasPrefix ag9 a b w).mono ?_;rintro e w' ⟨rfl,rfl⟩;cases A;exact⟨_,rfl,Go.RowKit.Below.refl _ _,.bool _⟩
 ·cases A
theorem akl:pV ctx 254 (ng Tn):=by
 refine pV.lift ⟨uY Tryz.func254 (by kernel_rfl) (by kernel_rfl),λN d A F w vs J T I E=>?_⟩;unfold Tn at A;split at A
 ·rename_i s p;obtain⟨x,y,rfl,H,M⟩:=Cc rfl I E;obtain⟨a,rfl,rfl⟩:=vM H;obtain rfl:=Ok M;refine (Any.stringslite_IndexByte abI a _ w).mono ?_;rintro e w' ⟨rfl,rfl⟩;cases A;exact⟨_,rfl,Go.RowKit.Below.refl _ _,.int _ _⟩
 ·cases A
theorem aha:pV ctx 209 (ng Iz):=by
 refine pV.lift ⟨uY Tryz.func209 (by kernel_rfl) (by kernel_rfl),λN d A F w vs J T I E=>?_⟩;unfold Iz at A;split at A
 ·rename_i s p;split at A
  ·rename_i Z;obtain⟨x,y,rfl,H,M⟩:=Cc rfl I E;obtain⟨a,rfl,rfl⟩:=vM H;obtain⟨b,rfl,rfl⟩:=vM M;obtain⟨m,hm⟩:=abJ J;refine (Any.strings_Index abH a b m w (by simpa using Z) hm).mono ?_;rintro e w' ⟨rfl,rfl⟩;cases A;exact⟨_,rfl,Go.RowKit.Below.refl _ _,.int _ _⟩
  ·cases A
 ·cases A
theorem abK:∀g h,ctx.vj g=some h->pV ctx g h:=by
 intro g h J;have O:WK g=some h:=J;unfold WK at O;split at O;all_goals first|(cases O;first|exact akk|exact akl|exact aha)|cases O
end Go.Am
end
section
namespace Go.Am
open Go
theorem JT{P:Program}{w:World}{n:String}{d:DataW Unit}:∀{l:List (String×DataW Unit)}{ps:List MemPlace},DataW.LaidVars P w l ps->(n,d)∈l->
 ∃g t cs fuel p,P.globalNamed n=some g/\(P.globals[g]?).map (·.type)=some t/\w.var? P n=some cs/\DataW.trod (λ_=>()) P w 0 (λ_=>true) false fuel t cs.toList=some (d,p)
 |[],_,_,hm=>by simp at hm
 |(AC,AD)::r,ps,⟨g,t,cs,fuel,p,q,O,J,A,M,N,_⟩,hm=>by
  rcases aan.1 hm with hm|hm
  ·cases hm;exact⟨g,t,cs,fuel,p,O,J,A,M⟩
  ·exact JT N hm
theorem Ve{H:Type}{enc:TypeId×Value->H}{P:Program}{w:World}{base:Nat}{sp:Nat->Bool}{held:Bool}{fuel:Nat}{t e:TypeId}{n:Nat}{k:IntKind}{cs:List Value}{U:List (DataW H)}{p:List MemPlace}
 (V:P.underlying t=some (.array n e)) (he:P.underlying e=some (.int k)) (Y:P.cellsOf e=1) (h:DataW.trod enc P w base sp held fuel t cs=some (.agg U,p)):
 cs.length=P.cellsOf t/\U.length=n/\∀i,i<n->∃z,cs[i]?=some (.int k z)/\U[i]?=some (.lit (.int k z)):=by
 cases fuel with
 |zero=>simp[DataW.trod]at h
 |succ m=>
  unfold DataW.trod at h;rw[V]at h;simp only at h;split at h
  ·rename_i Z;simp only[aak,ab3,DataW.agg.injEq]at h;obtain⟨xs,A0,rfl,_⟩:=h;have O:xs.length=n:=by simpa using mapM_some_length A0
   refine⟨Z,by simpa using O,λi hi=>?_⟩;have J:=mapM_some_get A0 i i (by simp[hi]);have A:i<xs.length:=by omega
   have M:xs[i]?=some xs[i]:=by simp[A]
   rw[M,Y]at J;obtain⟨z,N,y,_⟩:=DataW.trod_int he J;refine⟨z,?_,by simp[M,y]⟩;have T:=ac8 (·[0]?) N;simpa [aaz,acq]using T
  ·cases h
theorem JU{P:Program}{W:World}{l:List (String×DataW Unit)}{name:String}{g:Nat}{t e:TypeId}{n:Nat}{k:IntKind}{zs:List Int}
 (Z:laidMet P l W) (hm:(name,DataW.agg (zs.map λz=>.lit (.int k z)))∈l) (A':P.globalNamed name=some g) (A7:(P.globals[g]?).map (·.type)=some t)
 (V:P.underlying t=some (.array n e)) (he:P.underlying e=some (.int k)) (Y:P.cellsOf e=1) (AE:0<n) (A8:P.cellsOf t=n):
 (g<W.heap.size/\∀cs,D.agg (zs.map λz=>.int k z)=.agg cs->∃cur e A1,W.heap[g]?=some (.cells cur e A1)/\cur.size=cs.length)/\∃A2,aJ W (λ_=>False) (.agg (zs.map λz=>.int k z)) A2/\∀(i:Nat)(c:Value),A2.cells[i]?=some c->W.cell? ⟨g,i,none⟩=some c:=by
 obtain⟨ps,I,_⟩:=Z;obtain⟨AF,AG,cs,fuel,p,O,J,A,M⟩:=JT I hm;obtain rfl:=Option.some.inj (A'.symm.trans O);obtain rfl:=Option.some.inj (A7.symm.trans J);obtain⟨A3,N,y⟩:=Ve V he Y M;rw[A8]at A3;simp at N;have T:∀i z,zs[i]?=some z->W.cell? ⟨g,i,none⟩=some (.int k z):=by
  intro i z E;have hi:i<n:=by
   have:=(aaf.1 E).1;omega
  obtain⟨A9,AA,A4⟩:=y i hi;simp[E]at A4;subst A4;rw[World.var?_cell A' A i];simpa using AA
 refine⟨⟨?_,?_⟩,.agg (zs.map λz=>Value.int k z).toArray,?_,?_⟩
 ·have E:∃z,zs[0]?=some z:=⟨zs[0]'(by omega),by simp[show 0<zs.length by omega]⟩
  obtain⟨z,E⟩:=E;exact (BZ (T 0 z E)).1
 ·rintro AH AB;obtain rfl:=D.agg.inj AB;unfold World.var? at A;rw[A']at A;simp only[ac1]at A;split at A
  ·rename_i cur e' A1 hh;cases A;exact⟨_,_,_,hh,by simp at N A3⊢;omega⟩
  ·cases A
 ·refine aJ.nz (by simp) (λv I=>?_) (λi c v A5 I=>?_)
  ·simp at I;obtain⟨z,_,rfl⟩:=I;rfl
  ·simp only[acj,aak]at A5 I;obtain⟨z,E,rfl⟩:=A5;obtain⟨A9,A6,rfl⟩:=I;rw[E]at A6;cases A6;exact .int k z
 ·intro i c hi;simp[Value.cells]at hi;obtain⟨z,E,rfl⟩:=hi;exact T i z E
end Go.Am
end
section
namespace Go.Am
open Go
variable {H:Type} {enc:TypeId×Value->H}
theorem Rh{a:Assume}{C:Checked}{os:Os}{f:FuncId}{fn:Func}{s:OpenSpec}{k:(H:Type)->List (DataW H)->Bool}(I:s.cond=some k){A:List PathCond}{apart fresh handsOn again:Bool}{X:World->Array Value->Prop}{F:Stop.Interp}
 (J:∀(w w':World)(args:Array Value),w.heap=w'.heap->X w args->X w' args)
 (own:ownKnob C.prog.godebug=none) (started:os.Started) (q:C.prog.inits.idxOf? f=none) (y:C.prog.funcs[f]?=some fn)
 (witness:∃(w:World)(tape:Tape)(i:Input),w.os=os/\(w.forCall tape i).Shaped C.prog/\i.vars=[]/\Input.okWide C.prog (w.forCall tape i) .any w.heap.size f i/\
  ((s.pre enc C.prog fn A apart (w.forCall tape i).memory i.args/\X (w.forCall tape i).memory i.args)/\sizedMet enc C.prog fn s apart (w.forCall tape i).memory i.args)/\a.holds C.prog (lone (Frame.enter C.prog f i.args .normal) [] (w.forCall tape i)))
 (A':∀(W:World)(base:Nat)(args:Array Value)(N gs:List (DataW H))(before:List MemPlace),
  (∀(j:Nat) t v,fn.params[j]?=some t->args[j]?=some v->Value.okWide C.prog W .any base t v)->
  DataW.Whole enc C.prog fn.params.toList s.vars apart W args.toList N gs before->k H (N++gs)=true->X W args->W.ShapedOpen C.prog->
  Calls C.prog f args W λe Y=>∃v,e=.returned v/\(s.at F).post enc C.prog fn apart fresh handsOn again W args v Y):
 ReturnsInHanded a C os f .any (λw args=>(s.pre enc C.prog fn A apart w args/\X w args)/\sizedMet enc C.prog fn s apart w args) ((s.at F).post enc C.prog fn apart fresh handsOn again):=by
 refine returnsInHanded_of_calls own started q witness ?_;intro w tape i _ M _ E A0 _;obtain⟨_,_,_,A1,A2,_,_,_,_,A3⟩:=E;have e:A1=fn:=Option.some.inj (A2.symm.trans y);subst e;obtain⟨⟨O,D⟩,A6⟩:=A0;obtain⟨N,gs,before,hw,A7,T⟩:=(OpenSpec.pre_some I A apart _ _).1 O;have A4:=DataW.Whole.of_heap (w':=w.forCall tape i) (by rfl) hw;refine (A' (w.forCall tape i) w.heap.size i.args N gs before A3 A4 T (J _ _ _ (by rfl) D) M).mono λe Y ⟨v,he,O⟩=>?_;subst he;exact ChangeSpec.post_blind O
theorem DY{C:Checked}{os:Os}{f:FuncId}{fn:Func}{s:OpenSpec}{k:(H:Type)->List (DataW H)->Bool}(I:s.cond=some k){A:List PathCond}{apart:Bool}{X:World->Array Value->Prop}(modest:Bool)(w0:World)(args:Array Value)(fuel:Nat)(U:w0.os=os)
 (M:(w0.forCall (λ_ _=>0) ⟨#[],args,[]⟩).Shaped C.prog)
 (E:Input.okWideB C.prog (w0.forCall (λ_ _=>0) ⟨#[],args,[]⟩) f ⟨#[],args,[]⟩=true)
 {x:List (DataW H)×List (DataW H)×List MemPlace} (D:DataW.whole enc C.prog (w0.forCall (λ_ _=>0) ⟨#[],args,[]⟩).memory fn.params.toList s.vars apart args.toList fuel=some x)
 (A5:A.all (PathCond.test C.prog ⟨fn.params.toList,x.1,s.bare.plain.varTypes C.prog,x.2.1⟩)=true) (T:k H (x.1++x.2.1)=true)
 (V:s.bare.sizedB enc C.prog fn apart (w0.forCall (λ_ _=>0) ⟨#[],args,[]⟩).memory args fuel=true)
 (J:X (w0.forCall (λ_ _=>0) ⟨#[],args,[]⟩).memory args):
 ∃(w:World)(tape:Tape)(i:Input),w.os=os/\(w.forCall tape i).Shaped C.prog/\i.vars=[]/\Input.okWide C.prog (w.forCall tape i) .any w.heap.size f i/\
  ((s.pre enc C.prog fn A apart (w.forCall tape i).memory i.args/\X (w.forCall tape i).memory i.args)/\sizedMet enc C.prog fn s apart (w.forCall tape i).memory i.args)/\({modest:=modest}:Assume).holds C.prog (lone (Frame.enter C.prog f i.args .normal) [] (w.forCall tape i)):=
 ⟨w0,λ_ _=>0,⟨#[],args,[]⟩,U,M,(Input.okWide_of_okWideB (base:=0) E).1,(Input.okWide_of_okWideB E).2,
  ⟨⟨(OpenSpec.pre_some I A apart _ _).2 ⟨x.1,x.2.1,x.2.2,DataW.Whole_of_whole D,A5,T⟩,J⟩,sizedMet_of_sizedB V⟩,by
  simp only[Assume.holds];exact⟨by simp,by simp,λ_=>Modest.zero,by simp,by simp⟩⟩
def Vf{H:Type}(enc:TypeId×Value->H)(P:Program)(s:OpenSpec)(k:(H:Type)->List (DataW H)->Bool)(A:List PathCond)(apart:Bool)(w:World)(Z:List TypeId)(args:List Value)(fuel:Nat):Bool:=
 match DataW.whole enc P w Z s.vars apart args fuel with
 |some x=>A.all (PathCond.test P ⟨Z,x.1,s.bare.plain.varTypes P,x.2.1⟩)&&k H (x.1++x.2.1)
 |none=>false
theorem DZ{C:Checked}{os:Os}{f:FuncId}{fn:Func}{s:OpenSpec}{k:(H:Type)->List (DataW H)->Bool}(I:s.cond=some k){A:List PathCond}{apart:Bool}{X:World->Array Value->Prop}(modest:Bool)(w0:World)(args:Array Value)(fuel:Nat)(U:w0.os=os)
 (M:(w0.forCall (λ_ _=>0) ⟨#[],args,[]⟩).Shaped C.prog)
 (E:Input.okWideB C.prog (w0.forCall (λ_ _=>0) ⟨#[],args,[]⟩) f ⟨#[],args,[]⟩=true)
 (D:Vf enc C.prog s k A apart (w0.forCall (λ_ _=>0) ⟨#[],args,[]⟩).memory fn.params.toList args.toList fuel=true)
 (V:s.bare.sizedB enc C.prog fn apart (w0.forCall (λ_ _=>0) ⟨#[],args,[]⟩).memory args fuel=true)
 (J:X (w0.forCall (λ_ _=>0) ⟨#[],args,[]⟩).memory args):
 ∃(w:World)(tape:Tape)(i:Input),w.os=os/\(w.forCall tape i).Shaped C.prog/\i.vars=[]/\Input.okWide C.prog (w.forCall tape i) .any w.heap.size f i/\
  ((s.pre enc C.prog fn A apart (w.forCall tape i).memory i.args/\X (w.forCall tape i).memory i.args)/\sizedMet enc C.prog fn s apart (w.forCall tape i).memory i.args)/\({modest:=modest}:Assume).holds C.prog (lone (Frame.enter C.prog f i.args .normal) [] (w.forCall tape i)):=by
 unfold Vf at D;split at D
 ·rename_i x hw;simp only[Ds]at D;exact DY I modest w0 args fuel U M E hw D.1 D.2 V J
 ·cases D
end Go.Am
end
