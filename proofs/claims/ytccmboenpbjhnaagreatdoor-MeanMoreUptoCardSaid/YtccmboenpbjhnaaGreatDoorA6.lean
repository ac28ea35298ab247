/-
  Texts of one proof, one behind the other.
-/
import Derived.Test.YtccmboenpbjhnaaGreatDoorA5
import Derived.KernelRfl
import Derived.Test.YtccmboenpbjhnaaGreatDoorProg
import Derived.Shelf.Lays
import Derived.Shelf.Strings.Search3
import Derived.Shelf.Strings.Prefix
import Derived.LaidLaws
import Derived.JoinedCond
set_option linter.all false
section
namespace Go.Am
open Go Go.Proofs
variable [Inhabited bB]
def bA(p:Pg)(F:Mc->Rr):Prop:=∀s,eu p s.cells->eu p (F s).2.cells/\(F s).2.fuel<=s.fuel
theorem bA.fH{p:Pg}{F:Mc->Rr}(h:bA p F):bA p (fH F):=λs A=>by
 unfold Am.fH;split
 ·exact⟨A,aae _⟩
 ·have:=h ⟨s.cells,s.fuel-1⟩ A;simp only at this;exact⟨this.1,by omega⟩
theorem bA.bR{p:Pg}{F G:Mc->Rr}(h:bA p F)(N:bA p G):bA p (λs=>bR (F s) G):=λs A=>by
 have a:=h s A;show eu p (Am.bR (F s) G).2.cells/\(Am.bR (F s) G).2.fuel<=s.fuel;generalize F s=q at*;obtain⟨w,t⟩:=q;cases w with
 |on=>
  have b:=N t a.1;exact⟨b.1,aj4 b.2 a.2⟩
 |lv=>exact a
 |rt=>exact a
 |ft e=>exact a
theorem bA.vR{p:Pg}{v:List Int->Vl}{G:Int->Mc->Rr}(h:∀C n t,eu p C->v C=.v n t->aG n)(N:∀n,aG n->bA p (G n)):bA p (λs=>vR (v s.cells) s λn=>G n s):=λs A=>by
 show eu p (Am.vR (v s.cells) s λn=>G n s).2.cells/\(Am.vR (v s.cells) s λn=>G n s).2.fuel<=s.fuel;cases M:v s.cells with
 |f e=>exact⟨A,aae _⟩
 |v n t=>exact N n (h s.cells n t A M) s A
theorem bA.id{p:Pg}(w:Hw):bA p (λs=>(w,s)):=λ_ A=>⟨A,aae _⟩
theorem bA.put{p:Pg}{k n:Int}(D:aG n){F:Mc->Rr}(A':bA p F):bA p (λs=>F ⟨dU s.cells k n,s.fuel⟩):=λs A=>A' ⟨dU s.cells k n,s.fuel⟩ (A.put k D)
theorem bA.left{p:Pg}{F:Mc->Rr}(h:bA p F):bA p (λs=>hM (F s)):=λs A=>by
 have:=h s A;show eu p (hM (F s)).2.cells/\(hM (F s)).2.fuel<=s.fuel;unfold hM;split<;>exact this
theorem NC{p:Pg}{c:List Int->Vl}{b:Mc->Rr}(h:∀C n t,eu p C->c C=.v n t->aG n)(H:bA p b):∀m,bA p (ud c b m)
 |0=>bA.id _
 |m+1=>by
  have e:ud c b (m+1)=fH λs=>vR (c s.cells) s λk=>if k=0 then (.on,s)else bR (b s) λO=>ud c b m O:=by funext s;rfl
  rw[e];refine bA.fH (bA.vR (G:=λk s=>if k=0 then (.on,s)else Am.bR (b s) λO=>ud c b m O) h λn _=>?_);by_cases D:n=0
  ·simp only[D,afh];exact bA.id _
  ·simp only[D,acy];exact bA.bR H (NC h H m)
theorem ND{p:Pg}{c:List Int->Vl}{b:Mc->Rr}(h:∀C n t,eu p C->c C=.v n t->aG n)(H:bA p b):∀m,bA p (ue c b m)
 |0=>bA.id _
 |m+1=>by
  have e:ue c b (m+1)=λs=>bR (b s) (fH λs=>vR (c s.cells) s λk=>if k=0 then ue c b m s else (.on,s)):=by funext s;rfl
  rw[e];refine bA.bR H (bA.fH (bA.vR (G:=λk s=>if k=0 then ue c b m s else (.on,s)) h λn _=>?_));by_cases D:n=0
  ·simp only[D,afh];exact ND h H m
  ·simp only[D,acy];exact bA.id _
theorem NF{p:Pg}{at_ to I:Int}(V:aG I){b:Mc->Rr}(H:bA p b):∀m,bA p (vG at_ to I b m)
 |0=>bA.id _
 |m+1=>by
  have e:vG at_ to I b (m+1)=fH λs=>if Uo (ju s.cells at_) to I=true then (.on,s)else bR (b s) λs=>vR (q9 8 [ju s.cells at_,I] false) s λn=>vG at_ to I b m ⟨dU s.cells at_ n,s.fuel⟩:=by funext s;rfl
  rw[e];refine bA.fH λs A=>?_;have N:=bA.bR H (bA.vR (p:=p) (v:=λC=>q9 8 [ju C at_,I] false) (G:=λn s=>vG at_ to I b m ⟨dU s.cells at_ n,s.fuel⟩) (λC n t T M=>QQ (by simp[V,rV T.num]) M) λn D=>bA.put D (NF V H m)) s A;split
  ·exact⟨A,aae _⟩
  ·exact N
section
variable {p:Pg}
theorem abe{to val:Ex}(U:RI p val):bA p (s5 p.vars to val):=by
 intro s A;unfold s5;split
 ·exact bA.vR (p:=p) (v:=λC=>cb p.vars C val) (G:=λn s=>(.on,⟨dU s.cells (dt p.vars (dY to)).1 n,s.fuel⟩)) (λC n t T M=>U C n t T M) (λn D=>bA.put D (bA.id _)) s A
 ·cases A6:Dr p.vars s.cells (cQ to)with
  |f e=>exact⟨A,aae _⟩
  |v k t=>
   simp only[vR];cases M:cb p.vars s.cells val with
   |f e=>exact⟨A,aae _⟩
   |v n t=>
    simp only[zF];split
    ·exact⟨A,aae _⟩
    ·exact⟨A.put _ (U _ _ _ A M),aae _⟩
theorem NH{name:Tx}:∀(E:List Tx)(xs:List Ex),(∀x∈xs,RI p x)->bA p (jK p.vars name E xs)
 |[],xs,_=>by
  have e:jK p.vars name [] xs=λs=>(.on,s):=by funext s;unfold jK;rfl
  rw[e];exact bA.id _
 |_::_,[],_=>by
  have e:∀f E,jK p.vars name (f::E) []=λs=>(.on,s):=by intro f E;funext s;unfold jK;rfl
  rw[e];exact bA.id _
 |f::E,x::xs,h=>by
  have e:jK p.vars name (f::E) (x::xs)=λs=>vR (cb p.vars s.cells x) s λn=>jK p.vars name E xs ⟨dU s.cells (ke p.vars name f).1 n,s.fuel⟩:=by funext s;rw[jK]
  rw[e];exact bA.vR (v:=λC=>cb p.vars C x) (G:=λn s=>jK p.vars name E xs ⟨dU s.cells (ke p.vars name f).1 n,s.fuel⟩) (λC n t T M=>h x (by simp) C n t T M) λn D=>bA.put D (NH E xs λy Y=>h y (by simp[Y]))
theorem eu.cS{C:List Int}(h:eu p C)(a k:Int)(A7:a.toNat+(br k).length<=C.length):eu p (uS C a k):=by
 have Z:(uS C a k).length=C.length:=by
  unfold uS;simp only[ab1,FD,afr,acK];omega
 refine⟨by rw[Z];exact h.len,by rw[Z];exact h.le,λc J=>?_⟩;unfold uS at J;rcases abO.1 J with J|J
 ·rcases abO.1 J with J|J
  ·exact h.num c (aco J)
  ·exact abd _ _ (λn D=>h.num n (acf (aco D))) c J
 ·exact h.num c (acf J)
theorem UC{name:Tx}{w:Vr}(hw:bu p.vars name=some w)(A0:∀C,eu p C->(dt p.vars name).1.toNat+(br w.ty).length<=C.length){E:List Tx}{xs:List Ex}(h:∀x∈xs,RI p x):bA p (ow p.vars name E xs):=by
 have e:ow p.vars name E xs=λs=>bR (jK p.vars name E xs s) λO=>(.on,⟨uS O.cells (dt p.vars name).1 (dt p.vars name).2.ty,O.fuel⟩):=by funext s;rfl
 rw[e];refine bA.bR (NH E xs h) λs A=>⟨?_,aae _⟩;rw[nr hw];exact A.cS _ _ (A0 _ A)
theorem W3{name:Tx}{x y z:Ex}(A1:RI p x)(Y:RI p y)(A2:RI p z){b:Mc->Rr}(H:bA p b):bA p (zG p.vars name [x,y,z] b):=by
 have e:zG p.vars name [x,y,z] b=λs=>vR (cb p.vars s.cells x) s λfrom_=>vR (cb p.vars s.cells y) s λA3=>vR (cb p.vars s.cells z) s λI=>vG (dt p.vars name).1 A3 I b (s.fuel+1) ⟨dU s.cells (dt p.vars name).1 from_,s.fuel⟩:=by funext s;rfl
 rw[e];intro s A;simp only
 cases U:cb p.vars s.cells x with
 |f e=>exact⟨A,aae _⟩
 |v A4 t=>
  simp only[vR];cases N:cb p.vars s.cells y with
  |f e=>exact⟨A,aae _⟩
  |v A8 t=>
   simp only
   cases A5:cb p.vars s.cells z with
   |f e=>exact⟨A,aae _⟩
   |v A9 t=>exact NF (A2 _ _ _ A A5) H _ ⟨dU s.cells (dt p.vars name).1 A4,s.fuel⟩ (A.put _ (A1 _ _ _ A U))
end
end Go.Am
end
section
namespace Go.Am
open Go Go.Proofs Go.Proofs.Tryz
variable [Inhabited bB]
set_option maxRecDepth 20000
set_option maxHeartbeats 1000000
@[simp] def ko(p:Pg)(C:List Int)(f v:Nat):List cf:=[⟨0,0,rnB p C f v⟩,⟨1,0,.vec 1 (p.vars.map Dx)⟩,⟨2,v,.vec 1 (C.map jD)⟩]
def MK(p:Pg)(x:Sm):Prop:=∀(C:List Int)(f:Nat),eu p C->f<=100000->kP p (iT p.vars x ⟨C,f⟩) (ah ctx 91 [.ptr 0 0 0,.d (cG x)] (iO p C f))
def BK(p:Pg)(b:List Sm):Prop:=∀(C:List Int)(f:Nat),eu p C->f<=100000->kP p (cd p.vars b ⟨C,f⟩) (ah ctx 56 [.ptr 0 0 0,.d (.list (b.map cG))] (iO p C f))
theorem Ar{p:Pg}:∀(l:List Sm),(∀x∈l,bA p (iT p.vars x))->bA p (cd p.vars l)
 |[],_=>by
  have e:cd p.vars []=λs=>(.on,s):=by funext s;simp[cd]
  rw[e];exact bA.id _
 |x::r,h=>by
  have e:cd p.vars (x::r)=λs=>bR (iT p.vars x s) λA1=>cd p.vars r A1:=by funext s;rw[cd]
  rw[e];exact bA.bR (h x (by simp)) (Ar r λy A2=>h y (by simp[A2]))
theorem NI{p:Pg}(l:List Sm)(A3:l.length<100000000)(k:Kt)(Q:Rr->bW->Prop)
 (M:∀(Y:Env) C f v v6 X6,Q (.on,⟨C,f⟩) (k (.exit 0) ⟨21,aA,(0,true,.ptr 0 0 0)::Y,ko p C f v++[⟨400,v6,X6⟩]⟩))
 (A:∀(h:Hw) C f v v6 X6,(h=.lv\/h=.rt)->Q (h,⟨C,f⟩) (k .ret ⟨21,aA,[(4,true,.d (.int .i64 (eO h)))],ko p C f v++[⟨400,v6,X6⟩]⟩))
 (E:∀e (Y:Env) C f v v6 X6,Q (.ft e,⟨C,f⟩) (k (.panic 103 (km e)) ⟨21,aA,Y,ko p C f v++[⟨400,v6,X6⟩]⟩)):
 ∀(A4 pre:List Sm)(C:List Int)(f v v6:Nat)(X6:ax),l=pre++A4->(∀x∈A4,MK p x/\bA p (iT p.vars x))->eu p C->f<=100000->
 Q (cd p.vars A4 ⟨C,f⟩) (aK ctx 56 (.loop (Code.at (bq f56) [1,0,1,0,0])) ⟨21,aA,[(0,true,.ptr 0 0 0),(8,true,.d (.list (l.map cG))),(9,true,.d (.int .i64 l.length)),(10,true,.d (.int .i64 pre.length))],ko p C f v++[⟨400,v6,X6⟩]⟩ k)
 |[],pre,C,f,v,v6,X6,N,I,H,J=>by
  have e:cd p.vars [] ⟨C,f⟩=(.on,⟨C,f⟩):=by simp[cd]
  rw[e];have A6:pre.length=l.length:=by rw[N];simp
  have:=M [(8,true,.d (.list (l.map cG))),(9,true,.d (.int .i64 l.length)),(10,true,.d (.int .i64 l.length)),(11,true,.d (.bool false))] C f v v6 X6;simp at this;rw[A6,ai];simp[f56,this]
 |x::r,pre,C,f,v,v6,X6,N,I,H,J=>by
  obtain⟨D,T⟩:=I x (by simp);obtain⟨A7,D⟩:=D C f H J;have T:=T ⟨C,f⟩ H;have e:cd p.vars (x::r) ⟨C,f⟩=bR (iT p.vars x ⟨C,f⟩) λA1=>cd p.vars r A1:=by rw[cd]
  rw[e];clear e;have ih:=λC f v v6 X6 H J=>NI l A3 k Q M A E r (pre++[x]) C f v v6 X6 (by simp[N]) (λy A2=>I y (by simp[A2])) H J;clear I M;have U:pre.length<l.length:=by rw[N];simp
  have V:l[pre.length]=x:=by simp[N]
  have Z:IntKind.i64.wrap ((pre.length:Int)+1)=(pre.length:Int)+1:=aE (by unfold aG;omega);generalize iT p.vars x ⟨C,f⟩=q at*;obtain⟨h,A',A0⟩:=q;simp only at T;rw[ai];cases h with
  |on=>
   have ih:=ih A' A0;simp[eP,eO,cu]at D;simp only[bR];simp[f56]at ih⊢;simp[U,V,cu,D,Z];exact ih _ _ _ T.1 (by omega)
  |lv=>
   have A:=A .lv A' A0;simp[eP,eO,cu]at D A;simp only[bR];simp[f56,U,V,cu,D,Z,A]
  |rt=>
   have A:=A .rt A' A0;simp[eP,eO,cu]at D A;simp only[bR];simp[f56,U,V,cu,D,Z,A]
  |ft e=>
   have E:=λY=>E e Y A' A0;simp[eP,cu]at D E;simp only[bR];simp[f56,U,V,cu,D,Z,E]
theorem QR{p:Pg}(l:List Sm)(A3:l.length<100000000)(I:∀x∈l,MK p x/\bA p (iT p.vars x)):BK p l:=by
 intro C f H J;have A5:=λ(k:Kt) (Q:Rr->bW->Prop) M A E v6 X6=>NI l A3 k Q M A E l [] C f 0 v6 X6 rfl I H J;rw[ai0 (by simp)];generalize cd p.vars l ⟨C,f⟩=q at*;simp[f56]at A5⊢;refine A5 _ (λX r=>X=q->kP p q r) (λY C f v v6 X6 O=>?_) (λh C f v v6 X6 hh O=>?_) (λe Y C f v v6 X6 O=>?_) _ _ rfl
 ·subst O;simp[f56];exact⟨_,rfl⟩
 ·subst O;rcases hh with rfl|rfl
  ·simp;exact⟨_,rfl⟩
  ·simp;exact⟨_,rfl⟩
 ·subst O;simp;exact⟨_,rfl⟩
theorem bF(b:List Sm):oK b=.list (b.map cG):=rfl
theorem NJ{p:Pg}{x:Sm}{n:Nat}(M:n<100000000)(N:∀b∈aV x,BK p b)(C:List Int)(f:Nat)(H:eu p C)(O:f<=100000):
 kP p (kf p.vars ((aV x).drop n) ⟨C,f⟩) (ah ctx 205 [.ptr 0 0 0,.d (cG x),.d (.int .i64 n)] (iO p C f)):=by
 rw[aeg (by simp)];by_cases h:n<(aV x).length
 ·have A7:(aV x).drop n=(aV x)[n]::(aV x).drop (n+1):=ae8 h;obtain⟨v,A⟩:=N (aV x)[n] (acM h) C f H O;rw[A7];have e:kf p.vars ((aV x)[n]::(aV x).drop (n+1)) ⟨C,f⟩=cd p.vars (aV x)[n] ⟨C,f⟩:=by rw[kf]
  rw[e];clear e;generalize cd p.vars (aV x)[n] ⟨C,f⟩=q at*;obtain⟨w,T,U⟩:=q;cases w<;>simp[eP,eO]at A<;>simp[f205,cu,h,bF,A]<;>exact⟨_,rfl⟩
 ·have A7:(aV x).drop n=[]:=List.drop_eq_nil_of_le (by omega);rw[A7];have e:kf p.vars [] ⟨C,f⟩=(.on,⟨C,f⟩):=by rw[kf]
  rw[e];simp[f205,cu,h];exact⟨_,rfl⟩
theorem NK{p:Pg}{x:Sm}(A4:(bV x).length<100000000)(A5:∀c∈bV x,KV p c)(N:∀b∈aV x,BK p b)(C:List Int)(f:Nat)(H:eu p C)(O:f<=100000)(k:Kt)(Q:Rr->bW->Prop)
 (A1:∀(Y:Env) v6 X6,Q (kf p.vars ((aV x).drop (bV x).length) ⟨C,f⟩) (k (.exit 0) ⟨33,aA,(0,true,.ptr 0 0 0)::(3,true,.ptr 250 1 0)::Y,ko p C f 0++[⟨250,1,bg x⟩,⟨400,v6,X6⟩]⟩))
 (D:∀(h:Hw) C f v v6 X6,(∀e,h≠.ft e)->Q (h,⟨C,f⟩) (k .ret ⟨33,aA,[(4,true,.d (.int .i64 (eO h)))],ko p C f v++[⟨250,1,bg x⟩,⟨400,v6,X6⟩]⟩))
 (E:∀e (Y:Env) C f v v6 X6,Q (.ft e,⟨C,f⟩) (k (.panic 103 (km e)) ⟨33,aA,Y,ko p C f v++[⟨250,1,bg x⟩,⟨400,v6,X6⟩]⟩)):
 ∀(cs pre:List Ex)(I:List (List Sm))(v6:Nat)(X6:ax),bV x=pre++cs->I=(aV x).drop pre.length->cs.length<=I.length->
 Q (gO p.vars I cs ⟨C,f⟩) (aK ctx 144 (.loop (Code.at (bq f144) [1,0,1,0,0])) ⟨33,aA,[(0,true,.ptr 0 0 0),(3,true,.ptr 250 1 0),(8,true,.d (.list ((bV x).map du))),(9,true,.d (.int .i64 (bV x).length)),(10,true,.d (.int .i64 pre.length))],ko p C f 0++[⟨250,1,bg x⟩,⟨400,v6,X6⟩]⟩ k)
 |[],pre,I,v6,X6,V,A6,A2=>by
  have A8:(bV x).length=pre.length:=by rw[V];simp
  have e:gO p.vars I [] ⟨C,f⟩=kf p.vars ((aV x).drop (bV x).length) ⟨C,f⟩:=by
   rw[A6,A8];cases (aV x).drop pre.length with
   |nil=>rw[gO,kf]
   |cons b r=>rw[gO,kf]
  rw[e];have:=A1 [(8,true,.d (.list ((bV x).map du))),(9,true,.d (.int .i64 (bV x).length)),(10,true,.d (.int .i64 (bV x).length)),(11,true,.d (.bool false))] v6 X6;rw[<-A8,ai];simp at this;simp[f144,this]
 |c::cs,pre,I,v6,X6,V,A6,A2=>by
  have Z:pre.length<(aV x).length:=by
   rw[A6,acK]at A2;simp only[ab2]at A2;omega
  have A9:I=(aV x)[pre.length]::(aV x).drop (pre++[c]).length:=by
   rw[A6,ae8 Z];simp
  have e:gO p.vars I (c::cs) ⟨C,f⟩=vR (cb p.vars C c) ⟨C,f⟩ λn=>if n=0 then gO p.vars ((aV x).drop (pre++[c]).length) cs ⟨C,f⟩else cd p.vars (aV x)[pre.length] ⟨C,f⟩:=by
   rw[A9,gO]
  have ih:=λv6 X6=>NK A4 A5 N C f H O k Q A1 D E cs (pre++[c]) ((aV x).drop (pre++[c]).length) v6 X6 (by simp[V]) rfl (by
   rw[A9]at A2;simp only[ab2]at A2;omega)
  rw[e];clear e A1;have AD:=A5 c (by rw[V];simp);have A:=iP AD (f:=f) H;have y:pre.length<(bV x).length:=by rw[V];simp
  have A':(bV x)[pre.length]=c:=by simp[V]
  have A0:IntKind.i64.wrap ((pre.length:Int)+1)=(pre.length:Int)+1:=aE (by unfold aG;omega);generalize gO p.vars ((aV x).drop (pre++[c]).length) cs ⟨C,f⟩=AH at*;rw[ai];cases AA:cb p.vars C c with
  |f e=>
   rw[AA]at A;have E:=λY=>E e Y C f 0;simp at A E;simp only[vR];simp[f144,y,A',aZ,A,A0,E]
  |v n t=>
   rw[AA]at A;simp only[vR];by_cases M:n=0
   ·subst M;simp at A;simp[f144]at ih⊢;simp[y,A',aZ,A,A0,ih]
   ·rw[aac M];obtain⟨AE,J⟩:=N (aV x)[pre.length] (acM Z) C f H O;clear ih;generalize cd p.vars (aV x)[pre.length] ⟨C,f⟩=q at*;obtain⟨h,T,U⟩:=q;cases h with
    |ft e=>
     have E:=λY=>E e Y T U;simp[eP]at A E J;simp[f144,Z,y,A',aZ,bF,A,M,J,A0,E]
    |on=>
     have D:=D .on T U;simp[eP,eO]at A D J;simp[f144,Z,y,A',aZ,bF,A,M,J,A0,D]
    |lv=>
     have D:=D .lv T U;simp[eP,eO]at A D J;simp[f144,Z,y,A',aZ,bF,A,M,J,A0,D]
    |rt=>
     have D:=D .rt T U;simp[eP,eO]at A D J;simp[f144,Z,y,A',aZ,bF,A,M,J,A0,D]
theorem UD{p:Pg}{x:Sm}(A4:(bV x).length<100000000)(A5:∀c∈bV x,KV p c)(N:∀b∈aV x,BK p b)(AF:(bV x).length<=(aV x).length)(C:List Int)(f:Nat)(H:eu p C)(O:f<=100000):
 kP p (gO p.vars (aV x) (bV x) ⟨C,f⟩) (ah ctx 144 [.ptr 0 0 0,.d (cG x)] (iO p C f)):=by
 have AB:=λ(k:Kt) (Q:Rr->bW->Prop) A1 D E v6 X6=>NK A4 A5 N C f H O k Q A1 D E (bV x) [] (aV x) v6 X6 rfl rfl AF;obtain⟨AE,AC⟩:=NJ (n:=(bV x).length) A4 N C f H O;rw[adW (by simp)];generalize gO p.vars (aV x) (bV x) ⟨C,f⟩=q at*;generalize kf p.vars ((aV x).drop (bV x).length) ⟨C,f⟩=AG at*;simp[f144,cu]at AB⊢;refine AB _ (λX r=>X=q->kP p q r) (λY v6 X6 A3=>?_) (λh C f v v6 X6 hh A3=>?_) (λe Y C f v v6 X6 A3=>?_) _ _ rfl
 ·subst A3;obtain⟨h,T,U⟩:=AG;cases h<;>simp[eP,eO,cu]at AC<;>simp[f144,AC]<;>exact⟨_,rfl⟩
 ·subst A3;cases h with
  |ft e=>exact absurd rfl (hh e)
  |on=>simp;exact⟨_,rfl⟩
  |lv=>simp;exact⟨_,rfl⟩
  |rt=>simp;exact⟨_,rfl⟩
 ·subst A3;simp;exact⟨_,rfl⟩
section
variable {p:Pg} {x:Sm} {b:List Sm} (A1:KV p (dk x)) (I:aV x=[b]) (A2:BK p b) (A3:bA p (λs=>cd p.vars b s)) (k:Kt) (Q:Rr->bW->Prop)
 (D:∀(h:Hw) C f v,(∀e,h≠.ft e)->Q (h,⟨C,f⟩) (k .ret ⟨35,aA,[(4,true,.d (.int .i64 (eO h)))],ko p C f v++[⟨250,1,bg x⟩]⟩))
 (E:∀e (Y:Env) C f v,Q (.ft e,⟨C,f⟩) (k (.panic 103 (km e)) ⟨35,aA,Y,ko p C f v++[⟨250,1,bg x⟩]⟩))
include A1 I A2 A3 D E
theorem NL(A:bf x=5):∀(m:Nat)(Y:Env)(C:List Int)(f v:Nat),(Y=[]\/Y=[(27,true,.d (.bool false))])->f<m->eu p C->f<=100000->
 Q (ud (λC=>cb p.vars C (dk x)) (λs=>cd p.vars b s) m ⟨C,f⟩) (aK ctx 148 (.loop (Code.at (bq f148) [1,0,0])) ⟨35,aA,(0,true,.ptr 0 0 0)::(3,true,.ptr 250 1 0)::Y,ko p C f v++[⟨250,1,bg x⟩]⟩ k)
 |0,Y,C,f,v,A4,h,T,y=>by omega
 |m+1,Y,C,f,v,A4,h,T,y=>by
  rcases A4 with rfl|rfl;all_goals
   have H:=kU (p:=p) C f (by omega);rw[ud,fH];rw[ai];by_cases V:f=0
   ·rw[aal V]at H;subst V;have E:=λY=>E 4 Y C 0;simp[A]at H E;simp[f148,A,H,E]
   ·rw[aac V]at H;rw[aac V];have J:=iP A1 (f:=f-1) T;simp only
    cases A5:cb p.vars C (dk x)with
    |f e=>
     rw[A5]at J;have E:=λY=>E e Y C (f-1);simp[A]at H J E;simp only[vR];simp[f148,A,H,J,E]
    |v n t=>
     rw[A5]at J;simp only[vR];by_cases U:n=0
     ·subst U;have D:=D .on C (f-1);simp[eO,A]at H J D;simp[f148,A,H,J,D]
     ·rw[aac U];obtain⟨A7,M⟩:=A2 C (f-1) T (by omega);have Z:=A3 ⟨C,f-1⟩ T;simp only at Z;have ih:=NL A m;generalize cd p.vars b ⟨C,f-1⟩=q at*;obtain⟨w,N,O⟩:=q;simp only at Z;cases w with
      |ft e=>
       have E:=λY=>E e Y N O;simp[I,bF,eP,A]at H J M E;simp only[bR];simp[f148,A,H,J,U,I,bF,M,E]
      |lv=>
       have D:=D .lv N O;simp[I,bF,eP,eO,A]at H J M D;simp only[bR];simp[f148,A,H,J,U,I,bF,M,D]
      |rt=>
       have D:=D .rt N O;simp[I,bF,eP,eO,A]at H J M D;simp only[bR];simp[f148,A,H,J,U,I,bF,M,D]
      |on=>
       have ih:=λv=>ih [(27,true,.d (.bool false))] N O v (.inr rfl) (by omega) Z.1 (by omega);simp[I,bF,eP,eO,A]at H J M;simp only[bR];simp[f148,A]at ih⊢;simp[H,J,U,I,bF,M]at ih⊢;exact ih _
theorem NM(A:bf x=6):∀(m:Nat)(Y:Env)(C:List Int)(f v:Nat),(Y=[]\/Y=[(34,true,.d (.bool false))])->f<m->eu p C->f<=100000->
 Q (ue (λC=>cb p.vars C (dk x)) (λs=>cd p.vars b s) m ⟨C,f⟩) (aK ctx 148 (.loop (Code.at (bq f148) [1,0,0])) ⟨35,aA,(0,true,.ptr 0 0 0)::(3,true,.ptr 250 1 0)::Y,ko p C f v++[⟨250,1,bg x⟩]⟩ k)
 |0,Y,C,f,v,A4,h,T,y=>by omega
 |m+1,Y,C,f,v,A4,h,T,y=>by
  rcases A4 with rfl|rfl;all_goals
   rw[ue,ai];obtain⟨A7,M⟩:=A2 C f T y;have Z:=A3 ⟨C,f⟩ T;simp only at Z;have ih:=NM A m;generalize cd p.vars b ⟨C,f⟩=q at*;obtain⟨w,N,O⟩:=q;simp only at Z;cases w with
   |ft e=>
    have E:=λY=>E e Y N O;simp[I,bF,eP,A]at M E;simp only[bR];simp[f148,A,I,bF,M,E]
   |lv=>
    have D:=D .lv N O;simp[I,bF,eP,eO,A]at M D;simp only[bR];simp[f148,A,I,bF,M,D]
   |rt=>
    have D:=D .rt N O;simp[I,bF,eP,eO,A]at M D;simp only[bR];simp[f148,A,I,bF,M,D]
   |on=>
    simp only[bR,fH];have H:=kU (p:=p) N O (by omega);by_cases V:O=0
    ·rw[aal V]at H;subst V;have E:=λY=>E 4 Y N 0;simp[I,bF,eP,eO,A]at M H E;simp[f148,A,I,bF,M,H,E]
    ·rw[aac V]at H;rw[aac V];have J:=iP A1 (f:=O-1) Z.1;cases A5:cb p.vars N (dk x)with
     |f e=>
      rw[A5]at J;have E:=λY=>E e Y N (O-1);simp[I,bF,eP,eO,A]at M H J E;simp only[vR];simp[f148,A,I,bF,M,H,J,E]
     |v n t=>
      rw[A5]at J;simp only[vR];by_cases U:n=0
      ·subst U;have ih:=λv=>ih [(34,true,.d (.bool false))] N (O-1) v (.inr rfl) (by omega) Z.1 (by omega);simp[I,bF,eP,eO,A]at M H J;simp[f148,A]at ih⊢;simp[I,bF,M,H,J]at ih⊢;exact ih _
      ·rw[aac U];have D:=D .on N (O-1);simp[I,bF,eP,eO,A]at M H J D;simp[f148,A,I,bF,M,H,J,U,D]
end
theorem NN{p:Pg}{x:Sm}{b:List Sm}(A1:KV p (dk x))(I:aV x=[b])(A2:BK p b)(A3:bA p (λs=>cd p.vars b s))(A:bf x=5\/bf x=6)(C:List Int)(f:Nat)(T:eu p C)(y:f<=100000):
 kP p (if bf x=5 then ud (λC=>cb p.vars C (dk x)) (λs=>cd p.vars b s) (f+1) ⟨C,f⟩else ue (λC=>cb p.vars C (dk x)) (λs=>cd p.vars b s) (f+1) ⟨C,f⟩) (ah ctx 148 [.ptr 0 0 0,.d (cG x)] (iO p C f)):=by
 have A':=λ(k:Kt) (Q:Rr->bW->Prop) D E=>NL A1 I A2 A3 k Q D E;have A6:=λ(k:Kt) (Q:Rr->bW->Prop) D E=>NM A1 I A2 A3 k Q D E;rw[ad0 (by simp)];rcases A with A|A
 ·have A':=λk Q D E=>A' k Q D E A (f+1) [] C f 0 (.inl rfl) (by omega) T y;rw[aal A];generalize ud (λC=>cb p.vars C (dk x)) (λs=>cd p.vars b s) (f+1) ⟨C,f⟩=q at*;clear A6;simp[f148,cu]at A'⊢;refine A' _ (λX r=>X=q->kP p q r) (λh C f v hh A0=>?_) (λe Y C f v A0=>?_) rfl
  ·subst A0;cases h with
   |ft e=>exact absurd rfl (hh e)
   |on=>simp;exact⟨_,rfl⟩
   |lv=>simp;exact⟨_,rfl⟩
   |rt=>simp;exact⟨_,rfl⟩
  ·subst A0;simp;exact⟨_,rfl⟩
 ·have A':=λk Q D E=>A6 k Q D E A (f+1) [] C f 0 (.inl rfl) (by omega) T y;rw[aac (by omega)];generalize ue (λC=>cb p.vars C (dk x)) (λs=>cd p.vars b s) (f+1) ⟨C,f⟩=q at*;clear A6;simp[f148,cu]at A'⊢;refine A' _ (λX r=>X=q->kP p q r) (λh C f v hh A0=>?_) (λe Y C f v A0=>?_) rfl
  ·subst A0;cases h with
   |ft e=>exact absurd rfl (hh e)
   |on=>simp;exact⟨_,rfl⟩
   |lv=>simp;exact⟨_,rfl⟩
   |rt=>simp;exact⟨_,rfl⟩
  ·subst A0;simp;exact⟨_,rfl⟩
end Go.Am
end
section
namespace Go.Am
open Go Go.Proofs Go.Proofs.Tryz
variable [Inhabited bB]
set_option maxRecDepth 20000
set_option maxHeartbeats 1600000
section
variable {p:Pg} {x:Sm} {b:List Sm} {w:Vr} (D:aV x=[b]) (AG:BK p b) (AH:bA p (λs=>cd p.vars b s)) (k:Kt) (Q:Rr->bW->Prop)
 (I:∀(h:Hw) C f v,(∀e,h≠.ft e)->Q (h,⟨C,f⟩) (k .ret ⟨111,aA,[(4,true,.d (.int .i64 (eO h)))],ko p C f v++[⟨250,1,bg x⟩,⟨400,1,ix w⟩]⟩))
 (J:∀e (Y:Env) C f v,Q (.ft e,⟨C,f⟩) (k (.panic 103 (km e)) ⟨111,aA,Y,ko p C f v++[⟨250,1,bg x⟩,⟨400,1,ix w⟩]⟩))
include D AG AH I J
theorem NO{a:Nat}{to H:Int}(AL:aG H):∀(m:Nat)(C:List Int)(f v:Nat),f<m->eu p C->f<=100000->a<C.length->
 Q (vG a to H (λs=>cd p.vars b s) m ⟨C,f⟩) (aK ctx 147 (.loop (Code.at (bq f147) [1,1,1,1,1,1,0,0])) ⟨111,aA,[(0,true,.ptr 0 0 0),(3,true,.ptr 250 1 0),(5,true,.d (.int .i64 a)),(8,true,.d (.int .i64 to)),(9,true,.d (.int .i64 H))],ko p C f v++[⟨250,1,bg x⟩,⟨400,1,ix w⟩]⟩ k)
 |0,C,f,v,h,O,AM,N=>by omega
 |m+1,C,f,v,h,O,AM,N=>by
  have E:=kU (p:=p) C f (by omega);rw[vG,fH];rw[ai];by_cases AI:f=0
  ·rw[aal AI]at E;subst AI;have J:=λY=>J 4 Y C 0;simp at E J;simp[f147,E,J]
  ·rw[aac AI]at E;rw[aac AI];have AZ:ju C (a:Int)=C[a]:=by unfold ju;simp[N]
   simp only[AZ];cases hu:Uo C[a] to H with
   |true=>
    rw[aal rfl];have I:=I .on C (f-1);simp[Uo]at hu;simp[eO]at E I;rcases hu with ⟨A4,A5⟩|⟨A4,A5⟩
    ·simp[f147,E,N,A4,A5,I]
    ·have T:¬0<=H:=by omega
     simp[f147,E,N,A4,A5,T,I]
   |false=>
    rw[aac (by simp)];have Ae:¬((0<=H/\to<C[a])\/(H<0/\C[a]<to)):=by
     simpa [Uo]using hu
    obtain⟨Af,M⟩:=AG C (f-1) O (by omega);have U:=AH ⟨C,f-1⟩ O;simp only at U;have ih:=NO (a:=a) (to:=to) AL m;generalize cd p.vars b ⟨C,f-1⟩=q at*;obtain⟨h,A,V⟩:=q;simp only at U;generalize Z:C[a]=AS at*;by_cases y:0<=H
    ·have g1:¬to<AS:=by omega
     have g2:¬H<0:=by omega
     cases h with
     |ft e=>
      have J:=λY=>J e Y A V;simp[eP,D,bF]at E M J;simp only[bR];simp[f147,E,N,Z,y,g1,g2,D,bF,M,J]
     |lv=>
      have I:=I .lv A V;simp[eP,eO,D,bF]at E M I;simp only[bR];simp[f147,E,N,Z,y,g1,g2,D,bF,M,I]
     |rt=>
      have I:=I .rt A V;simp[eP,eO,D,bF]at E M I;simp only[bR];simp[f147,E,N,Z,y,g1,g2,D,bF,M,I]
     |on=>
      have A0:a<A.length:=by
       have A4:=U.1.len;have A5:=O.len;omega
      have A6:ju A (a:Int)=A[a]:=by unfold ju;simp[A0]
      have A1:=uT 8 A[a] H false (by rw[<-A6];exact rV U.1.num _) AL;simp only[bR,A6];have AA:q9 8 [A[a],H] false=if (jJ 8 A[a] H false).2.2=0 then .v (jJ 8 A[a] H false).1 (jJ 8 A[a] H false).2.1 else .f (jJ 8 A[a] H false).2.2:=rfl
      have AB:=QO 8 A[a] H false (by rw[<-A6];exact rV U.1.num _);rw[AA];clear AA;generalize jJ 8 A[a] H false=r at*;obtain⟨A7,A_,A8⟩:=r;simp only at AB⊢;by_cases T:A8=0
      ·rw[aal T];subst T;simp only[vR];have AC:eu p (dU A a A7):=U.1.put _ AB;have ih:=λv=>ih (dU A a A7) V v (by omega) AC (by omega) (by simpa [dU]using A0);simp[eP,eO,D,bF,AU]at E M A1;simp[f147,dU,D,bF]at ih⊢;simp[E,N,A0,Z,y,g1,g2,D,bF,M,A1,aj]at ih⊢;try simp[List.map_set]at ih⊢
       exact ih _
      ·rw[aac T];simp only[vR];have J:=λY=>J A8 Y A V;simp[eP,eO,D,bF,AU,km]at E M A1 J;simp[f147,E,N,A0,Z,y,g1,g2,D,bF,M,A1,T,km,J,aj,List.range']
    ·have g1:¬AS<to:=by omega
     have g2:H<0:=by omega
     cases h with
     |ft e=>
      have J:=λY=>J e Y A V;simp[eP,D,bF]at E M J;simp only[bR];simp[f147,E,N,Z,y,g1,g2,D,bF,M,J]
     |lv=>
      have I:=I .lv A V;simp[eP,eO,D,bF]at E M I;simp only[bR];simp[f147,E,N,Z,y,g1,g2,D,bF,M,I]
     |rt=>
      have I:=I .rt A V;simp[eP,eO,D,bF]at E M I;simp only[bR];simp[f147,E,N,Z,y,g1,g2,D,bF,M,I]
     |on=>
      have A0:a<A.length:=by
       have A4:=U.1.len;have A5:=O.len;omega
      have A6:ju A (a:Int)=A[a]:=by unfold ju;simp[A0]
      have A1:=uT 8 A[a] H false (by rw[<-A6];exact rV U.1.num _) AL;simp only[bR,A6];have AA:q9 8 [A[a],H] false=if (jJ 8 A[a] H false).2.2=0 then .v (jJ 8 A[a] H false).1 (jJ 8 A[a] H false).2.1 else .f (jJ 8 A[a] H false).2.2:=rfl
      have AB:=QO 8 A[a] H false (by rw[<-A6];exact rV U.1.num _);rw[AA];clear AA;generalize jJ 8 A[a] H false=r at*;obtain⟨A7,A_,A8⟩:=r;simp only at AB⊢;by_cases T:A8=0
      ·rw[aal T];subst T;simp only[vR];have AC:eu p (dU A a A7):=U.1.put _ AB;have ih:=λv=>ih (dU A a A7) V v (by omega) AC (by omega) (by simpa [dU]using A0);simp[eP,eO,D,bF,AU]at E M A1;simp[f147,dU,D,bF]at ih⊢;simp[E,N,A0,Z,y,g1,g2,D,bF,M,A1,aj]at ih⊢;try simp[List.map_set]at ih⊢
       exact ih _
      ·rw[aac T];simp only[vR];have J:=λY=>J A8 Y A V;simp[eP,eO,D,bF,AU,km]at E M A1 J;simp[f147,E,N,A0,Z,y,g1,g2,D,bF,M,A1,T,km,J,aj,List.range']
end
theorem W5{p:Pg}(AT:p.vars.length<=1000)(Aa:∀w∈p.vars,dA w=true){x:Sm}{b:List Sm}{w:Vr}{AD AJ AE:Ex}(AF:bV x=[AD,AJ,AE])(hw:bu p.vars (gC x)=some w)(N:w.arr=false)(Ab:w.ty<=2)(A4:KV p AD)(A5:KV p AJ)(T:KV p AE)(A7:RI p AD)(A8:RI p AE)
 (D:aV x=[b]) (AG:BK p b) (AH:bA p (λs=>cd p.vars b s)) (C:List Int) (f:Nat) (O:eu p C) (AM:f<=100000):
 kP p (zG p.vars (gC x) [AD,AJ,AE] (λs=>cd p.vars b s) ⟨C,f⟩) (ah ctx 147 [.ptr 0 0 0,.d (cG x)] (iO p C f)):=by
 have A2:=rU AT hw C f;have Ac:=I7 AT Aa hw N Ab O;obtain⟨a,AV⟩:∃a:Nat,(dt p.vars (gC x)).1=a:=⟨(dt p.vars (gC x)).1.toNat,by omega⟩;rw[AV]at A2 Ac;have AW:a<C.length:=by omega
 have A':=iP A4 (f:=f) O;have A3:=iP A5 (f:=f) O;have A9:=iP T (f:=f) O;unfold zG;simp only
 rw[AV,adZ (by simp)];cases AN:cb p.vars C AD with
 |f e=>
  rw[AN]at A';simp[bm,dj]at A2 A';simp[f147,cu,aZ,AF,A2,A',vR];exact⟨_,rfl⟩
 |v AK t1=>
  rw[AN]at A';cases AX:cb p.vars C AJ with
  |f e=>
   rw[AX]at A3;simp[bm,dj]at A2 A' A3;simp[f147,cu,aZ,AF,A2,A',A3,vR];exact⟨_,rfl⟩
  |v AY t2=>
   rw[AX]at A3;cases AO:cb p.vars C AE with
   |f e=>
    rw[AO]at A9;simp[bm,dj]at A2 A' A3 A9;simp[f147,cu,aZ,AF,A2,A',A3,A9,vR];exact⟨_,rfl⟩
   |v AP t3=>
    rw[AO]at A9;simp only[vR];have Ad:aG AP:=A8 C AP t3 O AO;have AC:eu p (dU C a AK):=O.put _ (A7 C AK t1 O AN);have AQ:=λ(k:Kt) (Q:Rr->bW->Prop) I J=>NO (x:=x) (w:=w) D AG AH k Q I J (a:=a) (to:=AY) Ad (f+1) (dU C a AK) f 0 (by omega) AC AM (by simpa [dU]using AW);generalize vG a AY AP (λs=>cd p.vars b s) (f+1) ⟨dU C a AK,f⟩=q at*;simp[bm,dj]at A2 A' A3 A9;simp[f147,dU,D,bF,AF,aZ]at AQ;simp[f147,cu,aZ,AF,D,bF,A2,A',A3,A9,AW,aj];try simp[List.map_set]at AQ⊢
    refine AQ _ (λX r=>X=q->kP p q r) (λh C f v hh AR=>?_) (λe Y C f v AR=>?_) rfl
    ·subst AR;cases h with
     |ft e=>exact absurd rfl (hh e)
     |on=>simp;exact⟨_,rfl⟩
     |lv=>simp;exact⟨_,rfl⟩
     |rt=>simp;exact⟨_,rfl⟩
    ·subst AR;simp;exact⟨_,rfl⟩
theorem UE{p:Pg}{x:Sm}{b:List Sm}{j:Nat}(AA:j<(aV x).length)(AB:(aV x)[j]=b)(O:BK p b){n:Int}{l:List Int}(AP:l.length<100000000)(C:List Int)(f:Nat)(N:eu p C)(T:f<=100000)(AI AJ:AV)(k:Kt)(P:Bool->bW->Prop)
 (D:∀i:Int,P false (k (.exit 2) ⟨57,aA,[(0,true,.ptr 0 0 0),(3,true,.ptr 250 1 0),(5,true,.d (.int .i64 n)),(6,true,.d (.int .i64 j)),(7,true,.d (gX l)),(8,true,.d (.int .i64 i)),(14,true,AI),(15,true,AJ),(16,true,.d (.int .i64 j)),(25,true,.d (.bool false))],ko p C f 0++[⟨250,1,bg x⟩]⟩))
 (A:∀(h:Hw) E H v,cd p.vars b ⟨C,f⟩=(h,⟨E,H⟩)->(∀e,h≠.ft e)->P true (k .ret ⟨57,aA,[(4,true,.d (.int .i64 (eO h)))],ko p E H v++[⟨250,1,bg x⟩]⟩))
 (I:∀e (Y:Env) E H v,cd p.vars b ⟨C,f⟩=(.ft e,⟨E,H⟩)->P true (k (.panic 103 (km e)) ⟨57,aA,Y,ko p E H v++[⟨250,1,bg x⟩]⟩)):
 ∀(rest pre:List Int),l=pre++rest->P (iR n rest) (aK ctx 145 (.loop (Code.at (bq f145) [1,1,0,1,0,0,1,1,0,0,1,1,0,0])) ⟨57,aA,[(0,true,.ptr 0 0 0),(3,true,.ptr 250 1 0),(5,true,.d (.int .i64 n)),(6,true,.d (.int .i64 j)),(7,true,.d (gX l)),(8,true,.d (.int .i64 pre.length)),(14,true,AI),(15,true,AJ),(16,true,.d (.int .i64 j))],ko p C f 0++[⟨250,1,bg x⟩]⟩ k)
 |[],pre,J=>by
  have D:=D pre.length;have A0:l.length=pre.length:=by rw[J];simp
  have M:IntKind.i64.wrap ((pre.length:Int)+1)=(pre.length:Int)+1:=aE (by unfold aG;omega);have g:¬(pre.length:Int)+1<pre.length:=by omega
  rw[ai];simp[gX]at D;simp[f145,gX,iR,A0,M,g,D]
 |[a],pre,J=>by
  have D:=D pre.length;have A0:l.length=pre.length+1:=by rw[J];simp
  have M:IntKind.i64.wrap ((pre.length:Int)+1)=(pre.length:Int)+1:=aE (by unfold aG;omega);rw[ai];simp[gX]at D;simp[f145,gX,iR,A0,M,D]
 |a::c::r,pre,J=>by
  have ih:=UE AA AB O AP C f N T AI AJ k P D A I r (pre++[a,c]) (by simp[J]);have A0:l.length=pre.length+(r.length+2):=by rw[J];simp
  have M:IntKind.i64.wrap ((pre.length:Int)+1)=(pre.length:Int)+1:=aE (by unfold aG;omega);have A2:IntKind.i64.wrap ((pre.length:Int)+2)=(pre.length:Int)+2:=aE (by unfold aG;omega);have U:pre.length<l.length:=by omega
  have V:pre.length+1<l.length:=by omega
  have A3:(pre.length:Int)+1<l.length:=by omega
  have A4:l[pre.length]=a:=by simp[J]
  have A5:l[pre.length+1]=c:=by simp[J]
  have A6:((pre.length:Int)+1).toNat=pre.length+1:=by omega
  have A7:(0:Int)<=(pre.length:Int)+1:=by omega
  rw[ai];by_cases Z:a<=n
  ·by_cases A1:n<=c
   ·have e:iR n (a::c::r)=true:=by simp[iR,Z,A1]
    rw[e];obtain⟨AQ,y⟩:=O C f N T;clear ih D;generalize cd p.vars b ⟨C,f⟩=q at*;obtain⟨h,E,H⟩:=q;cases h with
    |ft e=>
     have I:=λY=>I e Y E H;simp[eP]at y I;simp[f145,gX,U,V,A3,A4,A5,A6,A7,M,A2,Z,A1,AA,AB,bF,y,I]
    |on=>
     have A:=A .on E H;simp[eP,eO]at y A;simp[f145,gX,U,V,A3,A4,A5,A6,A7,M,A2,Z,A1,AA,AB,bF,y,A]
    |lv=>
     have A:=A .lv E H;simp[eP,eO]at y A;simp[f145,gX,U,V,A3,A4,A5,A6,A7,M,A2,Z,A1,AA,AB,bF,y,A]
    |rt=>
     have A:=A .rt E H;simp[eP,eO]at y A;simp[f145,gX,U,V,A3,A4,A5,A6,A7,M,A2,Z,A1,AA,AB,bF,y,A]
   ·have e:iR n (a::c::r)=iR n r:=by simp[iR,A1]
    rw[e];simp[f145,gX]at ih⊢;simp[U,V,A3,A4,A5,A6,A7,M,A2,Z,A1];exact ih
  ·have e:iR n (a::c::r)=iR n r:=by simp[iR,Z]
   rw[e];simp[f145,gX]at ih⊢;simp[U,V,A3,A4,A5,A6,A7,M,A2,Z];exact ih
theorem NP{p:Pg}{x:Sm}(AG:(cq x).length<100000000)(AH:∀l∈cq x,l.length<100000000)(O:∀b∈aV x,BK p b){n:Int}(C:List Int)(f:Nat)(N:eu p C)(T:f<=100000)(k:Kt)(Q:Rr->bW->Prop)
 (AC:∀(Y:Env),Q (kf p.vars ((aV x).drop (cq x).length) ⟨C,f⟩) (k (.exit 0) ⟨57,aA,(0,true,.ptr 0 0 0)::(3,true,.ptr 250 1 0)::Y,ko p C f 0++[⟨250,1,bg x⟩]⟩))
 (A:∀(h:Hw) C f v,(∀e,h≠.ft e)->Q (h,⟨C,f⟩) (k .ret ⟨57,aA,[(4,true,.d (.int .i64 (eO h)))],ko p C f v++[⟨250,1,bg x⟩]⟩))
 (I:∀e (Y:Env) C f v,Q (.ft e,⟨C,f⟩) (k (.panic 103 (km e)) ⟨57,aA,Y,ko p C f v++[⟨250,1,bg x⟩]⟩)):
 ∀(ls pre:List (List Int))(A':List (List Sm)),cq x=pre++ls->A'=(aV x).drop pre.length->ls.length<=A'.length->
 Q (gP p.vars A' n ls ⟨C,f⟩) (aK ctx 145 (.loop (Code.at (bq f145) [1,1,0,1,0,0])) ⟨57,aA,[(0,true,.ptr 0 0 0),(3,true,.ptr 250 1 0),(5,true,.d (.int .i64 n)),(14,true,.d (.list ((cq x).map gX))),(15,true,.d (.int .i64 (cq x).length)),(16,true,.d (.int .i64 pre.length))],ko p C f 0++[⟨250,1,bg x⟩]⟩ k)
 |[],pre,A',J,D,AD=>by
  have A0:(cq x).length=pre.length:=by rw[J];simp
  have e:gP p.vars A' n [] ⟨C,f⟩=kf p.vars ((aV x).drop (cq x).length) ⟨C,f⟩:=by
   rw[D,A0];cases (aV x).drop pre.length with
   |nil=>rw[gP,kf]
   |cons b r=>rw[gP,kf]
  rw[e];have:=AC [(5,true,.d (.int .i64 n)),(14,true,.d (.list ((cq x).map gX))),(15,true,.d (.int .i64 (cq x).length)),(16,true,.d (.int .i64 (cq x).length)),(17,true,.d (.bool false))];rw[<-A0,ai];simp at this;simp[f145,this]
 |l::ls,pre,A',J,D,AD=>by
  have AK:pre.length<(aV x).length:=by
   rw[D,acK]at AD;simp only[ab2]at AD;omega
  have AL:A'=(aV x)[pre.length]::(aV x).drop (pre++[l]).length:=by
   rw[D,ae8 AK];simp
  have e:gP p.vars A' n (l::ls) ⟨C,f⟩=if iR n l=true then cd p.vars (aV x)[pre.length] ⟨C,f⟩else gP p.vars ((aV x).drop (pre++[l]).length) n ls ⟨C,f⟩:=by
   rw[AL,gP]
  have ih:=NP AG AH O (n:=n) C f N T k Q AC A I ls (pre++[l]) ((aV x).drop (pre++[l]).length) (by simp[J]) rfl (by
   rw[AL]at AD;simp only[ab2]at AD;omega)
  rw[e];clear e AC;have U:pre.length<(cq x).length:=by rw[J];simp
  have V:(cq x)[pre.length]=l:=by simp[J]
  have M:IntKind.i64.wrap ((pre.length:Int)+1)=(pre.length:Int)+1:=aE (by unfold aG;omega);have AM:=λ(k:Kt) (P:Bool->bW->Prop) D A I=>UE (x:=x) (n:=n) AK rfl (O _ (acM AK)) (AH l (by rw[J];simp)) C f N T (.d (.list ((cq x).map gX))) (.d (.int .i64 (cq x).length)) k P D A I l [] rfl;generalize gP p.vars ((aV x).drop (pre++[l]).length) n ls ⟨C,f⟩=AR at*;generalize AX:cd p.vars (aV x)[pre.length] ⟨C,f⟩=AS at*;rw[ai];simp[f145,gX]at AM ih⊢;simp[U,V,gX];refine AM _ (λt r=>t=iR n l->Q (if iR n l=true then AS else AR) r) (λi AE=>?_) (λh E H v A8 hh AE=>?_) (λe Y E H v A8 AE=>?_) rfl
  ·rw[aac (by simp[<-AE])];simp[M];exact ih
  ·rw[aal AE.symm,A8];have A:=A h E H v hh;simp at A;simp[A]
  ·rw[aal AE.symm,A8];have I:=I e Y E H v;simp at I;simp[I]
theorem UG{p:Pg}{x:Sm}(AT:KV p (dk x))(AG:(cq x).length<100000000)(AH:∀l∈cq x,l.length<100000000)(O:∀b∈aV x,BK p b)(AU:(cq x).length<=(aV x).length)(C:List Int)(f:Nat)(N:eu p C)(T:f<=100000):
 kP p (vR (cb p.vars C (dk x)) ⟨C,f⟩ λn=>gP p.vars (aV x) n (cq x) ⟨C,f⟩) (ah ctx 145 [.ptr 0 0 0,.d (cG x)] (iO p C f)):=by
 have A9:=iP AT (f:=f) N;obtain⟨AQ,AN⟩:=NJ (n:=(cq x).length) AG O C f N T;rw[adX (by simp)];cases A8:cb p.vars C (dk x)with
 |f e=>
  rw[A8]at A9;simp at A9;simp[f145,cu,A9,vR];exact⟨_,rfl⟩
 |v n t=>
  rw[A8]at A9;simp only[vR];have AO:=λ(k:Kt) (Q:Rr->bW->Prop) AC A I=>NP AG AH O (n:=n) C f N T k Q AC A I (cq x) [] (aV x) rfl rfl AU;generalize gP p.vars (aV x) n (cq x) ⟨C,f⟩=q at*;generalize kf p.vars ((aV x).drop (cq x).length) ⟨C,f⟩=AW at*;simp at A9;simp[f145,cu]at AO⊢;simp[A9];refine AO _ (λX r=>X=q->kP p q r) (λY AF=>?_) (λh C f v hh AF=>?_) (λe Y C f v AF=>?_) rfl
  ·subst AF;obtain⟨h,E,H⟩:=AW;cases h<;>simp[eP,eO,cu]at AN<;>simp[f145,AN]<;>exact⟨_,rfl⟩
  ·subst AF;cases h with
   |ft e=>exact absurd rfl (hh e)
   |on=>simp;exact⟨_,rfl⟩
   |lv=>simp;exact⟨_,rfl⟩
   |rt=>simp;exact⟨_,rfl⟩
  ·subst AF;simp;exact⟨_,rfl⟩
section
variable {p:Pg} (O:p.vars.length<=1000) (T:∀w∈p.vars,dA w=true)
include O T
theorem NQ{x:Sm}{w:Vr}{line:Int}(hw:bu p.vars (gC x)=some w)(J:2<w.ty)(A6:(dn x).length<100000000){a:Int}(k:Kt)(Q:Rr->bW->Prop)
 (A0:∀(Y:Env) C f v v9 D,eu p C->Q (.on,⟨C,f⟩) (k (.exit 0) ⟨71,aA,(0,true,.ptr 0 0 0)::(3,true,.ptr 250 1 0)::(4,true,.d (.int .i64 a))::(5,true,.ptr 350 1 0)::Y,ko p C f v++[⟨250,1,bg x⟩,⟨350,1,ix w⟩,⟨550,v9,D⟩,⟨3551,0,.dead⟩]⟩))
 (M:∀e (Y:Env) C f v v1 AH v2 AI v9 D AJ AK,Q (.ft e,⟨C,f⟩) (k (.panic 103 (km e)) ⟨71,aA,Y,ko p C f v++[⟨250,v1,AH⟩,⟨350,v2,AI⟩,⟨550,v9,D⟩,⟨3551,AJ,AK⟩]⟩)):
 ∀(I pre:List Tx)(xs:List Ex)(pp:List Tx)(C:List Int)(f v v9:Nat)(D:ax),dn x=pre++I->xs=(bV x).drop pre.length->xs.length=I.length->(jq p.vars w.ty line I xs pp).1=0->(∀y∈xs,KV p y/\RI p y)->eu p C->
 Q (jK p.vars (gC x) I xs ⟨C,f⟩) (aK ctx 149 (.loop (Code.at (bq f149) [1,1,0,1,0,0])) ⟨71,aA,[(0,true,.ptr 0 0 0),(3,true,.ptr 250 1 0),(4,true,.d (.int .i64 a)),(5,true,.ptr 350 1 0),(19,true,.d (.list ((dn x).map .str))),(20,true,.d (.int .i64 (dn x).length)),(21,true,.d (.int .i64 pre.length))],ko p C f v++[⟨250,1,bg x⟩,⟨350,1,ix w⟩,⟨550,v9,D⟩,⟨3551,0,.dead⟩]⟩ k)
 |[],pre,xs,pp,C,f,v,v9,D,U,A1,A2,E,N,H=>by
  have AY:(dn x).length=pre.length:=by rw[U];simp
  have e:jK p.vars (gC x) [] xs ⟨C,f⟩=(.on,⟨C,f⟩):=by unfold jK;rfl
  rw[e];have:=A0 [(19,true,.d (.list ((dn x).map .str))),(20,true,.d (.int .i64 (dn x).length)),(21,true,.d (.int .i64 (dn x).length)),(22,true,.d (.bool false))] C f v v9 D H;rw[<-AY,ai];simp at this;simp[f149,this]
 |fl::I,pre,[],pp,C,f,v,v9,D,U,A1,A2,E,N,H=>by simp at A2
 |fl::I,pre,y::A3,pp,C,f,v,v9,D,U,A1,A2,E,N,H=>by
  have AZ:=A0;unfold jq at E;cases A4:lS w.ty fl with
  |none=>rw[A4]at E;simp at E
  |some q=>
   rw[A4]at E;simp only at E;by_cases g1:q.Ih=false
   ·rw[aal g1]at E;simp at E
   ·rw[aac g1]at E;by_cases g2:fl∈pp
    ·rw[aal g2]at E;simp at E
    ·rw[aac g2]at E;obtain⟨_,g3⟩:=gZ.1 E;obtain⟨q1,q2,j,q3,Au⟩:=Nj hw J A4;have AL:=ub (cells:=C.length) T (by have:=H.len;omega) hw J;have hle:=DB O T hw H;have Z:=Uy O hw J A4 ⟨hle.1,by omega⟩ C f;have V:=iP (N y (by simp)).1 (f:=f) H;have A_:=(N y (by simp)).2 C;have e:jK p.vars (gC x) (fl::I) (y::A3) ⟨C,f⟩=vR (cb p.vars C y) ⟨C,f⟩ λn=>jK p.vars (gC x) I A3 ⟨dU C (ke p.vars (gC x) fl).1 n,f⟩:=by rw[jK]
     rw[e];clear e E;obtain⟨o,A'⟩:∃o:Nat,(ke p.vars (gC x) fl).1=o:=⟨(ke p.vars (gC x) fl).1.toNat,by omega⟩;rw[A']at Z⊢;have Aa:o<C.length:=by omega
     have AM:pre.length<(dn x).length:=by rw[U];simp
     have AN:(dn x)[pre.length]=fl:=by simp[U]
     have A7:pre.length<(bV x).length:=by
      have:((bV x).drop pre.length).length=(y::A3).length:=by rw[<-A1]
      simp only[acK,ab2]at this;omega
     have AO:=ae8 A7;rw[<-A1]at AO;injection AO with Ab Ac
     have AP:(bV x)[pre.length]=y:=Ab.symm;have AQ:IntKind.i64.wrap ((pre.length:Int)+1)=(pre.length:Int)+1:=aE (by unfold aG;omega);rw[ai];cases A8:cb p.vars C y with
     |f e=>
      rw[A8]at V;have M:=λY=>M e Y C f;simp[cD]at Z;simp at V M;simp only[vR];simp[f149,AM,AN,A7,AP,aZ,Z,cD,V,AQ,aj];apply M
     |v n t=>
      rw[A8]at V;simp only[vR];have Ad:eu p (dU C o n):=H.put _ (A_ n t H A8);have ih:=λv v9 D=>NQ hw J A6 k Q AZ M I (pre++[fl]) A3 (pp++[fl]) (dU C o n) f v v9 D (by simp[U]) (by simpa using Ac) (by simpa using A2) g3 (λz Ae=>N z (by simp[Ae])) Ad;simp[cD]at Z;simp at V;simp[f149,dU]at ih⊢;simp[AM,AN,A7,AP,aZ,Z,cD,V,Aa,AQ,aj]at ih⊢;try simp[List.map_set]at ih⊢
      apply ih
theorem W6{x:Sm}{w:Vr}{line:Int}(hw:bu p.vars (gC x)=some w)(J:2<w.ty)(A6:(dn x).length<100000000)(Af:(bV x).length=(dn x).length)(h:(jq p.vars w.ty line (dn x) (bV x) []).1=0)(N:∀y∈bV x,KV p y/\RI p y)(C:List Int)(f:Nat)(H:eu p C):
 NB p (ow p.vars (gC x) (dn x) (bV x) ⟨C,f⟩) (ah ctx 149 [.ptr 0 0 0,.d (cG x)] (iO p C f)):=by
 have A9:=rU O hw C f;have hle:=DB O T hw H;obtain⟨o,A'⟩:∃o:Nat,(dt p.vars (gC x)).1=o:=⟨(dt p.vars (gC x)).1.toNat,by omega⟩;have AA:=λ(k:Kt) (Q:Rr->bW->Prop) A0 M v9 D=>NQ O T (line:=line) hw J A6 (a:=o) k Q A0 M (dn x) [] (bV x) [] C f 0 v9 D rfl rfl Af h N H;have AR:=Ek w.ty;unfold ow;rw[A']at A9;rw[nr hw,A'];rw[ad1 (by simp)];generalize jK p.vars (gC x) (dn x) (bV x) ⟨C,f⟩=q at*;simp[bm,dj]at A9;simp[f149,cu]at AA⊢;simp[A9,bm,dj];refine AA _ (λX r=>X=q->NB p (bR q λAS=>(.on,⟨uS AS.cells o w.ty,AS.fuel⟩)) r) (λY A Ag v v9 D AB AC=>?_) (λe Y A Ag v v1 AH v2 AI v9 D AJ AK AC=>?_) _ _ rfl;rotate_left
 ·subst AC;simp[bR];exact⟨_,rfl⟩
 ·subst AC;clear AA;have AT:=AB.num;have Av:=AB.le;have AL:=ub (cells:=A.length) T (by have:=AB.len;omega) hw J;rw[A']at AL;generalize AU:br w.ty=pl at*;have Ah:o+pl.length<=A.length:=by omega
  have AD:((A.drop o).take pl.length).length=pl.length:=by simp;omega
  have AV:=ajp w.ty;unfold pnN at AV;rw[AU]at AV;have AE:=W0 w.ty ((A.drop o).take pl.length) (by rw[AD];omega) (λy Ai=>AT y (acf (aco Ai)));have AF:(fZ w.ty ((A.drop o).take pl.length)).length=pl.length:=by rw[FD,AD]
  have AG:uS A o w.ty=A.take o++fZ w.ty ((A.drop o).take pl.length)++A.drop (o+(fZ w.ty ((A.drop o).take pl.length)).length):=by
   unfold uS;rw[AF,AU];simp
  have AW:=W1 A (fZ w.ty ((A.drop o).take pl.length)) o (by omega);rw[<-AG]at AW;have AX:(uS A o w.ty).length=A.length:=by
   rw[AG];simp only[ab1,afr,acK,AF];omega
  rw[AD]at AE;generalize Aj:fZ w.ty ((A.drop o).take pl.length)=A5 at*;have Ak:(A5.map jD).take (A.length-o)=A5.map jD:=acG (by simp;omega);have Al:(A5.map jD).take pl.length=A5.map jD:=acG (by simp;omega);have An:IntKind.i64.wrap ((o:Int)+(pl.length:Int))=(o:Int)+(pl.length:Int):=aE (by unfold aG;omega);have Ao:((o:Int)+(pl.length:Int)).toNat=o+pl.length:=by omega
  have Ap:o<=A.length:=by omega
  have Aq:(o:Int)<=(A.length:Int):=by omega
  have Ar:(0:Int)<=(o:Int)+(pl.length:Int):=by omega
  have As:(o:Int)<=(o:Int)+(pl.length:Int):=by omega
  have At:o+(A.length-o)<=A.length:=by omega
  simp only[bR];clear AT Aj AG;try simp at AR
  simp only[List.map_take,List.map_drop]at AE;simp[f149,AR,AE,AF,Ak,Al,AW,AX,An,Ao,Ap,Aq,Ar,As,At,Ah,Dy,aj];refine⟨if v=0 then 0 else 1,?_⟩;simp[NA,AX]
end
theorem NR(n:Int):ah ctx 146 [.d (.int .i64 n)] []=some (.ret (.d (.int .i64 (if n=1 then 0 else n))),[]):=by
 rw[adY (by simp)];by_cases h:n=1
 ·simp[f146,h]
 ·simp[f146,h]
section
variable {p:Pg} {x:Sm} {C:List Int} {f:Nat} (M:eu p C) (N:f<=100000)
include M N
theorem xp{R:Mc->Rr}(h:f≠0->kP p (R ⟨C,f-1⟩) (ah ctx 91 [.ptr 0 0 0,.d (cG x)] (iO p C f))):kP p (fH R ⟨C,f⟩) (ah ctx 91 [.ptr 0 0 0,.d (cG x)] (iO p C f)):=by
 unfold fH;by_cases E:f=0
 ·rw[aal E];have A:=kU (p:=p) C f (by omega);rw[aal E]at A;subst E;rw[xh (by simp)];simp at A;simp[f91,cu,A];exact⟨_,rfl⟩
 ·rw[aac E];exact h E
theorem agj(D:bf x=1\/bf x=9){q:Rr}(H:q.1=.on\/∃e,q.1=.ft e)(E:f≠0)(O:bf x=1->NB p q (ah ctx 143 [.ptr 0 0 0,.d (cG x)] (iO p C (f-1))))(T:bf x=9->NB p q (ah ctx 149 [.ptr 0 0 0,.d (cG x)] (iO p C (f-1)))):
 kP p q (ah ctx 91 [.ptr 0 0 0,.d (cG x)] (iO p C f)):=by
 have A:=kU (p:=p) C f (by omega);rw[aac E]at A;obtain⟨w,I,J⟩:=q;rw[xh (by simp)];rcases D with D|D
 ·obtain⟨v,h⟩:=O D;rcases H with H|⟨e,H⟩<;>simp only at H<;>subst H<;>simp[NA,cu,D]at A h<;>simp[f91,cu,D,A,h]<;>exact⟨_,rfl⟩
 ·obtain⟨v,h⟩:=T D;rcases H with H|⟨e,H⟩<;>simp only at H<;>subst H<;>simp[NA,cu,D]at A h<;>simp[f91,cu,D,A,h]<;>exact⟨_,rfl⟩
theorem aqm(D:bf x=2){q:Rr}(E:f≠0)(h:kP p q (ah ctx 144 [.ptr 0 0 0,.d (cG x)] (iO p C (f-1)))):
 kP p q (ah ctx 91 [.ptr 0 0 0,.d (cG x)] (iO p C f)):=by
 have A:=kU (p:=p) C f (by omega);rw[aac E]at A;obtain⟨w,I,J⟩:=q;obtain⟨v,h⟩:=h;rw[xh (by simp)];cases w<;>simp[eP,eO,cu,D]at A h<;>simp[f91,cu,D,A,h]<;>exact⟨_,rfl⟩
theorem aqn(D:bf x=3){q:Rr}(E:f≠0)(h:kP p q (ah ctx 145 [.ptr 0 0 0,.d (cG x)] (iO p C (f-1)))):
 kP p q (ah ctx 91 [.ptr 0 0 0,.d (cG x)] (iO p C f)):=by
 have A:=kU (p:=p) C f (by omega);rw[aac E]at A;obtain⟨w,I,J⟩:=q;obtain⟨v,h⟩:=h;rw[xh (by simp)];cases w<;>simp[eP,eO,cu,D]at A h<;>simp[f91,cu,D,A,h]<;>exact⟨_,rfl⟩
theorem aqo(D:bf x=4){q:Rr}(E:f≠0)(h:kP p q (ah ctx 147 [.ptr 0 0 0,.d (cG x)] (iO p C (f-1)))):
 kP p (hM q) (ah ctx 91 [.ptr 0 0 0,.d (cG x)] (iO p C f)):=by
 have A:=kU (p:=p) C f (by omega);have hle:=NR;rw[aac E]at A;obtain⟨w,I,J⟩:=q;obtain⟨v,h⟩:=h;rw[xh (by simp)];cases w<;>simp[eP,eO,cu,D]at A h<;>simp[f91,cu,D,A,h,hle,hM]<;>exact⟨_,rfl⟩
theorem aap(D:bf x=5\/bf x=6){q:Rr}(E:f≠0)(h:kP p q (ah ctx 148 [.ptr 0 0 0,.d (cG x)] (iO p C (f-1)))):
 kP p (hM q) (ah ctx 91 [.ptr 0 0 0,.d (cG x)] (iO p C f)):=by
 have A:=kU (p:=p) C f (by omega);have hle:=NR;rw[aac E]at A;obtain⟨w,I,J⟩:=q;obtain⟨v,h⟩:=h;rw[xh (by simp)];rcases D with D|D
 ·cases w<;>simp[eP,eO,cu,D]at A h<;>simp[f91,cu,D,A,h,hle,hM]<;>exact⟨_,rfl⟩
 ·cases w<;>simp[eP,eO,cu,D]at A h<;>simp[f91,cu,D,A,h,hle,hM]<;>exact⟨_,rfl⟩
theorem aaq(D:bf x=7\/bf x=8)(E:f≠0):kP p (if bf x=7 then .lv else .rt,⟨C,f-1⟩) (ah ctx 91 [.ptr 0 0 0,.d (cG x)] (iO p C f)):=by
 have A:=kU (p:=p) C f (by omega);rw[aac E]at A;rw[xh (by simp)];rcases D with D|D
 ·simp at A;simp[f91,cu,D,A];exact⟨_,rfl⟩
 ·simp at A;simp[f91,cu,D,A];exact⟨_,rfl⟩
end
end Go.Am
end
section
namespace Go.Am
open Go
def UI(x:aS):Prop:=xl x.n=true/\xl x.m=true
def iy(l:List aS):Prop:=∀x∈l,UI x
theorem iy.nil:iy []:=λ_ h=>by simp at h
theorem iy.app{a b:List aS}(J:iy a)(D:iy b):iy (a++b):=λx A=>(abO.1 A).elim (J x) (D x)
theorem iy.cons{x:aS}{l:List aS}(A:UI x)(T:iy l):iy (x::l):=λy E=>by
 rcases aak.1 E with rfl|E
 ·exact A
 ·exact T y E
theorem iy.one{x:aS}(A:UI x):iy [x]:=.cons A .nil
theorem nm0{op a b:Int}:UI (ins op a b 0 0):=⟨rfl,rfl⟩
theorem Ey{f:aS->aS}(M:∀x,(f x).n=x.n/\(f x).m=x.m){l:List aS}(h:iy l):iy (l.map f):=λy E=>by
 obtain⟨x,A,rfl⟩:=ab9.1 E;have:=h x A;unfold UI at*;rw[(M x).1,(M x).2];exact this
theorem iy.mv{l:List aS}(h:iy l)(k:Nat):iy (oO k l):=Ey (λx=>by unfold ou;split<;>exact⟨rfl,rfl⟩) h
theorem iy.out{l:List aS}(h:iy l):iy (Ep l):=Ey (λx=>by unfold Nf;split<;>exact⟨rfl,rfl⟩) h
theorem iy.rt{l:List aS}(h:iy l)(k:Int):iy (l.map (rtI k)):=Ey (λx=>by unfold rtI;split<;>exact⟨rfl,rfl⟩) h
theorem iy.jn{a b:List aS}(J:iy a)(D:iy b):iy (jn a b):=J.app (D.mv _)
theorem iy.ch:∀(H N:List (List aS)),(∀t∈H,iy t)->(∀b∈N,iy b)->iy (ly H N)
 |[],[],_,_=>by unfold ly;exact .nil
 |_::_,[],_,_=>by unfold ly;exact .nil
 |[],b::r,I,D=>by
  have ih:=iy.ch [] r I (λx A=>D x (by simp[A]));rw[aa0];split
  ·exact D b (by simp)
  ·exact .jn ((D b (by simp)).app (.one nm0)) ih
 |t::H,b::r,I,D=>by
  have ih:=iy.ch H r (λx A=>I x (by simp[A])) (λx A=>D x (by simp[A]));rw[ly];refine .jn (((I t (by simp)).app (.one nm0)).app (.mv ?_ _)) ih;split
  ·exact D b (by simp)
  ·exact (D b (by simp)).app (.one nm0)
section
variable {vs:List Vr} (O:∀w∈vs,dA w=true)
include O
omit O in
theorem zK:∀{l:List Ex},mc l=true->∀x∈l,mE x=true
 |y::r,h,x,A=>by
  simp only[mc,Ds]at h;rcases aak.1 A with rfl|A
  ·exact h.1
  ·exact zK h.2 x A
end
end Go.Am
end
section
namespace Go.Am
open Go Go.Proofs
variable [Inhabited bB]
set_option maxRecDepth 20000
theorem Gu{v:Vl}{s:Mc}{g:Int->Rr}(h:∀n,(g n).1=.on\/∃e,(g n).1=.ft e):(vR v s g).1=.on\/∃e,(vR v s g).1=.ft e:=by
 cases v with
 |f e=>exact .inr ⟨e,rfl⟩
 |v n t=>exact h n
theorem agl(vs:List Vr)(to val:Ex)(s:Mc):(s5 vs to val s).1=.on\/∃e,(s5 vs to val s).1=.ft e:=by
 unfold s5;split
 ·exact Gu λn=>.inl rfl
 ·refine Gu λk=>Gu λn=>?_;unfold zF;split
  ·exact .inr ⟨3,rfl⟩
  ·exact .inl rfl
theorem UJ(vs:List Vr)(name:Tx):∀(A5:List Tx)(xs:List Ex)(s:Mc),(jK vs name A5 xs s).1=.on\/∃e,(jK vs name A5 xs s).1=.ft e
 |[],xs,s=>by unfold jK;exact .inl rfl
 |_::_,[],s=>by unfold jK;exact .inl rfl
 |f::A5,x::xs,s=>by
  rw[jK];exact Gu λn=>UJ vs name A5 xs _
theorem W7(vs:List Vr)(name:Tx)(A5:List Tx)(xs:List Ex)(s:Mc):(ow vs name A5 xs s).1=.on\/∃e,(ow vs name A5 xs s).1=.ft e:=by
 have h:=UJ vs name A5 xs s;unfold ow;generalize jK vs name A5 xs s=q at*;obtain⟨w,t⟩:=q;rcases h with h|⟨e,h⟩<;>simp only at h<;>subst h
 ·exact .inl rfl
 ·exact .inr ⟨e,rfl⟩
def SK(p:Pg)(x:Sm):Prop:=MK p x/\bA p (iT p.vars x)
def LK(p:Pg)(b:List Sm):Prop:=BK p b/\bA p (cd p.vars b)
section
variable {p:Pg} (A3:p.vars.length<=1000) (A1:∀w∈p.vars,dA w=true)
include A3 A1
theorem NS:∀(M:List (List Sm))(cs:List Ex),(∀b∈M,bA p (cd p.vars b))->(∀c∈cs,RI p c)->bA p (gO p.vars M cs)
 |[],cs,_,_=>by
  have e:gO p.vars [] cs=λs=>(.on,s):=by funext s;rw[gO]
  rw[e];exact bA.id _
 |b::M,[],h,_=>by
  have e:gO p.vars (b::M) []=cd p.vars b:=by funext s;rw[gO]
  rw[e];exact h b (by simp)
 |b::M,c::cs,h,AA=>by
  have e:gO p.vars (b::M) (c::cs)=λs=>vR (cb p.vars s.cells c) s λn=>if n=0 then gO p.vars M cs s else cd p.vars b s:=by funext s;rw[gO]
  rw[e];refine bA.vR (v:=λC=>cb p.vars C c) (G:=λn s=>if n=0 then gO p.vars M cs s else cd p.vars b s) (λC n t A U=>AA c (by simp) C n t A U) λn _=>?_;by_cases H:n=0
  ·simp only[H,afh];exact NS M cs (λb J=>h b (by simp[J])) (λy Z=>AA y (by simp[Z]))
  ·simp only[H,acy];exact h b (by simp)
theorem NT(n:Int):∀(M:List (List Sm))(ls:List (List Int)),(∀b∈M,bA p (cd p.vars b))->bA p (gP p.vars M n ls)
 |[],ls,_=>by
  have e:gP p.vars [] n ls=λs=>(.on,s):=by funext s;rw[gP]
  rw[e];exact bA.id _
 |b::M,[],h=>by
  have e:gP p.vars (b::M) n []=cd p.vars b:=by funext s;rw[gP]
  rw[e];exact h b (by simp)
 |b::M,l::ls,h=>by
  have e:gP p.vars (b::M) n (l::ls)=λs=>if iR n l=true then cd p.vars b s else gP p.vars M n ls s:=by funext s;rw[gP]
  rw[e];by_cases H:iR n l=true
  ·simp only[H,afh];exact h b (by simp)
  ·simp only[H];exact NT n M ls (λb J=>h b (by simp[J]))
theorem ajB{lp:Bool}{x:Sm}(N:og x=true)(D:mF x=true)(AC:tV x)(h:(AW p.vars lp x).1=0)(AD:∀(lp:Bool) (cs:List Ex),fm (aV x)=true->(gD p.vars lp cs (aV x)).1=0->∀b∈aV x,LK p b):SK p x:=by
 have A4:=λ(y:Ex) A6 T AE=>UB A3 A1 y A6 T AE;obtain⟨_,_,⟨AV,_⟩,⟨AX,AY⟩,AZ,_⟩:=AC;cases aaZ N h with
 |@asg to val line v V U A_ ft Aa A8 Ab AJ=>
  simp only[mF,Ds]at D;have A':=A4 val A8 D.2.1 Ab;have e:iT p.vars (.mk 1 [] to val [] [] [] [] line)=fH (λs=>s5 p.vars to val s):=by funext s;simp[iT]
  refine⟨λC f A E=>?_,?_⟩
  ·rw[e];refine xp A E λI=>agj A E (.inl rfl) (agl ..) I (λ_=>?_) (λh=>by simp[bf]at h);cases Es ft Aa with
   |num h=>simp[cA]at V
   |qY h=>simp[cA]at V
   |fld _ _ _ _=>simp[cA]at V
   |one o _ _ _=>simp[cA]at V;omega
   |two o _ _ _ _ _ _=>simp[cA]at V;omega
   |@var name Ac Ad AL AF AM=>exact ajz A3 A1 AL AF AM A'.1 C (f-1) A
   |@idx name Ac Ad y AL AF AM AN Ae ty=>
    have Af:mE y=true:=by
     have:=D.1;simp[mE,mc]at this;exact this
    exact ajA A3 A1 AL AF AM (A4 y AN Af Ae).1 A'.1 C (f-1) A
  ·rw[e];exact bA.fH (abe A'.2)
 |@cnd to val Y A0 line V AK AO A6 T AE A7 hh=>
  simp only[mF,Ds]at D;have AG:∀c∈Y,KV p c/\RI p c:=λc A9=>A4 c ((zz _).1 AO c A9) (zK D.2.2.1 c A9) (s4 (FN T hh c A9)).1;have O:=AD lp Y A7 hh;have e:iT p.vars (.mk 2 [] to val Y [] [] A0 line)=fH (λs=>gO p.vars A0 Y s):=by funext s;simp[iT]
  refine⟨λC f A E=>?_,?_⟩
  ·rw[e];exact xp A E λI=>aqm A E rfl I (UD (x:=.mk 2 [] to val Y [] [] A0 line) AV (λc AA=>(AG c AA).1) (λb J=>(O b J).1) T C (f-1) A (by omega))
  ·rw[e];exact bA.fH (NS A3 A1 A0 Y (λb J=>(O b J).2) (λc AA=>(AG c AA).2))
 |@cas to val AB A0 line V A8 AH T AE An A7 hh=>
  simp only[mF,Ds]at D;have A':=A4 val A8 D.2.1 (s4 AH).1;have O:=AD lp [] A7 hh;have e:iT p.vars (.mk 3 [] to val [] AB [] A0 line)=fH (λs=>vR (cb p.vars s.cells val) s λn=>gP p.vars A0 n AB s):=by funext s;simp[iT]
  refine⟨λC f A E=>?_,?_⟩
  ·rw[e];exact xp A E λI=>aqn A E rfl I (UG (x:=.mk 3 [] to val [] AB [] A0 line) A'.1 AX AY (λb J=>(O b J).1) T C (f-1) A (by omega))
  ·rw[e];exact bA.fH (bA.vR (v:=λC=>cb p.vars C val) (G:=λn s=>gP p.vars A0 n AB s) (λC n t A U=>A'.2 C n t A U) λn _=>NT A3 A1 n A0 AB λb J=>(O b J).2)
 |@cnt name to val x y z b line v H V AK U A_ AF AJ Ag Ah AN Ai Aj Ak A7 hh=>
  simp only[mF,mc,Ds]at D;have AP:=A4 x Ag D.2.2.1.1 (s4 Ah).1;have AS:=A4 y AN D.2.2.1.2.1 (s4 Ai).1;have AQ:=A4 z Aj D.2.2.1.2.2.1 (s4 Ak).1;have O:=AD true [] (by simpa [aV,fm]using A7) (by simp[aV,gD,eN,hh]) b (by simp[aV]);have AI:(λq=>kf p.vars [b] q)=λs=>cd p.vars b s:=by funext s;rw[kf]
  have e:iT p.vars (.mk 4 name to val [x,y,z] [] [] [b] line)=fH (λs=>hM (zG p.vars name [x,y,z] (λs=>cd p.vars b s) s)):=by funext s;simp[iT,AI]
  refine⟨λC f A E=>?_,?_⟩
  ·rw[e];exact xp A E λI=>aqo A E rfl I (W5 A3 A1 (x:=.mk 4 name to val [x,y,z] [] [] [b] line) rfl U AF (by omega) AP.1 AS.1 AQ.1 AP.2 AQ.2 rfl O.1 O.2 C (f-1) A (by omega))
  ·rw[e];exact bA.fH (bA.left (W3 AP.2 AS.2 AQ.2 O.2))
 |@whl to val b line V A8 AH A7 hh=>
  simp only[mF,Ds]at D;have A':=A4 val A8 D.2.1 (s4 AH).1;have O:=AD true [] (by simpa [aV,fm]using A7) (by simp[aV,gD,eN,hh]) b (by simp[aV]);have AI:(λq=>kf p.vars [b] q)=λs=>cd p.vars b s:=by funext s;rw[kf]
  have e:iT p.vars (.mk 5 [] to val [] [] [] [b] line)=fH (λs=>hM (ud (λC=>cb p.vars C val) (λs=>cd p.vars b s) (s.fuel+1) s)):=by funext s;simp[iT,AI]
  refine⟨λC f A E=>?_,?_⟩
  ·rw[e];exact xp A E λI=>aap A E (.inl rfl) I (by
    have:=NN (x:=.mk 5 [] to val [] [] [] [b] line) A'.1 rfl O.1 O.2 (.inl rfl) C (f-1) A (by omega);simpa [bf]using this)
  ·rw[e];exact bA.fH (bA.left λs AC=>NC (λC n t A U=>A'.2 C n t A U) O.2 (s.fuel+1) s AC)
 |@rep to val b line V A8 AH A7 hh=>
  simp only[mF,Ds]at D;have A':=A4 val A8 D.2.1 (s4 AH).1;have O:=AD true [] (by simpa [aV,fm]using A7) (by simp[aV,gD,eN,hh]) b (by simp[aV]);have AI:(λq=>kf p.vars [b] q)=λs=>cd p.vars b s:=by funext s;rw[kf]
  have e:iT p.vars (.mk 6 [] to val [] [] [] [b] line)=fH (λs=>hM (ue (λC=>cb p.vars C val) (λs=>cd p.vars b s) (s.fuel+1) s)):=by funext s;simp[iT,AI]
  refine⟨λC f A E=>?_,?_⟩
  ·rw[e];exact xp A E λI=>aap A E (.inr rfl) I (by
    have:=NN (x:=.mk 6 [] to val [] [] [] [b] line) A'.1 rfl O.1 O.2 (.inr rfl) C (f-1) A (by omega);simpa [bf]using this)
  ·rw[e];exact bA.fH (bA.left λs AC=>ND (λC n t A U=>A'.2 C n t A U) O.2 (s.fuel+1) s AC)
 |@ext to val line V AK Ao=>
  have e:iT p.vars (.mk 7 [] to val [] [] [] [] line)=fH (λs=>(.lv,s)):=by funext s;simp[iT]
  refine⟨λC f A E=>?_,?_⟩
  ·rw[e];exact xp A E λI=>by simpa [bf]using aaq (x:=.mk 7 [] to val [] [] [] [] line) A E (.inl rfl) I
  ·rw[e];exact bA.fH (bA.id _)
 |@ret to val line V AK=>
  have e:iT p.vars (.mk 8 [] to val [] [] [] [] line)=fH (λs=>(.rt,s)):=by funext s;simp[iT]
  refine⟨λC f A E=>?_,?_⟩
  ·rw[e];exact xp A E λI=>by simpa [bf]using aaq (x:=.mk 8 [] to val [] [] [] [] line) A E (.inr rfl) I
  ·rw[e];exact bA.fH (bA.id _)
 |@cal name to val Y fields line v H V AK U AJ AO AR Ap hh=>
  simp only[mF,Ds]at D;have Al:=Np fields Y [] AR hh;have AG:∀c∈Y,KV p c/\RI p c:=λc A9=>A4 c ((zz _).1 AO c A9) (zK D.2.2.1 c A9) (Al c A9);have e:iT p.vars (.mk 9 name to val Y [] fields [] line)=fH (λs=>ow p.vars name fields Y s):=by funext s;simp[iT]
  refine⟨λC f A E=>?_,?_⟩
  ·rw[e];exact xp A E λI=>agj A E (.inr rfl) (W7 ..) I (λh=>by simp[bf]at h) (λ_=>W6 A3 A1 (x:=.mk 9 name to val Y [] fields [] line) U AJ AZ AR hh AG C (f-1) A)
  ·rw[e];exact bA.fH (UC U (λC A=>by
    have:=ub (cells:=C.length) A1 (by have:=A.len;omega) U AJ;omega) (λy Z=>(AG y Z).2))
mutual
theorem agm:∀(x:Sm)(lp:Bool),og x=true->mF x=true->FI x->(AW p.vars lp x).1=0->SK p x
 | .mk op name to val Y AB fields A0 line,lp,N,D,H,h=>by
  have AT:=(QC _).1 H;have AU:=D;simp only[mF,Ds]at AU;exact ajB A3 A1 N D AT.1 h (λlp cs A6 T=>BX A0 lp cs A6 AU.2.2.2.2 AT.2 T)
theorem xq:∀(l:List Sm)(lp:Bool),ga l=true->lu l=true->kZ l->(eU p.vars lp l).1=0->∀x∈l,SK p x
 |[],_,_,_,_,_,x,A2=>absurd A2 (ae6)
 |y::r,lp,N,D,H,h,x,A2=>by
  simp only[ga,Ds]at N;simp only[lu,Ds]at D;simp only[kZ]at H;simp only[eU]at h;obtain⟨A6,T⟩:=gZ.1 h;rcases aak.1 A2 with I|A2
  ·rw[I];exact agm y lp N.1 D.1 H.1 A6
  ·exact xq r lp N.2 D.2 H.2 T x A2
theorem BX:∀(l:List (List Sm))(lp:Bool)(cs:List Ex),fm l=true->tW l=true->pr l->(gD p.vars lp cs l).1=0->∀b∈l,LK p b
 |[],_,_,_,_,_,_,b,J=>absurd J (ae6)
 |y::r,lp,[],N,D,H,h,b,J=>by
  simp only[fm,Ds]at N;simp only[tW,Ds]at D;simp only[pr]at H;simp only[gD]at h;obtain⟨A6,T⟩:=gZ.1 h;rcases aak.1 J with I|J
  ·have Z:=xq y lp N.1 D.1 H.1.2 A6;rw[I];exact⟨QR y (by have:=H.1.1;omega) Z,Ar y λx A2=>(Z x A2).2⟩
  ·exact BX r lp [] N.2 D.2 H.2 T b J
 |y::r,lp,c::cs,N,D,H,h,b,J=>by
  simp only[fm,Ds]at N;simp only[tW,Ds]at D;simp only[pr]at H;simp only[gD]at h;obtain⟨A6,T⟩:=gZ.1 h;obtain⟨T,AE⟩:=gZ.1 T;rcases aak.1 J with I|J
  ·have Z:=xq y lp N.1 D.1 H.1.2 T;rw[I];exact⟨QR y (by have:=H.1.1;omega) Z,Ar y λx A2=>(Z x A2).2⟩
  ·exact BX r lp cs N.2 D.2 H.2 AE b J
end
theorem UK{l:List Sm}{lp:Bool}(AR:l.length<100000000)(N:ga l=true)(D:lu l=true)(H:kZ l)(h:(eU p.vars lp l).1=0):LK p l:=by
 have Z:=xq A3 A1 l lp N D H h;exact⟨QR l (by omega) Z,Ar l λx A2=>(Z x A2).2⟩
end
end Go.Am
end
section
namespace Go.Am
open Go Go.Proofs Go.Proofs.Tryz
variable [Inhabited bB]
set_option maxRecDepth 20000
set_option maxHeartbeats 1600000
@[simp] theorem ajD:rk Tryz.prog 99=some [.lit (.pointer none)]:=by kernel_rfl
theorem Jb(l:List Vr)(I:l.length<=1000)(J M N X5 O:ax)(T U V Y Z y:AV)(k:Kt)(Q:bW->Prop)
 (E:∀v1 v6 X6,Q (k (.exit 0) ⟨73,aA,[(3,true,.ptr 250 1 0),(6,true,.ptr 400 1 0),(8,true,.ptr 500 1 0),(40,true,.d (.list (l.map bm))),(41,true,.d (.int .i64 l.length)),(42,true,.d (.int .i64 l.length)),(43,true,.d (.bool false))],
  [⟨250,1,J⟩,⟨400,1,M⟩,⟨450,1,N⟩,⟨500,1,.box [.ptr 1100 1 0]⟩,⟨600,v6,X6⟩,⟨951,1,O⟩,⟨1100,1,.box [T,U,V,Y,.vec 1101 v1 0 l.length,Z,y]⟩,⟨1101,v1,.vec 1 (l.map Dx)⟩]⟩)):
 ∀(rest pre:List Vr)(v1 v6:Nat)(X6:ax),l=pre++rest->Q (aK ctx 22 (.loop (Code.at (bq f22) [1,1,1,1,0,1,0,0])) ⟨73,aA,[(3,true,.ptr 250 1 0),(6,true,.ptr 400 1 0),(8,true,.ptr 500 1 0),(40,true,.d (.list (l.map bm))),(41,true,.d (.int .i64 l.length)),(42,true,.d (.int .i64 pre.length))],
  [⟨250,1,J⟩,⟨400,1,M⟩,⟨450,1,N⟩,⟨500,1,.box [.ptr 1100 1 0]⟩,⟨600,v6,X6⟩,⟨951,1,O⟩,⟨1100,1,.box [T,U,V,Y,.vec 1101 v1 0 pre.length,Z,y]⟩,⟨1101,v1,.vec 1 (pre.map Dx)⟩]⟩ k)
 |[],pre,v1,v6,X6,H=>by
  have E:=E v1 v6 X6;simp at H;subst H;rw[ai];simp[f22,E]
 |v::r,pre,v1,v6,X6,H=>by
  have ih:=λv1 v6 X6=>Jb l I J M N X5 O T U V Y Z y k Q E r (pre++[v]) v1 v6 X6 (by simp[H]);clear E;have A8:pre.length<l.length:=by rw[H];simp
  have A9:l[pre.length]=v:=by simp[H]
  have AA:=Ek v.ty;have AB:IntKind.i64.wrap ((pre.length:Int)+1)=(pre.length:Int)+1:=aE (by unfold aG;omega);have AC:pre.length+1<=4611686018427387904:=by omega
  have AD:(pre.length+1)*24<=140737488355328:=by omega
  have AE:pre.length+1<=281474976710656:=by omega
  rw[ai];simp[f22]at ih⊢;simp[A8,A9,bm,dj,AA,AB,AC,AD,AE,Dx,aj]at ih⊢;apply ih
theorem W8(e:Int)(d0 d1 d2 d3:D)(n:Nat)(A':List D)(C:List Int)(f:Nat):wV ctx 55 [.ptr 0 0 0,.ptr 1 0 0,.fL 103 (km e)] [.box [.ptr 2 0 0],.box [.lit (.slice none 0 0),.d (.int .i64 0),.d (.int .i64 0)],.box [.d d0,.d d1,.d d2,.d d3,.vec 3 0 0 n,.vec 4 0 0 C.length,.d (.int .i64 f)],.vec 1 A',.vec 1 (C.map jD)]=
 some (.ret (.bM []),[(0,.box [.ptr 2 0 0]),(0,.box [.vec 4 0 0 C.length,.d (.int .i64 e),.d (.int .i64 f)]),(0,.box [.d d0,.d d1,.d d2,.d d3,.vec 3 0 0 n,.vec 4 0 0 C.length,.d (.int .i64 f)]),(0,.vec 1 A'),(0,.vec 1 (C.map jD))]):=by
 rw[Z4 (by rfl) (by rfl) (by simp)];simp[f55];erw[zr rfl];simp[km,aj]
theorem abf(b f2:D)(d0 d1 d2 d3:D)(n:Nat)(A':List D)(C:List Int)(f:Nat):wV ctx 55 [.ptr 0 0 0,.ptr 1 0 0,.lit .nilIface] [.box [.ptr 2 0 0],.box [.vec 3 0 0 C.length,.d b,.d f2],.box [.d d0,.d d1,.d d2,.d d3,.vec 4 0 0 n,.vec 3 0 0 C.length,.d (.int .i64 f)],.vec 1 (C.map jD),.vec 1 A']=
 some (.ret (.bM []),[(0,.box [.ptr 2 0 0]),(0,.box [.vec 3 0 0 C.length,.d b,.d f2]),(0,.box [.d d0,.d d1,.d d2,.d d3,.vec 4 0 0 n,.vec 3 0 0 C.length,.d (.int .i64 f)]),(0,.vec 1 (C.map jD)),(0,.vec 1 A')]):=by
 rw[Z4 (by rfl) (by rfl) (by simp)];simp[f55];erw[zr rfl];simp
theorem agn{p:Pg}(A2:p.vars.length<=1000)(A5:∀v∈p.vars,dA v=true)(C:List Int)(f:Nat)(A0:eu p C)(AJ:f<=16384)(AF:BK p p.body):ah ctx 22 [.d (uc p),.d (.list (C.map jD)),.d (.int .i64 f)] []=
 some (.ret (.d (.agg [.list ((gH p C f).1.map jD),.int .i64 (gH p C f).2.1,.int .i64 (gH p C f).2.2])),[]):=by
 have I:=Nq p A2 A5;have A6:=uU C (by have:=A0.le;omega);have AG:=A0.len;obtain⟨AK,A⟩:=AF C f A0 (by omega);have g1:¬((f:Int)<0):=by omega
 have g2:¬(16384<(f:Int)):=by omega
 have A1:=λJ M N O T U V Y Z y k Q E v1 v6 X6=>Jb p.vars A2 J M N .dead O T U V Y Z y k Q E p.vars [] v1 v6 X6 rfl;have AH:=λe=>W8 e;have A7:=abf;unfold gH;rw[Z2 (by simp)];simp[f22]at A1;simp[f22,lL,nG,gv,CM,I,A6,AG,g1,g2,aj];generalize cd p.vars p.body ⟨C,f⟩=q at*;obtain⟨w,A3,A4⟩:=q;cases w with
 |ft e=>
  simp[eP]at A;refine A1 _ _ _ _ _ _ _ _ _ _ _ (λr=>r=some (.ret (.d (.agg [.list (A3.map jD),.int .i64 e,.int .i64 A4])),[])) (λv1 v6 X6=>?_) _ _ _;simp[f22,lL,nG,gv,CM,A,AH,aj]
 |on=>
  simp[eP,eO]at A;refine A1 _ _ _ _ _ _ _ _ _ _ _ (λr=>r=some (.ret (.d (.agg [.list (A3.map jD),.int .i64 0,.int .i64 A4])),[])) (λv1 v6 X6=>?_) _ _ _;simp[f22,lL,nG,gv,CM,A,A7,aj]
 |lv=>
  simp[eP,eO]at A;refine A1 _ _ _ _ _ _ _ _ _ _ _ (λr=>r=some (.ret (.d (.agg [.list (A3.map jD),.int .i64 0,.int .i64 A4])),[])) (λv1 v6 X6=>?_) _ _ _;simp[f22,lL,nG,gv,CM,A,A7,aj]
 |rt=>
  simp[eP,eO]at A;refine A1 _ _ _ _ _ _ _ _ _ _ _ (λr=>r=some (.ret (.d (.agg [.list (A3.map jD),.int .i64 0,.int .i64 A4])),[])) (λv1 v6 X6=>?_) _ _ _;simp[f22,lL,nG,gv,CM,A,A7,aj]
theorem W9{p:Pg}(A2:p.vars.length<=1000)(A5:∀v∈p.vars,dA v=true)(C:List Int)(f:Int)(A0:C.length<=100000)(AI:(¬(C.length:Int)=dS p.vars\/f<0)\/16384<f):ah ctx 22 [.d (uc p),.d (.list (C.map jD)),.d (.int .i64 f)] []=
 some (.ret (.d (.agg [.list (C.map jD),.int .i64 0,.int .i64 (-1)])),[]):=by
 have I:=Nq p A2 A5;have A6:=uU C A0;rw[Z2 (by simp)];simp[f22,lL,nG,gv,CM,I,A6,AI,aj]
end Go.Am
end
section
namespace Go.Am
open Go
theorem zL:∀(l p:List Vr)(n:Int),n<=1024->(FG l p n).1=0->n+dS l<=1024
 |[],_,n,A,_=>by simp[dS];exact A
 |v::r,p,n,A,h=>by
  unfold FG at h;split at h
  ·simp at h
  ·split at h
   ·simp at h
   ·have:=zL r _ _ (by omega) h;simp only[dS];omega
end Go.Am
end
section
namespace Go.Am
open Go Go.Proofs
variable [Inhabited bB]
set_option maxRecDepth 20000
structure BY(p:Pg):Prop where
 fit:sY p=true
 lit:lu p.body=true
 chk:(qw p).1=0
 lw:iN (uc p)<10000000
end Go.Am
end
section
namespace Go.Am
open Go Go.Proofs Go.Proofs.Tryz
variable [Inhabited bB]
set_option maxRecDepth 20000
theorem DD(s:Tx)(l:List Vr)(I:l.length<1000000)(k:Kt)(RF:Option Vr->bW)
 (A:∀w v,k .ret ⟨25,aA,[(4,true,.ptr 300 v 0),(5,true,.d (.bool true))],[⟨300,v,ix w⟩]⟩=RF (some w))
 (D:∀(v:Nat)(b c:AV),k (.exit 0) ⟨25,aA,[(0,true,.d (.list (l.map bm))),(1,true,.d (.str s)),(4,true,.ptr 300 v 0),(6,true,b),(10,true,c)],[⟨300,v,ix q8⟩]⟩=RF none):∀(rest pre:List Vr)(v:Nat),l=pre++rest->
 aK ctx 38 (.loop (Code.at (bq f38) [1,0,1,0,0])) ⟨25,aA,[(0,true,.d (.list (l.map bm))),(1,true,.d (.str s)),(4,true,.ptr 300 v 0),(6,true,.d (.int .i64 pre.length))],[⟨300,v,ix q8⟩]⟩ k=RF (bu rest s)
 |[],pre,v,E=>by
  have T:pre.length=l.length:=by rw[E];simp
  simp only[ix,q8]at D;rw[T,ai];simp[f38,D,bu,q8]
 |x::rest,pre,v,E=>by
  have N:pre.length<l.length:=by rw[E];simp
  have O:l[pre.length]=x:=by simp[E]
  have ih:=DD s l I k RF A D rest (pre++[x]) v (by simp[E]);have J:IntKind.i64.wrap ((pre.length:Int)+1)=(pre.length:Int)+1:=aE (by unfold aG;omega);have A:=A x;simp only[ix]at A;rw[ai];by_cases M:x.name=s
  ·simp only[M]at A;simp[f38,q8];simp[N,O,bm,dj,M,A,bu]
  ·simp[f38,q8]at ih⊢;simp[N,O,bm,dj,M,J,ih,bu]
theorem mg{vs:List Vr}(I:vs.length<1000000)(s:Tx):ah ctx 38 [.d (.list (vs.map bm)),.d (.str s)] []=some (.ret (.bM [.d (bm (fV vs s)),.d (.bool (bu vs s).isSome)]),[]):=by
 have h:=λk RF A D v=>DD s vs I k RF A D vs [] v rfl;rw[aiT (by simp)];unfold fV;simp[f38,q8]at h⊢;rw[h _ (λo=>some (.ret (.bM [.d (bm (o.getD q8)),.d (.bool o.isSome)]),[]))]
 ·simp[q8]
 ·intro w v;simp[bm,dj]
 ·intro v b c;simp[bm,dj,q8]
theorem NU(k:Int):ah ctx 52 [.d (.int .i64 k)] []=some (.ret (.d (.list ((br k).map cD))),[]):=by
 by_cases h:10<=k/\k<=31
 ·have:k=10\/k=11\/k=12\/k=13\/k=14\/k=15\/k=16\/k=17\/k=18\/k=19\/k=20\/k=21\/k=22\/k=23\/k=24\/k=25\/k=26\/k=27\/k=28\/k=29\/k=30\/k=31:=by omega
  rcases this with h|h|h|h|h|h|h|h|h|h|h|h|h|h|h|h|h|h|h|h|h|h<;>subst h
  ·exact apP
  ·exact apQ
  ·exact apR
  ·exact apS
  ·exact apT
  ·exact apU
  ·exact apV
  ·exact apW
  ·exact apX
  ·exact apY
  ·exact apZ
  ·exact ap0
  ·exact ap1
  ·exact ap2
  ·exact ap3
  ·exact ap4
  ·exact ap5
  ·exact ap6
  ·exact ap7
  ·exact ap8
  ·exact ap9
  ·exact aqa
 ·have U:br k=[]:=by
   have e:∀n:Int,10<=n->n<=31->¬n=k:=λn a b c=>h (by omega);unfold br KL;simp only[xe];rw[aac (e _ (by decide) (by decide)),aac (e _ (by decide) (by decide)),aac (e _ (by decide) (by decide)),aac (e _ (by decide) (by decide)),aac (e _ (by decide) (by decide)),aac (e _ (by decide) (by decide)),aac (e _ (by decide) (by decide)),aac (e _ (by decide) (by decide)),aac (e _ (by decide) (by decide)),aac (e _ (by decide) (by decide)),aac (e _ (by decide) (by decide)),aac (e _ (by decide) (by decide)),aac (e _ (by decide) (by decide)),aac (e _ (by decide) (by decide)),aac (e _ (by decide) (by decide)),aac (e _ (by decide) (by decide)),aac (e _ (by decide) (by decide)),aac (e _ (by decide) (by decide)),aac (e _ (by decide) (by decide)),aac (e _ (by decide) (by decide)),aac (e _ (by decide) (by decide))]
  rw[U];rw[aiZ (by simp)];by_cases A:k<10
  ·simp[f52,A]
  ·have D:31<k:=by omega
   simp[f52,A,D]
theorem Xa{w:Vr}(V:w.arr=true->0<=w.lo/\w.lo<=w.hi/\w.hi<=255):ah ctx 39 [.d (.agg (dj w))] []=some (.ret (.d (.int .i64 (b5 w))),[]):=by
 have Y:=NU w.ty;rw[aiU (by simp)];unfold b5;cases H:w.arr with
 |true=>
  have q:=V H;have J:IntKind.i64.wrap (w.hi-w.lo)=w.hi-w.lo:=aE (by unfold aG;omega);have Z:IntKind.i64.wrap (w.hi-w.lo+1)=w.hi-w.lo+1:=aE (by unfold aG;omega);simp[f39,dj,H,J,Z]
 |false=>
  by_cases D:2<w.ty
  ·simp[f39,dj,H,D,Y]
  ·simp[f39,dj,H,D]
def A6(p:Pn):ax:=.box [.d (.str p.name),.d (.int .i64 p.ty),.d (.bool p.Ih)]
theorem FV(s:Tx)(l:List Pn)(N:l.length<1000000)(k:Kt)(RF:Option Pn->bW)
 (A:∀w v,k .ret ⟨32,aA,[(4,true,.ptr 300 v 0),(5,true,.d (.bool true))],[⟨300,v,A6 w⟩]⟩=RF (some w))
 (E:∀(v:Nat)(b c:AV),k (.exit 0) ⟨32,aA,[(1,true,.d (.str s)),(4,true,.ptr 300 v 0),(6,true,.d (.list (l.map cD))),(7,true,b),(13,true,c)],[⟨300,v,A6 tT⟩]⟩=RF none):∀(rest pre:List Pn)(v:Nat),l=pre++rest->
 aK ctx 179 (.loop (Code.at (bq f179) [1,1,0,1,0,0])) ⟨32,aA,[(1,true,.d (.str s)),(4,true,.ptr 300 v 0),(6,true,.d (.list (l.map cD))),(7,true,.d (.int .i64 pre.length))],[⟨300,v,A6 tT⟩]⟩ k=RF (xf rest s)
 |[],pre,v,H=>by
  have V:pre.length=l.length:=by rw[H];simp
  simp only[A6,tT]at E;rw[V,ai];simp[f179,A6,E,xf,tT]
 |x::rest,pre,v,H=>by
  have I:pre.length<l.length:=by rw[H];simp
  have O:l[pre.length]=x:=by simp[H]
  have ih:=FV s l N k RF A E rest (pre++[x]) v (by simp[H]);have U:IntKind.i64.wrap ((pre.length:Int)+1)=(pre.length:Int)+1:=aE (by unfold aG;omega);have A:=A x;simp only[A6]at A;rw[ai];by_cases J:s=[]
  ·simp only[J]at ih⊢;simp[f179,A6,tT]at ih⊢;simp[I,U,ih,xf]
  ·by_cases M:x.name=s
   ·simp only[M]at A;simp[f179,A6,tT];simp[I,O,cD,M,J,A,xf]
   ·simp[f179,A6,tT]at ih⊢;simp[I,O,cD,M,J,U,ih,xf]
theorem UM(q:Int)(s:Tx):ah ctx 179 [.d (.int .i64 q),.d (.str s)] []=some (.ret (.bM [.d (cD (fP q s)),.d (.bool (lS q s).isSome)]),[]):=by
 have N:=zx q;have Y:=NU q;have h:=λk RF A E v=>FV s (br q) (by omega) k RF A E (br q) [] v rfl;rw[ad7 (by simp)];unfold fP lS;simp[f179,A6,tT]at h⊢;simp[Y];rw[h _ (λo=>some (.ret (.bM [.d (cD (o.getD tT)),.d (.bool o.isSome)]),[]))]
 ·simp[tT]
 ·intro w v;simp[cD]
 ·intro v b c;simp[cD,tT]
def dK(t:Te):AV:=.bM [.d (.int .i64 t.t),.d (.agg [.int .i64 t.e,.int .i64 t.line])]
def RT(vs:List Vr)(x:Ex):Prop:=ah ctx 109 [.d (.list (vs.map bm)),.d (.agg [.int .i64 (cA x),.int .i64 (iK x),.str (dY x),.str (eW x),.list ((cQ x).map du),.int .i64 (mY x)])] []=some (.ret (dK (aQ vs x)),[])
def cV(e:EL):AV:=.d (.agg [.int .i64 e.1,.int .i64 e.2])
def DE(vs:List Vr)(x:Ex)(t:Int):EL:=if (aQ vs x).e=0/\(aQ vs x).t≠t then (10,mY x)else ((aQ vs x).e,(aQ vs x).line)
theorem BZ{vs:List Vr}{x:Ex}(h:RT vs x):ah ctx 180 [.d (.list (vs.map bm)),.d (.agg [.int .i64 (cA x),.int .i64 (iK x),.str (dY x),.str (eW x),.list ((cQ x).map du),.int .i64 (mY x)])] []=some (.ret (cV (DE vs x 1)),[]):=by
 unfold RT at h;rw[ad8 (by simp)];unfold DE;generalize aQ vs x=T at*;by_cases D:T.e=0
 ·by_cases A:T.t=1
  ·simp[f180,dK,cV,D,A,h]
  ·simp[f180,dK,cV,D,A,h]
 ·simp[f180,dK,cV,D,h]
theorem pv{vs:List Vr}{x:Ex}(t:Int)(h:RT vs x):ah ctx 110 [.d (.list (vs.map bm)),.d (.agg [.int .i64 (cA x),.int .i64 (iK x),.str (dY x),.str (eW x),.list ((cQ x).map du),.int .i64 (mY x)]),.d (.int .i64 t)] []=some (.ret (cV (DE vs x t)),[]):=by
 unfold RT at h;rw[adR (by simp)];unfold DE;generalize aQ vs x=T at*;by_cases D:T.e=0
 ·by_cases A:T.t=t
  ·simp[f110,dK,cV,D,A,h]
  ·simp[f110,dK,cV,D,A,h]
 ·simp[f110,dK,cV,D,h]
section
variable {vs:List Vr} (J:vs.length<1000000) (q:∀v∈vs,dA v=true)
theorem agp{op nn line:Int}{name field:Tx}{sub:List Ex}(h:op=1\/op=2):RT vs (.mk op nn name field sub line):=by
 unfold RT;rw[dR (by simp)];have e:aQ vs (.mk op nn name field sub line)=gL op:=by
  unfold aQ;rw[aal h]
 rw[e];rcases h with h|h<;>subst h<;>simp[f109,dK,gL]
include J in
theorem UN{nn line:Int}{name field:Tx}{sub:List Ex}:RT vs (.mk 5 nn name field sub line):=by
 unfold RT;have A:=mg (vs:=vs) J name;rw[dR (by simp)];have e:aQ vs (.mk 5 nn name field sub line)=(match bu vs name with
  |none=>cE 9 line
  |some v=>(if v.ty<=2 then cE 10 line else match lS v.ty field with
   |none=>cE 9 line
   |some p=>gL p.ty)):=by
  unfold aQ;rw[aac (by decide),aal (by decide)];rfl
 rw[e];cases I:bu vs name with
 |none=>
  simp[I,fV,bm,dj,q8]at A;simp[f109,dK,cE,A,aj]
 |some v=>
  have U:=UM v.ty field;simp[I,fV,bm,dj]at A;by_cases D:v.ty<=2
  ·simp[f109,dK,cE,A,aj,D]
  ·cases V:lS v.ty field with
   |none=>
    simp[V,fP,cD,tT]at U;simp[f109,dK,cE,A,aj,D,U,V]
   |some p=>
    simp[V,fP,cD]at U;simp[f109,dK,gL,A,aj,D,U,V]
include J in
theorem abg{nn line:Int}{name field:Tx}{v:Vr}{y:Ex}{T:Te}(I:bu vs name=some v)(E:v.arr=true)(D:¬2<v.ty)(M:RT vs y)(O:aQ vs y=T)(H:T.e=0)(N:T.t=1):ah ctx 109 [.d (.list (vs.map bm)),.d (.agg [.int .i64 4,.int .i64 nn,.str name,.str field,.list ([y].map du),.int .i64 line])] []=some (.ret (dK (gL v.ty)),[]):=by
 have A:=mg (vs:=vs) J name;have hi:=BZ M;unfold DE cV at hi;rw[O]at hi;clear O M;rw[dR (by simp)];simp[I,fV,bm,dj]at A;simp[H,N]at hi;simp[f109,dK,gL,cE,A,aj,E,D,aZ,hi,H,N]
include J in
theorem abh{nn line:Int}{name field:Tx}{v:Vr}{y:Ex}{T:Te}(I:bu vs name=some v)(E:v.arr=true)(D:¬2<v.ty)(M:RT vs y)(O:aQ vs y=T)(H:T.e=0)(N:¬T.t=1):ah ctx 109 [.d (.list (vs.map bm)),.d (.agg [.int .i64 4,.int .i64 nn,.str name,.str field,.list ([y].map du),.int .i64 line])] []=some (.ret (dK (cE 10 (mY y))),[]):=by
 have A:=mg (vs:=vs) J name;have hi:=BZ M;unfold DE cV at hi;rw[O]at hi;clear O M;rw[dR (by simp)];simp[I,fV,bm,dj]at A;simp[H,N]at hi;simp[f109,dK,gL,cE,A,aj,E,D,aZ,hi,H,N]
include J in
theorem abi{nn line:Int}{name field:Tx}{v:Vr}{y:Ex}{T:Te}(I:bu vs name=some v)(E:v.arr=true)(D:¬2<v.ty)(M:RT vs y)(O:aQ vs y=T)(H:¬T.e=0):ah ctx 109 [.d (.list (vs.map bm)),.d (.agg [.int .i64 4,.int .i64 nn,.str name,.str field,.list ([y].map du),.int .i64 line])] []=some (.ret (dK (cE T.e T.line)),[]):=by
 have A:=mg (vs:=vs) J name;have hi:=BZ M;unfold DE cV at hi;rw[O]at hi;clear O M;rw[dR (by simp)];simp[I,fV,bm,dj]at A;simp[H]at hi;simp[f109,dK,gL,cE,A,aj,E,D,aZ,hi,H]
include J in
theorem abj{op nn line:Int}{name field:Tx}{sub:List Ex}(h:op=3\/op=4)(Y:op=4->∃y,sub=[y]/\RT vs y):RT vs (.mk op nn name field sub line):=by
 unfold RT;have A:=mg (vs:=vs) J name;have e:aQ vs (.mk op nn name field sub line)=(match bu vs name with
  |none=>cE 9 line
  |some v=>if v.arr≠decide (op=4)\/2<v.ty then cE 10 line else if op=4 then KM vs v.ty sub else gL v.ty):=by
  conv=>lhs;unfold aQ
  rw[aac (by omega),aal (by omega)];cases bu vs name with
  |none=>rfl
  |some v=>
   simp only
   rw[aac (by omega)]
 rw[e];clear e;cases I:bu vs name with
 |none=>
  simp[I,fV,bm,dj,q8]at A;rcases h with h|h<;>subst h<;>rw[dR (by simp)]<;>simp[f109,dK,cE,A,aj]
 |some v=>
  simp[I,fV,bm,dj]at A;rcases h with h|h<;>subst h
  ·cases E:v.arr with
   |true=>(rw[dR (by simp)];simp[f109,dK,cE,A,aj,E])
   |false=>
    by_cases D:2<v.ty
    ·(rw[dR (by simp)];simp[f109,dK,cE,A,aj,E,D])
    ·(rw[dR (by simp)];simp[f109,dK,gL,A,aj,E,D])
  ·cases E:v.arr with
   |false=>(rw[dR (by simp)];simp[f109,dK,cE,A,aj,E])
   |true=>
    by_cases D:2<v.ty
    ·(rw[dR (by simp)];simp[f109,dK,cE,A,aj,E,D])
    ·obtain⟨y,Z,M⟩:=Y rfl;subst Z;simp only[KM,adb,ade,SX,SY,SZ,adf];by_cases H:(aQ vs y).e=0
     ·by_cases N:(aQ vs y).t=1
      ·have:=abg (nn:=nn) (line:=line) (field:=field) J I E D M rfl H N;simpa [H,N,D,E,gL]using this
      ·have:=abh (nn:=nn) (line:=line) (field:=field) J I E D M rfl H N;simpa [H,N,D,E,cE]using this
     ·have:=abi (nn:=nn) (line:=line) (field:=field) J I E D M rfl H;simpa [H,D,E,cE]using this
end
section
variable {vs:List Vr}
set_option maxHeartbeats 1000000 in
theorem ajE{nn line:Int}{name field:Tx}{a:Ex}(h:RT vs a):RT vs (.mk 6 nn name field [a] line):=by
 have e:aQ vs (.mk 6 nn name field [a] line)=b6 6 line (aQ vs a) (aQ vs a):=by
  conv=>lhs;unfold aQ
  rw[aac (by omega),aac (by omega)];rfl
 unfold RT at h⊢;rw[e,dR (by simp)];clear e;generalize aQ vs a=T at*;simp[dK]at h;simp[f109,dK,aj,aZ,h];by_cases A:T.e=0
 ·by_cases E:T.t=1<;>simp[A,E,b6,hZ,kX,gL,cE]
 ·simp[A,b6]
set_option maxHeartbeats 1000000 in
theorem ajF{nn line:Int}{name field:Tx}{a:Ex}(h:RT vs a):RT vs (.mk 7 nn name field [a] line):=by
 have e:aQ vs (.mk 7 nn name field [a] line)=b6 7 line (aQ vs a) (aQ vs a):=by
  conv=>lhs;unfold aQ
  rw[aac (by omega),aac (by omega)];rfl
 unfold RT at h⊢;rw[e,dR (by simp)];clear e;generalize aQ vs a=T at*;simp[dK]at h;simp[f109,dK,aj,aZ,h];by_cases A:T.e=0
 ·by_cases E:T.t=2<;>simp[A,E,b6,hZ,kX,gL,cE]
 ·simp[A,b6]
set_option maxHeartbeats 1000000 in
theorem ajG{nn line:Int}{name field:Tx}{a b:Ex}(h:RT vs a)(D:RT vs b):RT vs (.mk 8 nn name field [a,b] line):=by
 have e:aQ vs (.mk 8 nn name field [a,b] line)=b6 8 line (aQ vs a) (aQ vs b):=by
  conv=>lhs;unfold aQ
  rw[aac (by omega),aac (by omega)];rfl
 unfold RT at h D⊢;rw[e,dR (by simp)];clear e;generalize aQ vs a=T at*;generalize aQ vs b=H at*;simp[dK]at h D;simp[f109,dK,aj,aZ,h,D];by_cases A:T.e=0
 ·by_cases E:H.e=0
  ·by_cases J:T.t=1<;>by_cases I:H.t=1<;>simp[A,E,J,I,b6,hZ,kX,gL,cE]
  ·simp[A,E,b6]
 ·simp[A,b6]
set_option maxHeartbeats 1000000 in
theorem ajH{nn line:Int}{name field:Tx}{a b:Ex}(h:RT vs a)(D:RT vs b):RT vs (.mk 9 nn name field [a,b] line):=by
 have e:aQ vs (.mk 9 nn name field [a,b] line)=b6 9 line (aQ vs a) (aQ vs b):=by
  conv=>lhs;unfold aQ
  rw[aac (by omega),aac (by omega)];rfl
 unfold RT at h D⊢;rw[e,dR (by simp)];clear e;generalize aQ vs a=T at*;generalize aQ vs b=H at*;simp[dK]at h D;simp[f109,dK,aj,aZ,h,D];by_cases A:T.e=0
 ·by_cases E:H.e=0
  ·by_cases J:T.t=1<;>by_cases I:H.t=1<;>simp[A,E,J,I,b6,hZ,kX,gL,cE]
  ·simp[A,E,b6]
 ·simp[A,b6]
set_option maxHeartbeats 1000000 in
theorem agq{nn line:Int}{name field:Tx}{a b:Ex}(h:RT vs a)(D:RT vs b):RT vs (.mk 10 nn name field [a,b] line):=by
 have e:aQ vs (.mk 10 nn name field [a,b] line)=b6 10 line (aQ vs a) (aQ vs b):=by
  conv=>lhs;unfold aQ
  rw[aac (by omega),aac (by omega)];rfl
 unfold RT at h D⊢;rw[e,dR (by simp)];clear e;generalize aQ vs a=T at*;generalize aQ vs b=H at*;simp[dK]at h D;simp[f109,dK,aj,aZ,h,D];by_cases A:T.e=0
 ·by_cases E:H.e=0
  ·by_cases J:T.t=1<;>by_cases I:H.t=1<;>simp[A,E,J,I,b6,hZ,kX,gL,cE]
  ·simp[A,E,b6]
 ·simp[A,b6]
set_option maxHeartbeats 1000000 in
theorem agr{nn line:Int}{name field:Tx}{a b:Ex}(h:RT vs a)(D:RT vs b):RT vs (.mk 11 nn name field [a,b] line):=by
 have e:aQ vs (.mk 11 nn name field [a,b] line)=b6 11 line (aQ vs a) (aQ vs b):=by
  conv=>lhs;unfold aQ
  rw[aac (by omega),aac (by omega)];rfl
 unfold RT at h D⊢;rw[e,dR (by simp)];clear e;generalize aQ vs a=T at*;generalize aQ vs b=H at*;simp[dK]at h D;simp[f109,dK,aj,aZ,h,D];by_cases A:T.e=0
 ·by_cases E:H.e=0
  ·by_cases J:T.t=1<;>by_cases I:H.t=1<;>simp[A,E,J,I,b6,hZ,kX,gL,cE]
  ·simp[A,E,b6]
 ·simp[A,b6]
set_option maxHeartbeats 1000000 in
theorem ags{nn line:Int}{name field:Tx}{a b:Ex}(h:RT vs a)(D:RT vs b):RT vs (.mk 12 nn name field [a,b] line):=by
 have e:aQ vs (.mk 12 nn name field [a,b] line)=b6 12 line (aQ vs a) (aQ vs b):=by
  conv=>lhs;unfold aQ
  rw[aac (by omega),aac (by omega)];rfl
 unfold RT at h D⊢;rw[e,dR (by simp)];clear e;generalize aQ vs a=T at*;generalize aQ vs b=H at*;simp[dK]at h D;simp[f109,dK,aj,aZ,h,D];by_cases A:T.e=0
 ·by_cases E:H.e=0
  ·by_cases J:T.t=1<;>by_cases I:H.t=1<;>simp[A,E,J,I,b6,hZ,kX,gL,cE]
  ·simp[A,E,b6]
 ·simp[A,b6]
set_option maxHeartbeats 1000000 in
theorem agt{nn line:Int}{name field:Tx}{a b:Ex}(h:RT vs a)(D:RT vs b):RT vs (.mk 13 nn name field [a,b] line):=by
 have e:aQ vs (.mk 13 nn name field [a,b] line)=b6 13 line (aQ vs a) (aQ vs b):=by
  conv=>lhs;unfold aQ
  rw[aac (by omega),aac (by omega)];rfl
 unfold RT at h D⊢;rw[e,dR (by simp)];clear e;generalize aQ vs a=T at*;generalize aQ vs b=H at*;simp[dK]at h D;simp[f109,dK,aj,aZ,h,D];by_cases A:T.e=0
 ·by_cases E:H.e=0
  ·by_cases I:H.t=T.t<;>simp[A,E,I,b6,hZ,kX,gL,cE]
  ·simp[A,E,b6]
 ·simp[A,b6]
end
section
variable {vs:List Vr}
set_option maxHeartbeats 1000000 in
theorem agu{nn line:Int}{name field:Tx}{a b:Ex}(h:RT vs a)(A:RT vs b):RT vs (.mk 14 nn name field [a,b] line):=by
 have e:aQ vs (.mk 14 nn name field [a,b] line)=b6 14 line (aQ vs a) (aQ vs b):=by
  conv=>lhs;unfold aQ
  rw[aac (by omega),aac (by omega)];rfl
 unfold RT at h A⊢;rw[e,dR (by simp)];clear e;generalize aQ vs a=T at*;generalize aQ vs b=E at*;simp[dK]at h A;simp[f109,dK,aj,aZ,h,A];by_cases D:T.e=0
 ·by_cases H:E.e=0
  ·by_cases I:E.t=T.t<;>simp[D,H,I,b6,hZ,kX,gL,cE]
  ·simp[D,H,b6]
 ·simp[D,b6]
set_option maxHeartbeats 1000000 in
theorem agv{nn line:Int}{name field:Tx}{a b:Ex}(h:RT vs a)(A:RT vs b):RT vs (.mk 15 nn name field [a,b] line):=by
 have e:aQ vs (.mk 15 nn name field [a,b] line)=b6 15 line (aQ vs a) (aQ vs b):=by
  conv=>lhs;unfold aQ
  rw[aac (by omega),aac (by omega)];rfl
 unfold RT at h A⊢;rw[e,dR (by simp)];clear e;generalize aQ vs a=T at*;generalize aQ vs b=E at*;simp[dK]at h A;simp[f109,dK,aj,aZ,h,A];by_cases D:T.e=0
 ·by_cases H:E.e=0
  ·by_cases J:T.t=1<;>by_cases I:E.t=1<;>simp[D,H,J,I,b6,hZ,kX,gL,cE]
  ·simp[D,H,b6]
 ·simp[D,b6]
set_option maxHeartbeats 1000000 in
theorem agw{nn line:Int}{name field:Tx}{a b:Ex}(h:RT vs a)(A:RT vs b):RT vs (.mk 16 nn name field [a,b] line):=by
 have e:aQ vs (.mk 16 nn name field [a,b] line)=b6 16 line (aQ vs a) (aQ vs b):=by
  conv=>lhs;unfold aQ
  rw[aac (by omega),aac (by omega)];rfl
 unfold RT at h A⊢;rw[e,dR (by simp)];clear e;generalize aQ vs a=T at*;generalize aQ vs b=E at*;simp[dK]at h A;simp[f109,dK,aj,aZ,h,A];by_cases D:T.e=0
 ·by_cases H:E.e=0
  ·by_cases J:T.t=1<;>by_cases I:E.t=1<;>simp[D,H,J,I,b6,hZ,kX,gL,cE]
  ·simp[D,H,b6]
 ·simp[D,b6]
set_option maxHeartbeats 1000000 in
theorem agx{nn line:Int}{name field:Tx}{a b:Ex}(h:RT vs a)(A:RT vs b):RT vs (.mk 17 nn name field [a,b] line):=by
 have e:aQ vs (.mk 17 nn name field [a,b] line)=b6 17 line (aQ vs a) (aQ vs b):=by
  conv=>lhs;unfold aQ
  rw[aac (by omega),aac (by omega)];rfl
 unfold RT at h A⊢;rw[e,dR (by simp)];clear e;generalize aQ vs a=T at*;generalize aQ vs b=E at*;simp[dK]at h A;simp[f109,dK,aj,aZ,h,A];by_cases D:T.e=0
 ·by_cases H:E.e=0
  ·by_cases J:T.t=1<;>by_cases I:E.t=1<;>simp[D,H,J,I,b6,hZ,kX,gL,cE]
  ·simp[D,H,b6]
 ·simp[D,b6]
set_option maxHeartbeats 1000000 in
theorem agy{nn line:Int}{name field:Tx}{a b:Ex}(h:RT vs a)(A:RT vs b):RT vs (.mk 18 nn name field [a,b] line):=by
 have e:aQ vs (.mk 18 nn name field [a,b] line)=b6 18 line (aQ vs a) (aQ vs b):=by
  conv=>lhs;unfold aQ
  rw[aac (by omega),aac (by omega)];rfl
 unfold RT at h A⊢;rw[e,dR (by simp)];clear e;generalize aQ vs a=T at*;generalize aQ vs b=E at*;simp[dK]at h A;simp[f109,dK,aj,aZ,h,A];by_cases D:T.e=0
 ·by_cases H:E.e=0
  ·by_cases J:T.t=1<;>by_cases I:E.t=1<;>simp[D,H,J,I,b6,hZ,kX,gL,cE]
  ·simp[D,H,b6]
 ·simp[D,b6]
set_option maxHeartbeats 1000000 in
theorem agz{nn line:Int}{name field:Tx}{a b:Ex}(h:RT vs a)(A:RT vs b):RT vs (.mk 19 nn name field [a,b] line):=by
 have e:aQ vs (.mk 19 nn name field [a,b] line)=b6 19 line (aQ vs a) (aQ vs b):=by
  conv=>lhs;unfold aQ
  rw[aac (by omega),aac (by omega)];rfl
 unfold RT at h A⊢;rw[e,dR (by simp)];clear e;generalize aQ vs a=T at*;generalize aQ vs b=E at*;simp[dK]at h A;simp[f109,dK,aj,aZ,h,A];by_cases D:T.e=0
 ·by_cases H:E.e=0
  ·by_cases J:T.t=2<;>by_cases I:E.t=2<;>simp[D,H,J,I,b6,hZ,kX,gL,cE]
  ·simp[D,H,b6]
 ·simp[D,b6]
set_option maxHeartbeats 1000000 in
theorem agA{nn line:Int}{name field:Tx}{a b:Ex}(h:RT vs a)(A:RT vs b):RT vs (.mk 20 nn name field [a,b] line):=by
 have e:aQ vs (.mk 20 nn name field [a,b] line)=b6 20 line (aQ vs a) (aQ vs b):=by
  conv=>lhs;unfold aQ
  rw[aac (by omega),aac (by omega)];rfl
 unfold RT at h A⊢;rw[e,dR (by simp)];clear e;generalize aQ vs a=T at*;generalize aQ vs b=E at*;simp[dK]at h A;simp[f109,dK,aj,aZ,h,A];by_cases D:T.e=0
 ·by_cases H:E.e=0
  ·by_cases J:T.t=2<;>by_cases I:E.t=2<;>simp[D,H,J,I,b6,hZ,kX,gL,cE]
  ·simp[D,H,b6]
 ·simp[D,b6]
set_option maxHeartbeats 1000000 in
theorem agB{nn line:Int}{name field:Tx}{a b:Ex}(h:RT vs a)(A:RT vs b):RT vs (.mk 21 nn name field [a,b] line):=by
 have e:aQ vs (.mk 21 nn name field [a,b] line)=b6 21 line (aQ vs a) (aQ vs b):=by
  conv=>lhs;unfold aQ
  rw[aac (by omega),aac (by omega)];rfl
 unfold RT at h A⊢;rw[e,dR (by simp)];clear e;generalize aQ vs a=T at*;generalize aQ vs b=E at*;simp[dK]at h A;simp[f109,dK,aj,aZ,h,A];by_cases D:T.e=0
 ·by_cases H:E.e=0
  ·by_cases J:T.t=2<;>by_cases I:E.t=2<;>simp[D,H,J,I,b6,hZ,kX,gL,cE]
  ·simp[D,H,b6]
 ·simp[D,b6]
end
end Go.Am
end
section
namespace Go.Am
open Go Go.Proofs
variable [Inhabited bB]
set_option maxRecDepth 20000
theorem agC{vs:List Vr}{op nn line:Int}{name field:Tx}{a b:Ex}(A4:8<=op)(A5:op<=21)(h:RT vs a)(A:RT vs b):RT vs (.mk op nn name field [a,b] line):=by
 have Y:op=8\/op=9\/op=10\/op=11\/op=12\/op=13\/op=14\/op=15\/op=16\/op=17\/op=18\/op=19\/op=20\/op=21:=by omega
 rcases Y with e|e|e|e|e|e|e|e|e|e|e|e|e|e<;>subst e
 ·exact ajG h A
 ·exact ajH h A
 ·exact agq h A
 ·exact agr h A
 ·exact ags h A
 ·exact agt h A
 ·exact agu h A
 ·exact agv h A
 ·exact agw h A
 ·exact agx h A
 ·exact agy h A
 ·exact agz h A
 ·exact agA h A
 ·exact agB h A
section
variable {vs:List Vr} (H:vs.length<1000000)
include H
mutual
theorem rW:∀x:Ex,dI x=true->RT vs x
 | .mk op nn name field sub line,D=>by
  simp only[dI,Ds,aag,aj8,afw]at D;obtain⟨A6,E,_,_,Z⟩:=D;have ih:=B0 sub Z;unfold gF at E;by_cases q:op=1\/op=2
  ·exact agp q
  ·by_cases A':op=5
   ·subst A';exact UN H
   ·by_cases A0:op=3\/op=4
    ·refine abj H A0 (λA1=>?_);rw[aal (.inl A1)]at E;match sub,E with
     |[y],_=>exact⟨y,rfl,ih y (by simp)⟩
    ·by_cases U:op=6\/op=7
     ·rw[aal (.inr U)]at E;match sub,E with
      |[y],_=>
       rcases U with e|e<;>subst e
       ·exact ajE (ih y (by simp))
       ·exact ajF (ih y (by simp))
     ·rw[aac (by omega),aal (by omega)]at E;match sub,E with
      |[y,z],_=>exact agC (by omega) (by omega) (ih y (by simp)) (ih z (by simp))
theorem B0:∀l:List Ex,cR l=true->∀y∈l,RT vs y
 |[],_,y,I=>by simp at I
 |x::r,D,y,I=>by
  simp only[cR,Ds]at D;rcases aak.1 I with e|I
  ·rw[e];exact rW x D.1
  ·exact B0 r D.2 y I
end
end
theorem FW{op line:Int}{a b:Te}(h:(b6 op line a b).e=0):(b6 op line a b).line=0:=by
 rw[(rT h).2.2.2.2];rfl
theorem Xb(vs:List Vr):∀x:Ex,(aQ vs x).e=0->(aQ vs x).line=0
 | .mk op nn name field sub line,h=>by
  unfold aQ at h⊢;split at h
  ·rename_i c;rw[aal c];rfl
  ·rename_i c;rw[aac c];split at h
   ·rename_i J;rw[aal J];cases D:bu vs name with
    |none=>rw[D]at h;simp[cE]at h
    |some v=>
     rw[D]at h;simp only at h⊢;split at h
     ·rename_i M;rw[aal M];split at h
      ·simp[cE]at h
      ·rename_i N;rw[aac N];cases A2:lS v.ty field with
       |none=>rw[A2]at h;simp[cE]at h
       |some p=>rfl
     ·rename_i M;rw[aac M];split at h
      ·simp[cE]at h
      ·rename_i N;rw[aac N];split at h
       ·rename_i O;rw[aal O];cases sub with
        |nil=>rfl
        |cons y r=>
         simp only[KM]at h⊢;split at h
         ·rename_i T;exact absurd h T
         ·rename_i T;rw[aac T];split at h
          ·simp[cE]at h
          ·rename_i A3;rw[aac A3];rfl
       ·rename_i O;rw[aac O];rfl
   ·rename_i J;rw[aac J];match sub,h with
    |[],_=>rfl
    |[y],h=>exact FW h
    |y::z::_,h=>exact FW h
theorem pw(vs:List Vr)(x:Ex)(t:Int):DE vs x t=dx vs x t:=by
 unfold DE dx;have:=Xb vs x;by_cases h:(aQ vs x).e=0
 ·have H:=this h;by_cases V:(aQ vs x).t=t
  ·simp[h,V,H]
  ·simp[h,V]
 ·simp[h]
end Go.Am
end
section
namespace Go.Am
open Go Go.Proofs Go.Proofs.Tryz
variable [Inhabited bB]
set_option maxRecDepth 20000
def RM(vs:List Vr)(lp:Bool)(x:Sm):Prop:=ah ctx 71 [.d (.list (vs.map bm)),.d (.agg (smL x)),.d (.bool lp)] []=some (.ret (cV (dh (AW vs lp x))),[])
def oy(vs:List Vr)(lp:Bool)(l:List Sm):Prop:=ah ctx 40 [.d (.list (vs.map bm)),.d (.list (l.map cG)),.d (.bool lp)] []=some (.ret (cV (dh (eU vs lp l))),[])
@[simp] def gj(e:EL):ax:=.box [.d (.int .i64 e.1),.d (.int .i64 e.2)]
theorem Jd{vs:List Vr}{lp:Bool}{l:List Sm}(M:l.length<100000000)(J:∀x∈l,RM vs lp x)(k:Kt)(RF:EL->bW)
 (A:∀e u v X,k .ret ⟨27,aA,[(6,true,.ptr 400 u 0)],[⟨400,u,gj e⟩,⟨500,v,X⟩]⟩=RF e)
 (H:∀(u v:Nat)(X:ax)(b c:AV),k (.exit 0) ⟨27,aA,[(0,true,.d (.list (vs.map bm))),(1,true,.d (.list (l.map cG))),(2,true,.d (.bool lp)),(6,true,.ptr 400 u 0),(7,true,b),(12,true,c)],[⟨400,u,gj (0,0)⟩,⟨500,v,X⟩]⟩=RF (0,0)):∀(rest pre:List Sm)(u v:Nat)(X:ax),l=pre++rest->
 aK ctx 40 (.loop (Code.at (bq f40) [1,0,1,0,0])) ⟨27,aA,[(0,true,.d (.list (vs.map bm))),(1,true,.d (.list (l.map cG))),(2,true,.d (.bool lp)),(6,true,.ptr 400 u 0),(7,true,.d (.int .i64 pre.length))],[⟨400,u,gj (0,0)⟩,⟨500,v,X⟩]⟩ k=RF (dh (eU vs lp rest))
 |[],pre,u,v,X,D=>by
  have T:pre.length=l.length:=by rw[D];simp
  simp only[gj]at H;rw[T,ai];simp[f40,H,eU,dh]
 |x::rest,pre,u,v,X,D=>by
  have N:pre.length<l.length:=by rw[D];simp
  have O:l[pre.length]=x:=by simp[D]
  have hm:=J x (by rw[D];simp);have ih:=λu v X=>Jd M J k RF A H rest (pre++[x]) u v X (by simp[D]);have U:IntKind.i64.wrap ((pre.length:Int)+1)=(pre.length:Int)+1:=aE (by unfold aG;omega);have key:eU vs lp (x::rest)=eN (AW vs lp x) (eU vs lp rest):=by rw[eU]
  rw[key];unfold RM cV at hm;generalize AW vs lp x=E at*;generalize eU vs lp rest=F at*;simp only[gj]at A;rw[ai];by_cases I:E.1=0
  ·rw[kG I];simp[dh,I]at hm;simp[f40]at ih⊢;simp[N,O,cu,hm,U,ih]
  ·rw[ot I];have A:=A E;simp[dh,I]at hm;simp[f40];simp[N,O,cu,hm,I,A,dh]
theorem Je{vs:List Vr}{lp:Bool}{l:List Sm}(M:l.length<100000000)(J:∀x∈l,RM vs lp x):oy vs lp l:=by
 unfold oy;have h:=λk RF A H u v X=>Jd M J k RF A H l [] u v X rfl;rw[aiV (by simp)];simp[f40]at h⊢;rw[h _ (λe=>some (.ret (cV e),[]))]
 ·intro a b u v X;simp[cV]
 ·intro u v X b c;simp[cV]
theorem agD{w:Vr}(h:dA w=true):w.arr=true->0<=w.lo/\w.lo<=w.hi/\w.hi<=255:=by
 intro A4;simp only[dA,Ds,A4,afh,aag]at h;exact h.2.2.1.2
theorem Jg(l:List Vr)(A5:l.length<=1000)(J:∀v∈l,dA v=true)(D H:AV)(k:Kt)(RF:EL->bW)
 (M:∀e u v X,e.1≠0->k .ret ⟨58,aA,[(2,true,.ptr 200 u 0)],[⟨150,1,.box [D,.d (.list (l.map bm)),H]⟩,⟨200,u,gj e⟩,⟨350,v,X⟩]⟩=RF e)
 (N:∀(u v:Nat)(X:ax)(a b c:AV),k (.exit 0) ⟨58,aA,[(1,true,.ptr 150 1 0),(2,true,.ptr 200 u 0),(3,true,a),(4,true,b),(11,true,c)],[⟨150,1,.box [D,.d (.list (l.map bm)),H]⟩,⟨200,u,gj (0,0)⟩,⟨350,v,X⟩]⟩=RF (0,0)):∀(rest pre:List Vr)(n:Int)(u v:Nat)(X:ax),l=pre++rest->0<=n->n<=1024->
 aK ctx 15 (.loop (Code.at (bq f15) [1,1,0,1,0,0])) ⟨58,aA,[(1,true,.ptr 150 1 0),(2,true,.ptr 200 u 0),(3,true,.d (.int .i64 n)),(4,true,.d (.int .i64 pre.length))],[⟨150,1,.box [D,.d (.list (l.map bm)),H]⟩,⟨200,u,gj (0,0)⟩,⟨350,v,X⟩]⟩ k=RF (FG rest pre n)
 |[],pre,n,u,v,X,A,A6,A7=>by
  have A8:pre.length=l.length:=by rw[A];simp
  simp only[gj]at N;rw[A8,ai];simp[f15,N,FG]
 |x::rest,pre,n,u,v,X,A,A6,A7=>by
  have O:pre.length<l.length:=by rw[A];simp
  have T:l[pre.length]=x:=by simp[A]
  have U:List.take pre.length (List.map bm l)=List.map bm pre:=by simp[A]
  have Y:pre.length<=l.length:=by omega
  have q:=J x (by rw[A];simp);have AB:=AZ q;have Z:=Xa (agD q);have I:=mg (vs:=pre) (by omega) x.name;have ih:=λu v X=>Jg l A5 J D H k RF M N rest (pre++[x]) (n+b5 x) u v X (by simp[A]);have A9:IntKind.i64.wrap ((pre.length:Int)+1)=(pre.length:Int)+1:=aE (by unfold aG;omega);have y:IntKind.i64.wrap (n+b5 x)=n+b5 x:=aE (by unfold aG;omega);have A':=λu v X=>M (11,x.line) u v X (by simp);have A0:=λu v X=>M (13,x.line) u v X (by simp);simp only[gj]at A' A0;simp[dj]at Z;generalize AC:fV pre x.name=W at*;simp[bm,dj]at I;rw[ai];unfold FG;cases A1:(bu pre x.name).isSome with
  |true=>
   rw[A1]at I;simp[f15];simp[O,T,U,Y,bm,dj,I,A',aj]
  |false=>
   rw[A1]at I;by_cases Ca:1024<n+b5 x
   ·simp[f15];simp[O,T,U,Y,bm,dj,I,Z,y,Ca,A0,aj]
   ·have ih:=λu v X=>ih u v X (by omega) (by omega);simp[f15]at ih⊢;simp[O,T,U,Y,bm,dj,I,Z,A9,y,Ca,ih,aj]
theorem Xc{p:Pg}(J:sY p=true)(A2:oy p.vars false p.body):ah ctx 15 [.d (.agg [.str p.name,.list (p.vars.map bm),.list (p.body.map cG)])] []=some (.ret (cV (dh (qw p))),[]):=by
 simp only[sY,Ds,aag,abN]at J;obtain⟨_,AD,AA,AE⟩:=J;unfold oy at A2;unfold qw;generalize AF:eU p.vars false p.body=E at*;have h:=λD H k RF M N u v X=>Jg p.vars (by omega) AA D H k RF M N p.vars [] 0 u v X rfl (by omega) (by omega);generalize AG:FG p.vars [] 0=V at*;rw[aiM (by simp)];simp[f15]at h⊢;rw[h _ _ _ (λe=>some (.ret (cV (dh (eN e E))),[]))]
 ·intro a b u v X A3;rw[ot A3];simp[cV,dh,A3]
 ·intro u v X a b c;rw[kG rfl];simp[A2,cV]
@[reducible] noncomputable def A7(p:List Nat):Code:=Code.at (bq f111) p
theorem Jh{x:Sm}{f:Tx}{pre AG:List Tx}(A2:dn x=pre++f::AG)(V:(dn x).length<100000000){a0:AV}{u v5 v6:Nat}{W X5 X6:ax}(k:Kt)(R1 R2:bW)
 (H:k .ret ⟨91,aA,[(4,true,.ptr 300 u 0)],[⟨250,1,bg x⟩,⟨300,u,gj (11,kO x)⟩,⟨350,1,W⟩,⟨500,v5,X5⟩,⟨650,v6,X6⟩]⟩=R1)
 (A:∀b c,k (.exit 2) ⟨91,aA,[(0,true,a0),(3,true,.ptr 250 1 0),(4,true,.ptr 300 u 0),(5,true,.ptr 350 1 0),(7,true,.d (.int .i64 pre.length)),(8,true,.ptr 500 v5 0),(10,true,b),(60,true,c)],[⟨250,1,bg x⟩,⟨300,u,gj (0,0)⟩,⟨350,1,W⟩,⟨500,v5,X5⟩,⟨650,v6,X6⟩]⟩=R2):∀(rest I:List Tx),pre=I++rest->
 aK ctx 111 (.loop (A7 [1,1,1,1,0,1,0,0,1,0,0,1,1,0,1,0,0])) ⟨91,aA,[(0,true,a0),(3,true,.ptr 250 1 0),(4,true,.ptr 300 u 0),(5,true,.ptr 350 1 0),(7,true,.d (.int .i64 pre.length)),(8,true,.ptr 500 v5 0),(10,true,.d (.int .i64 I.length))],[⟨250,1,bg x⟩,⟨300,u,gj (0,0)⟩,⟨350,1,W⟩,⟨500,v5,X5⟩,⟨650,v6,X6⟩]⟩ k=if f∈rest then R1 else R2
 |[],I,D=>by
  have A6:I.length=pre.length:=by rw[D];simp
  simp only[gj,bg]at A;rw[A6,ai];simp[A7,f111,A]
 |c::rest,I,D=>by
  have M:I.length<pre.length:=by rw[D];simp
  have N:pre.length<(dn x).length:=by rw[A2];simp
  have A':I.length<(dn x).length:=by omega
  have A0:(dn x)[pre.length]=f:=by simp[A2]
  have AB:(dn x)[I.length]=c:=by simp[A2,D]
  have ih:=Jh A2 V k R1 R2 H A rest (I++[c]) (by simp[D]);have A8:IntKind.i64.wrap ((I.length:Int)+1)=(I.length:Int)+1:=aE (by unfold aG;omega);simp only[gj,bg]at H;rw[ai];by_cases O:c=f
  ·have AC:f=c:=O.symm;simp[A7,f111];simp[M,N,A',A0,AB,O,H,aj]
  ·have AC:¬f=c:=λh=>O h.symm;simp[A7,f111]at ih⊢;simp[M,N,A',A0,AB,O,AC,A8,ih,aj]
theorem Ji{vs:List Vr}{x:Sm}{w:Vr}(V:(dn x).length<100000000)(hle:(bV x).length=(dn x).length)(A3:∀y∈bV x,RT vs y)(k:Kt)(RF:EL->bW)
 (H:∀e u v5 v6 X5 X6,k .ret ⟨91,aA,[(4,true,.ptr 300 u 0)],[⟨250,1,bg x⟩,⟨300,u,gj e⟩,⟨350,1,ix w⟩,⟨500,v5,X5⟩,⟨650,v6,X6⟩]⟩=RF e)
 (A:∀u v5 v6 X5 X6 b c,k (.exit 0) ⟨91,aA,[(0,true,.d (.list (vs.map bm))),(3,true,.ptr 250 1 0),(4,true,.ptr 300 u 0),(5,true,.ptr 350 1 0),(7,true,b),(34,true,c)],[⟨250,1,bg x⟩,⟨300,u,gj (0,0)⟩,⟨350,1,ix w⟩,⟨500,v5,X5⟩,⟨650,v6,X6⟩]⟩=RF (0,0)):∀(rest pre:List Tx)(J Y:List Ex)(u v5 v6:Nat)(X5 X6:ax),dn x=pre++rest->bV x=Y++J->Y.length=pre.length->
 aK ctx 111 (.loop (A7 [1,1,1,1,0,1,0,0])) ⟨91,aA,[(0,true,.d (.list (vs.map bm))),(3,true,.ptr 250 1 0),(4,true,.ptr 300 u 0),(5,true,.ptr 350 1 0),(7,true,.d (.int .i64 pre.length))],[⟨250,1,bg x⟩,⟨300,u,gj (0,0)⟩,⟨350,1,ix w⟩,⟨500,v5,X5⟩,⟨650,v6,X6⟩]⟩ k=RF (dh (jq vs w.ty (kO x) rest J pre))
 |[],pre,J,Y,u,v5,v6,X5,X6,D,Z,A4=>by
  have A6:pre.length=(dn x).length:=by rw[D];simp
  have AH:jq vs w.ty (kO x) [] J pre=(0,0):=by unfold jq;rfl
  simp only[gj,bg,ix]at A;rw[AH,A6,ai];simp[A7,f111,A,dh]
 |f::rest,pre,[],Y,u,v5,v6,X5,X6,D,Z,A4=>by
  rw[D,Z]at hle;simp at hle;omega
 |f::rest,pre,y::J,Y,u,v5,v6,X5,X6,D,Z,A4=>by
  have M:pre.length<(dn x).length:=by rw[D];simp
  have N:(dn x)[pre.length]=f:=by simp[D]
  have A':pre.length<(bV x).length:=by omega
  have A0:(bV x)[pre.length]=y:=by simp[<-A4,Z]
  have AI:=A3 y (by rw[Z];simp);have U:=UM w.ty f;have ih:=λu v5 v6 X5 X6=>Ji V hle A3 k RF H A rest (pre++[f]) J (Y++[y]) u v5 v6 X5 X6 (by simp[D]) (by simp[Z]) (by simp[A4]);have AD:=λa0 u v5 v6 W X5 X6 k R1 R2 H A=>Jh (a0:=a0) (u:=u) (v5:=v5) (v6:=v6) (W:=W) (X5:=X5) (X6:=X6) D V k R1 R2 H A pre [] rfl;have A8:IntKind.i64.wrap ((pre.length:Int)+1)=(pre.length:Int)+1:=aE (by unfold aG;omega);have key:jq vs w.ty (kO x) (f::rest) (y::J) pre=(match lS w.ty f with
   |none=>(9,kO x)
   |some q=>if q.Ih=false then (9,kO x)else if f∈pre then (11,kO x)else eN (dx vs y q.ty) (jq vs w.ty (kO x) rest J (pre++[f]))):=by
   conv=>lhs;unfold jq
   rfl
  have A9:=H (9,kO x);have AE:=H (11,kO x);have AA:=H (dx vs y (fP w.ty f).ty);have hw:=pv (fP w.ty f).ty AI;rw[pw]at hw;unfold cV at hw;simp only[gj,bg,ix]at A9 AE AA;rw[key];clear key;rw[ai];cases O:lS w.ty f with
  |none=>
   simp[O,fP,cD,tT]at U;simp[A7,f111];simp[M,N,U,A9,dh,aj]
  |some q=>
   simp only[fP,O,acR]at hw AA;simp[O,fP,cD]at U;simp only
   generalize jq vs w.ty (kO x) rest J (pre++[f])=E at*;generalize dx vs y q.ty=T at*;by_cases hi:q.Ih=false
   ·simp[hi]at U;simp[A7,f111];simp[M,N,U,A9,dh,hi,aj]
   ·have hi:q.Ih=true:=by simpa using hi
    simp[hi]at U;simp[A7,f111]at AD ih⊢;simp[M,N,U,hi,aj];rw[AD (R1:=RF (11,kO x)) (R2:=RF (dh (eN T E)))]
    ·by_cases hm:f∈pre
     ·simp[hm,dh]
     ·simp[hm]
    ·simp[AE]
    ·intro b c;by_cases A5:T.1=0
     ·rw[kG A5];simp[M,N,A',A0,aZ,hw,A5,A8,ih,aj]
     ·rw[ot A5];simp[M,N,A',A0,aZ,hw,A5,AA,dh,aj]
theorem abk{vs:List Vr}(AJ:vs.length<1000000){x:Sm}(V:(dn x).length<100000000)(hle:(bV x).length=(dn x).length)(A3:∀y∈bV x,RT vs y):ah ctx 111 [.d (.list (vs.map bm)),.d (.agg (smL x))] []=some (.ret (cV (dh (T4 vs x))),[]):=by
 have A1:=mg AJ (gC x);rw[adS (by simp)];unfold T4;cases AF:bu vs (gC x)with
 |none=>
  simp[AF,fV,bm,dj,q8]at A1;simp[f111,A1,cV,dh]
 |some v=>
  have h:=λk RF H A u v5 v6 X5 X6=>Ji (w:=v) V hle A3 k RF H A (dn x) [] (bV x) [] u v5 v6 X5 X6 rfl rfl rfl;simp[AF,fV,bm,dj]at A1;by_cases A:v.ty<=2
  ·simp[f111,A1,cV,dh,A]
  ·generalize AK:jq vs v.ty (kO x) (dn x) (bV x) []=E at*;simp[A7,f111]at h;simp[f111,A1,A];rw[h _ (λe=>some (.ret (cV e),[]))]
   ·rw[AK]
   ·intro a b u v5 v6 X5 X6;simp[cV]
   ·intro u v5 v6 X5 X6 b c;simp[cV]
section
variable {vs:List Vr} {lp:Bool} {x:Sm}
theorem ajI(h:bf x=7):RM vs lp x:=by
 unfold RM;rw[rJ,ma (by simp)];cases lp with
 |true=>simp[f71,h,cV,dh]
 |false=>simp[f71,h,cV,dh]
theorem ajJ(h:bf x=8):RM vs lp x:=by
 unfold RM;rw[rJ,ma (by simp)];simp[f71,h,cV,dh]
theorem ajK(M:vs.length<1000000)(h:bf x=9)(N:(dn x).length<100000000)(hle:(bV x).length=(dn x).length)(O:∀y∈bV x,RT vs y):RM vs lp x:=by
 have J:=abk M N hle O;unfold RM;rw[rJ,ma (by simp)];generalize T4 vs x=E at*;simp[h,cV]at J;simp[f71,h,cV,J]
theorem ajL(h:bf x=5){b:List Sm}(H:aV x=[b])(I:RT vs (dk x))(D:oy vs true b):RM vs lp x:=by
 have hw:=pv 2 I;rw[pw]at hw;unfold oy at D;unfold RM;rw[rJ,ma (by simp)];have e:zB vs (aV x)=eU vs true b:=by rw[H];rfl
 rw[e];generalize dx vs (dk x) 2=T at*;generalize eU vs true b=E at*;simp[cV]at hw D;by_cases A:T.1=0
 ·simp[f71,h,H,oK,cV,hw,D,kG A,A]
 ·simp[f71,h,H,cV,hw,ot A,A,dh]
theorem ajM(h:bf x=6){b:List Sm}(H:aV x=[b])(I:RT vs (dk x))(D:oy vs true b):RM vs lp x:=by
 have hw:=pv 2 I;rw[pw]at hw;unfold oy at D;unfold RM;rw[rJ,ma (by simp)];have e:zB vs (aV x)=eU vs true b:=by rw[H];rfl
 have U:(dx vs (dk x) 2).1=0->dx vs (dk x) 2=(0,0):=by
  unfold dx;split
  ·intro hh;rename_i c;exact absurd hh c
  ·split
   ·intro hh;simp at hh
   ·intro _;rfl
 rw[e];generalize dx vs (dk x) 2=T at*;generalize eU vs true b=E at*;have V:dh T=T:=by
  unfold dh;by_cases A:T.1=0
  ·rw[aal A,U A]
  ·rw[aac A]
 simp[cV]at hw D;by_cases A:E.1=0
 ·simp[dh,A]at D;simp[f71,h,H,oK,cV,hw,D,kG A,V]
 ·simp[dh,A]at D;simp[f71,h,H,oK,cV,D,ot A,A,dh]
end
section
variable {vs:List Vr} {lp:Bool} {x:Sm}
theorem ajN(Y:vs.length<1000000)(h:bf x=1)(D:RT vs (fq x))(H:RT vs (dk x)):RM vs lp x:=by
 have A:=mg Y (dY (fq x));unfold RT at D H;unfold RM;rw[rJ,ma (by simp),aal h];unfold Z6;generalize aQ vs (fq x)=T at*;generalize aQ vs (dk x)=M at*;simp[dK]at D H;cases U:bu vs (dY (fq x))with
 |none=>
  simp[U,fV,bm,dj,q8]at A;simp[f71,h,A,cV,dh]
 |some w=>
  simp[U,fV,bm,dj]at A;by_cases I:w.sec=1
  ·simp[f71,h,A,I,cV,dh]
  ·by_cases E:T.e=0
   ·have N:(FE T).1=0:=E;by_cases J:M.e=0
    ·have O:(FE M).1=0:=J;by_cases V:M.t=T.t
     ·simp[f71,h,A,I,D,E,H,J,V,kG N,kG O,cV,dh]
     ·simp[f71,h,A,I,D,E,H,J,V,kG N,kG O,cV,dh]
    ·have O:¬(FE M).1=0:=J;simp[f71,h,A,I,D,E,H,J,eN,cV,dh,FE]
   ·have N:¬(FE T).1=0:=E;simp[f71,h,A,I,D,E,eN,cV,dh,FE]
end
@[reducible] noncomputable def oR(p:List Nat):Code:=Code.at (bq f71) p
@[simp] def mH(x:Sm)(e:EL)(M N w85 D AB:Nat)(O U Y85 H AC AD:ax)(AE:Nat):List cf:=[⟨300,1,bg x⟩,⟨400,1,gj e⟩,⟨450,0,.dead⟩,⟨600,0,.dead⟩,⟨750,M,O⟩,⟨800,N,U⟩,⟨850,w85,Y85⟩,⟨950,D,H⟩,⟨1000,AE,AD⟩,⟨1150,AB,AC⟩,⟨1200,0,.dead⟩,⟨1250,0,.dead⟩]
section
variable {vs:List Vr} {lp:Bool} {x:Sm}
theorem Jj{w85:Nat}{Y85:ax}(A2:(aV x).length<100000000)(A':∀b∈aV x,oy vs lp b)(k:Kt)(RF:EL->bW)
 (Y:∀e D H,k .ret ⟨242,aA,[(6,true,.ptr 400 1 0)],mH x e 0 0 w85 D 0 .dead .dead Y85 H .dead .dead 0⟩=RF e)
 (V:∀D H b c,k (.exit 3) ⟨242,aA,[(0,true,.d (.list (vs.map bm))),(2,true,.d (.bool lp)),(4,true,.ptr 300 1 0),(6,true,.ptr 400 1 0),(16,true,b),(128,true,c)],mH x (0,0) 0 0 w85 D 0 .dead .dead Y85 H .dead .dead 0⟩=RF (0,0)):∀(rest pre:List (List Sm))(D:Nat)(H:ax),aV x=pre++rest->
 aK ctx 71 (.loop (oR [1,0,1,0,1,1,1,1,1,0,1,1,0,0])) ⟨242,aA,[(0,true,.d (.list (vs.map bm))),(2,true,.d (.bool lp)),(4,true,.ptr 300 1 0),(6,true,.ptr 400 1 0),(16,true,.d (.int .i64 pre.length))],mH x (0,0) 0 0 w85 D 0 .dead .dead Y85 H .dead .dead 0⟩ k=RF (dh (gD vs lp [] rest))
 |[],pre,D,H,J=>by
  have A5:pre.length=(aV x).length:=by rw[J];simp
  have A6:gD vs lp [] []=(0,0):=by unfold gD;rfl
  simp only[mH,gj,bg]at V;rw[A6,A5,ai];simp[oR,f71,V,dh]
 |b::rest,pre,D,H,J=>by
  have Z:pre.length<(aV x).length:=by rw[J];simp
  have q:(aV x)[pre.length]=b:=by simp[J]
  have I:=A' b (by rw[J];simp);have ih:=λD H=>Jj A2 A' k RF Y V rest (pre++[b]) D H (by simp[J]);have A4:IntKind.i64.wrap ((pre.length:Int)+1)=(pre.length:Int)+1:=aE (by unfold aG;omega);have key:gD vs lp [] (b::rest)=eN (eU vs lp b) (gD vs lp [] rest):=by
   conv=>lhs;unfold gD
  rw[key];clear key;unfold oy cV at I;generalize eU vs lp b=E at*;generalize gD vs lp [] rest=F at*;have A1:=Y E;simp only[mH,gj,bg]at A1;rw[ai];by_cases A:E.1=0
  ·rw[kG A];simp[dh,A]at I;simp[oR,f71]at ih⊢;simp[Z,q,oK,I,A4,ih]
  ·rw[ot A];simp[dh,A]at I;simp[oR,f71];simp[Z,q,oK,I,A,A1,dh]
theorem ajO(h:bf x=3)(A2:(aV x).length<100000000)(AF:RT vs (dk x))(A':∀b∈aV x,oy vs lp b):RM vs lp x:=by
 have hw:=pv 1 AF;rw[pw]at hw;have A7:=λw85 Y85 k RF Y V D H=>Jj (w85:=w85) (Y85:=Y85) A2 A' k RF Y V (aV x) [] D H rfl;unfold RM;rw[rJ,ma (by simp)];generalize dx vs (dk x) 1=T at*;simp[cV]at hw;by_cases A:T.1=0
 ·rw[aac (by omega),aac (by omega),aal h,kG A];generalize gD vs lp [] (aV x)=E at*;simp[oR,f71,h]at A7;simp[f71,h,hw,A];rw[A7 _ _ _ (λe=>some (.ret (cV e),[]))]
  ·intro a b D H;simp[cV]
  ·intro D H b c;simp[cV]
 ·simp[f71,h,hw,A,ot A,dh,cV]
theorem Jk(A2:(aV x).length<100000000)(AG:(bV x).length<100000000)(A8:∀y∈bV x,RT vs y)(A':∀b∈aV x,oy vs lp b)(k:Kt)(RF:EL->bW)
 (Y:∀e M O N U,k .ret ⟨242,aA,[(6,true,.ptr 400 1 0)],mH x e M N 0 0 0 O U .dead .dead .dead .dead 0⟩=RF e)
 (V:∀M O N U b c,k (.exit 1) ⟨242,aA,[(0,true,.d (.list (vs.map bm))),(2,true,.d (.bool lp)),(4,true,.ptr 300 1 0),(6,true,.ptr 400 1 0),(12,true,b),(83,true,c)],mH x (0,0) M N 0 0 0 O U .dead .dead .dead .dead 0⟩=RF (0,0)):∀(rest pre:List (List Sm))(M:Nat)(O:ax)(N:Nat)(U:ax),aV x=pre++rest->
 aK ctx 71 (.loop (oR [1,0,1,0,1,1,1,0,1,0,0])) ⟨242,aA,[(0,true,.d (.list (vs.map bm))),(2,true,.d (.bool lp)),(4,true,.ptr 300 1 0),(6,true,.ptr 400 1 0),(12,true,.d (.int .i64 pre.length))],mH x (0,0) M N 0 0 0 O U .dead .dead .dead .dead 0⟩ k=RF (dh (gD vs lp ((bV x).drop pre.length) rest))
 |[],pre,M,O,N,U,J=>by
  have A5:pre.length=(aV x).length:=by rw[J];simp
  have A6:∀cs,gD vs lp cs []=(0,0):=by intro cs;unfold gD;rfl
  simp only[mH,gj,bg]at V;rw[A6,A5,ai];simp[oR,f71,V,dh]
 |b::rest,pre,M,O,N,U,J=>by
  have Z:pre.length<(aV x).length:=by rw[J];simp
  have q:(aV x)[pre.length]=b:=by simp[J]
  have I:=A' b (by rw[J];simp);have ih:=λM O N U=>Jk A2 AG A8 A' k RF Y V rest (pre++[b]) M O N U (by simp[J]);have A4:IntKind.i64.wrap ((pre.length:Int)+1)=(pre.length:Int)+1:=aE (by unfold aG;omega);unfold oy cV at I;have A1:=Y (eU vs lp b);simp only[mH,gj,bg]at A1;rw[ai];by_cases A0:pre.length<(bV x).length
  ·have AH:=A8 _ (acM A0);have hw:=pv 2 AH;rw[pw]at hw;have key:gD vs lp ((bV x).drop pre.length) (b::rest)=eN (dx vs (bV x)[pre.length] 2) (eN (eU vs lp b) (gD vs lp ((bV x).drop (pre.length+1)) rest)):=by
    rw[ae8 A0];conv=>lhs;unfold gD
   rw[key];clear key;have A9:=Y (dx vs (bV x)[pre.length] 2);simp only[mH,gj,bg]at A9;simp only[ab1,ab2,afl,adj]at ih;generalize eU vs lp b=E at*;generalize gD vs lp ((bV x).drop (pre.length+1)) rest=F at*;generalize dx vs (bV x)[pre.length] 2=T at*;unfold cV at hw;by_cases A3:T.1=0
   ·rw[kG A3];by_cases A:E.1=0
    ·rw[kG A];simp[dh,A]at I;simp[oR,f71]at ih⊢;simp[Z,q,A0,aZ,oK,hw,A3,I,A4,ih]
    ·rw[ot A];simp[dh,A]at I;simp[oR,f71];simp[Z,q,A0,aZ,oK,hw,A3,I,A,A1,dh]
   ·rw[ot A3];simp[oR,f71];simp[Z,q,A0,aZ,hw,A3,A9,dh]
  ·have AA:∀n,pre.length<=n->(bV x).drop n=[]:=λn AI=>List.drop_eq_nil_of_le (by omega);have key:gD vs lp ((bV x).drop pre.length) (b::rest)=eN (eU vs lp b) (gD vs lp [] rest):=by
    rw[AA _ (aae _)];conv=>lhs;unfold gD
   rw[key];clear key;simp only[ab1,ab2,afl,adj,AA (pre.length+1) (by omega)]at ih;generalize eU vs lp b=E at*;generalize gD vs lp [] rest=F at*;by_cases A:E.1=0
   ·rw[kG A];simp[dh,A]at I;simp[oR,f71]at ih⊢;simp[Z,q,A0,oK,I,A4,ih]
   ·rw[ot A];simp[dh,A]at I;simp[oR,f71];simp[Z,q,A0,oK,I,A,A1,dh]
end
section
variable {vs:List Vr} {lp:Bool} {x:Sm}
theorem ajP(h:bf x=2)(A7:(aV x).length<100000000)(O:(bV x).length<100000000)(N:∀y∈bV x,RT vs y)(A8:∀b∈aV x,oy vs lp b):RM vs lp x:=by
 have U:=λk RF D A A0 A1 A2 A3=>Jk A7 O N A8 k RF D A (aV x) [] A0 A1 A2 A3 rfl;unfold RM;rw[rJ,ma (by simp)];rw[aac (by omega),aal h];simp only[afl,List.drop_zero]at U;generalize gD vs lp (bV x) (aV x)=E at*;simp[oR,f71,h]at U;simp[f71,h];rw[U _ (λe=>some (.ret (cV e),[]))]
 ·intro a b A0 A1 A2 A3;simp[cV]
 ·intro A0 A1 A2 A3 b c;simp[cV]
theorem Jl{W:ax}(O:(bV x).length<100000000)(N:∀y∈bV x,RT vs y)(k:Kt)(RF:EL->bW)
 (D:∀(e:EL) H I,¬e.1=0->k .ret ⟨242,aA,[(6,true,.ptr 400 1 0)],mH x e 0 0 0 0 H .dead .dead .dead .dead I W 1⟩=RF e)
 (A:∀H I b c,k (.exit 5) ⟨242,aA,[(0,true,.d (.list (vs.map bm))),(4,true,.ptr 300 1 0),(6,true,.ptr 400 1 0),(20,true,b),(177,true,c)],mH x (0,0) 0 0 0 0 H .dead .dead .dead .dead I W 1⟩=RF (0,0)):∀(rest pre:List Ex)(H:Nat)(I:ax),bV x=pre++rest->
 aK ctx 71 (.loop (oR [1,0,1,0,1,1,1,1,1,1,1,0,1,1,1,1,0,1,0,0])) ⟨242,aA,[(0,true,.d (.list (vs.map bm))),(4,true,.ptr 300 1 0),(6,true,.ptr 400 1 0),(20,true,.d (.int .i64 pre.length))],mH x (0,0) 0 0 0 0 H .dead .dead .dead .dead I W 1⟩ k=RF (dh (lU vs 1 rest))
 |[],pre,H,I,V=>by
  have A9:pre.length=(bV x).length:=by rw[V];simp
  simp only[mH,gj,bg]at A;rw[A9,ai];simp[oR,f71,A,dh,lU]
 |y::rest,pre,H,I,V=>by
  have A4:pre.length<(bV x).length:=by rw[V];simp
  have A5:(bV x)[pre.length]=y:=by simp[V]
  have hw:=pv 1 (N y (by rw[V];simp));rw[pw]at hw;have ih:=λH I=>Jl O N k RF D A rest (pre++[y]) H I (by simp[V]);have AA:IntKind.i64.wrap ((pre.length:Int)+1)=(pre.length:Int)+1:=aE (by unfold aG;omega);have key:lU vs 1 (y::rest)=eN (dx vs y 1) (lU vs 1 rest):=rfl;rw[key];clear key;unfold cV at hw;generalize dx vs y 1=E at*;generalize lU vs 1 rest=F at*;rw[ai];by_cases M:E.1=0
  ·rw[kG M];simp[oR,f71]at ih⊢;simp[A4,A5,aZ,hw,M,AA,ih]
  ·rw[ot M];have A6:=λw Y=>D E w Y M;simp only[mH,gj,bg]at A6;simp[oR,f71];simp[A4,A5,aZ,hw,M,A6,dh]
set_option maxHeartbeats 1000000 in
theorem agE(h:bf x=4)(O:(bV x).length<100000000)(N:∀y∈bV x,RT vs y){b:List Sm}(Z:aV x=[b])(q:oy vs true b){w:Vr}(T:bu vs (gC x)=some w)(J:ah ctx 38 [.d (.list (vs.map bm)),.d (.str (gC x))] []=some (.ret (.bM [.d (bm (fV vs (gC x))),.d (.bool (bu vs (gC x)).isSome)]),[]))(D:¬w.sec=1)(A:w.arr=false)(A':w.ty=1):
 ah ctx 71 [.d (.list (vs.map bm)),.d (.agg (smL x)),.d (.bool lp)] []=some (.ret (cV (dh (eN (lU vs 1 (bV x)) (eU vs true b)))),[]):=by
 have U:=λW k RF D A H I=>Jl (W:=W) O N k RF D A (bV x) [] H I rfl;unfold oy at q;rw[ma (by simp)];generalize eU vs true b=F at*;generalize lU vs 1 (bV x)=E at*;simp[T,fV,bm,dj]at J;simp[oR,f71,h,Z]at U;simp[cV]at q;simp[f71,h,J,D,A,A',Z];rw[U _ _ (λe=>some (.ret (cV (dh (eN e F))),[]))]
 ·by_cases M:E.1=0
  ·simp[dh,M,eN]
  ·simp[dh,M,eN]
 ·intro AC AD H I M;simp[cV,eN,M,dh]
 ·intro H I c d;simp[oK,q,cV,eN]
theorem ajQ(AB:vs.length<1000000)(h:bf x=4)(O:(bV x).length<100000000)(N:∀y∈bV x,RT vs y){b:List Sm}(Z:aV x=[b])(q:oy vs true b):RM vs lp x:=by
 have J:=mg AB (gC x);unfold RM;rw[rJ];rw[aac (by omega),aac (by omega),aac (by omega),aal h];have e:zB vs (aV x)=eU vs true b:=by rw[Z];rfl
 unfold coE;rw[e];cases T:bu vs (gC x)with
 |none=>
  rw[ma (by simp)];simp[T,fV,bm,dj,q8]at J;simp[f71,h,J,cV,dh]
 |some w=>
  by_cases D:w.sec=1
  ·rw[ma (by simp)];simp[T,fV,bm,dj]at J;simp[f71,h,J,D,cV,dh]
  ·by_cases A:w.arr=true
   ·rw[ma (by simp)];simp[T,fV,bm,dj]at J;simp[f71,h,J,D,A,cV,dh]
   ·have A:w.arr=false:=by simpa using A
    by_cases A':w.ty=1
    ·rw[agE h O N Z q T J D A A'];simp only[aac D,A,A'];simp
    ·rw[ma (by simp)];simp[T,fV,bm,dj]at J;simp[f71,h,J,D,A,A',cV,dh]
end
end Go.Am
end
section
namespace Go.Am
open Go Go.Proofs
variable [Inhabited bB]
set_option maxRecDepth 20000
theorem Ez{α:Type}{l:List α}(h:l.length=1):∃a,l=[a]:=by
 match l,h with
 |[a],_=>exact⟨a,rfl⟩
section
variable {vs:List Vr} (H:vs.length<1000000)
include H
theorem abl{lp:Bool}{x:Sm}(D:og x=true)(A2:(aV x).length<100000000)(A3:(bV x).length<100000000)(A6:(dn x).length<100000000)(T:∀b∈aV x,∀q,oy vs q b):RM vs lp x:=by
 have A7:∃op name to val U V fields M line,x=.mk op name to val U V fields M line:=by
  obtain⟨op,name,to,val,U,V,fields,M,line⟩:=x;exact⟨op,name,to,val,U,V,fields,M,line,rfl⟩
 have facts:(1<=bf x/\bf x<=9)/\(bf x=1->dI (fq x)=true)/\((bf x=1\/bf x=3\/bf x=5\/bf x=6)->dI (dk x)=true)/\cR (bV x)=true/\gM (bf x) (bV x).length (cq x).length (dn x).length (aV x).length=true:=by
  obtain⟨op,name,to,val,U,V,fields,M,line,rfl⟩:=A7;simp only[og,Ds,aag]at D;obtain⟨A4,AA,Y,N,Z,E,AB,AC,AD⟩:=D;refine⟨A4,λI=>?_,λI=>?_,Z,E⟩
  ·simp only[S5]at I;rw[aal I]at Y;simp only[Ds]at Y;exact Y.2
  ·simp only[S5]at I;rw[aal I]at N;simp only[Ds]at N;exact N.2
 obtain⟨A4,Y,N,Z,E⟩:=facts;have A':=B0 H (bV x) Z;have A8:bf x=1\/bf x=2\/bf x=3\/bf x=4\/bf x=5\/bf x=6\/bf x=7\/bf x=8\/bf x=9:=by omega
 rcases A8 with h|h|h|h|h|h|h|h|h
 ·exact ajN H h (rW H _ (Y h)) (rW H _ (N (.inl h)))
 ·exact ajP h A2 A3 A' (λb A=>T b A lp)
 ·exact ajO h A2 (rW H _ (N (.inr (.inl h)))) (λb A=>T b A lp)
 ·rw[h]at E;simp[gM]at E;obtain⟨b,A⟩:=Ez E.2.2.2;exact ajQ H h A3 A' A (T b (by rw[A];simp) true)
 ·rw[h]at E;simp[gM]at E;obtain⟨b,A⟩:=Ez E.2.2.2;exact ajL h A (rW H _ (N (.inr (.inr (.inl h))))) (T b (by rw[A];simp) true)
 ·rw[h]at E;simp[gM]at E;obtain⟨b,A⟩:=Ez E.2.2.2;exact ajM h A (rW H _ (N (.inr (.inr (.inr h))))) (T b (by rw[A];simp) true)
 ·exact ajI h
 ·exact ajJ h
 ·rw[h]at E;simp[gM]at E;exact ajK H h A6 E.1 A'
mutual
theorem agF:∀(x:Sm),og x=true->M8 x<100000000->∀lp,RM vs lp x
 | .mk op name to val U V fields M line,D,O,lp=>by
  have A9:fm M=true:=by
   simp only[og,Ds]at D;exact D.2.2.2.2.2.2.2.2
  have AE:=Iz M;simp only[M8]at O;exact abl H D (by simp only[adi];omega) (by simp only[adg];omega) (by simp only[adh];omega) (λb A q=>NV M A9 (by omega) b A q)
theorem EA:∀(l:List Sm),ga l=true->qK l<100000000->∀x∈l,∀lp,RM vs lp x
 |[],_,_,x,J,_=>by simp at J
 |y::r,D,O,x,J,lp=>by
  simp only[ga,Ds]at D;simp only[qK]at O;have I:=agF y D.1 (by omega);have A0:=EA r D.2 (by omega);rcases aak.1 J with h|J
  ·rw[h];exact I lp
  ·exact A0 x J lp
theorem NV:∀(A1:List (List Sm)),fm A1=true->uQ A1<100000000->∀b∈A1,∀q,oy vs q b
 |[],_,_,b,A,_=>by simp at A
 |c::r,D,O,b,A,q=>by
  simp only[fm,Ds]at D;simp only[uQ]at O;have AF:=BM c;have I:=EA c D.1 (by omega);have A0:=NV r D.2 (by omega);rcases aak.1 A with h|A
  ·rw[h];exact Je (by omega) (λx J=>I x J q)
  ·exact A0 b A q
end
end
theorem UO{p:Pg}(D:sY p=true)(O:qK p.body<100000000):ah ctx 15 [.d (.agg [.str p.name,.list (p.vars.map bm),.list (p.body.map cG)])] []=some (.ret (cV (dh (qw p))),[]):=by
 have A5:=D;simp only[sY,Ds,aag,abN]at A5;obtain⟨_,AG,AH,A⟩:=A5;have AI:=BM p.body;exact Xc D (Je (by omega) (λx J=>EA (by omega) p.body A O x J false))
@[simp] def iD(l:List Nat):List D:=l.map λ(n:Nat)=>D.int .i64 (n:Int)
section
variable (ins:List aS) (vars cells:Int) (A E:Nat) (S T:List D)
end
@[simp] def aw3(ins:List aS)(vars cells:Int):D:=.agg [.list (ins.map qL),.int .i64 vars,.int .i64 cells]
theorem abm(x y:aS):x=y↔x.op=y.op/\x.a=y.a/\x.b=y.b/\x.n=y.n/\x.m=y.m:=by
 constructor
 ·rintro rfl;simp
 ·intro h;cases x;cases y;simp_all
instance:DecidableEq aS:=λx y=>decidable_of_iff _ (abm x y).symm
theorem ajR(e:EL):(dh e).1=0↔e.1=0:=by
 unfold dh;split<;>simp[*]
end Go.Am
end
section
namespace Go.Am
open Go Go.Proofs
variable [Inhabited bB]
structure alo(x:aS)(s t:Ms):Prop where
 len:t.cells.length=s.cells.length
 cI:∀n∈t.cells,aG n
 sI:∀n∈t.sW,aG n
 h64:t.sW.length<=64
 fuel:t.fuel=s.fuel\/(x.op=11/\t.fuel+1=s.fuel/\s.fuel≠0)
 at_:t.at_=s.at_+1\/((x.op=9\/x.op=10)/\t.at_=x.a)
 ok:t.fault=0->t.sW.length=Ca x s.sW.length/\(x.op=9->t.at_=x.a)/\(x.op=11->t.fuel+1=s.fuel)
end Go.Am
end
section
namespace Go.Am
open Go Go.Proofs
variable [Inhabited bB]
set_option maxRecDepth 20000
@[simp] def rM(ins:List aS)(vars cells:Int)(s:Ms)(G:List Int)(v:Nat)(c:ax):Mem:=
 [⟨250,1,.box [.d (.list (ins.map qL)),.d (.int .i64 vars),.d (.int .i64 cells)]⟩,⟨400,1,.box [.lit (.slice none 0 0),.d (.int .i64 0),.d (.int .i64 0)]⟩,⟨500,v,c⟩,⟨1701,2,.vec 1 (s.cells.map jD)⟩,
  ⟨2150,1,.box (mB (.d (.list (ins.map qL))) vars cells (.vec 1701 2 0 s.cells.length) s.sW G s.sW.length s.at_ s.fuel s.fault)⟩,⟨4051,0,.dead⟩]
@[simp] def agG(C:List Int)(fault fuel:Int):D:=.agg [.list (C.map jD),.int .i64 fault,.int .i64 fuel]
def s0(C:List Int)(cells:Nat)(fuel:Int):Ms:=⟨C++List.replicate (cells-C.length) 0,[],0,fuel,0⟩
end Go.Am
end
section
namespace Go.Am
open Go Go.Proofs Go.Proofs.Tryz
variable [Inhabited bB]
set_option maxRecDepth 20000
theorem J8(A B:List Int)(T:A.length=B.length)(O:A.length<=100000)(k:Kt)(R:bW):∀(J E:List Int)(i:Nat),A.drop i=J->B.drop i=E->i+J.length=A.length->
 ((if J=E then k (.exit 0) ⟨26,aA,[(0,true,.d (.list (A.map jD))),(1,true,.d (.list (B.map jD))),(5,true,.d (.int .i64 A.length)),(14,true,.d (.bool false))],[]⟩else k .ret ⟨26,aA,[(4,true,.d (.bool false))],[]⟩)=R)->
 aK ctx 47 (.loop (Code.at (bq f47) [1,1,0,1,0,0])) ⟨26,aA,[(0,true,.d (.list (A.map jD))),(1,true,.d (.list (B.map jD))),(5,true,.d (.int .i64 i))],[]⟩ k=R:=by
 intro J;induction J with
 |nil=>
  intro E i U H hi D;have hi:i=A.length:=by simpa using hi
  subst hi;have A1:E=[]:=by rw[<-H];exact List.drop_eq_nil_of_le (by omega)
  subst A1;simp at D;rw[ai];simp[f47,D]
 |cons a J ih=>
  intro E i U H hi D;have V:i<A.length:=by simp at hi;omega
  have Y:i<B.length:=by omega
  have y:A[i]=a:=by
   have:=aeT (·[0]?) U;simp at this;simpa [V]using this
  obtain⟨b,M,rfl⟩:∃b M,E=b::M:=by
   match E,H with
   |[],H=>have:=aeT List.length H;simp at this;omega
   |b::M,_=>exact⟨b,M,rfl⟩
  have A':B[i]=b:=by
   have:=aeT (·[0]?) H;simp at this;simpa [Y]using this
  have A2:IntKind.i64.wrap ((i:Int)+1)=(i:Int)+1:=aE (by unfold aG;omega);rw[ai];by_cases I:a=b
  ·subst I;have ih:=ih M (i+1) (by rw[<-ak1,U];rfl) (by rw[<-ak1,H];rfl) (by simp at hi;omega) (by simpa using D);simp[f47]at ih⊢;simp[V,Y,y,A',A2,aj,ih]
  ·rw[aac (by simp[I])]at D;simp[f47];simp[V,Y,y,A',I,aj,D]
theorem QS(A B:List Int)(O:A.length<=100000):ah ctx 47 [.d (.list (A.map jD)),.d (.list (B.map jD))] []=some (.ret (.d (.bool (decide (A=B)))),[]):=by
 rw[aiX (by simp)];by_cases T:A.length=B.length
 ·have A0:=λk R D=>J8 A B T O k R A B 0 (by simp) (by simp) (by simp) D;have Z:(A.length:Int)=(B.length:Int):=by omega
  simp[f47]at A0;simp[f47,Z];rw[A0];by_cases I:A=B<;>simp[I]
 ·have I:A≠B:=λh=>T (by rw[h]);have Z:¬(A.length:Int)=(B.length:Int):=by omega
  simp[f47,Z,I]
theorem QT(A B:List Int)(f g u v:Int)(O:A.length<=100000):ah ctx 18 [.d (agG A f u),.d (agG B g v)] []=some (.ret (.d (.bool (decide (A=B/\f=g/\u=v)))),[]):=by
 have N:=QS A B O;rw[aiN (by simp)];try simp at N
 by_cases q:A=B
 ·subst q;simp at N;by_cases A3:f=g<;>by_cases A4:u=v<;>simp[f18,N,A3,A4]
 ·simp[q]at N;simp[f18,N,q]
theorem Xe{p:Pg}(U:lu p.body=true)(hw:iN (uc p)<10000000):∃b,ah ctx 28 [.d (uc p)] []=some (.ret (.d (.bool b)),[])/\(b=true->BY p):=by
 obtain⟨E,H,V⟩:=BQ (p:=p) (by simp only[uc]at hw;omega);obtain⟨B,J⟩:=aaV E H;have I:=afa E H;cases B with
 |false=>
  refine⟨false,?_,by simp⟩;rw[Qy (by simp)];simp[f28,J]
 |true=>
  cases A:sY p with
  |false=>
   rw[A]at I;refine⟨false,?_,by simp⟩;rw[Qy (by simp)];simp[f28,J,I]
  |true=>
   rw[A]at I;have O:=UO A (by omega);unfold cV at O;refine⟨decide ((qw p).1=0),?_,λh=>⟨A,U,by simpa using h,hw⟩⟩;rw[Qy (by simp)];simp[f28,J,I,O,ajR]
def runM(p:Pg)(C:List Int)(f:Int):List Int×Int×Int:=
 if (¬(C.length:Int)=dS p.vars\/f<0)\/16384<f then (C,0, -1)else ((gH p C f.toNat).1,(gH p C f.toNat).2.1,(gH p C f.toNat).2.2)
def UQ(r:List Int×Int×Int):D:=.agg [.list (r.1.map jD),.int .i64 r.2.1,.int .i64 r.2.2]
theorem EB{p:Pg}(h:BY p)(C:List Int)(f:Int)(A0:C.length<=2000)(Y:∀c∈C,aG c):ah ctx 22 [.d (uc p),.d (.list (C.map jD)),.d (.int .i64 f)] []=some (.ret (.d (UQ (runM p C f))),[]):=by
 have A:=h.fit;simp only[sY,Ds,aag,abN]at A;obtain⟨_,A1,M,Z⟩:=A;obtain⟨E,H,V⟩:=BQ (p:=p) (by have:=h.lw;simp only[uc]at this;omega);unfold runM;by_cases N:(¬(C.length:Int)=dS p.vars\/f<0)\/16384<f
 ·rw[aal N,W9 (by omega) M C f (by omega) N];rfl
 ·rw[aac N];obtain⟨n,rfl⟩:∃n:Nat,f=n:=⟨f.toNat,by omega⟩;have T:=h.chk;unfold qw at T;obtain⟨q,y⟩:=gZ.1 T;have hle:(C.length:Int)<=1024:=by
   have:=zL p.vars [] 0 (by omega) q;omega
  have A':eu p C:=⟨by omega,by omega,Y⟩;rw[agn (by omega) M C n A' (by omega) (UK (by omega) M (lp:=false) E Z h.lit H y).1];rfl
end Go.Am
end
section
namespace Go.Am
open Go Go.Proofs
variable [Inhabited bB]
set_option maxRecDepth 20000
def pB(L:List eE)(s:PS):List AV:=[.d (.list (L.map pq)),.d (.int .i64 s.at_),.d (.int .i64 s.deep),.vec 1 0 0 s.vars.length]
def pC(L:List eE)(s:PS):List ax:=[.box (pB L s),.vec 8 (s.vars.map bm)]
def vJ(L:List eE)(s:PS):List (Nat×ax):=[(0,.box (pB L s)),(0,.vec 8 (s.vars.map bm))]
def fD(e:Er):D:=.agg [.int .i64 e.e,.int .i64 0,.str [],.int .i64 0,.int .i64 e.line,.int .i64 e.Da]
def qM(L:List eE)(e:Er)(s:PS):bW:=some (.panic 161 (fD e),vJ L s)
section
variable {L:List eE} {s:PS}
@[simp] theorem avZ(a b:Tx):(a == b)=decide (a=b):=by by_cases h:a=b<;>simp[h]
@[simp] theorem aw4{β:Type}{b:Bool}{x y:β}:(if b=false then x else y)=if b=true then y else x:=by cases b<;>rfl
end
section
variable {L:List eE} {s:PS} (A:L.length<1000000)
include A
end
structure Sh where
 k:Int
 name:Tx
 ins:Tx
 outs:Tx
 n:Int
@[simp] def shD(x:Sh):D:=.agg [.int .i64 x.k,.str x.name,.str x.ins,.str x.outs,.int .i64 x.n]
end Go.Am
end
section
namespace Go.Am
open Go
section
variable {D A α β:Type}
def PR.le(r E:PR D A α):Prop:=r=.out\/r=E
theorem PR.le.refl(r:PR D A α):r.le r:=.inr rfl
theorem PR.le.out(r:PR D A α):PR.le .out r:=.inl rfl
theorem PR.le.bind{r E:PR D A α}{k H:α->A->PR D A β}(h:r.le E)(N:∀a s,(k a s).le (H a s)):(r.bind k).le (E.bind H):=by
 rcases h with h|h
 ·subst h;exact .inl rfl
 ·subst h;cases r with
  |ok a s=>exact N a s
  |bad e s=>exact .inr rfl
  |out=>exact .inl rfl
theorem PR.le.ite{c:Prop}[Decidable c]{a b I J:PR D A α}(h:a.le I)(O:b.le J):(if c then a else b).le (if c then I else J):=by
 split
 ·exact h
 ·exact O
theorem PR.le.el{r E:PR D A α}{M:Type}{f:α->A->Option M}{g:D->A->Option M}(h:r.le E):Le (r.el f g) (E.el f g):=by
 rcases h with h|h
 ·subst h;exact Le.none
 ·subst h;exact Le.refl _
end
section
variable (L:List eE)
structure azv(f g:Nat):Prop where
 level:∀n s,(sR L f n s).le (sR L g n s)
 loop:∀n x s,(zv L f n x s).le (zv L g n x s)
 unary:∀s,(vA L f s).le (vA L g s)
 unop:∀op t s,(Dc L f op t s).le (Dc L g op t s)
 expr:∀s,(kF L f s).le (kF L g s)
 index:∀s,(vC L f s).le (vC L g s)
 DH:∀s,(vB L f s).le (vB L g s)
structure azw(f g:Nat):Prop where
 block:∀w s,(mX L f w s).le (mX L g w s)
 vD:∀w l s,(vD L f w l s).le (vD L g w l s)
 stmt:∀s,(Ak L f s).le (Ak L g s)
 ss:∀s,(Dd L f s).le (Dd L g s)
 xr:∀s,(qu L f s).le (qu L g s)
 lR:∀c l s,(lR L f c l s).le (lR L g c l s)
 cases:∀s,(zw L f s).le (zw L g s)
 sU:∀v c l s,(sU L f v c l s).le (sU L g v c l s)
 xc:∀l s,(xc L f l s).le (xc L g l s)
 As:∀s,(sS L f s).le (sS L g s)
 call:∀n s,(De L f n s).le (De L g n s)
 xd:∀n c l s,(xd L f n c l s).le (xd L g n c l s)
end
end Go.Am
end
section
namespace Go.Am
open Go Go.Proofs
variable [Inhabited bB]
set_option maxRecDepth 20000
def ajS:List Nat:=[219,223,220,217,154,155,262,264,309,310,291,222,316,314]
structure agH(L:List eE)(A:bj)(f:Nat):Prop where
 le:∀g a c r,A g a c=some r->ah ctx g a c=some r
 out:∀g,ajS.contains g=true->A g=ah ctx g
 level:∀n s,A 311 [.ptr 0 0 0,.d (.int .i64 (n:Nat))] (pC L s)=(sR L f n s).el (λx s=>some (.ret (.d (du x)),vJ L s)) (qM L)
 unary:∀s,A 315 [.ptr 0 0 0] (pC L s)=(vA L f s).el (λx s=>some (.ret (.d (du x)),vJ L s)) (qM L)
 DH:∀s,A 318 [.ptr 0 0 0] (pC L s)=(vB L f s).el (λx s=>some (.ret (.d (du x)),vJ L s)) (qM L)
 index:∀s,A 297 [.ptr 0 0 0] (pC L s)=(vC L f s).el (λx s=>some (.ret (.d (du x)),vJ L s)) (qM L)
 expr:∀s,A 295 [.ptr 0 0 0] (pC L s)=(kF L f s).el (λx s=>some (.ret (.d (du x)),vJ L s)) (qM L)
section
variable {L:List eE} {s:PS} {A:bj} {f:Nat} (D:L.length<1000000) (F:agH L A f)
include D F
end
structure aqq(L:List eE)(A:bj)(f:Nat):Prop where
 E:agH L A f
 block:∀ws s,ws.length<1000->A 157 [.ptr 0 0 0,.d (.list (ws.map .str))] (pC L s)=(mX L f ws s).el (λl s=>some (.ret (.d (.list (l.map cG))),vJ L s)) (qM L)
 stmt:∀s,A 224 [.ptr 0 0 0] (pC L s)=(Ak L f s).el (λx s=>some (.ret (.d (cG x)),vJ L s)) (qM L)
 ss:∀s,A 263 [.ptr 0 0 0] (pC L s)=(Dd L f s).el (λx s=>some (.ret (.d (cG x)),vJ L s)) (qM L)
 xr:∀s,A 292 [.ptr 0 0 0] (pC L s)=(qu L f s).el (λx s=>some (.ret (.d (cG x)),vJ L s)) (qM L)
 cases:∀s,A 293 [.ptr 0 0 0] (pC L s)=(zw L f s).el (λx s=>some (.ret (.d (cG x)),vJ L s)) (qM L)
 As:∀s,A 294 [.ptr 0 0 0] (pC L s)=(sS L f s).el (λx s=>some (.ret (.d (cG x)),vJ L s)) (qM L)
 call:∀D s,A 296 [.ptr 0 0 0,.d (.str D)] (pC L s)=(De L f D s).el (λx s=>some (.ret (.d (cG x)),vJ L s)) (qM L)
section
variable {L:List eE} {s:PS} {A:bj} {f:Nat} (H:L.length<1000000) (F:aqq L A f)
include H F
end
inductive TA where
 |level (n:Nat) (s:PS)
 |unary (s:PS)
 |DH (s:PS)
 |index (s:PS)
 |expr (s:PS)
 |block (ws:List Tx) (s:PS)
 |stmt (s:PS)
 |ss (s:PS)
 |xr (s:PS)
 |cases (s:PS)
 |As (s:PS)
 |call (A:Tx) (s:PS)
def TA.args:TA->List AV
 | .level n _=>[.ptr 0 0 0,.d (.int .i64 n)]
 | .block ws _=>[.ptr 0 0 0,.d (.list (ws.map .str))]
 | .call A _=>[.ptr 0 0 0,.d (.str A)]
 |_=>[.ptr 0 0 0]
def TA.st:TA->PS
 | .level _ s=>s
 | .unary s=>s
 | .DH s=>s
 | .index s=>s
 | .expr s=>s
 | .block _ s=>s
 | .stmt s=>s
 | .ss s=>s
 | .xr s=>s
 | .cases s=>s
 | .As s=>s
 | .call _ s=>s
end Go.Am
end
section
namespace Go.Am
open Go
section
variable {α β:Type}
def Tr(r:PM α)(Q:α->PS->Prop):Prop:=match r with
 | .ok a s=>Q a s
 | .bad e _=>1<=e.line/\e.e≠0
 | .out=>False
theorem Tr.bind{r:PM α}{k:α->PS->PM β}{Q:α->PS->Prop}{D:β->PS->Prop}(h:Tr r Q)(E:∀a s,Q a s->Tr (k a s) D):Tr (r.bind k) D:=by
 cases r with
 |ok a s=>exact E a s h
 |bad e s=>exact h
 |out=>exact h.elim
theorem Tr.mono{r:PM α}{Q D:α->PS->Prop}(h:Tr r Q)(E:∀a s,Q a s->D a s):Tr r D:=by
 cases r with
 |ok a s=>exact E a s h
 |bad e s=>exact h
 |out=>exact h.elim
theorem Tr.ok{a:α}{s:PS}{Q:α->PS->Prop}(h:Q a s):Tr (.ok a s) Q:=h
end
structure OkL(L:List eE):Prop where
 ends:∀(i:Nat)(t:eE),L[i]?=some t->(t.kind=0↔i+1=L.length)
 line:∀(i:Nat)(t:eE),L[i]?=some t->1<=t.line
 len:L.length<=49999
structure Iv(L:List eE)(s:PS):Prop where
 at_:s.at_<L.length
 d0:0<=s.deep
 d1:s.deep<=32
 vs:s.vars.length<=64
structure Fw(L:List eE)(s A:PS):Prop where
 iv:Iv L A
 deep:A.deep=s.deep
 vars:A.vars=s.vars
 at_:s.at_<=A.at_
structure Fs(L:List eE)(s A:PS):Prop extends Fw L s A where
 lt:s.at_<A.at_
theorem Fw.refl{L s}(h:Iv L s):Fw L s s:=⟨h,rfl,rfl,aae _⟩
theorem Fw.trans{L s s1 s2}(h:Fw L s s1)(k:Fw L s1 s2):Fw L s s2:=⟨k.iv,k.deep.trans h.deep,k.vars.trans h.vars,aj4 h.at_ k.at_⟩
theorem Fs.trans{L s s1 s2}(h:Fs L s s1)(k:Fw L s1 s2):Fs L s s2:=⟨h.toFw.trans k,agL h.lt k.at_⟩
section
variable {L:List eE} (H:OkL L)
include H
structure Dn(L:List eE)(s A:PS):Prop where
 iv:Iv L A
 deep:A.deep=s.deep+1
 vars:A.vars=s.vars
 at_:A.at_=s.at_
structure Fv(L:List eE)(s A:PS):Prop where
 iv:Iv L A
 deep:A.deep=s.deep
 at_:s.at_<=A.at_
structure azx(L:List eE)(f:Nat):Prop where
 level:∀(n:Nat)(s:PS),n<=6->Iv L s->20*(L.length-s.at_)+(10-n)<=f->Tr (sR L f n s) λ_ A=>Fs L s A
 loop:∀(n:Nat)(x:Ex)(s:PS),n<6->Iv L s->20*(L.length-s.at_)+1<=f->Tr (zv L f n x s) λ_ A=>Fw L s A
 unary:∀s:PS,Iv L s->20*(L.length-s.at_)+3<=f->Tr (vA L f s) λ_ A=>Fs L s A
 unop:∀(op:Int)(t:eE)(s:PS),Iv L s->L[s.at_]?=some t->t.kind≠0->20*(L.length-s.at_)+2<=f->Tr (Dc L f op t s) λ_ A=>Fs L s A
 expr:∀s:PS,Iv L s->20*(L.length-s.at_)+11<=f->Tr (kF L f s) λ_ A=>Fs L s A
 index:∀s:PS,Iv L s->20*(L.length-s.at_)+1<=f->Tr (vC L f s) λ_ A=>Fs L s A
 DH:∀s:PS,Iv L s->20*(L.length-s.at_)+2<=f->Tr (vB L f s) λ_ A=>Fs L s A
end
section
variable {L:List eE} (E:OkL L)
include E
structure azy(L:List eE)(f:Nat):Prop where
 block:∀(ws:List Tx)(s:PS),Iv L s->20*(L.length-s.at_)+19<=f->Tr (mX L f ws s) λ_ A=>Fw L s A
 loop:∀(ws:List Tx)(l:List Sm)(s:PS),Iv L s->l.length<=s.at_->20*(L.length-s.at_)+18<=f->Tr (vD L f ws l s) λ_ A=>Fw L s A
 stmt:∀s:PS,Iv L s->20*(L.length-s.at_)+17<=f->Tr (Ak L f s) λ_ A=>Fs L s A
 ss:∀s:PS,Iv L s->20*(L.length-s.at_)+16<=f->Tr (Dd L f s) λ_ A=>Fs L s A
 xr:∀s:PS,Iv L s->20*(L.length-s.at_)+15<=f->Tr (qu L f s) λ_ A=>Fs L s A
 lR:∀(c:List Ex)(l:List (List Sm))(s:PS),Iv L s->c.length<=s.at_->l.length<=s.at_->20*(L.length-s.at_)+14<=f->Tr (lR L f c l s) λ_ A=>Fs L s A
 cases:∀s:PS,Iv L s->20*(L.length-s.at_)+15<=f->Tr (zw L f s) λ_ A=>Fs L s A
 sU:∀(v:Ex)(c:List (List Int))(l:List (List Sm))(s:PS),Iv L s->c.length<=s.at_->l.length<=s.at_->20*(L.length-s.at_)+14<=f->Tr (sU L f v c l s) λ_ A=>Fs L s A
 xc:∀(l:List Sm)(s:PS),Iv L s->l.length<=s.at_->20*(L.length-s.at_)+18<=f->Tr (xc L f l s) λ_ A=>Fw L s A
 As:∀s:PS,Iv L s->20*(L.length-s.at_)+15<=f->Tr (sS L f s) λ_ A=>Fs L s A
 call:∀(D:Tx)(s:PS),Iv L s->20*(L.length-s.at_)+15<=f->Tr (De L f D s) λ_ A=>Fs L s A
 xd:∀(D:Tx)(c:List Tx)(l:List Ex)(s:PS),Iv L s->c.length<=s.at_->l.length<=s.at_->20*(L.length-s.at_)+14<=f->Tr (xd L f D c l s) λ_ A=>Fs L s A
end
abbrev agI:=Option (Out×List (Nat×ax))
theorem agJ(c:Prop)[Decidable c](a b:Bool)(l:List (Nat×ax)):(if c then (some (Out.ret (.d (.bool a)),l):agI)else some (Out.ret (.d (.bool b)),l))=some (Out.ret (.d (.bool (if c then a else b))),l):=by split<;>rfl
theorem Xf(a b:Bool)(l:List (Nat×ax)):(some (Out.ret (.d (.bool a)),l):agI)=some (Out.ret (.d (.bool b)),l)↔(a=true↔b=true):=by
 cases a<;>cases b<;>simp
end Go.Am
end
section
namespace Go.Am
open Go Go.Proofs Go.Proofs.Tryz
variable [Inhabited bB]
set_option maxRecDepth 20000
theorem Xg{n:Int}(A:0<=n)(D:n<=255):IntKind.u8.wrap n=n:=by
 simp[IntKind.wrap,IntKind.bits,IntKind.signed];omega
theorem DI(c:UInt8):ah ctx 210 [.d (.int .u8 c.toNat)] []=some (.ret (.d (.bool (po c))),[]):=by
 rw[aej (by simp)];simp[f210,aj];grind [po]
theorem zM(c:UInt8):ah ctx 214 [.d (.int .u8 c.toNat)] []=some (.ret (.d (.bool (oe c))),[]):=by
 rw[aem (by simp)];simp[f214,aj];grind [oe]
theorem FY(c:UInt8):ah ctx 212 [.d (.int .u8 c.toNat)] []=some (.ret (.d (.bool (en c))),[]):=by
 rw[aek (by simp)];simp[f212,aj,DI,zM];simp only[agJ,Xf];grind [en]
theorem FZ(c:UInt8):ah ctx 258 [.d (.int .u8 c.toNat)] []=some (.ret (.d (.int .i64 (fh c))),[]):=by
 rw[aeA (by simp)];simp[f258,aj,zM];have E:c.toNat<256:=c.toNat_lt;have w:∀y:Int, -9223372036854775808<=y->y<=9223372036854775807->IntKind.i64.wrap y=y:=λy A D=>aE ⟨A,D⟩;have H:∀y:Int,0<=y->y<=255->IntKind.u8.wrap y=y:=λy A D=>Xg A D;grind [fh,oe]
theorem px{s:Tx}{i:Nat}(h:i<s.length):ij s i=s[i]:=by simp[ij,h]
theorem aar(c:UInt8)(n:Nat)(A2:n<256):((c.toNat:Int)=n)↔c=UInt8.ofNat n:=by
 constructor
 ·intro h;have h:c.toNat=n:=by omega
  rw[<-h];simp
 ·rintro rfl;simp;omega
@[simp] def ta(s:Tx)(i:Nat):ax:=.box [.d (.str s),.d (.int .i64 i),.d (.int .i64 (fi (s.take i)).1),.d (.int .i64 (fi (s.take i)).2)]
theorem Jm(s:Tx)(i:Nat)(h:i<=s.length):ah ctx 151 [.ptr 0 0 0] [ta s i]=some (.ret (.d (.str (s.drop i))),[(0,ta s i)]):=by
 rw[ad3 (by simp)];simp[f151,aj,h]
theorem F0(s:Tx)(i n:Nat)(h:i+n<=s.length)(H:s.length<=100000)(k:Kt):∀(r j:Nat),j+r=n->
 aK ctx 153 (.loop (Code.at (bq f153) [1,0,0])) ⟨42,aA,[(0,true,.ptr 0 0 0),(4,true,.d (.int .i64 n)),(5,true,.d (.int .i64 j))],[⟨0,0,ta s (i+j)⟩]⟩ k=
  k (.exit 0) ⟨42,aA,[(0,true,.ptr 0 0 0),(4,true,.d (.int .i64 n)),(5,true,.d (.int .i64 n)),(6,true,.d (.bool false))],[⟨0,0,ta s (i+n)⟩]⟩
 |0,j,I=>by
  have I:j=n:=by omega
  subst I;rw[ai];simp[f153]
 |r+1,j,I=>by
  have ih:=F0 s i n h H k r (j+1) (by omega);have D:i+j<s.length:=by omega
  have A':=SV (s:=s) (i:=i+j);have A:=zt D;rw[show i+(j+1)=i+j+1 by omega]at ih;generalize A0:fi (s.take (i+j))=p at*;generalize A1:fi (s.take (i+j+1))=q at*;obtain⟨l,c⟩:=p;obtain⟨A3,A4⟩:=q;simp only at A';have J:IntKind.i64.wrap (c+1)=c+1:=aE (by unfold aG;omega);have M:IntKind.i64.wrap (l+1)=l+1:=aE (by unfold aG;omega);have N:IntKind.i64.wrap ((i:Int)+j+1)=(i:Int)+j+1:=aE (by unfold aG;omega);have O:IntKind.i64.wrap ((j:Int)+1)=(j:Int)+1:=aE (by unfold aG;omega);have T:j<n:=by omega
  rw[ai];simp[f153,A0,A1]at ih⊢;have U:(0:Int)<=(i:Int)+j:=by omega
  have V:((i:Int)+j).toNat=i+j:=by omega
  have Y:=px D;have Z:=aar s[i+j] 10 (by omega);simp at Z;unfold jm at A;by_cases E:s[i+j]=10
  ·rw[aal E]at A;cases A;simp[T,J,M,N,O,D,aj,U,V,Y,E,ih]
  ·rw[aac E]at A;cases A;simp[T,J,M,N,O,D,aj,U,V,Y,Z,E,ih]
theorem xu(s:Tx)(i n:Nat)(h:i+n<=s.length)(H:s.length<=100000):ah ctx 153 [.ptr 0 0 0,.d (.int .i64 n)] [ta s i]=some (.ret (.bM []),[(0,ta s (i+n))]):=by
 have y:=λk=>F0 s i n h H k n 0 (by omega);rw[ad5 (by simp)];simp[f153]at y⊢;simp[y]
theorem xR(t:Tx)(c:UInt8):ah ctx 208 [.d (.str t),.d (.int .u8 c.toNat)] []=some (.ret (.d (.int .i64 (Go.Lib.indexByte t c))),[]):=by
 rw[aei (by simp)];simp[f208,aj]
set_option maxHeartbeats 1000000 in
theorem xw(s:Tx)(J:s.length<=100000)(k:Kt)(R:bW):∀(f i:Nat),i<=s.length->s.length-i<f->
 (k .ret ⟨51,aA,[(2,true,.d (.bool (eT f (s.drop i)).2))],[⟨0,0,ta s (i+(eT f (s.drop i)).1)⟩]⟩=R)->
 aK ctx 150 (.loop (Code.at (bq f150) [1,0,0])) ⟨51,aA,[(0,true,.ptr 0 0 0)],[⟨0,0,ta s i⟩]⟩ k=R
 |0,i,hi,A1,A=>by omega
 |f+1,i,hi,A1,A=>by
  have D:=Jm s i hi;cases O:s.drop i with
  |nil=>
   rw[O]at D A;simp[eT]at D A;rw[ai];simp[f150,D,A,aj]
  |cons c r=>
   have A9:i+(r.length+1)=s.length:=by have:=aeT List.length O;simp at this;omega
   have M:=xR (c::r) 10;rw[vy]at M;rw[O]at D A;unfold eT at A;have T:ij (c::r) 0=c:=rfl;have A2:=Ic (c::r);by_cases E:vu c=true
   ·rw[aal E]at A;have H:=xu s i 1 (by omega) J;have Y:s.drop (i+1)=r:=by rw[<-ak1,O];rfl
    have ih:=xw s J k R f (i+1) (by omega) (by omega) (by rw[Y,show i+1+(eT f r).1=i+(1+(eT f r).1) by omega];exact A);simp[vu]at E;rw[ai];simp[f150]at D H ih⊢;rcases E with (E|E)|E<;>simp[D,T,E,H,ih,aj]
   rw[aac E]at A;have Z:¬(c.toNat:Int)=32:=λh=>E (by simp[vu];omega);have q:¬(c.toNat:Int)=10:=λh=>E (by simp[vu];omega);have y:¬(c.toNat:Int)=9:=λh=>E (by simp[vu];omega);have I:=C9 47 47 c r;have N:=C9 40 42 c r;by_cases A':c=47/\r.head?=some 47
   ·rw[aal A']at A;have I:Go.Lib.hasPrefix (c::r) [47,47]=true:=by rw[I];simp[A']
    have H:=xu s i (gW (c::r)) (by simp at A2;omega) J;have Y:s.drop (i+gW (c::r))=(c::r).drop (gW (c::r)):=by rw[<-ak3,O]
    have AA:0<gW (c::r):=by simp[gW,A'.1]
    have ih:=xw s J k R f (i+gW (c::r)) (by simp at A2;omega) (by omega) (by rw[Y,ack];exact A);generalize gW (c::r)=n at*;rw[ai];by_cases U:n<(c::r).length
    ·rw[aal U]at M;have A3:¬((n:Int)<0):=by omega
     simp[f150]at D H ih M⊢;simp[D,T,Z,q,y,I,M,A3,H,ih,aj]
    ·rw[aac U]at M;have A7:n=r.length+1:=by simp at U A2;omega
     subst A7;simp[f150]at D H ih M⊢;simp[D,T,Z,q,y,I,M,H,ih,aj]
   rw[aac A']at A;have I:Go.Lib.hasPrefix (c::r) [47,47]=false:=by rw[I];simpa using A'
   by_cases A0:c=40/\r.head?=some 42
   ·rw[aal A0]at A;have N:Go.Lib.hasPrefix (c::r) [40,42]=true:=by rw[N];simp[A0]
    have V:=FA r.tail;have A5:(2:Int)<=(r.length:Int)+1:=by cases r with|nil=>simp at A0|cons d r=>simp;omega
    have A6:r.length-1<4294967281:=by omega
    cases A4:l9 r.tail with
    |none=>
     rw[A4]at A V;simp at A V D;rw[ai];simp[f150];simp[D,T,Z,q,y,I,N,A5,A6,V,A,aj]
    |some m=>
     rw[A4]at A V;have hm:=wX A4;have AB:r.tail.length=r.length-1:=by simp
     have H:=xu s i (m+4) (by omega) J;have Y:s.drop (i+(m+4))=(c::r).drop (m+4):=by rw[<-ak3,O]
     have ih:=xw s J k R f (i+(m+4)) (by omega) (by omega) (by rw[Y,ack];exact A);have A3:¬((m:Int)<0):=by omega
     have A8:IntKind.i64.wrap ((m:Int)+4)=m+4:=aE (by unfold aG;omega);rw[ai];simp[f150]at D H ih V⊢;simp[D,T,Z,q,y,I,N,A5,A6,V,A3,A8,H,ih,aj]
   rw[aac A0]at A;have N:Go.Lib.hasPrefix (c::r) [40,42]=false:=by rw[N];simpa using A0
   simp at A D;rw[ai];simp[f150];simp[D,T,Z,q,y,I,N,A,aj]
theorem abn(s:Tx)(i:Nat)(hi:i<=s.length)(J:s.length<=100000)(f:Nat)(A1:s.length-i<f):
 ah ctx 150 [.ptr 0 0 0] [ta s i]=some (.ret (.d (.bool (eT f (s.drop i)).2)),[(0,ta s (i+(eT f (s.drop i)).1))]):=by
 have U:=λk R=>xw s J k R f i hi A1;rw[ad2 (by simp)];simp[f150]at U⊢;rw[U];simp
theorem J9(c:UInt8)(b:Int):ah ctx 257 [.d (.int .u8 c.toNat),.ptr 0 0 0] [.box [.d (.int .i64 b)]]=some (.ret (.d (.bool (decide ((fh c:Int)<b)))),[(0,.box [.d (.int .i64 b)])]):=by
 rw[aez (by simp)];simp[f257,aj,FZ]
theorem A8(s:Tx)(E:s.length<=100000)(k:Kt):∀(r n:Nat),n+r=s.length->
 aK ctx 211 (.loop (Code.at (bq f211) [1,1,0,0,0])) ⟨20,aA,[(0,true,.d (.str s)),(1,true,.fn 212 []),(5,true,.d (.int .i64 n))],[]⟩ k=
  k (.exit 0) ⟨20,aA,[(0,true,.d (.str s)),(1,true,.fn 212 []),(5,true,.d (.int .i64 (n+((s.drop n).takeWhile en).length:Nat))),(16,true,.d (.bool false))],[]⟩
 |0,n,H=>by
  have H:n=s.length:=by omega
  subst H;rw[ai];simp[f211]
 |r+1,n,H=>by
  have D:n<s.length:=by omega
  have ih:=A8 s E k r (n+1) (by omega);have N:IntKind.i64.wrap ((n:Int)+1)=(n:Int)+1:=aE (by unfold aG;omega);have I:=px D;have A:=FY s[n];have O:s.drop n=s[n]::s.drop (n+1):=ae8 D;rw[O,List.takeWhile_cons];rw[ai];cases J:en s[n]with
  |true=>
   rw[J]at A;have e:n+1+(List.takeWhile en (s.drop (n+1))).length=n+((List.takeWhile en (s.drop (n+1))).length+1):=by omega
   rw[e]at ih;simp[f211]at ih A⊢;simp[D,I,A,N,ih]
  |false=>
   rw[J]at A;simp[f211]at A⊢;simp[D,I,A]
theorem QU(s:Tx)(E:s.length<=100000):ah ctx 211 [.d (.str s),.fn 212 []] []=some (.ret (.d (.int .i64 (s.takeWhile en).length)),[]):=by
 have M:=λk=>A8 s E k s.length 0 (by omega);rw[TY (by simp)];simp[f211]at M⊢;simp[M]
theorem A9(s:Tx)(E:s.length<=100000)(b:Nat)(k:Kt):∀(r n:Nat),n+r=s.length->
 aK ctx 211 (.loop (Code.at (bq f211) [1,1,0,0,0])) ⟨20,aA,[(0,true,.d (.str s)),(1,true,.fn 257 [.ptr 0 0 0]),(5,true,.d (.int .i64 n))],[⟨0,0,.box [.d (.int .i64 b)]⟩]⟩ k=
  k (.exit 0) ⟨20,aA,[(0,true,.d (.str s)),(1,true,.fn 257 [.ptr 0 0 0]),(5,true,.d (.int .i64 (n+((s.drop n).takeWhile (λc=>decide (fh c<b))).length:Nat))),(16,true,.d (.bool false))],[⟨0,0,.box [.d (.int .i64 b)]⟩]⟩
 |0,n,H=>by
  have H:n=s.length:=by omega
  subst H;rw[ai];simp[f211]
 |r+1,n,H=>by
  have D:n<s.length:=by omega
  have ih:=A9 s E b k r (n+1) (by omega);have N:IntKind.i64.wrap ((n:Int)+1)=(n:Int)+1:=aE (by unfold aG;omega);have I:=px D;have A:=J9 s[n] b;have O:s.drop n=s[n]::s.drop (n+1):=ae8 D;rw[O,List.takeWhile_cons];rw[ai];by_cases J:fh s[n]<b
  ·have e:n+1+(List.takeWhile (λc=>decide (fh c<b)) (s.drop (n+1))).length=n+((List.takeWhile (λc=>decide (fh c<b)) (s.drop (n+1))).length+1):=by omega
   rw[e]at ih;simp[f211,J]at ih A⊢;simp[D,I,A,N,ih]
  ·simp[f211,J]at A⊢;simp[D,I,A]
theorem QV(s:Tx)(E:s.length<=100000)(b:Nat):ah ctx 211 [.d (.str s),.fn 257 [.ptr 0 0 0]] [.box [.d (.int .i64 b)]]=
 some (.ret (.d (.int .i64 (s.takeWhile (λc=>decide (fh c<b))).length)),[(0,.box [.d (.int .i64 b)])]):=by
 have M:=λk=>A9 s E b k s.length 0 (by omega);rw[TY (by simp)];simp[f211]at M⊢;simp[M]
theorem abo(c:UInt8):fh c<=99:=by
 unfold fh oe;split
 ·rename_i h;simp at h;omega
 ·split<;>omega
set_option maxHeartbeats 1000000 in
theorem Jn(s:Tx)(A7:s.length<=100000)(b:Nat)(A8:2<=b/\b<=16)(n v:Nat)(D:ax)(O:n<=s.length)(k:Kt)(R:bW):∀(rest:Tx)(i x:Nat),(s.drop i).take rest.length=rest->i+rest.length=n->x<=9223372036854775807->
 (match Eh b x rest with
  |none=>k .ret ⟨83,aA,[(2,true,.d (.int .i64 0)),(3,true,.d (.int .i64 0)),(4,true,.d (.int .i64 2))],[⟨350,1,.box [.d (.int .i64 b)]⟩,⟨500,v,D⟩]⟩
  |some y=>k (.exit 2) ⟨83,aA,[(0,true,.d (.str s)),(5,true,.ptr 350 1 0),(9,true,.d (.int .i64 n)),(10,true,.d (.int .i64 y)),(11,true,.d (.int .i64 n)),(63,true,.d (.bool false))],[⟨350,1,.box [.d (.int .i64 b)]⟩,⟨500,v,D⟩]⟩)=R->
 aK ctx 215 (.loop (Code.at (bq f215) [1,1,1,1,1,1,0,1,0,0])) ⟨83,aA,[(0,true,.d (.str s)),(5,true,.ptr 350 1 0),(9,true,.d (.int .i64 n)),(10,true,.d (.int .i64 x)),(11,true,.d (.int .i64 i))],[⟨350,1,.box [.d (.int .i64 b)]⟩,⟨500,v,D⟩]⟩ k=R
 |[],i,x,A',hi,AN,I=>by
  have hi:i=n:=by simpa using hi
  subst hi;simp[Eh]at I;rw[ai];simp[f215,I]
 |c::rest,i,x,A',hi,AN,I=>by
  simp only[ab2]at hi A';have A:i<s.length:=by omega
  have T:i<n:=by omega
  have AO:s.drop i=s[i]::s.drop (i+1):=ae8 A;rw[AO,List.take_succ_cons]at A';have J:s[i]=c:=(List.cons.inj A').1;have AP:=(List.cons.inj A').2;have AE:=px A;have Y:=FZ c;have Ag:=abo c;have AQ:IntKind.i64.wrap ((i:Int)+1)=(i:Int)+1:=aE (by unfold aG;omega);have AF:IntKind.i64.wrap (9223372036854775807-(fh c:Int))=((9223372036854775807-fh c:Nat):Int):=by rw[aE (by unfold aG;omega)];omega
  have AR:(9223372036854775807-fh c)/b<=9223372036854775807:=aj4 (Nat.div_le_self _ _) (Nat.sub_le _ _);have AG:IntKind.i64.wrap (((9223372036854775807-fh c:Nat):Int)/(b:Int))=(((9223372036854775807-fh c)/b:Nat):Int):=by
   rw[<-Int.natCast_ediv];generalize (9223372036854775807-fh c)/b=z at AR;exact aE (by unfold aG;omega)
  have AH:b≠0:=by omega
  unfold Eh at I;rw[ai];by_cases A2:(9223372036854775807-fh c)/b<x
  ·have A9:((9223372036854775807-fh c:Nat):Int)/(b:Int)<x:=by rw[<-Int.natCast_ediv];exact Int.ofNat_lt.2 A2
   rw[aal A2]at I;simp at I Y;simp[f215];simp[T,A,AE,J,Y,AF,AG,AH,A9,I]
  ·have A9:¬(((9223372036854775807-fh c:Nat):Int)/(b:Int)<x):=by rw[<-Int.natCast_ediv];exact λh=>A2 (Int.ofNat_lt.1 h)
   rw[aac A2]at I;have hm:x*b<=9223372036854775807-fh c:=by
    have AA:x<=(9223372036854775807-fh c)/b:=by omega
    have:=abL b AA;have AB:=Nat.div_mul_le_self (9223372036854775807-fh c) b;omega
   have AS:(x:Int)*(b:Int)=((x*b:Nat):Int):=by simp
   have AT:IntKind.i64.wrap ((x:Int)*b)=((x*b:Nat):Int):=by rw[AS];exact aE (by unfold aG;omega)
   have AU:IntKind.i64.wrap (((x*b:Nat):Int)+fh c)=((x*b+fh c:Nat):Int):=by rw[aE (by unfold aG;omega)];simp
   have ih:=Jn s A7 b A8 n v D O k R rest (i+1) (x*b+fh c) AP (by omega) (by omega) I;generalize Ah:x*b+fh c=Ai at*;generalize x*b=Aj at*;simp[f215]at ih⊢;simp[T,A,AE,J,Y,AQ,AF,AG,AT,AU,AH,A9,ih]
theorem jI{a:UInt8}{p s:Tx}(h:(a::p).isPrefixOf s=true):s.head?=some a/\p.length+1<=s.length:=by
 have U:=List.isPrefixOf_iff_prefix.1 h;refine⟨?_,by simpa using U.length_le⟩;obtain⟨t,rfl⟩:=U;rfl
theorem xx(s:Tx):(Go.Lib.hasPrefix s [50,35]=true/\Go.Lib.hasPrefix s [56,35]=false/\Go.Lib.hasPrefix s [49,54,35]=false/\ng s=(2,2)/\2<=s.length)\/
 (Go.Lib.hasPrefix s [50,35]=false/\Go.Lib.hasPrefix s [56,35]=true/\Go.Lib.hasPrefix s [49,54,35]=false/\ng s=(8,2)/\2<=s.length)\/
 (Go.Lib.hasPrefix s [50,35]=false/\Go.Lib.hasPrefix s [56,35]=false/\Go.Lib.hasPrefix s [49,54,35]=true/\ng s=(16,3)/\3<=s.length)\/
 (Go.Lib.hasPrefix s [50,35]=false/\Go.Lib.hasPrefix s [56,35]=false/\Go.Lib.hasPrefix s [49,54,35]=false/\ng s=(10,0)/\0<=s.length):=by
 unfold Go.Lib.hasPrefix ng;have Ak:([50,35]:Tx).isPrefixOf s=true->([56,35]:Tx).isPrefixOf s=true->False:=λh g=>by
  have h:=(jI h).1;have g:=(jI g).1;rw[h]at g;revert g;decide
 have Al:([50,35]:Tx).isPrefixOf s=true->([49,54,35]:Tx).isPrefixOf s=true->False:=λh g=>by
  have h:=(jI h).1;have g:=(jI g).1;rw[h]at g;revert g;decide
 have An:([56,35]:Tx).isPrefixOf s=true->([49,54,35]:Tx).isPrefixOf s=true->False:=λh g=>by
  have h:=(jI h).1;have g:=(jI g).1;rw[h]at g;revert g;decide
 have Ao:([50,35]:Tx).isPrefixOf s=true->2<=s.length:=λh=>(jI h).2;have Ap:([56,35]:Tx).isPrefixOf s=true->2<=s.length:=λh=>(jI h).2;have Aq:([49,54,35]:Tx).isPrefixOf s=true->3<=s.length:=λh=>(jI h).2;cases AB:([50,35]:Tx).isPrefixOf s<;>cases Ar:([56,35]:Tx).isPrefixOf s<;>cases As:([49,54,35]:Tx).isPrefixOf s<;>simp_all
set_option maxHeartbeats 2000000 in
theorem QW(s:Tx)(A7:s.length<=100000):ah ctx 215 [.d (.str s)] []=some (.ret (.bM [.d (.int .i64 (mD s).1),.d (.int .i64 (mD s).2.1),.d (.int .i64 (mD s).2.2)]),[]):=by
 obtain⟨b,h,AI,A8,At⟩:∃b h,ng s=(b,h)/\(2<=b/\b<=16)/\h<=s.length:=by
  rcases xx s with ⟨_,_,_,e,M⟩|⟨_,_,_,e,M⟩|⟨_,_,_,e,M⟩|⟨_,_,_,e,M⟩<;>exact⟨_,_,e,by omega,by omega⟩
 have hw:=QV (s.drop h) (by simp;omega) b;obtain⟨E,A3⟩:∃E,E=(s.drop h).takeWhile (λc=>decide (fh c<b)):=⟨_,rfl⟩;rw[<-A3]at hw;have Au:E.length<=s.length-h:=by
  have:=(aj1 (λc=>decide (fh c<b)) (l:=s.drop h)).length_le;rw[<-A3]at this;simpa using this
 have AV:(s.drop h).take E.length=E:=by
  rw[A3];exact List.prefix_iff_eq_take.1 (aj1 _) |>.symm
 obtain⟨n,O⟩:∃n,n=h+E.length:=⟨_,rfl⟩;have AW:n<=s.length:=by omega
 have AJ:=λv D k R=>Jn s A7 b A8 n v D AW k R E h 0 AV O.symm (by omega);have wn:IntKind.i64.wrap ((h:Int)+E.length)=(n:Int):=by rw[aE (by unfold aG;omega)];omega
 have Av:¬((n:Int)<0):=by omega
 have Aw:(0:Int)<=n:=by omega
 obtain⟨F,H⟩:∃F:Nat×Nat×Nat,F=BI s b h E:=⟨_,rfl⟩;have AX:mD s=F:=by unfold mD;rw[H,AI];simp only[<-A3]
 rw[AX];have AY:IntKind.i64.wrap 1=1:=aE (by unfold aG;omega);have AZ:IntKind.i64.wrap 2=2:=aE (by unfold aG;omega);have A_:IntKind.i64.wrap 3=3:=aE (by unfold aG;omega);have Aa:List.range' 0 3=[0,1,2]:=rfl;have key:∀(v:Nat)(D:ax)(k:Kt),n≠h->(n<s.length->en (ij s n)=false/\ij s n≠35)->
  (∀x,k (.exit 2) ⟨83,aA,[(0,true,.d (.str s)),(5,true,.ptr 350 1 0),(9,true,.d (.int .i64 n)),(10,true,.d (.int .i64 x)),(11,true,.d (.int .i64 n)),(63,true,.d (.bool false))],[⟨350,1,.box [.d (.int .i64 b)]⟩,⟨500,v,D⟩]⟩=some (.ret (.bM [.d (.int .i64 n),.d (.int .i64 x),.d (.int .i64 0)]),[]))->
  (k .ret ⟨83,aA,[(2,true,.d (.int .i64 0)),(3,true,.d (.int .i64 0)),(4,true,.d (.int .i64 2))],[⟨350,1,.box [.d (.int .i64 b)]⟩,⟨500,v,D⟩]⟩=some (.ret (.bM [.d (.int .i64 0),.d (.int .i64 0),.d (.int .i64 2)]),[]))->
  aK ctx 215 (.loop (Code.at (bq f215) [1,1,1,1,1,1,0,1,0,0])) ⟨83,aA,[(0,true,.d (.str s)),(5,true,.ptr 350 1 0),(9,true,.d (.int .i64 n)),(10,true,.d (.int .i64 (0:Nat))),(11,true,.d (.int .i64 h))],[⟨350,1,.box [.d (.int .i64 b)]⟩,⟨500,v,D⟩]⟩ k=
   some (.ret (.bM [.d (.int .i64 F.1),.d (.int .i64 F.2.1),.d (.int .i64 F.2.2)]),[]):=by
  intro v D k AA AB Ab Ac;have Ad:¬(E=[]\/∃c,s[h+E.length]?=some c/\(en c=true\/c=35)):=by
   rintro (J|⟨c,J,N⟩)
   ·exact AA (by rw[O,J];rfl)
   ·rw[<-O]at J;obtain⟨A,Ae⟩:=aaa.1 J;have AC:=AB A;rw[px A,Ae]at AC;rcases N with N|N
    ·rw[AC.1]at N;cases N
    ·exact AC.2 N
  unfold BI at H;rw[aac Ad,<-O]at H;refine AJ v D k _ ?_;cases Y:Eh b 0 E with
  |none=>rw[Y]at H;rw[H];exact Ac
  |some x=>rw[Y]at H;rw[H];exact Ab x
 have err:∀c,n<s.length->ij s n=c->(en c=true\/c=35)->F=(0,0,5):=by
  intro c A J N;unfold BI at H;rw[H,aal (.inr ⟨c,by rw[<-O,acu A,<-px A,J],N⟩)]
 have AK:n=h->F=(0,0,5):=by
  intro he;unfold BI at H;rw[H,aal (.inl (List.length_eq_zero_iff.1 (by omega)))]
 have V:=FY (ij s n);have AL:=aar (ij s n) 35 (by omega);simp at AL;clear H AJ;rw[aen (by simp)];rcases xx s with ⟨A4,A5,A6,e,M⟩|⟨A4,A5,A6,e,M⟩|⟨A4,A5,A6,e,M⟩|⟨A4,A5,A6,e,M⟩;all_goals
  obtain⟨U,AD⟩:∃U:Nat,U=h:=⟨_,rfl⟩;rw[AI]at e;cases e;have AM:=Int.ofNat_le.2 M;simp[f215]at hw wn AM key AK;simp[f215,Aa];iterate 4 (rw[ai];simp[A4,A5,A6,AY,AZ,A_,aj])
  simp[M,AM,hw,wn];by_cases Z:n=U
  ·have A0:=AK (Z.trans AD);rw[AD]at Z;simp[Z,A0]
  ·have q:¬((n:Int)=(U:Int)):=by omega
   rw[AD]at q Z;simp at q;by_cases A:n<s.length
   ·cases T:en (ij s n)
    ·rw[T]at V;by_cases A1:ij s n=35
     ·have A0:=err _ A A1 (.inr rfl);rw[A1]at V;simp at V;simp[q,A,V,A1,A0]
     ·have Af:¬((ij s n).toNat:Int)=35:=λh=>A1 (AL.1 h);simp[q,A,V,Af];exact key _ _ _ Z (λ_=>⟨T,A1⟩) (λx=>by simp) (by simp)
    ·have A0:=err _ A rfl (.inl T);rw[T]at V;simp[q,A,V,A0]
   ·simp[q,A];exact key _ _ _ Z (λh=>absurd h A) (λx=>by simp) (by simp)
def qN(s:Tx):Nat->List Tx->Int
 |_,[]=> -1
 |i,x::r=>if s=x then (i:Int)else qN s (i+1) r
theorem Jp(s:Tx):∀(l:List Tx)(i:Nat),decide (0<=qN s i l)=decide (s∈l)
 |[],i=>by simp[qN]
 |x::r,i=>by
  have:=Jp s r (i+1);unfold qN;by_cases h:s=x
  ·simp[h]
  ·simp only[aac h,this];simp[h]
theorem Ba(l:List Tx)(E:l.length<=1000)(s:Tx)(k:Kt)(R:bW):∀(rest:List Tx)(i:Nat),l.drop i=rest->i+rest.length=l.length->
 ((if 0<=qN s i rest then k .ret ⟨19,aA,[(4,true,.d (.int .i64 (qN s i rest)))],[]⟩else k (.exit 0) ⟨19,aA,[(0,true,.d (.list (l.map .str))),(1,true,.d (.str s)),(7,true,.d (.int .i64 l.length)),(8,true,.d (.int .i64 l.length)),(9,true,.d (.bool false))],[]⟩)=R)->
 aK ctx 287 (.loop (Code.at (bq f287) [1,0,1,0,0])) ⟨19,aA,[(0,true,.d (.list (l.map .str))),(1,true,.d (.str s)),(7,true,.d (.int .i64 l.length)),(8,true,.d (.int .i64 i))],[]⟩ k=R
 |[],i,H,hi,h=>by
  have hi:i=l.length:=by simpa using hi
  subst hi;rw[ai];simp[qN]at h;simp[f287,h]
 |x::rest,i,H,hi,h=>by
  have I:i<l.length:=by simp at hi;omega
  have M:l[i]=x:=by
   have:=aeT (·[0]?) H;simp at this;simpa [I]using this
  have U:IntKind.i64.wrap ((i:Int)+1)=(i:Int)+1:=aE (by unfold aG;omega);unfold qN at h;rw[ai];by_cases A:s=x
  ·simp[A]at h;simp[f287];simp[I,M,A,h]
  ·rw[aac A]at h;have ih:=Ba l E s k R rest (i+1) (by rw[<-ak1,H];rfl) (by simp at hi;omega) h;simp[f287]at ih⊢;simp[I,M,A,U,ih]
theorem Jq(s:Tx):∀(l:List Tx)(i:Nat),¬0<=qN s i l->qN s i l= -1
 |[],i,_=>rfl
 |x::r,i,h=>by
  unfold qN at h⊢;split
  ·rename_i A;rw[aal A]at h;omega
  ·rename_i A;rw[aac A]at h;exact Jq s r (i+1) h
theorem QX(l:List Tx)(E:l.length<=1000)(s:Tx):ah ctx 287 [.d (.list (l.map .str)),.d (.str s)] []=some (.ret (.d (.int .i64 (qN s 0 l))),[]):=by
 have N:=λk R h=>Ba l E s k R l 0 rfl (by simp) h;rw[aeG (by simp)];simp[f287]at N⊢;rw[N];split
 ·simp
 ·rename_i h;simp[Jq s l 0 h]
theorem Jr(l:List Tx)(E:l.length<=1000)(s:Tx):ah ctx 256 [.d (.list (l.map .str)),.d (.str s)] []=some (.ret (.d (.bool (decide (s∈l)))),[]):=by
 have h:=QX l E s;rw[aey (by simp)];simp[f256,h,<-Jp s l 0]
theorem QY:ah ctx 140 [.d (.str SW)] []=some (.ret (.d (.list (jo.map .str))),[]):=bk 300 (by kernel_rfl)
theorem Xh(s:Tx):ah ctx 213 [.d (.str s)] []=some (.ret (.d (.bool (tQ s))),[]):=by
 have J:=QY;have O:=Jr jo (by decide) s;unfold SW at J;generalize jo.map D.str=W at J O;rw[ael (by simp)];simp[f213,J,O,tQ]
theorem xS(c:UInt8):∀(l:Tx),0<=Go.Lib.indexByte l c↔c∈l
 |[]=>by simp[Go.Lib.indexByte]
 |b::r=>by
  have ih:=xS c r;have A2:=Go.Lib.indexByte_ge r c;unfold Go.Lib.indexByte;by_cases h:b=c
  ·simp[h]
  ·have V:¬c=b:=λe=>h e.symm;simp only[beq_iff_eq,h,acy,aak,V,false_or,<-ih];split<;>omega
theorem Xi(c:UInt8)(r:Tx):rI (c::r)=if Go.Lib.hasPrefix (c::r) [58,61]=true then 2 else if Go.Lib.hasPrefix (c::r) [60,61]=true then 2 else if Go.Lib.hasPrefix (c::r) [62,61]=true then 2 else if Go.Lib.hasPrefix (c::r) [60,62]=true then 2 else if Go.Lib.hasPrefix (c::r) [46,46]=true then 2 else if 0<=Go.Lib.indexByte zu c then 1 else 0:=by
 have hm:=xS c zu;unfold rI Ie Go.Lib.hasPrefix;simp only[List.any_cons,List.any_nil,Bool.or_false,ago,hm];grind
theorem Xj(c:UInt8)(r:Tx):ah ctx 216 [.d (.str (c::r))] []=some (.ret (.d (.int .i64 (rI (c::r)))),[]):=by
 have Y:List.range' 0 5=[0,1,2,3,4]:=rfl;have Z:IntKind.i64.wrap 1=1:=aE (by unfold aG;omega);have q:IntKind.i64.wrap 2=2:=aE (by unfold aG;omega);have y:IntKind.i64.wrap 3=3:=aE (by unfold aG;omega);have A':IntKind.i64.wrap 4=4:=aE (by unfold aG;omega);have A0:IntKind.i64.wrap 5=5:=aE (by unfold aG;omega);have T:=xR zu c;rw[aeo (by simp)];simp[f216,Y];iterate 6 (try (rw[ai];simp[Z,q,y,A',A0,aj]))
 have A1:ij (c::r) 0=c:=rfl;rw[Xi];unfold zu at T⊢;simp[A1,T];grind
theorem NZ(s:Tx):(mD s).1<=s.length:=by
 unfold mD BI;rcases xx s with ⟨_,_,_,e,A⟩|⟨_,_,_,e,A⟩|⟨_,_,_,e,A⟩|⟨_,_,_,e,A⟩;all_goals
  rw[e];simp only
  split
  ·simp
  ·split
   ·simp
   ·rename_i x _;simp only
    have:=(aj1 (λc=>decide (fh c<(ng s).1)) (l:=s.drop (ng s).2)).length_le;rw[e]at this;simp only[acK]at this;omega
theorem Js(c:UInt8)(r:Tx):rI (c::r)<=(c::r).length:=by
 unfold rI;split
 ·rename_i h;simp only[Ie,List.any_cons,List.any_nil,Bool.or_false,ago]at h;rcases h with h|h|h|h|h<;>exact (jI h).2
 ·simp only
  split<;>simp
set_option maxHeartbeats 1000000 in
theorem Xk(c:UInt8)(r:Tx)(V:(c::r).length<=100000)(line Da:Int):ah ctx 152 [.d (.str (c::r)),.d (pq ⟨0,[],0,line,Da⟩)] []=
 some (.ret (.bM [.d (pq ⟨(jO (c::r)).2.1,(c::r).take (jO (c::r)).2.2.1,(jO (c::r)).2.2.2,line,Da⟩),.d (.int .i64 (jO (c::r)).1)]),[]):=by
 have I:ij (c::r) 0=c:=rfl;have A:=DI c;have J:=zM c;have hw:=QU (c::r) V;have T:=QW (c::r) V;have Y:=Xj c r;have N:((c::r).takeWhile en).length<=(c::r).length:=(aj1 _).length_le;have O:=NZ (c::r);have U:=Js c r;have M:=Xh ((c::r).take ((c::r).takeWhile en).length);unfold jO;generalize y:((c::r).takeWhile en).length=Z at*;generalize A':rI (c::r)=q at*;generalize A0:mD (c::r)=F at*;obtain⟨n,x,e⟩:=F;simp only at T O;rw[ad4 (by simp)];simp only[ab2]at N O U;cases E:po c with
 |true=>
  rw[E]at A;cases D:tQ ((c::r).take Z)with
  |true=>
   rw[D]at M;simp[f152,aj,I,A,hw,N,M,E,D]
  |false=>
   rw[D]at M;by_cases H:16<Z
   ·simp[f152,aj,I,A,hw,N,M,E,D,H];omega
   ·simp[f152,aj,I,A,hw,N,M,E,D,H];omega
 |false=>
  rw[E]at A;cases D:oe c with
  |true=>
   rw[D]at J;by_cases H:e=0
   ·simp[f152,aj,I,A,J,T,O,E,D,H]
   ·simp[f152,aj,I,A,J,T,O,E,D,H]
  |false=>
   rw[D]at J;by_cases H:q=0
   ·simp[f152,aj,I,A,J,Y,U,E,D,H]
   ·simp[f152,aj,I,A,J,Y,U,E,D,H]
theorem Xl{s:Tx}(h:(mD s).2.2=0):1<=(mD s).1:=by
 unfold mD BI at h⊢;split
 ·rename_i M;rw[aal M]at h;simp at h
 ·rename_i M;rw[aac M]at h;split
  ·rename_i A0;rw[A0]at h;simp at h
  ·simp only
   simp only[ak0]at M;have:=List.length_pos_iff.2 M.1;omega
theorem Xm{c:UInt8}{r:Tx}(h:(jO (c::r)).1=0):1<=(jO (c::r)).2.2.1/\(jO (c::r)).2.2.1<=(c::r).length:=by
 have Y:((c::r).takeWhile en).length<=(c::r).length:=(aj1 _).length_le;have A1:=NZ (c::r);have A2:=Js c r;have A3:po c=true->1<=((c::r).takeWhile en).length:=by
  intro O;have:en c=true:=by unfold en;rw[O];rfl
  simp[this]
 have A4:=Xl (s:=c::r);unfold jO at h⊢;simp only at h⊢;generalize ((c::r).takeWhile en).length=AG at*;generalize rI (c::r)=AH at*;generalize mD (c::r)=F at*;by_cases T:po c=true
 ·simp only[aal T]at h⊢;have:=A3 T;split at h
  ·rename_i hw;rw[aal hw];exact⟨this,Y⟩
  ·rename_i hw;rw[aac hw];split at h
   ·simp at h
   ·rename_i A5;rw[aac A5];exact⟨this,Y⟩
 ·simp only[aac T]at h⊢;by_cases Z:oe c=true
  ·simp only[aal Z]at h⊢;split at h
   ·rename_i he;rw[aal he];exact⟨A4 he,A1⟩
   ·rename_i he;exact absurd h he
  ·simp only[aac Z]at h⊢;split at h
   ·simp at h
   ·rename_i he;rw[aac he];exact⟨by simp only;omega,A2⟩
set_option maxHeartbeats 1000000 in
theorem Ju(s:Tx)(A6:s.length<=16384):∀(f i:Nat)(out:List eE)(v4 v5 D:Nat)(E H:ax),i<=s.length->s.length-i<f->out.length<=i->
 aK ctx 92 (.loop (Code.at (bq f92) [1,1,1,1,0,0])) ⟨62,aA,[(4,true,.ptr 300 1 0),(5,true,.ptr 950 1 0),(6,true,.vec 400 v4 0 out.length)],
  [⟨200,1,.vec 5 []⟩,⟨300,1,.box [.d (.int .i64 0),.d (.str []),.d (.int .i64 0),.d (.int .i64 0),.d (.int .i64 0)]⟩,⟨400,v4,.vec 5 (out.map pq)⟩,⟨500,v5,E⟩,⟨550,D,H⟩,⟨950,1,ta s i⟩]⟩
  (BD 0 (uL Tryz.prog Pq 0 [.tmp 2,.tmp 3,.cell 4 55]))=some (.ret (.bM [.d (.list ((BJ s f i out).1.map pq)),.d (.int .i64 (BJ s f i out).2.1),.d (pq (BJ s f i out).2.2)]),[])
 |0,i,out,v4,v5,D,E,H,hi,A7,A8=>by omega
 |f+1,i,out,v4,v5,D,E,H,hi,A7,A8=>by
  have A:=abn s i hi (by omega) (s.length+1) (by omega);have A9:=Ag (s.length+1) (s.drop i);unfold BJ;generalize eT (s.length+1) (s.drop i)=g at*;obtain⟨n,ok⟩:=g;simp only[acK]at A9;simp only at A⊢;obtain⟨j,AA⟩:∃j,j=i+n:=⟨_,rfl⟩;have AB:j<=s.length:=by omega
  have AI:((i+n:Nat):Int)=(i:Int)+n:=by omega
  rw[<-AA]at A⊢;have I:=Jm s j AB;generalize J:fi (s.take j)=p at*;obtain⟨l,c⟩:=p;rw[ai];cases ok with
  |false=>
   simp[J]at A;simp[f92,aj,A,here]
  |true=>
   simp only[Bool.true_eq_false,acy];cases U:s.drop j with
   |nil=>
    rw[U]at I;simp[J]at A I;have g1:(out.length+1)*48<=140737488355328/\out.length<=4611686018427387903:=by omega
    simp[f92,aj,A,I,here,g1]
   |cons a r=>
    rw[U]at I;have AJ:j+(r.length+1)=s.length:=by have:=aeT List.length U;simp at this;omega
    have N:=Xk a r (by simp;omega) l c;have q:=Xm (c:=a) (r:=r);have AC:¬(a::r=[]):=by simp
    simp only[aac AC];generalize jO (a::r)=F at*;obtain⟨e,AD,m,x⟩:=F;simp only at N q⊢;simp[J]at A I;have g1:(out.length+1)*48<=140737488355328/\out.length<=4611686018427387903:=by omega
    by_cases he:e=0
    ·subst he;obtain⟨AK,AE⟩:=q rfl;simp only[ab2]at AE;have y:=xu s j m (by omega) (by omega);have ih:=λv4 v5 D E H=>Ju s A6 f (j+m) (out++[⟨AD,(a::r).take m,x,l,c⟩]) v4 v5 D E H (by omega) (by omega) (by simp;omega);have A':min m (r.length+1)=m:=by omega
     have AL:((min m (r.length+1):Nat):Int)=m:=by rw[A']
     simp at N;simp[f92,J]at ih y⊢;simp[aj,A,I,N,g1,A',y,ih]
    ·simp at N;have AF:¬((e:Int)=0):=by omega
     simp[f92,aj,A,I,N,he,AF,here]
theorem abp(s:Tx):ah ctx 92 [.d (.str s)] []=some (.ret (.bM [.d (.list ((Ei s).1.map pq)),.d (.int .i64 (Ei s).2.1),.d (pq (Ei s).2.2)]),[]):=by
 rw[ai9 (by simp)];unfold Ei;by_cases h:16384<s.length
 ·have V:(16384:Int)<s.length:=by omega
  simp[f92,aj,h,V]
 ·have V:¬((16384:Int)<s.length):=by omega
  have O:=λv4 v5 D E H=>Ju s (by omega) (s.length+1) 0 [] v4 v5 D E H (by omega) (by omega) (by simp);rw[aac h];generalize BJ s (s.length+1) 0 []=L at*;have J:fi []=(1,1):=rfl;simp[f92,J]at O;simp[f92,aj,h,V];exact O _ _ _ _ _
end Go.Am
end
section
namespace Go.Am
open Go Go.Proofs
variable [Inhabited bB]
def F2(p q:Int×Int):Prop:=p.1<q.1\/(p.1=q.1/\p.2<q.2)
theorem Jx(p:Int×Int)(c:UInt8):F2 p (jm p c):=by
 unfold F2 jm;split
 ·left;simp only;omega
 ·right;simp only;exact⟨trivial,by omega⟩
theorem UT{p q r:Int×Int}(h:F2 p q)(k:F2 q r):F2 p r:=by
 unfold F2 at*;omega
theorem N0{s:Tx}:∀(d i:Nat),i+d+1<=s.length->F2 (fi (s.take i)) (fi (s.take (i+d+1)))
 |0,i,h=>by
  rw[zt (show i+0<s.length by omega)];exact Jx _ _
 |d+1,i,h=>by
  have:=N0 (s:=s) d i (by omega);rw[zt (show i+(d+1)<s.length by omega)];exact UT this (Jx _ _)
theorem N1{s:Tx}{i j:Nat}(h:i<j)(M:j<=s.length):¬((fi (s.take j)).1=(fi (s.take i)).1/\(fi (s.take j)).2=(fi (s.take i)).2):=by
 have:=N0 (s:=s) (j-i-1) i (by omega);rw[show i+(j-i-1)+1=j by omega]at this;unfold F2 at this;omega
inductive Laid(s:Tx):Nat->List eE->Prop
 |fin (i:Nat) (h:i<=s.length):Laid s i [here (fi (s.take s.length))]
 |sign (i j m:Nat) (k n:Int) (r:List eE) (I:i<=j) (A:j+m<=s.length) (D:1<=m) (h:Laid s (j+m) r):
  Laid s i (⟨k,(s.drop j).take m,n,(fi (s.take j)).1,(fi (s.take j)).2⟩::r)
theorem Laid.weaken{s:Tx}{i E:Nat}{r:List eE}(h:Laid s i r)(hi:E<=i):Laid s E r:=by
 cases h with
 |fin _ h=>exact .fin E (by omega)
 |sign _ j m k n r I A D h=>exact .sign E j m k n r (by omega) A D h
theorem Laid.step{s:Tx}{i:Nat}{t:eE}{r:List eE}(h:Laid s i (t::r))(hi:i<=s.length):
 (¬(t.line=(fi (s.take i)).1/\t.Da=(fi (s.take i)).2)/\i<s.length/\Laid s (i+1) (t::r))\/
 ((t.line=(fi (s.take i)).1/\t.Da=(fi (s.take i)).2)/\t.text.length<=s.length-i/\(s.drop i).take t.text.length=t.text/\((i<s.length/\Laid s (i+1) r)\/(i=s.length/\r=[]))):=by
 cases h with
 |fin _ h=>
  by_cases he:i=s.length
  ·subst he;right;simp[here]
  ·left;have H:i<s.length:=by omega
   exact⟨N1 H (aae _),H,.fin _ (by omega)⟩
 |sign _ j m k n r I A D h=>
  by_cases he:i=j
  ·subst he;right;have J:((s.drop i).take m).length=m:=by simp;omega
   refine⟨⟨rfl,rfl⟩,?_,?_,.inl ⟨by omega,h.weaken (by omega)⟩⟩
   ·simp only[J];omega
   ·simp only[J]
  ·left;have H:i<j:=by omega
   exact⟨N1 H (by omega),by omega,.sign _ j m k n r (by omega) A D h⟩
end Go.Am
end
section
namespace Go.Am
open Go Go.Proofs Go.Proofs.Tryz
variable [Inhabited bB]
set_option maxRecDepth 100000
theorem abq(x y A E H I J M:D)(ag:List D):wV ctx 93 [.ptr 0 0 0,.ptr 1 0 0,.ptr 2 0 0,.lit .nilIface] [.box [.d x,.vec 3 0 0 ag.length,.d y],.box [.d A],.box [.d E,.d H,.d I,.d J,.d M],.vec 8 ag]=
 some (.ret (.bM []),[(0,.box [.d x,.vec 3 1 0 ag.length,.d y]),(0,.box [.d A]),(0,.box [.d E,.d H,.d I,.d J,.d M]),(1,.vec 8 ag)]):=by
 rw[aja (by rfl) (by rfl) (by simp)];simp[f93];erw[zr rfl];simp
theorem UU{U:Tx}{N:List eE}{a:Tx}{R c:List D}{n m:Int}(Z:Ei U=(N,0,⟨0,[],0,0,0⟩))
 (V:ah ctx 94 [.ptr 0 0 0] [.box [.d (.list (N.map pq)),.d (.int .i64 0),.d (.int .i64 0),.vec 1 0 0 0],.vec 8 []]=
  some (.ret (.agg [.d (.str a),.vec 1 1 0 R.length,.d (.list c)]),[(0,.box [.d (.list (N.map pq)),.d (.int .i64 n),.d (.int .i64 m),.vec 1 1 0 R.length]),(1,.vec 8 R)])):
 ah ctx 57 [.d (.str U)] []=some (.ret (.bM [.d (.agg [.str a,.list R,.list c]),.d (.int .i64 0),.d (.agg [.int .i64 0,.str [],.int .i64 0,.int .i64 0,.int .i64 0])]),[]):=by
 have O:=abp U;rw[Z]at O;have Y:=λx y A E H I J M=>abq x y A E H I J M R;simp only at O;generalize N.map pq=T at*;have q:List.take R.length R=R:=List.take_length;rw[ai1 (by simp)];simp at O Y V;simp[f57,lL,nG,gv,CM,O,aj,V,Y,q]
def UW:Tx:=[80,82,79,71,82,65,77,32,112,32,86,65,82,32,97,32,58,32,73,78,84,59,32,69,78,68,95,86,65,82,32,97,32,58,61,32,55,59,32,97,32,58,61,32,97,32,47,32,48,59,32,69,78,68,95,80,82,79,71,82,65,77]
def Jy:List eE:=[⟨2,[80,82,79,71,82,65,77],0,1,1⟩,⟨1,[112],0,1,9⟩,⟨2,[86,65,82],0,1,11⟩,⟨1,[97],0,1,15⟩,⟨4,[58],0,1,17⟩,⟨2,[73,78,84],0,1,19⟩,⟨4,[59],0,1,22⟩,⟨2,[69,78,68,95,86,65,82],0,1,24⟩,
 ⟨1,[97],0,1,32⟩,⟨4,[58,61],0,1,34⟩,⟨3,[55],7,1,37⟩,⟨4,[59],0,1,38⟩,⟨1,[97],0,1,40⟩,⟨4,[58,61],0,1,42⟩,⟨1,[97],0,1,45⟩,⟨4,[47],0,1,47⟩,⟨3,[48],0,1,49⟩,⟨4,[59],0,1,50⟩,⟨2,[69,78,68,95,80,82,79,71,82,65,77],0,1,52⟩,⟨0,[],0,1,63⟩]
theorem QZ:Ei UW=(Jy,0,⟨0,[],0,0,0⟩):=by kernel_rfl
def uW:Pg:=⟨[112],[⟨[97],1,0,false,0,0,0,1⟩],[.mk 1 [] (.mk 3 0 [97] [] [] 1) (.mk 1 7 [] [] [] 1) [] [] [] [] 1,.mk 1 [] (.mk 3 0 [97] [] [] 1) (.mk 11 0 [] [] [.mk 3 0 [97] [] [] 1,.mk 1 0 [] [] [] 1] 1) [] [] [] [] 1]⟩
theorem UX:ah ctx 94 [.ptr 0 0 0] [.box [.d (.list (Jy.map pq)),.d (.int .i64 0),.d (.int .i64 0),.vec 1 0 0 0],.vec 8 []]=
 some (.ret (.agg [.d (.str uW.name),.vec 1 1 0 (uW.vars.map bm).length,.d (.list (uW.body.map cG))]),[(0,.box [.d (.list (Jy.map pq)),.d (.int .i64 19),.d (.int .i64 0),.vec 1 1 0 (uW.vars.map bm).length]),(1,.vec 8 (uW.vars.map bm))]):=bk 300 (by kernel_rfl)
theorem abr:BY uW:=⟨by kernel_rfl,by kernel_rfl,by kernel_rfl,by decide+kernel⟩
theorem Xn:runM uW [0] 9=([7],1,7):=by kernel_rfl
theorem agM:ah ctx 27 [] []=some (.ret (.d (.bool true)),[]):=by
 have D:=UU QZ UX;have A:=EB abr [0] 9 (by decide) (by simp[aG]);rw[Xn]at A;simp only[uc]at A;generalize uW.name=a at*;generalize uW.body.map cG=c at*;generalize uW.vars.map bm=R at*;rw[aiO (by simp)];simp[UW]at D;simp[UQ]at A;simp[f27,D,A]
end Go.Am
end
section
namespace Go.Am
open Go Go.Proofs Go.Proofs.Tryz
variable [Inhabited bB]
set_option maxRecDepth 20000
set_option maxHeartbeats 1600000
theorem F3{p:Pg}(h:BY p){C:List Int}(A1:eu p C)(f:Nat):eu p (gH p C f).1/\(gH p C f).2.2<=f:=by
 have N:=h.fit;simp only[sY,Ds,aag,abN]at N;obtain⟨_,A2,A0,A⟩:=N;obtain⟨A3,V,I⟩:=BQ (p:=p) (by have:=h.lw;simp only[uc]at this;omega);have T:=h.chk;unfold qw at T;have A4:=(UK (p:=p) (by omega) A0 (lp:=false) A3 A h.lit V (gZ.1 T).2).2 ⟨C,f⟩ A1;unfold gH;generalize cd p.vars p.body ⟨C,f⟩=q at*;obtain⟨w,s⟩:=q;cases w<;>exact A4
theorem UY{p:Pg}(h:BY p){C:List Int}(A5:(C.length:Int)=dS p.vars)(E:∀c∈C,aG c):eu p C:=by
 have N:=h.fit;simp only[sY,Ds,aag,abN]at N;obtain⟨_,A2,A0,A⟩:=N;have T:=h.chk;unfold qw at T;have:=zL p.vars [] 0 (by omega) (gZ.1 T).1;exact⟨A5,by omega,E⟩
theorem Xo{p:Pg}(h:BY p){C:List Int}(E:∀c∈C,aG c)(f:Int):(runM p C f).1.length=C.length:=by
 unfold runM;split
 ·rfl
 ·rename_i A;simp only[ak0,Int.not_lt,Classical.not_not]at A;have:=(F3 h (UY h A.1.1 E) f.toNat).1.len;show (gH p C f.toNat).1.length=C.length;omega
theorem UZ{p:Pg}(C:List Int)(f m:Int)(N:0<=f)(hm:0<=m)(J:f+m<=16384):
 ((runM p C f).2.1=4->(runM p C f).2.2=0)/\((runM p C f).2.1≠4->runM p C (f+m)=((runM p C f).1,(runM p C f).2.1,if 0<=(runM p C f).2.2 then (runM p C f).2.2+m else (runM p C f).2.2)):=by
 unfold runM;by_cases A:(C.length:Int)=dS p.vars
 ·rw[aac (by omega),aac (by omega)];obtain⟨a,rfl⟩:∃n:Nat,f=n:=⟨f.toNat,by omega⟩;obtain⟨b,rfl⟩:∃n:Nat,m=n:=⟨m.toNat,by omega⟩;have:=Ut p C a b;simp only[Int.toNat_natCast,show ((a:Int)+b).toNat=a+b by omega];by_cases D:(gH p C a).2.1=4
  ·rw[aal D]at this;exact⟨λ_=>by rw[this];rfl,λh=>absurd D h⟩
  ·rw[aac D]at this;refine⟨λh=>absurd h D,λ_=>?_⟩;rw[this,aal (by omega)];simp
 ·rw[aal (by omega),aal (by omega)];exact⟨λh=>by simp at h,λ_=>by rw[aac (by simp)]⟩
theorem U0{p:Pg}(h:BY p){C:List Int}(E:∀c∈C,aG c)(f:Int)(N:f<=16384): -1<=(runM p C f).2.2/\(runM p C f).2.2<=16384:=by
 unfold runM;split
 ·simp
 ·rename_i A;simp only[ak0,Int.not_lt,Classical.not_not]at A;have:=(F3 h (UY h A.1.1 E) f.toNat).2;show (-1:Int)<=((gH p C f.toNat).2.2:Nat)/\((gH p C f.toNat).2.2:Nat)<=(16384:Int);omega
theorem Jz{p:Pg}(C:List Int)(fuel more:Int)(A6:lu p.body=true)(hw:iN (uc p)<10000000)(E:∀x∈C,aG x):
 ah ctx 7 [.d (uc p),.d (.list (C.map jD)),.d (.int .i64 fuel),.d (.int .i64 more)] []=some (.ret (.d (.bool true)),[]):=by
 obtain⟨b,A,A7⟩:=Xe A6 hw;have H:=agM;rw[api (by simp)];try simp at A
 cases b with
 |false=>simp[f7,H,A]
 |true=>
 have h:=A7 rfl;by_cases V:C.length<=2000;rotate_left
 ·have g2:(2000:Int)<(C.length:Int):=by omega
  simp[f7,H,A,g2]
 have g2:¬(2000:Int)<(C.length:Int):=by omega
 by_cases I:fuel<0
 ·simp[f7,H,A,g2,I]
 by_cases D:3000<fuel
 ·simp[f7,H,A,g2,I,D]
 by_cases U:more<0
 ·simp[f7,H,A,g2,I,D,U]
 by_cases Y:3000<more
 ·simp[f7,H,A,g2,I,D,U,Y]
 have A':IntKind.i64.wrap (fuel+more)=fuel+more:=aE (by unfold aG;omega);have O:=EB h C fuel V E;have J:=EB h C (fuel+more) V E;have hm:=UZ (p:=p) C fuel more (by omega) (by omega) (by omega);have AA:=Xo h E fuel;have A8:=U0 h E fuel (by omega);have M:=λc e g=>QT (runM p C fuel).1 c (runM p C fuel).2.1 e g g (by omega);generalize runM p C fuel=q at*;generalize runM p C (fuel+more)=AB at*;obtain⟨c,e,g⟩:=q;by_cases he:e=4
 ·have Z:=hm.1 he;simp only at Z;simp[UQ]at O J;simp[f7,H,A,g2,I,D,U,Y,A',O,J,he,Z,aj]
 ·have Z:=hm.2 he;rw[Z]at J;by_cases y:0<=g
  ·have A9:IntKind.i64.wrap (g+more)=g+more:=aE (by unfold aG;simp only at A8;omega);have M:=M c e (g+more);simp[UQ,y]at O J M;simp[f7,H,A,g2,I,D,U,Y,A',A9,O,J,he,y,M,aj]
  ·have M:=M c e g;simp[UQ,y]at O J M;simp[f7,H,A,g2,I,D,U,Y,A',O,J,he,y,M,aj]
end Go.Am
end
section
namespace Go.Am
open Go
set_option maxRecDepth 20000
def aqs:Nat->Nat
 |99=>207
 |143=>209
 |206=>253
 |217=>254
 |219=>255
 |224=>285
 |225=>284
 |266=>283
 |267=>286
 |314=>307
 |_=>0
def aqt:Nat->Nat
 |3=>3
 |4=>4
 |5=>5
 |9=>9
 |46=>327
 |51=>285
 |146=>338
 |_=>0
def aqu:Nat->Nat
 |1=>2
 |_=>0
def rho:Go.Shelf.Ren:=⟨aqs,aqt,aqu⟩
theorem abt:Go.Proofs.Lays.n143 Go.Proofs.Tryz.prog rho where
 mixed:=by kernel_rfl
 f143:=by kernel_rfl
 f217:=by kernel_rfl
 f219:=by kernel_rfl
 f224:=by kernel_rfl
 f225:=by kernel_rfl
 f266:=by kernel_rfl
 f267:=by kernel_rfl
 f314:=by kernel_rfl
 t3:=by kernel_rfl
 a3:=by intro w;kernel_rfl
 z3:=by intro w;kernel_rfl
 v3:=by intro w;kernel_rfl
 t4:=by kernel_rfl
 a4:=by intro w;kernel_rfl
 z4:=by intro w;kernel_rfl
 v4:=by intro w;kernel_rfl
 t5:=by kernel_rfl
 a5:=by intro w;kernel_rfl
 z5:=by intro w;kernel_rfl
 v5:=by intro w;kernel_rfl
 t9:=by kernel_rfl
 a9:=by intro w;kernel_rfl
 z9:=by intro w;kernel_rfl
 v9:=by intro w;kernel_rfl
 t46:=by kernel_rfl
 a46:=by intro w;kernel_rfl
 z46:=by intro w;kernel_rfl
 v46:=by intro w;kernel_rfl
 t51:=by kernel_rfl
 a51:=by intro w;kernel_rfl
 z51:=by intro w;kernel_rfl
 v51:=by intro w;kernel_rfl
 t146:=by kernel_rfl
 a146:=by intro w;kernel_rfl
 z146:=by intro w;kernel_rfl
 v146:=by intro w;kernel_rfl
 g1:=by kernel_rfl
theorem abu:Go.Proofs.Lays.n217 Go.Proofs.Tryz.prog rho where
 mixed:=by kernel_rfl
 f217:=by kernel_rfl
 f266:=by kernel_rfl
 t3:=by kernel_rfl
 a3:=by intro w;kernel_rfl
 z3:=by intro w;kernel_rfl
 v3:=by intro w;kernel_rfl
 t5:=by kernel_rfl
 a5:=by intro w;kernel_rfl
 z5:=by intro w;kernel_rfl
 v5:=by intro w;kernel_rfl
 t9:=by kernel_rfl
 a9:=by intro w;kernel_rfl
 z9:=by intro w;kernel_rfl
 v9:=by intro w;kernel_rfl
theorem agO:Go.Proofs.Lays.n99 Go.Proofs.Tryz.prog rho where
 mixed:=by kernel_rfl
 f99:=by kernel_rfl
 f206:=by kernel_rfl
 t3:=by kernel_rfl
 a3:=by intro w;kernel_rfl
 z3:=by intro w;kernel_rfl
 v3:=by intro w;kernel_rfl
 t4:=by kernel_rfl
 a4:=by intro w;kernel_rfl
 z4:=by intro w;kernel_rfl
 v4:=by intro w;kernel_rfl
 t9:=by kernel_rfl
 a9:=by intro w;kernel_rfl
 z9:=by intro w;kernel_rfl
 v9:=by intro w;kernel_rfl
end Go.Am
end
section
namespace Go.Am
open Go Go.Proofs
variable [Inhabited bB]
set_option maxRecDepth 20000
theorem uX{P:Program}{g:FuncId}{fn:Func}(U:P.funcs[g]?=some fn)(V:fn.body.isSome=true)(Y:(fn.name == "runtime.NumGoroutine")=false):fW P g=true:=by
 unfold fW;rw[U];simp only[V,Y];rfl
theorem vL{w F s v}(h:aI w F (.str s) v):∃b:ByteArray,v=.string b/\b.data.toList=s:=by
 cases h with
 |str b s h=>exact⟨b,rfl,h⟩
theorem N2{w F k n v}(h:aI w F (.int k n) v):v=.int k n:=by cases h;rfl
theorem B3{N:List D}{a b:D}{w F}{vs:Array Value}(A:N=[a,b])(I:N.length=vs.size)(E:∀(i:Nat) x v,N[i]?=some x->vs[i]?=some v->aI w F x v):
 ∃x y,vs=#[x,y]/\aI w F a x/\aI w F b y:=by
 subst A;obtain⟨l⟩:=vs;match l,I with
 |[x,y],_=>exact⟨x,y,rfl,E 0 a x rfl rfl,E 1 b y rfl rfl⟩
theorem abv{w:World}{F}(J:ec w F aA):∃m,w.cell? ⟨2,0,none⟩=some (.int .i64 m):=by
 obtain⟨_,_,q,H,M⟩:=J (2,.int .i64 (id (α:=Int) (default:bB))) (by simp[aA]);generalize id (α:=Int) (default:bB)=z at H;obtain rfl:=N2 H;exact⟨z,M 0 _ (by simp[Value.cells])⟩
theorem ajT:pO ctx 207 (na S9):=by
 refine pO.lift ⟨uX Tryz.func207 (by kernel_rfl) (by kernel_rfl),λN d A F w vs J T I E=>?_⟩;unfold S9 at A;split at A
 ·rename_i s p;obtain⟨x,y,rfl,H,M⟩:=B3 rfl I E;obtain⟨a,rfl,rfl⟩:=vL H;obtain⟨b,rfl,rfl⟩:=vL M;refine (Any.strings_HasPrefix agO a b w).mono ?_;rintro e w' ⟨rfl,rfl⟩;cases A;exact⟨_,rfl,Go.RowKit.Below.refl _ _,.bool _⟩
 ·cases A
theorem ajU:pO ctx 254 (na S8):=by
 refine pO.lift ⟨uX Tryz.func254 (by kernel_rfl) (by kernel_rfl),λN d A F w vs J T I E=>?_⟩;unfold S8 at A;split at A
 ·rename_i s p;obtain⟨x,y,rfl,H,M⟩:=B3 rfl I E;obtain⟨a,rfl,rfl⟩:=vL H;obtain rfl:=N2 M;refine (Any.stringslite_IndexByte abu a _ w).mono ?_;rintro e w' ⟨rfl,rfl⟩;cases A;exact⟨_,rfl,Go.RowKit.Below.refl _ _,.int _ _⟩
 ·cases A
theorem agP:pO ctx 209 (na Ii):=by
 refine pO.lift ⟨uX Tryz.func209 (by kernel_rfl) (by kernel_rfl),λN d A F w vs J T I E=>?_⟩;unfold Ii at A;split at A
 ·rename_i s p;split at A
  ·rename_i Z;obtain⟨x,y,rfl,H,M⟩:=B3 rfl I E;obtain⟨a,rfl,rfl⟩:=vL H;obtain⟨b,rfl,rfl⟩:=vL M;obtain⟨m,hm⟩:=abv J;refine (Any.strings_Index abt a b m w (by simpa using Z) hm).mono ?_;rintro e w' ⟨rfl,rfl⟩;cases A;exact⟨_,rfl,Go.RowKit.Below.refl _ _,.int _ _⟩
  ·cases A
 ·cases A
theorem abw:∀g h,ctx.vh g=some h->pO ctx g h:=by
 intro g h J;have O:Wv g=some h:=J;unfold Wv at O;split at O;all_goals first|(cases O;first|exact ajT|exact ajU|exact agP)|cases O
end Go.Am
end
section
namespace Go.Am
open Go
theorem JA{P:Program}{w:World}{n:String}{d:DataW Unit}:∀{l:List (String×DataW Unit)}{ps:List MemPlace},DataW.LaidVars P w l ps->(n,d)∈l->
 ∃g t cs fuel p,P.globalNamed n=some g/\(P.globals[g]?).map (·.type)=some t/\w.var? P n=some cs/\DataW.trod (λ_=>()) P w 0 (λ_=>true) false fuel t cs.toList=some (d,p)
 |[],_,_,hm=>by simp at hm
 |(AC,AD)::r,ps,⟨g,t,cs,fuel,p,q,O,J,A,M,N,_⟩,hm=>by
  rcases aak.1 hm with hm|hm
  ·cases hm;exact⟨g,t,cs,fuel,p,O,J,A,M⟩
  ·exact JA N hm
theorem U1{H:Type}{enc:TypeId×Value->H}{P:Program}{w:World}{base:Nat}{sp:Nat->Bool}{held:Bool}{fuel:Nat}{t e:TypeId}{n:Nat}{k:IntKind}{cs:List Value}{U:List (DataW H)}{p:List MemPlace}
 (V:P.underlying t=some (.array n e)) (he:P.underlying e=some (.int k)) (Y:P.cellsOf e=1) (h:DataW.trod enc P w base sp held fuel t cs=some (.agg U,p)):
 cs.length=P.cellsOf t/\U.length=n/\∀i,i<n->∃z,cs[i]?=some (.int k z)/\U[i]?=some (.lit (.int k z)):=by
 cases fuel with
 |zero=>simp[DataW.trod]at h
 |succ m=>
  unfold DataW.trod at h;rw[V]at h;simp only at h;split at h
  ·rename_i Z;simp only[aaf,ab8,DataW.agg.injEq]at h;obtain⟨xs,A0,rfl,_⟩:=h;have O:xs.length=n:=by simpa using mapM_some_length A0
   refine⟨Z,by simpa using O,λi hi=>?_⟩;have J:=mapM_some_get A0 i i (by simp[hi]);have A:i<xs.length:=by omega
   have M:xs[i]?=some xs[i]:=by simp[A]
   rw[M,Y]at J;obtain⟨z,N,y,_⟩:=DataW.trod_int he J;refine⟨z,?_,by simp[M,y]⟩;have T:=aeT (·[0]?) N;simpa [abK,acr]using T
  ·cases h
theorem JB{P:Program}{W:World}{l:List (String×DataW Unit)}{name:String}{g:Nat}{t e:TypeId}{n:Nat}{k:IntKind}{zs:List Int}
 (Z:laidMet P l W) (hm:(name,DataW.agg (zs.map λz=>.lit (.int k z)))∈l) (A':P.globalNamed name=some g) (A7:(P.globals[g]?).map (·.type)=some t)
 (V:P.underlying t=some (.array n e)) (he:P.underlying e=some (.int k)) (Y:P.cellsOf e=1) (AE:0<n) (A8:P.cellsOf t=n):
 (g<W.heap.size/\∀cs,D.agg (zs.map λz=>.int k z)=.agg cs->∃cur e A1,W.heap[g]?=some (.cells cur e A1)/\cur.size=cs.length)/\∃A2,aI W (λ_=>False) (.agg (zs.map λz=>.int k z)) A2/\∀(i:Nat)(c:Value),A2.cells[i]?=some c->W.cell? ⟨g,i,none⟩=some c:=by
 obtain⟨ps,I,_⟩:=Z;obtain⟨AF,AG,cs,fuel,p,O,J,A,M⟩:=JA I hm;obtain rfl:=Option.some.inj (A'.symm.trans O);obtain rfl:=Option.some.inj (A7.symm.trans J);obtain⟨A3,N,y⟩:=U1 V he Y M;rw[A8]at A3;simp at N;have T:∀i z,zs[i]?=some z->W.cell? ⟨g,i,none⟩=some (.int k z):=by
  intro i z E;have hi:i<n:=by
   have:=(aaa.1 E).1;omega
  obtain⟨A9,AA,A4⟩:=y i hi;simp[E]at A4;subst A4;rw[World.var?_cell A' A i];simpa using AA
 refine⟨⟨?_,?_⟩,.agg (zs.map λz=>Value.int k z).toArray,?_,?_⟩
 ·have E:∃z,zs[0]?=some z:=⟨zs[0]'(by omega),by simp[show 0<zs.length by omega]⟩
  obtain⟨z,E⟩:=E;exact (BN (T 0 z E)).1
 ·rintro AH AB;obtain rfl:=D.agg.inj AB;unfold World.var? at A;rw[A']at A;simp only[ac7]at A;split at A
  ·rename_i cur e' A1 hh;cases A;exact⟨_,_,_,hh,by simp at N A3⊢;omega⟩
  ·cases A
 ·refine aI.nt (by simp) (λv I=>?_) (λi c v A5 I=>?_)
  ·simp at I;obtain⟨z,_,rfl⟩:=I;rfl
  ·simp only[acm,aaf]at A5 I;obtain⟨z,E,rfl⟩:=A5;obtain⟨A9,A6,rfl⟩:=I;rw[E]at A6;cases A6;exact .int k z
 ·intro i c hi;simp[Value.cells]at hi;obtain⟨z,E,rfl⟩:=hi;exact T i z E
end Go.Am
end
section
namespace Go.Am
open Go
variable {H:Type} {enc:TypeId×Value->H}
theorem Q0{a:Assume}{C:Checked}{os:Os}{f:FuncId}{fn:Func}{s:OpenSpec}{k:(H:Type)->List (DataW H)->Bool}(I:s.cond=some k){A:List PathCond}{apart fresh handsOn again:Bool}{X:World->Array Value->Prop}{F:Stop.Interp}
 (J:∀(w w':World)(args:Array Value),w.heap=w'.heap->X w args->X w' args)
 (own:ownKnob C.prog.godebug=none) (started:os.Started) (q:C.prog.inits.idxOf? f=none) (y:C.prog.funcs[f]?=some fn)
 (witness:∃(w:World)(tape:Tape)(i:Input),w.os=os/\(w.forCall tape i).Shaped C.prog/\i.vars=[]/\Input.okWide C.prog (w.forCall tape i) .any w.heap.size f i/\
  ((s.pre enc C.prog fn A apart (w.forCall tape i).memory i.args/\X (w.forCall tape i).memory i.args)/\sizedMet enc C.prog fn s apart (w.forCall tape i).memory i.args)/\a.holds C.prog (lone (Frame.enter C.prog f i.args .normal) [] (w.forCall tape i)))
 (A':∀(W:World)(base:Nat)(args:Array Value)(N gs:List (DataW H))(before:List MemPlace),
  (∀(j:Nat) t v,fn.params[j]?=some t->args[j]?=some v->Value.okWide C.prog W .any base t v)->
  DataW.Whole enc C.prog fn.params.toList s.vars apart W args.toList N gs before->k H (N++gs)=true->X W args->W.ShapedOpen C.prog->
  Calls C.prog f args W λe Y=>∃v,e=.returned v/\(s.at F).post enc C.prog fn apart fresh handsOn again W args v Y):
 ReturnsInHanded a C os f .any (λw args=>(s.pre enc C.prog fn A apart w args/\X w args)/\sizedMet enc C.prog fn s apart w args) ((s.at F).post enc C.prog fn apart fresh handsOn again):=by
 refine returnsInHanded_of_calls own started q witness ?_;intro w tape i _ M _ E A0 _;obtain⟨_,_,_,A1,A2,_,_,_,_,A3⟩:=E;have e:A1=fn:=Option.some.inj (A2.symm.trans y);subst e;obtain⟨⟨O,D⟩,A6⟩:=A0;obtain⟨N,gs,before,hw,A7,T⟩:=(OpenSpec.pre_some I A apart _ _).1 O;have A4:=DataW.Whole.of_heap (w':=w.forCall tape i) (by rfl) hw;refine (A' (w.forCall tape i) w.heap.size i.args N gs before A3 A4 T (J _ _ _ (by rfl) D) M).mono λe Y ⟨v,he,O⟩=>?_;subst he;exact ChangeSpec.post_blind O
theorem DK{C:Checked}{os:Os}{f:FuncId}{fn:Func}{s:OpenSpec}{k:(H:Type)->List (DataW H)->Bool}(I:s.cond=some k){A:List PathCond}{apart:Bool}{X:World->Array Value->Prop}(modest:Bool)(w0:World)(args:Array Value)(fuel:Nat)(U:w0.os=os)
 (M:(w0.forCall (λ_ _=>0) ⟨#[],args,[]⟩).Shaped C.prog)
 (E:Input.okWideB C.prog (w0.forCall (λ_ _=>0) ⟨#[],args,[]⟩) f ⟨#[],args,[]⟩=true)
 {x:List (DataW H)×List (DataW H)×List MemPlace} (D:DataW.whole enc C.prog (w0.forCall (λ_ _=>0) ⟨#[],args,[]⟩).memory fn.params.toList s.vars apart args.toList fuel=some x)
 (A5:A.all (PathCond.test C.prog ⟨fn.params.toList,x.1,s.bare.plain.varTypes C.prog,x.2.1⟩)=true) (T:k H (x.1++x.2.1)=true)
 (V:s.bare.sizedB enc C.prog fn apart (w0.forCall (λ_ _=>0) ⟨#[],args,[]⟩).memory args fuel=true)
 (J:X (w0.forCall (λ_ _=>0) ⟨#[],args,[]⟩).memory args):
 ∃(w:World)(tape:Tape)(i:Input),w.os=os/\(w.forCall tape i).Shaped C.prog/\i.vars=[]/\Input.okWide C.prog (w.forCall tape i) .any w.heap.size f i/\
  ((s.pre enc C.prog fn A apart (w.forCall tape i).memory i.args/\X (w.forCall tape i).memory i.args)/\sizedMet enc C.prog fn s apart (w.forCall tape i).memory i.args)/\({modest:=modest}:Assume).holds C.prog (lone (Frame.enter C.prog f i.args .normal) [] (w.forCall tape i)):=
 ⟨w0,λ_ _=>0,⟨#[],args,[]⟩,U,M,(Input.okWide_of_okWideB (base:=0) E).1,(Input.okWide_of_okWideB E).2,
  ⟨⟨(OpenSpec.pre_some I A apart _ _).2 ⟨x.1,x.2.1,x.2.2,DataW.Whole_of_whole D,A5,T⟩,J⟩,sizedMet_of_sizedB V⟩,by
  simp only[Assume.holds];exact⟨by simp,by simp,λ_=>Modest.zero,by simp,by simp⟩⟩
def U2{H:Type}(enc:TypeId×Value->H)(P:Program)(s:OpenSpec)(k:(H:Type)->List (DataW H)->Bool)(A:List PathCond)(apart:Bool)(w:World)(Z:List TypeId)(args:List Value)(fuel:Nat):Bool:=
 match DataW.whole enc P w Z s.vars apart args fuel with
 |some x=>A.all (PathCond.test P ⟨Z,x.1,s.bare.plain.varTypes P,x.2.1⟩)&&k H (x.1++x.2.1)
 |none=>false
theorem DL{C:Checked}{os:Os}{f:FuncId}{fn:Func}{s:OpenSpec}{k:(H:Type)->List (DataW H)->Bool}(I:s.cond=some k){A:List PathCond}{apart:Bool}{X:World->Array Value->Prop}(modest:Bool)(w0:World)(args:Array Value)(fuel:Nat)(U:w0.os=os)
 (M:(w0.forCall (λ_ _=>0) ⟨#[],args,[]⟩).Shaped C.prog)
 (E:Input.okWideB C.prog (w0.forCall (λ_ _=>0) ⟨#[],args,[]⟩) f ⟨#[],args,[]⟩=true)
 (D:U2 enc C.prog s k A apart (w0.forCall (λ_ _=>0) ⟨#[],args,[]⟩).memory fn.params.toList args.toList fuel=true)
 (V:s.bare.sizedB enc C.prog fn apart (w0.forCall (λ_ _=>0) ⟨#[],args,[]⟩).memory args fuel=true)
 (J:X (w0.forCall (λ_ _=>0) ⟨#[],args,[]⟩).memory args):
 ∃(w:World)(tape:Tape)(i:Input),w.os=os/\(w.forCall tape i).Shaped C.prog/\i.vars=[]/\Input.okWide C.prog (w.forCall tape i) .any w.heap.size f i/\
  ((s.pre enc C.prog fn A apart (w.forCall tape i).memory i.args/\X (w.forCall tape i).memory i.args)/\sizedMet enc C.prog fn s apart (w.forCall tape i).memory i.args)/\({modest:=modest}:Assume).holds C.prog (lone (Frame.enter C.prog f i.args .normal) [] (w.forCall tape i)):=by
 unfold U2 at D;split at D
 ·rename_i x hw;simp only[Ds]at D;exact DK I modest w0 args fuel U M E hw D.1 D.2 V J
 ·cases D
end Go.Am
end
