/-
  Texts of one proof, one behind the other.
-/
import Derived.Test.YtlmkmdmbfmpfgaaGreatDoorS4
import Derived.LaidLaws
import Derived.JoinedCond
import Derived.Test.YtlmkmdmbfmpfgaaGreatDoorProg
import Derived.KernelRfl
set_option linter.all false
section
namespace Go.Am
open Go
set_option maxRecDepth 20000
set_option maxHeartbeats 4000000
def wF:∀(l p:List Vr)(n:Int),n<=1024->(My l p n).1=0->n+bW l<=1024
 |[],_,n,D,_=>by simp[bW];exact D
 |v::r,p,n,D,h=>by
  unfold My at h;split at h
  .simp at h
  .split at h
   .simp at h
   .have:=wF r _ _ (by omega) h;simp only[bW];omega
def C8:∀(l:List Vr),(∀v∈l,0<=cB v)->0<=bW l
 |[],_=>by simp[bW]
 |y::l,h=>by
  have:=C8 l (λv I=>h v (by simp[I]));have:=h y (by simp);simp only[bW];omega
def Fi{p:Pg}(H:lH p=true)(J:gN p.body=true)(M:(lB p).1=0)(U:bJ (dW p.body)<=64):
 Fg (ag p.vars (dW p.body) (bW p.vars)).2 false (ag p.vars (dW p.body) (bW p.vars)).1/\0<=bW p.vars/\bW p.vars<=1024/\bW p.vars<=(ag p.vars (dW p.body) (bW p.vars)).2/\
 (ag p.vars (dW p.body) (bW p.vars)).2<=bW p.vars+(ag p.vars (dW p.body) (bW p.vars)).1.length:=by
 simp only[lH,Ds,adp]at H;obtain⟨_,_,O,V⟩:=H;obtain⟨Y,Z⟩:=bM.1 M;obtain⟨A',a2,a3⟩:=sK false p.body V J Z;have A2:=wF p.vars [] 0 (by omega) Y;have T:=C8 p.vars (λv I=>qq (O v I));have hm:=gx (vs:=p.vars) (dW p.body) (bW p.vars);have A0:=rT (vs:=p.vars) (dW p.body) (bW p.vars);exact⟨zc O hm false (dW p.body) (bW p.vars) A' a3 U T (al4 _),T,by omega,hm,A0⟩
def Zc{p:Pg}(H:lH p=true)(J:gN p.body=true)(M:(lB p).1=0){l:List ar}{v c:Int}(h:sn p=some (l,v,c)):qf DN l v c=true:=by
 unfold sn at h;simp only at h;split at h
 .cases h
 .rename_i D;simp only[alp,Nat.not_lt,Int.not_lt]at D;cases h;obtain⟨g1,g2,g3,g4,g5⟩:=Fi H J M D.2;obtain⟨r,st,A1⟩:=afb g1 D.1;exact ant ⟨by omega,by omega,by omega,by omega⟩ A1
section
variable {D H α β:Type}
def PR.le(r I:PR D H α):Prop:=r=.out\/r=I
end
section
variable (L:List pa)
end
section
variable {α β:Type}
end
structure OkL(L:List pa):Prop where
 ends:∀(i:Nat)(t:pa),L[i]?=some t->(t.kind=0↔i+1=L.length)
 line:∀(i:Nat)(t:pa),L[i]?=some t->1<=t.line
 len:L.length<=49999
section
variable {L:List pa} (D:OkL L)
include D
end
def arq(lp:Bool)(X R e:Nat)(h:Hw)(t:Ms):Prop:=
 match h with
 | .on=>t.fault=0/\t.eL=[]/\t.at_=e
 | .lv=>lp=true/\t.fault=0/\t.eL=[]/\t.at_=X
 | .rt=>t.fault=0/\t.eL=[]/\t.at_=R
 | .ft I=>t.fault=I/\I≠0
def ars(v:Nat)(lp:Bool)(X R e:Nat)(c:Int)(E:List Int)(q:Rr)(t:Ms):Prop:=
 ∃D,t.cells=q.2.cells++D/\q.2.cells.length=v/\D.length=E.length/\(∀j:Nat,(v:Int)+j<c->D[j]?=E[j]?)/\t.fuel=q.2.fuel/\arq lp X R e q.1 t
def cU(L:List ar)(v:Nat)(lp:Bool)(X R e:Nat)(c:Int)(E:List Int)(s0:Ms)(q:Rr):Prop:=∃t,dG L s0 t/\ars v lp X R e c E q t
section
variable {L:List ar} {v:Nat} {lp:Bool} {X R e:Nat} {c:Int} {E:List Int} {s0:Ms} {q:Rr}
theorem cU.pre{s1:Ms}(h:dG L s0 s1)(y:cU L v lp X R e c E s1 q):cU L v lp X R e c E s0 q:=by
 obtain⟨t,a,b⟩:=y;exact⟨t,h.trans a,b⟩
theorem cU.done{C D:List Int}{f:Nat}(U:C.length=v)(A5:D.length=E.length)(A0:∀j:Nat,(v:Int)+j<c->D[j]?=E[j]?):cU L v lp X R e c E (mS (C++D) [] e f) (.on,⟨C,f⟩):=
 ⟨_,.refl _,D,rfl,U,A5,A0,rfl,rfl,rfl,rfl⟩
theorem cU.si{C:List Int}{f:Nat}(U:C.length=v):cU L v lp X R e c E (mS (C++E) [] e f) (.on,⟨C,f⟩):=cU.done U rfl (λ_ _=>rfl)
theorem cU.Qs{A6:Int}(h:cU L v lp X R e A6 E s0 q)(AB:c<=A6):cU L v lp X R e c E s0 q:=by
 obtain⟨t,a,D,M,O,J,H,T⟩:=h;exact⟨t,a,D,M,O,J,λj A1=>H j (by omega),T⟩
theorem cU.kept{A2:List Int}(h:cU L v lp X R e c A2 s0 q)(A5:A2.length=E.length)(A0:∀j:Nat,(v:Int)+j<c->A2[j]?=E[j]?):cU L v lp X R e c E s0 q:=by
 obtain⟨t,a,D,M,O,J,H,T⟩:=h;exact⟨t,a,D,M,O,by omega,λj A1=>(H j A1).trans (A0 j A1),T⟩
theorem Ms.eqS{t:Ms}{K:List Int}{p f:Nat}(A7:t.cells=K)(y:t.fuel=f)(A':t.fault=0/\t.eL=[]/\t.at_=p):t=mS K [] p f:=by
 obtain⟨a,b,d,g,i⟩:=t;simp only at A7 y A';obtain⟨A',A8,A9⟩:=A';subst A7 y A' A8 A9;rfl
theorem cU.bind{Y:Nat}{F:Mc->Rr}(h:cU L v lp X R Y c E s0 q)
 (Z:∀(s:Mc)(D:List Int),s.cells.length=v->D.length=E.length->(∀j:Nat,(v:Int)+j<c->D[j]?=E[j]?)->cU L v lp X R e c D (mS (s.cells++D) [] Y s.fuel) (F s)):cU L v lp X R e c E s0 (bR q F):=by
 obtain⟨t,a,D,M,O,J,H,T,V⟩:=h;obtain⟨h,s⟩:=q;cases h with
 |on=>
  have A3:=Ms.eqS M T V;subst A3;exact cU.pre a ((Z s D O J H).kept J H)
 |lv=>exact⟨t,a,D,M,O,J,H,T,V⟩
 |rt=>exact⟨t,a,D,M,O,J,H,T,V⟩
 |ft I=>exact⟨t,a,D,M,O,J,H,T,V⟩
theorem cU.We{Y:Nat}{F:Mc->Rr}(h:cU L v true e R Y c E s0 q)
 (Z:∀(s:Mc)(D:List Int),q=(.on,s)->s.cells.length=v->D.length=E.length->(∀j:Nat,(v:Int)+j<c->D[j]?=E[j]?)->cU L v lp X R e c D (mS (s.cells++D) [] Y s.fuel) (eX (F s))):cU L v lp X R e c E s0 (eX (bR q F)):=by
 obtain⟨t,a,D,M,O,J,H,T,V⟩:=h;obtain⟨h,s⟩:=q;cases h with
 |on=>
  have A3:=Ms.eqS M T V;subst A3;exact cU.pre a ((Z s D rfl O J H).kept J H)
 |lv=>exact⟨t,a,D,M,O,J,H,T,V.2⟩
 |rt=>exact⟨t,a,D,M,O,J,H,T,V⟩
 |ft I=>exact⟨t,a,D,M,O,J,H,T,V⟩
theorem C9{w:Vl}{s:Mc}{F:Int->Rr}:eX (vR w s F)=vR w s (λk=>eX (F k)):=by
 cases w with
 |v n t=>rfl
 |f I=>simp[vR,eX]
theorem Fj{p:Prop}[Decidable p]{a b:Rr}:eX (if p then a else b)=if p then eX a else eX b:=by split<;>rfl
theorem Fk{F:Mc->Rr}{s:Mc}:eX (iL F s)=iL (λs=>eX (F s)) s:=by
 unfold iL;split
 .simp[eX]
 .rfl
theorem HX{s:Mc}:eX (.on,s)=(.on,s):=by simp[eX]
theorem cU.ft{C:List Int}{f:Nat}{I:Int}{p:Int}{S:List Int}(U:C.length=v)(A4:I≠0)(h:dG L s0 ⟨C++E,S,p,f,I⟩):cU L v lp X R e c E s0 (.ft I,⟨C,f⟩):=
 ⟨_,h,E,rfl,U,rfl,λ_ _=>rfl,rfl,rfl,A4⟩
theorem cU.val{C S:List Int}{p f Y:Nat}{w:Vl}{F:Int->Rr}(U:C.length=v)(h:MN L (C++E) S p f w Y)(A4:∀I,w=.f I->I≠0)
 (Z:∀k t,w=.v k t->cU L v lp X R e c E (mS (C++E) (S++[k]) Y f) (F k)):cU L v lp X R e c E (mS (C++E) S p f) (vR w ⟨C,f⟩ F):=by
 cases w with
 |f I=>
  obtain⟨t,g1,g2,g3,g4⟩:=h;exact⟨t,g1,E,g2,U,rfl,λ_ _=>rfl,g3,g4,A4 I rfl⟩
 |v k t=>exact cU.pre h (Z k t rfl)
theorem cU.tick{C:List Int}{p f:Nat}{F:Mc->Rr}(U:C.length=v)(AA:L[p]?=some (ins 11 0 0 0 0))(Z:∀g,f=g+1->cU L v lp X R e c E (mS (C++E) [] (p+1) g) (F ⟨C,g⟩)):cU L v lp X R e c E (mS (C++E) [] p f) (iL F ⟨C,f⟩):=by
 unfold iL;have h:=dG.one AA (by simp[ins]) (anC (K:=C++E) (S:=[]) (p:=p) (f:=f));cases f with
 |zero=>
  rw[ac1 rfl]at h⊢;exact cU.ft U (by decide) h
 |succ g=>
  rw[aaf (by omega)]at h;rw[aaf (by simp)];simp only[Nat.add_sub_cancel]at h⊢;exact cU.pre h (Z g rfl)
end
def Fl(L:List ar)(vs:List Vr)(v:Nat)(lp:Bool)(b:List Sm):Prop:=∀(n X R:Nat)(c:Int)(C E:List Int)(f:Nat),(v:Int)<=c->(ag vs b c).2<=v+E.length->ej L n X R (ag vs b c).1->C.length=v->
 cU L v lp X R (n+(ag vs b c).1.length) c E (mS (C++E) [] n f) (bX vs b ⟨C,f⟩)
def Zd(L:List ar)(vs:List Vr)(v:Nat)(lp:Bool)(x:Sm):Prop:=∀(n X R:Nat)(c:Int)(C E:List Int)(f:Nat),(v:Int)<=c->(b8 vs x c).2<=v+E.length->ej L n X R (oR vs x c)->C.length=v->
 cU L v lp X R (n+(oR vs x c).length) c E (mS (C++E) [] n f) (iw vs x ⟨C,f⟩)
def Qt(L:List ar)(vs:List Vr)(v:Nat)(lp:Bool)(x:Sm)(F:Mc->Rr):Prop:=∀(n X R:Nat)(c:Int)(C E:List Int)(f:Nat),(v:Int)<=c->(b8 vs x c).2<=v+E.length->ej L n X R (b8 vs x c).1->C.length=v->
 cU L v lp X R (n+(b8 vs x c).1.length) c E (mS (C++E) [] n f) (F ⟨C,f⟩)
section
variable {L:List ar} {vs:List Vr} {v:Nat} {lp:Bool}
theorem Da{x:Sm}{F:Mc->Rr}(Y:∀s,iw vs x s=iL F s)(h:Qt L vs v lp x F):Zd L vs v lp x:=by
 intro n X R c C E f M I D H;rw[Y];have A':ej L n X R [ins 11 0 0 0 0]:=D.JL;have A4:ej L (n+1) X R (b8 vs x c).1:=D.MM;refine cU.tick H (A'.head (by simp[ins])) (λg _=>?_);have:=h (n+1) X R c C E g M I A4 H;rw[PU];rw[show n+((b8 vs x c).1.length+1)=n+1+(b8 vs x c).1.length by omega];exact this
theorem NQ:∀(l:List Sm),(∀x∈l,Zd L vs v lp x)->Fl L vs v lp l
 |[],_=>by
  intro n X R c C E f M I D H;have e:ag vs [] c=([],c):=by simp[ag]
  rw[e];have J:bX vs [] ⟨C,f⟩=(.on,⟨C,f⟩):=by simp[bX]
  rw[J];exact cU.si H
 |x::r,h=>by
  intro n X R c C E f M I D H;have ih:=NQ r (λy A0=>h y (by simp[A0]));have e:ag vs (x::r) c=(jn (oR vs x c) (ag vs r (b8 vs x c).2).1,(ag vs r (b8 vs x c).2).2):=by simp[ag,oR]
  have J:bX vs (x::r) ⟨C,f⟩=bR (iw vs x ⟨C,f⟩) (λs=>bX vs r s):=by simp[bX]
  have AB:=Ac (vs:=vs) x c;have AO:=gx (vs:=vs) r (b8 vs x c).2;rw[e]at I D⊢;rw[J];simp only at I D⊢;refine cU.bind (h x (by simp) n X R c C E f M (by omega) D.JL H) (λs AG A' A4 AP=>?_);have:=(ih (n+(oR vs x c).length) X R (b8 vs x c).2 s.cells AG s.fuel (by omega) (by rw[A4];exact I) D.MM A').Qs AB;rw[ei,show n+((oR vs x c).length+(ag vs r (b8 vs x c).2).1.length)=n+(oR vs x c).length+(ag vs r (b8 vs x c).2).1.length by omega];exact this
end
section
variable {L:List ar} {vs:List Vr} {v:Nat} {lp:Bool} (T:∀w∈vs,dr w=true) (Z:(v:Int)=bW vs)
include T Z
theorem aiT{to val:Ex}{line:Int}{w:Vr}(A1:bQ to=3\/bQ to=4)(hw:bj vs (eh to)=some w)(ft:bm to=true)(AQ:(aE vs to).e=0)(AH:bm val=true)(AI:(aE vs val).e=0):Qt L vs v lp (.mk 1 [] to val [] [] [] [] line) (qt vs to val):=by
 intro n X R c C E f M I D H;have AJ:=qw (L:=L) T Z val AH AI;have AR:=qN ft AQ;cases AR with
 |num=>simp at A1
 |qX=>simp at A1
 |GY=>simp at A1
 |one AS=>simp at A1;omega
 |two AS=>simp at A1;omega
 |@var name A2 O A6 AC AK=>
  have e:b8 vs (.mk 1 [] (.mk 3 0 name [] [] A2) val [] [] [] [] line) c=((ai vs val).1++[ins 6 (bu vs name).1 0 0 0],c):=by simp[b8]
  rw[e]at D⊢;have J:qt vs (.mk 3 0 name [] [] A2) val ⟨C,f⟩=vR (bN vs C val) ⟨C,f⟩ (λk=>(.on,⟨eP C (bu vs name).1 k,f⟩)):=by simp[qt]
  rw[J];simp only at D⊢;refine cU.val H (AJ n X R C E [] f H D.left) (λU h=>qP C val U h) (λk t AL=>?_);have A7:=D.last (by simp[ins]);have Ai:=C6 T Z (u4 (cells:=v) T (by omega) A6 (by simp[AC]) AK);refine cU.pre (dG.one A7 (by simp[ins]) HV) ?_;rw[zj (by omega)];rw[show n+((ai vs val).1++[ins 6 (bu vs name).1 0 0 0]).length=n+(ai vs val).1.length+1 by simp;omega];exact cU.si (by simpa using H)
 |@idx name A2 O y A6 AC AK AT AU ty=>
  have AV:=qw (L:=L) T Z y AT AU;have AM:=eI A6;have e:b8 vs (.mk 1 [] (.mk 4 0 name [] [y] A2) val [] [] [] [] line) c=((ai vs y).1++(ai vs val).1++[ins 7 (bu vs name).1 0 O.lo O.hi],c):=by simp[b8,oQ,AM]
  rw[e]at D⊢;have J:qt vs (.mk 4 0 name [] [y] A2) val ⟨C,f⟩=vR (bN vs C y) ⟨C,f⟩ (λk=>vR (bN vs C val) ⟨C,f⟩ (λx=>A5 C f (bu vs name).1 O k x)):=by simp[qt,sO,AM]
  rw[J];simp only at D⊢;refine cU.val H (AV n X R C E [] f H D.left.left) (λU h=>qP C y U h) (λk t AL=>?_);refine cU.val H (AJ _ X R C E ([]++[k]) f H (D.left.flat (jV val AH AI))) (λU h=>qP C val U h) (λAW t2 Aj=>?_);have A7:=D.last (by simp[ins]);rw[show n+((ai vs y).1++(ai vs val).1).length=n+(ai vs y).1.length+(ai vs val).1.length by simp;omega]at A7;have V:=dG.one A7 (by simp[ins]) (aro (K:=C++E) (S:=[]) (p:=n+(ai vs y).1.length+(ai vs val).1.length) (f:=f) (k:=k) (x:=AW));unfold A5;by_cases AD:k<O.lo\/O.hi<k
  .rw[ac1 AD]at V⊢;exact cU.ft H (by decide) V
  .rw[aaf AD]at V⊢;rw[zj (by rw[H];exact (Fh T Z A6 AC AD).1)]at V;refine cU.pre V ?_;rw[show n+((ai vs y).1++(ai vs val).1++[ins 7 (bu vs name).1 0 O.lo O.hi]).length=n+(ai vs y).1.length+(ai vs val).1.length+1 by simp;omega];exact cU.si (by simpa using H)
theorem Ze:∀(blocks:List (List Sm))(conds:List Ex)(n X R:Nat)(c:Int)(C E:List Int)(f:Nat),(∀b∈blocks,Fl L vs v lp b)->(∀x∈conds,bm x=true/\(aE vs x).e=0)->blocks.length<=conds.length+1->(v:Int)<=c->(ay vs blocks c).2<=v+E.length->
 ej L n X R (cF (conds.map λx=>(ai vs x).1) (ay vs blocks c).1)->C.length=v->
 cU L v lp X R (n+(cF (conds.map λx=>(ai vs x).1) (ay vs blocks c).1).length) c E (mS (C++E) [] n f) (gJ vs blocks conds ⟨C,f⟩)
 |[],conds,n,X,R,c,C,E,f,A3,A8,A9,M,I,D,H=>by
  have e:(ay vs [] c).1=[]:=by simp[ay]
  have AE:cF (conds.map λx=>(ai vs x).1) ([]:List (List ar))=[]:=by unfold cF;rfl
  have J:gJ vs [] conds ⟨C,f⟩=(.on,⟨C,f⟩):=by simp[gJ]
  rw[e,AE,J];exact cU.si H
 |b::r,[],n,X,R,c,C,E,f,A3,A8,A9,M,I,D,H=>by
  have Y:r=[]:=adf (by simpa using A9);subst Y;have e:(ay vs [b] c)=([(ag vs b c).1],(ag vs b c).2):=by simp[ay]
  have AE:cF (([]:List Ex).map λx=>(ai vs x).1) [(ag vs b c).1]=(ag vs b c).1:=by simp[cF]
  have J:gJ vs [b] [] ⟨C,f⟩=bX vs b ⟨C,f⟩:=by simp[gJ]
  rw[e]at I D⊢;simp only at I D⊢;rw[AE]at D⊢;rw[J];exact A3 b (by simp) n X R c C E f M I D H
 |b::r,x::xs,n,X,R,c,C,E,f,A3,A8,A9,M,I,D,H=>by
  have e:ay vs (b::r) c=((ag vs b c).1::(ay vs r (ag vs b c).2).1,(ay vs r (ag vs b c).2).2):=by simp[ay]
  have J:gJ vs (b::r) (x::xs) ⟨C,f⟩=vR (bN vs C x) ⟨C,f⟩ (λk=>if k=0 then gJ vs r xs ⟨C,f⟩else bX vs b ⟨C,f⟩):=by simp[gJ]
  have AB:=gx (vs:=vs) b c;have AO:=ng (vs:=vs) r (ag vs b c).2;rw[e]at I D⊢;rw[J];simp only[adz]at I D⊢;have AX:(ay vs r (ag vs b c).2).1=[]↔r=[]:=by
   cases r<;>simp[ay]
  obtain⟨AY,AZ,A_,AF,Aa,Ab⟩:=ej.ch rfl D;rw[Ab];obtain⟨Ad,ex⟩:=A8 x (by simp);refine cU.val H (qw (L:=L) T Z x Ad ex n X R C E [] f H AY) (λU h=>qP C x U h) (λk t AL=>?_);have V:=dG.one AZ (by simp[ins]) (JK (K:=C++E) (S:=[]) (p:=n+(ai vs x).1.length) (f:=f) (k:=k));refine cU.pre V ?_;by_cases AA:k=0
  .rw[ac1 AA,ac1 AA];have ih:=Ze r xs (n+((ai vs x).1.length+1+(if (ay vs r (ag vs b c).2).1=[]then (ag vs b c).1.length else (ag vs b c).1.length+1))) X R (ag vs b c).2 C E f (λy A0=>A3 y (by simp[A0])) (λy A0=>A8 y (by simp[A0])) (by simpa using A9) (by omega) I Aa H;have:=ih.Qs AB;rw[adv]at this;exact this
  .rw[aaf AA,aaf AA];have AN:=A3 b (by simp) (n+((ai vs x).1.length+1)) X R c C E f M (by omega) A_ H;by_cases Y:r=[]
   .subst Y;have Ae:(ay vs [] (ag vs b c).2).1=[]:=by simp[ay]
    have Af:∀ts,cF ts ([]:List (List ar))=[]:=λts=>by unfold cF;rfl
    rw[Ae,Af,ac1 rfl];simp only[ac7,ahq];rw[show n+((ai vs x).1.length+1+(ag vs b c).1.length)=n+((ai vs x).1.length+1)+(ag vs b c).1.length by omega];exact AN
   .have Ag:¬(ay vs r (ag vs b c).2).1=[]:=λh=>Y (AX.1 h);have AF:=AF Ag;have Ah:bX vs b ⟨C,f⟩=bR (bX vs b ⟨C,f⟩) (λs=>(.on,s)):=by
     generalize bX vs b ⟨C,f⟩=q;obtain⟨h,s⟩:=q;cases h<;>rfl
    rw[Ah];refine cU.bind AN (λs AG A' A4 AP=>?_);rw[show n+((ai vs x).1.length+1)+(ag vs b c).1.length=n+((ai vs x).1.length+1+(ag vs b c).1.length) by omega];exact cU.pre (dG.one AF (by simp[ins]) Wb) (cU.si A')
end
def Gl{C E:List Int}{j:Nat}{k:Int}(h:E[j]?=some k):fo (C++E) ((C.length:Int)+j)=k:=by
 unfold fo;rw[show ((C.length:Int)+j).toNat=C.length+j by omega,adb (by omega),show C.length+j-C.length=j by omega,h];rfl
def HY{C E:List Int}{j:Nat}{k:Int}:oP (C++E) ((C.length:Int)+j) k=C++E.set j k:=by
 unfold oP;rw[show ((C.length:Int)+j).toNat=C.length+j by omega,List.set_append_right _ _ (by omega),show C.length+j-C.length=j by omega]
def anH(a w:Bool):gR 21 (cg a) (cg w) true=(cg (a||w),true,0):=by cases a<;>cases w<;>decide
def aiU{L:List ar}{K:List Int}{f X R:Nat}{c k:Int}(A6:fo K c=k):∀(m:Nat)(l:List Int)(a:Bool)(n:Nat),l.length<=m->ej L n X R (dy c l)->
 dG L (mS K [cg a] n f) (mS K [cg (a||gW k l)] (n+(dy c l).length) f):=by
 intro m;induction m with
 |zero=>
  intro l a n hm H;have:l=[]:=adf (by omega);subst this;simp[dy,gW];exact .refl _
 |succ m ih=>
  intro l a n hm H;match l,H with
  |[],H=>
   simp[dy,gW];exact .refl _
  |[_],H=>
   simp[dy,gW];exact .refl _
  |lo::hi::r,H=>
   have e:dy c (lo::hi::r)=[ins 14 c 0 lo hi]++([ins 8 1 21 0 0]++dy c r):=by simp[dy]
   rw[e]at H⊢;have Y:=H.left.head (by simp[ins]);have A':=H.flat (Flat.app (Flat.one (by simp[ins])) (JJ c r));have AK:=A'.left.head (by simp[ins]);have AD:=A'.flat (JJ c r);have s1:=dG.one Y (by simp[ins]) (anF (K:=K) (S:=[cg a]) (p:=n) (f:=f));rw[A6]at s1;have s2:=dG.one AK (by simp[ins]) (Wa (K:=K) (S:=[]) (p:=n+1) (f:=f) (a:=1) (op:=21) (j:=cg a) (k:=cg (decide (lo<=k/\k<=hi))) (by decide));rw[show decide ((1:Int)=1)=true by decide,anH]at s2;have Ae:=ih r (a||decide (lo<=k/\k<=hi)) (n+1+1) (by simp at hm;omega) AD;have A7:gW k (lo::hi::r)=(decide (lo<=k/\k<=hi)||gW k r):=by simp[gW]
   rw[A7,<-Bool.or_assoc];have AL:n+([ins 14 c 0 lo hi]++([ins 8 1 21 0 0]++dy c r)).length=n+1+1+(dy c r).length:=by simp;omega
   rw[AL];exact (dG.trans s1 s2).trans Ae
section
variable {L:List ar} {vs:List Vr} {v:Nat} {lp:Bool} (A0:∀w∈vs,dr w=true) (A1:(v:Int)=bW vs)
theorem Zf(A0:∀w∈vs,dr w=true)(A1:(v:Int)=bW vs){k:Int}{jc:Nat}:∀(blocks:List (List Sm))(T:List (List Int))(n X R:Nat)(c:Int)(C E:List Int)(f:Nat),(∀b∈blocks,Fl L vs v lp b)->blocks.length<=T.length+1->(v:Int)+jc<c->E[jc]?=some k->(ay vs blocks c).2<=v+E.length->
 ej L n X R (cF (T.map λl=>ins 1 0 0 0 0::dy ((v:Int)+jc) l) (ay vs blocks c).1)->C.length=v->
 cU L v lp X R (n+(cF (T.map λl=>ins 1 0 0 0 0::dy ((v:Int)+jc) l) (ay vs blocks c).1).length) c E (mS (C++E) [] n f) (gK vs blocks k T ⟨C,f⟩)
 |[],T,n,X,R,c,C,E,f,A8,Z,AM,A6,U,H,I=>by
  have e:(ay vs [] c).1=[]:=by simp[ay]
  have AN:cF (T.map λl=>ins 1 0 0 0 0::dy ((v:Int)+jc) l) ([]:List (List ar))=[]:=by unfold cF;rfl
  have A7:gK vs [] k T ⟨C,f⟩=(.on,⟨C,f⟩):=by simp[gK]
  rw[e,AN,A7];exact cU.si I
 |b::r,[],n,X,R,c,C,E,f,A8,Z,AM,A6,U,H,I=>by
  have AI:r=[]:=adf (by simpa using Z);subst AI;have e:(ay vs [b] c)=([(ag vs b c).1],(ag vs b c).2):=by simp[ay]
  have AN:cF (([]:List (List Int)).map λl=>ins 1 0 0 0 0::dy ((v:Int)+jc) l) [(ag vs b c).1]=(ag vs b c).1:=by simp[cF]
  have A7:gK vs [b] k [] ⟨C,f⟩=bX vs b ⟨C,f⟩:=by simp[gK]
  rw[e]at U H⊢;simp only at U H⊢;rw[AN]at H⊢;rw[A7];exact A8 b (by simp) n X R c C E f (by omega) U H I
 |b::r,x::xs,n,X,R,c,C,E,f,A8,Z,AM,A6,U,H,I=>by
  have e:ay vs (b::r) c=((ag vs b c).1::(ay vs r (ag vs b c).2).1,(ay vs r (ag vs b c).2).2):=by simp[ay]
  have A7:gK vs (b::r) k (x::xs) ⟨C,f⟩=if gW k x=true then bX vs b ⟨C,f⟩else gK vs r k xs ⟨C,f⟩:=by simp[gK]
  have Af:=gx (vs:=vs) b c;have Ag:=ng (vs:=vs) r (ag vs b c).2;rw[e]at U H⊢;rw[A7];simp only[adz]at U H⊢;have Ah:(ay vs r (ag vs b c).2).1=[]↔r=[]:=by
   cases r<;>simp[ay]
  obtain⟨Y,A',AK,AD,Ai,Aj⟩:=ej.ch rfl H;rw[Aj];generalize Ak:(ins 1 0 0 0 0::dy ((v:Int)+jc) x).length=A3 at*;have Al:=dG.one (Y.head (by simp[ins])) (by simp[ins]) (abP (K:=C++E) (S:=[]) (p:=n) (f:=f) (k:=0));have An:=aiU (L:=L) (K:=C++E) (f:=f) (X:=X) (R:=R) (c:=(v:Int)+jc) (k:=k) (by rw[<-I];exact Gl A6) x.length x false (n+1) (aar _) (Y.tail (JJ _ x));have Ao:dG L (mS (C++E) [] n f) (mS (C++E) ([]++[cg (gW k x)]) (n+A3) f):=by
   have:=dG.trans Al An;rw[<-Ak,show n+(ins 1 0 0 0 0::dy ((v:Int)+jc) x).length=n+1+(dy ((v:Int)+jc) x).length by simp;omega];simpa using this
  have AJ:=Ao.trans (dG.one A' (by simp[ins]) (JK (K:=C++E) (S:=[]) (p:=n+A3) (f:=f) (k:=cg (gW k x))));refine cU.pre AJ ?_;cases B1:gW k x with
  |false=>
   rw[ac1 (show cg false=0 from rfl),aaf (show ¬(false=true) by decide)];have ih:=Zf A0 A1 r xs (n+(A3+1+(if (ay vs r (ag vs b c).2).1=[]then (ag vs b c).1.length else (ag vs b c).1.length+1))) X R (ag vs b c).2 C E f (λy Ap=>A8 y (by simp[Ap])) (by simpa using Z) (by omega) A6 U Ai I;have:=ih.Qs Af;rw[adv]at this;exact this
  |true=>
   rw[aaf (show ¬cg true=0 by decide),ac1 (show true=true from rfl)];have A4:=A8 b (by simp) (n+(A3+1)) X R c C E f (by omega) (by omega) AK I;by_cases AI:r=[]
   .subst AI;have AL:(ay vs [] (ag vs b c).2).1=[]:=by simp[ay]
    have Aq:∀ts,cF ts ([]:List (List ar))=[]:=λts=>by unfold cF;rfl
    rw[AL,Aq,ac1 rfl];simp only[ac7,ahq];rw[show n+(A3+1+(ag vs b c).1.length)=n+(A3+1)+(ag vs b c).1.length by omega];exact A4
   .have Ar:¬(ay vs r (ag vs b c).2).1=[]:=λh=>AI (Ah.1 h);have AD:=AD Ar;have As:bX vs b ⟨C,f⟩=bR (bX vs b ⟨C,f⟩) (λs=>(.on,s)):=by
     generalize bX vs b ⟨C,f⟩=q;obtain⟨h,s⟩:=q;cases h<;>rfl
    rw[As];refine cU.bind A4 (λs M J A2 O=>?_);rw[show n+(A3+1)+(ag vs b c).1.length=n+(A3+1+(ag vs b c).1.length) by omega];exact cU.pre (dG.one AD (by simp[ins]) Wb) (cU.si J)
include A0 A1
theorem aiV{to val:Ex}{T:List (List Int)}{blocks:List (List Sm)}{line:Int}(At:bm val=true)(Au:(aE vs val).e=0)(O:blocks.length<=T.length+1)(A8:∀b∈blocks,Fl L vs v lp b):
 Qt L vs v lp (.mk 3 [] to val [] T [] blocks line) (λs=>vR (bN vs s.cells val) s λn=>gK vs blocks n T s):=by
 intro n X R c C E f AM U H I;obtain⟨j,rfl⟩:∃j:Nat,c=(v:Int)+j:=⟨(c-v).toNat,by omega⟩;have e:b8 vs (.mk 3 [] to val [] T [] blocks line) ((v:Int)+j)=(jn ((ai vs val).1++[ins 6 ((v:Int)+j) 0 0 0]) (cF (T.map λl=>ins 1 0 0 0 0::dy ((v:Int)+j) l) (ay vs blocks ((v:Int)+j+1)).1),(ay vs blocks ((v:Int)+j+1)).2):=by simp[b8]
 have Ag:=ng (vs:=vs) blocks ((v:Int)+j+1);rw[e]at U H⊢;simp only at U H⊢;have Y:=H.JL;have A':=H.MM;refine cU.val I (qw (L:=L) A0 A1 val At Au n X R C E [] f I Y.left) (λV h=>qP C val V h) (λk t A6=>?_);have AJ:=dG.one (Y.last (by simp[ins])) (by simp[ins]) (HV (K:=C++E) (S:=[]) (p:=n+(ai vs val).1.length) (f:=f) (k:=k));rw[show oP (C++E) ((v:Int)+j) k=C++E.set j k by rw[<-I];exact HY]at AJ;refine cU.pre AJ ?_;have Av:j<E.length:=by omega
 have Aw:=(Zf A0 A1 (L:=L) (lp:=lp) (k:=k) (jc:=j) blocks T (n+((ai vs val).1++[ins 6 ((v:Int)+j) 0 0 0]).length) X R ((v:Int)+j+1) C (E.set j k) f A8 O (by omega) (by rw[ai9];simp[Av]) (by simpa using U) A' I).Qs (c:=(v:Int)+j) (by omega);have:=Aw.kept (E:=E) (by simp) (λi hi=>by rw[al3 (by omega)]);rw[ei,<-adv];rw[show n+(ai vs val).1.length+1=n+((ai vs val).1++[ins 6 ((v:Int)+j) 0 0 0]).length by simp;omega];exact this
omit A0 A1 in
theorem aiW{A9:List Int->Vl}{b:Mc->Rr}{t D:List ar}{n X R:Nat}{c:Int}{m:Nat}(H:ej L n X R (iK t D))(ft:Flat t)(AO:∀C V,A9 C=.f V->V≠0)(AE:∀s,(b s).2.fuel<=s.fuel)
 (AA:∀(C E:List Int)(f:Nat),C.length=v->E.length=m->MN L (C++E) [] (n+1) f (A9 C) (n+1+t.length))
 (A4:∀(C E:List Int)(f:Nat),C.length=v->E.length=m->cU L v true (n+(t.length+3+D.length)) R (n+(t.length+2)+D.length) c E (mS (C++E) [] (n+(t.length+2)) f) (b ⟨C,f⟩)):
 ∀(k:Nat)(C E:List Int)(f:Nat),f<k->C.length=v->E.length=m->cU L v lp X R (n+(t.length+3+D.length)) c E (mS (C++E) [] n f) (eX (wC A9 b k ⟨C,f⟩)):=by
 have Z:(ins 11 0 0 0 0::t++[ins 10 ((t.length:Int)+3+D.length) 0 0 0]++jj (t.length+2) D++[ins 9 0 0 0 0]).length=t.length+3+D.length:=by simp;omega
 have H:=ej.out H;rw[Z]at H;have AS:=H.right 0 _ rfl;rw[Wc (a:=0) (k:=0) rfl]at AS;have Ax:ins 11 0 0 0 0::t++[ins 10 ((t.length:Int)+3+D.length) 0 0 0]++jj (t.length+2) D=jn (ins 11 0 0 0 0::t++[ins 10 ((t.length:Int)+3+D.length) 0 0 0]) D:=by simp[jn]
 have AP:=H.left;rw[Ax]at AP;have AF:=AP.JL.right 0 _ rfl;rw[JM (k:=t.length+3+D.length) (by omega)]at AF;have AQ:=AP.JL.left.head (by simp[ins]);intro k;induction k with
 |zero=>intro C E f AG;omega
 |succ k ih=>
  intro C E f AG I AB;unfold wC;rw[Fk];refine cU.tick I AQ (λg AT=>?_);rw[C9];refine cU.val I (AA C E g I AB) (λV h=>AO C V h) (λw AU _=>?_);rw[Fj,HX];have AR:=dG.one (L:=L) (by rw[show n+1+t.length=n+(ins 11 0 0 0 0::t).length+0 by simp;omega];exact AF) (by simp[ins]) (JK (K:=C++E) (S:=[]) (p:=n+1+t.length) (f:=g) (k:=w));refine cU.pre AR ?_;by_cases hw:w=0
  .rw[ac1 hw,ac1 hw];exact cU.si I
  .rw[aaf hw,aaf hw];rw[show n+1+t.length+1=n+(t.length+2) by omega];refine cU.We (A4 C E g I AB) (λs M AH J A2 O=>?_);have A5:=AE ⟨C,g⟩;rw[AH]at A5;simp only at A5;have Ay:=dG.one (L:=L) (by rw[show n+(t.length+2)+D.length=n+(ins 11 0 0 0 0::t++[ins 10 ((t.length:Int)+3+D.length) 0 0 0]++jj (t.length+2) D).length+0 by simp;omega];exact AS) (by simp[ins]) (Wb (K:=s.cells++M) (S:=[]) (p:=n+(t.length+2)+D.length) (f:=s.fuel));refine cU.pre Ay ?_;exact ih s.cells M s.fuel (by omega) J (by omega)
omit A0 A1 in
theorem aiZ{A9:List Int->Vl}{b:Mc->Rr}{t D:List ar}{n X R:Nat}{c:Int}{m:Nat}(H:ej L n X R (mK t D))(ft:Flat t)(AO:∀C V,A9 C=.f V->V≠0)(AE:∀s,(b s).2.fuel<=s.fuel)
 (AA:∀(C E:List Int)(f:Nat),C.length=v->E.length=m->MN L (C++E) [] (n+D.length+1) f (A9 C) (n+D.length+1+t.length))
 (A4:∀(C E:List Int)(f:Nat),C.length=v->E.length=m->cU L v true (n+(t.length+2+D.length)) R (n+D.length) c E (mS (C++E) [] n f) (b ⟨C,f⟩)):
 ∀(k:Nat)(C E:List Int)(f:Nat),f<k->C.length=v->E.length=m->cU L v lp X R (n+(t.length+2+D.length)) c E (mS (C++E) [] n f) (eX (wD A9 b k ⟨C,f⟩)):=by
 have Z:(D++ins 11 0 0 0 0::t++[ins 10 0 0 0 0]).length=t.length+2+D.length:=by simp;omega
 have H:=ej.out H;rw[Z]at H;have AF:=H.right 0 _ rfl;rw[JM (a:=0) (k:=0) rfl]at AF;have AQ:=(H.left.flat (Flat.cons (by simp[ins]) ft)).head (by simp[ins]);intro k;induction k with
 |zero=>intro C E f AG;omega
 |succ k ih=>
  intro C E f AG I AB;unfold wD;refine cU.We (A4 C E f I AB) (λs M AH J A2 O=>?_);have A5:=AE ⟨C,f⟩;rw[AH]at A5;simp only at A5;rw[Fk];refine cU.tick J AQ (λg AT=>?_);rw[C9];refine cU.val J (AA s.cells M g J (by omega)) (λV h=>AO s.cells V h) (λw AU _=>?_);rw[Fj,HX];have AR:=dG.one (L:=L) (by rw[show n+D.length+1+t.length=n+(D++ins 11 0 0 0 0::t).length+0 by simp;omega];exact AF) (by simp[ins]) (JK (K:=s.cells++M) (S:=[]) (p:=n+D.length+1+t.length) (f:=g) (k:=w));refine cU.pre AR ?_;by_cases hw:w=0
  .rw[ac1 hw,ac1 hw];exact ih s.cells M g (by omega) J (by omega)
  .rw[aaf hw,aaf hw];rw[show n+D.length+1+t.length+1=n+(t.length+2+D.length) by omega];exact cU.si J
omit A0 A1 in
theorem ai0(a to by_:Int):(decide (0<=by_/\a<=to)||decide (by_<0/\to<=a))=!GZ a to by_:=by
 unfold GZ;by_cases J:0<=by_
 .by_cases A2:a<=to
  .have O:¬to<a:=by omega
   have AC:¬by_<0:=by omega
   simp[J,A2,O,AC]
  .have O:to<a:=by omega
   have AC:¬by_<0:=by omega
   simp[J,A2,O,AC]
 .have AC:by_<0:=by omega
  by_cases A2:to<=a
  .have O:¬a<to:=by omega
   simp[J,A2,O,AC]
  .have O:a<to:=by omega
   simp[J,A2,O,AC]
omit A0 A1 in
theorem ai1{b:Mc->Rr}{D:List ar}{n X R:Nat}{m j:Nat}{at_ to by_:Int}(B2:0<=at_/\at_.toNat<v)(H:ej L n X R (lI at_ ((v:Int)+j) D))(AE:∀s,(b s).2.fuel<=s.fuel)
 (A4:∀(C E:List Int)(f:Nat),C.length=v->E.length=m->cU L v true (n+(D.length+8)) R (n+3+D.length) ((v:Int)+j+2) E (mS (C++E) [] (n+3) f) (b ⟨C,f⟩)):
 ∀(k:Nat)(C E:List Int)(f:Nat),f<k->C.length=v->E.length=m->E[j]?=some to->E[j+1]?=some by_->cU L v lp X R (n+(D.length+8)) ((v:Int)+j+2) E (mS (C++E) [] n f) (eX (xr at_ to by_ b k ⟨C,f⟩)):=by
 have Z:([ins 11 0 0 0 0,ins 13 at_ ((v:Int)+j) 0 0,ins 10 ((D.length:Int)+8) 0 0 0]++jj 3 D++[ins 2 at_ 0 0 0,ins 2 ((v:Int)+j+1) 0 0 0,ins 8 0 8 0 0,ins 6 at_ 0 0 0,ins 9 0 0 0 0]).length=D.length+8:=by simp
 have H:=ej.out H;rw[Z]at H;have AV:([ins 11 0 0 0 0,ins 13 at_ ((v:Int)+j) 0 0,ins 10 ((D.length:Int)+8) 0 0 0]++jj 3 D).length=3+D.length:=by simp;omega
 have AW:=H.right 0 _ rfl;have AX:=H.right 1 _ rfl;have AY:=H.right 2 _ rfl;have AZ:=H.right 3 _ rfl;have A_:=H.right 4 _ rfl;rw[wE (by simp[ins]),AV]at AW AX AY AZ;rw[Wc (a:=0) (k:=0) rfl,AV]at A_;have Aa:=H.left.left 0 _ rfl;have Y:=H.left.left 1 _ rfl;have A':=H.left.left 2 _ rfl;rw[wE (by simp[ins])]at Aa Y;rw[JM (k:=D.length+8) (by omega)]at A';intro k;induction k with
 |zero=>intro C E f AG;omega
 |succ k ih=>
  intro C E f AG I AB AA Ab;unfold xr;rw[Fk];refine cU.tick I Aa (λg AT=>?_);rw[Fj,HX];have s1:=dG.one (L:=L) Y (by simp[ins]) (anE (K:=C++E) (S:=[]) (p:=n+1) (f:=g));have Az:tM (C++E) (ins 13 at_ ((v:Int)+j) 0 0)=!GZ (jB C at_) to by_:=by
   rw[<-ai0];unfold tM ins;simp only
   rw[sQ (C:=C) (E:=E) (k:=at_) (by omega),<-I,Gl AA,show (C.length:Int)+j+1=(C.length:Int)+((j+1:Nat):Int) by omega,Gl Ab]
  rw[Az]at s1;have s2:=dG.one (L:=L) A' (by simp[ins]) (JK (K:=C++E) (S:=[]) (p:=n+2) (f:=g) (k:=cg (!GZ (jB C at_) to by_)));refine cU.pre s1 (cU.pre s2 ?_);cases hu:GZ (jB C at_) to by_ with
  |true=>
   rw[ac1 (show cg (!true)=0 from rfl),ac1 (show true=true from rfl)];exact cU.si I
  |false=>
   rw[aaf (show ¬cg (!false)=0 by decide),aaf (show ¬(false=true) by decide)];refine cU.We (A4 C E g I AB) (λs M AH J A2 O=>?_);have A5:=AE ⟨C,g⟩;rw[AH]at A5;simp only at A5;have B':M[j]?=some to:=(O j (by omega)).trans AA;have Ac:M[j+1]?=some by_:=(O (j+1) (by omega)).trans Ab;have q0:=dG.one (L:=L) (by rw[show n+3+D.length=n+(3+D.length)+0 by omega];exact AW) (by simp[ins]) (V9 (K:=s.cells++M) (S:=[]) (p:=n+3+D.length) (f:=s.fuel));rw[sQ (by omega)]at q0;have q1:=dG.one (L:=L) (by rw[show n+3+D.length+1=n+(3+D.length)+1 by omega];exact AX) (by simp[ins]) (V9 (K:=s.cells++M) (S:=[]++[jB s.cells at_]) (p:=n+3+D.length+1) (f:=s.fuel));rw[show fo (s.cells++M) ((v:Int)+j+1)=by_ by rw[<-J,show (s.cells.length:Int)+j+1=(s.cells.length:Int)+((j+1:Nat):Int) by omega];exact Gl Ac]at q1;have q2:=Qp (S:=[]) (q:=n+3+D.length) (dG.trans q0 q1) (by rw[show n+3+D.length+1+1=n+(3+D.length)+2 by omega];exact AY) (by simp[ins]) (Wa (by decide));rw[show decide ((0:Int)=1)=false by decide]at q2;rw[C9];have q3:MN L (s.cells++M) [] (n+3+D.length) s.fuel (ou 8 [jB s.cells at_,by_] false) (n+3+D.length+1+1+1):=q2;refine cU.val J q3 (λV h=>adW h) (λw AU _=>?_);have Ad:=dG.one (L:=L) (by rw[show n+3+D.length+1+1+1=n+(3+D.length)+3 by omega];exact AZ) (by simp[ins]) (HV (K:=s.cells++M) (S:=[]) (p:=n+3+D.length+1+1+1) (f:=s.fuel) (k:=w));rw[zj (by omega)]at Ad;have B0:=dG.one (L:=L) (by rw[show n+3+D.length+1+1+1+1=n+(3+D.length)+4 by omega];exact A_) (by simp[ins]) (Wb (K:=eP s.cells at_ w++M) (S:=[]) (p:=n+3+D.length+1+1+1+1) (f:=s.fuel));refine cU.pre Ad (cU.pre B0 ?_);exact ih (eP s.cells at_ w) M s.fuel (by omega) (by simpa using J) (by omega) B' Ac
end
def Fm(vs:List Vr)(l:List Sm)(s:Mc):(bX vs l s).2.fuel<=s.fuel:=(Ad (vs:=vs) 0 l s).le
section
variable {L:List ar} {vs:List Vr} {v:Nat} {lp:Bool} (J:∀w∈vs,dr w=true) (M:(v:Int)=bW vs)
include J M
theorem ai3{to val:Ex}{b:List Sm}{line:Int}(O:bm val=true)(A2:(aE vs val).e=0)(A4:Fl L vs v true b):
 Qt L vs v lp (.mk 5 [] to val [] [] [] [b] line) (λs=>eX (wC (λC=>bN vs C val) (λq=>bX vs b q) (s.fuel+1) s)):=by
 intro n X R c C E f A5 T H D;have e:b8 vs (.mk 5 [] to val [] [] [] [b] line) c=(iK (ai vs val).1 (ag vs b c).1,(ag vs b c).2):=by simp[b8,lJ]
 rw[e]at T H⊢;simp only at T H⊢;have V:(iK (ai vs val).1 (ag vs b c).1).length=(ai vs val).1.length+3+(ag vs b c).1.length:=by simp[iK];omega
 rw[V];have AE:=ej.out H;have Aj:ins 11 0 0 0 0::(ai vs val).1++[ins 10 (((ai vs val).1.length:Int)+3+(ag vs b c).1.length) 0 0 0]++jj ((ai vs val).1.length+2) (ag vs b c).1=jn (ins 11 0 0 0 0::(ai vs val).1++[ins 10 (((ai vs val).1.length:Int)+3+(ag vs b c).1.length) 0 0 0]) (ag vs b c).1:=by simp[jn]
 have AQ:=AE.left;rw[Aj]at AQ;have AR:=AQ.JL.left.tail (jV val O A2);have AA:=AQ.MM;refine aiW (m:=E.length) H (jV val O A2) (λC A0 h=>qP C val A0 h) (λs=>Fm vs b s) (λC E f D _=>?_) (λC AC f D AZ=>?_) (f+1) C E f (by omega) D rfl
 .exact qw (L:=L) J M val O A2 (n+1) _ _ C E [] f D AR
 .have:=A4 (n+((ai vs val).1.length+2)) (n+((ai vs val).1.length+3+(ag vs b c).1.length)) R c C AC f A5 (by omega) (by
   have Y:=AA;simp only[ei,acY,ac5,ac7,mP]at Y;rw[show n+((ai vs val).1.length+1+(0+1))=n+((ai vs val).1.length+2) by omega,show n+((ai vs val).1.length+1+(0+1)+(ag vs b c).1.length+(0+1))=n+((ai vs val).1.length+3+(ag vs b c).1.length) by omega]at Y;exact Y) D
  exact this
theorem ai4{to val:Ex}{b:List Sm}{line:Int}(O:bm val=true)(A2:(aE vs val).e=0)(A4:Fl L vs v true b):
 Qt L vs v lp (.mk 6 [] to val [] [] [] [b] line) (λs=>eX (wD (λC=>bN vs C val) (λq=>bX vs b q) (s.fuel+1) s)):=by
 intro n X R c C E f A5 T H D;have e:b8 vs (.mk 6 [] to val [] [] [] [b] line) c=(mK (ai vs val).1 (ag vs b c).1,(ag vs b c).2):=by simp[b8,lJ]
 rw[e]at T H⊢;simp only at T H⊢;have V:(mK (ai vs val).1 (ag vs b c).1).length=(ai vs val).1.length+2+(ag vs b c).1.length:=by simp[mK];omega
 rw[V];have AE:=ej.out H;have AR:=(AE.left.flat (Flat.cons (by simp[ins]) (jV val O A2))).tail (jV val O A2);have AA:=AE.left.left;refine aiZ (m:=E.length) H (jV val O A2) (λC A0 h=>qP C val A0 h) (λs=>Fm vs b s) (λC E f D _=>?_) (λC AC f D AZ=>?_) (f+1) C E f (by omega) D rfl
 .exact qw (L:=L) J M val O A2 _ _ _ C E [] f D AR
 .exact A4 n (n+((ai vs val).1.length+2+(ag vs b c).1.length)) R c C AC f A5 (by omega) (by
   have Y:=AA;simp only[acY,ac5,ac7]at Y;rw[show n+((ag vs b c).1.length+((ai vs val).1.length+1)+(0+1))=n+((ai vs val).1.length+2+(ag vs b c).1.length) by omega]at Y;exact Y) D
theorem ai5{name:Tx}{to val x y z:Ex}{b:List Sm}{line:Int}{w:Vr}(hw:bj vs name=some w)(AS:w.arr=false)(Z:w.ty=1)(AT:bm x=true)(ex:(aE vs x).e=0)(AK:bm y=true)(A_:(aE vs y).e=0)(AL:bm z=true)(Aa:(aE vs z).e=0)(A4:Fl L vs v true b):
 Qt L vs v lp (.mk 4 name to val [x,y,z] [] [] [b] line) (λs=>eX (wZ vs name [x,y,z] (λq=>bX vs b q) s)):=by
 intro n X R c C E f A5 T H D;obtain⟨j,rfl⟩:∃j:Nat,c=(v:Int)+j:=⟨(c-v).toNat,by omega⟩;have e:b8 vs (.mk 4 name to val [x,y,z] [] [] [b] line) ((v:Int)+j)=(jn ((((ai vs x).1++(ai vs y).1)++(ai vs z).1)++[ins 6 ((v:Int)+j+1) 0 0 0,ins 6 ((v:Int)+j) 0 0 0,ins 6 (bu vs name).1 0 0 0]) (lI (bu vs name).1 ((v:Int)+j) (ag vs b ((v:Int)+j+2)).1),(ag vs b ((v:Int)+j+2)).2):=by simp[b8,lJ,gO]
 have Ax:=gx (vs:=vs) b ((v:Int)+j+2);rw[e]at T H⊢;simp only at T H⊢;have AM:=C6 J M (u4 (cells:=v) J (by omega) hw (by simp[AS]) (by omega));have AF:=H.JL;have AU:=H.MM;have AD:eX (wZ vs name [x,y,z] (λq=>bX vs b q) ⟨C,f⟩)=vR (bN vs C x) ⟨C,f⟩ (λfrom_=>vR (bN vs C y) ⟨C,f⟩ (λAk=>vR (bN vs C z) ⟨C,f⟩ (λby_=>eX (xr (bu vs name).1 Ak by_ (λq=>bX vs b q) (f+1) ⟨eP C (bu vs name).1 from_,f⟩)))):=by
  simp only[wZ,C9]
 rw[AD];refine cU.val D (qw (L:=L) J M x AT ex n X R C E [] f D AF.left.left.left) (λA0 h=>qP C x A0 h) (λAG t1 _=>?_);refine cU.val D (qw (L:=L) J M y AK A_ _ X R C E ([]++[AG]) f D (AF.left.left.flat (jV y AK A_))) (λA0 h=>qP C y A0 h) (λA6 t2 _=>?_);have Ab:=AF.left.flat (jV z AL Aa);rw[acY,<-adv]at Ab;refine cU.val D (qw (L:=L) J M z AL Aa _ X R C E ([]++[AG]++[A6]) f D Ab) (λA0 h=>qP C z A0 h) (λA3 t3 _=>?_);generalize Ac:n+(ai vs x).1.length+(ai vs y).1.length+(ai vs z).1.length=p;have Al:n+(((ai vs x).1++(ai vs y).1)++(ai vs z).1).length=p:=by rw[<-Ac];simp;omega
 have Ae:=AF.right 0 _ rfl;have Af:=AF.right 1 _ rfl;have Ag:=AF.right 2 _ rfl;rw[wE (by simp[ins]),Al]at Ae Af Ag;have An:j+1<E.length:=by omega
 have s0:=dG.one (L:=L) Ae (by simp[ins]) (HV (K:=C++E) (S:=[]++[AG]++[A6]) (p:=p+0) (f:=f) (k:=A3));rw[show oP (C++E) ((v:Int)+j+1) A3=C++E.set (j+1) A3 by rw[<-D,show (C.length:Int)+j+1=(C.length:Int)+((j+1:Nat):Int) by omega];exact HY]at s0;have s1:=dG.one (L:=L) Af (by simp[ins]) (HV (K:=C++E.set (j+1) A3) (S:=[]++[AG]) (p:=p+1) (f:=f) (k:=A6));rw[show oP (C++E.set (j+1) A3) ((v:Int)+j) A6=C++(E.set (j+1) A3).set j A6 by rw[<-D];exact HY]at s1;have s2:=dG.one (L:=L) Ag (by simp[ins]) (HV (K:=C++(E.set (j+1) A3).set j A6) (S:=[]) (p:=p+2) (f:=f) (k:=AG));rw[zj (by omega)]at s2;refine cU.pre s0 (cU.pre s1 (cU.pre s2 ?_));have AV:n+((((ai vs x).1++(ai vs y).1)++(ai vs z).1)++[ins 6 ((v:Int)+j+1) 0 0 0,ins 6 ((v:Int)+j) 0 0 0,ins 6 (bu vs name).1 0 0 0]).length=p+2+1:=by rw[<-Ac];simp;omega
 rw[ei,<-adv];rw[AV]at AU⊢;have Ao:(lI (bu vs name).1 ((v:Int)+j) (ag vs b ((v:Int)+j+2)).1).length=(ag vs b ((v:Int)+j+2)).1.length+8:=by simp[lI]
 rw[Ao];have AE:=ej.out AU;have AW:[ins 11 0 0 0 0,ins 13 (bu vs name).1 ((v:Int)+j) 0 0,ins 10 (((ag vs b ((v:Int)+j+2)).1.length:Int)+8) 0 0 0]++jj 3 (ag vs b ((v:Int)+j+2)).1=jn [ins 11 0 0 0 0,ins 13 (bu vs name).1 ((v:Int)+j) 0 0,ins 10 (((ag vs b ((v:Int)+j+2)).1.length:Int)+8) 0 0 0] (ag vs b ((v:Int)+j+2)).1:=by simp[jn]
 have AA:=AE.left;rw[AW]at AA;have AA:=AA.MM;have Ah:((E.set (j+1) A3).set j A6).length=E.length:=by simp
 have:=ai1 (L:=L) (lp:=lp) (m:=E.length) (to:=A6) (by_:=A3) ⟨AM.2,AM.1⟩ AU (λs=>Fm vs b s) (λC AC f D AZ=>A4 (p+2+1+3) (p+2+1+((ag vs b ((v:Int)+j+2)).1.length+8)) R ((v:Int)+j+2) C AC f (by omega) (by omega) (by
  have Y:=AA;simp only[ei,acY,ac5,ac7,mP]at Y;rw[show p+2+1+(0+1+1+1+(ag vs b ((v:Int)+j+2)).1.length+(0+1+1+1+1+1))=p+2+1+((ag vs b ((v:Int)+j+2)).1.length+8) by omega]at Y;exact Y) D) (f+1) (eP C (bu vs name).1 AG) ((E.set (j+1) A3).set j A6) f (by omega) (by simpa using D) Ah (by rw[ai9];simp;omega) (by rw[al3 (by omega),ai9];simp[An])
 exact (this.Qs (by omega)).kept Ah (λi hi=>by rw[al3 (by omega),al3 (by omega)])
theorem Zi{name:Tx}{w:Vr}{line:Int}(hw:bj vs name=some w)(Z:2<w.ty):∀(fs:List Tx)(xs:List Ex)(pp:List Tx)(n X R:Nat)(c:Int)(C E:List Int)(f:Nat),xs.length=fs.length->bI xs=true->(iU vs w.ty line fs xs pp).1=0->ej L n X R (dC vs name fs xs)->C.length=v->
 cU L v lp X R (n+(dC vs name fs xs).length) c E (mS (C++E) [] n f) (ko vs name fs xs ⟨C,f⟩)
 |[],[],pp,n,X,R,c,C,E,f,V,I,h,H,D=>by
  have e:dC vs name [] []=[]:=by simp[dC]
  have AD:ko vs name [] [] ⟨C,f⟩=(.on,⟨C,f⟩):=by simp[ko]
  rw[e,AD];exact cU.si D
 |[],_::_,pp,n,X,R,c,C,E,f,V,I,h,H,D=>by simp at V
 |_::_,[],pp,n,X,R,c,C,E,f,V,I,h,H,D=>by simp at V
 |fl::fs,x::xs,pp,n,X,R,c,C,E,f,V,I,h,H,D=>by
  have AN:=yf (fl::fs) (x::xs) pp V h;simp only[bI,Ds]at I;have ex:=AN x (by simp);unfold iU at h;cases Y:mn w.ty fl with
  |none=>rw[Y]at h;simp at h
  |some q=>
   rw[Y]at h;simp only at h;by_cases A':q.Mv=false
   .rw[ac1 A']at h;simp at h
   .rw[aaf A']at h;by_cases U:fl∈pp
    .rw[ac1 U]at h;simp at h
    .rw[aaf U]at h;obtain⟨_,AB⟩:=bM.1 h;obtain⟨q1,q2,j,q3,Ay⟩:=qM hw Z Y;have A1:=nh (cells:=v) J (by omega) hw Z;have AM:(eH vs name fl).1.toNat<C.length:=by rw[q3];omega
     have e:dC vs name (fl::fs) (x::xs)=((ai vs x).1++[ins 6 (eH vs name fl).1 0 0 0])++dC vs name fs xs:=by simp[dC]
     have AD:ko vs name (fl::fs) (x::xs) ⟨C,f⟩=vR (bN vs C x) ⟨C,f⟩ (λk=>ko vs name fs xs ⟨eP C (eH vs name fl).1 k,f⟩):=by simp[ko]
     rw[e]at H⊢;rw[AD];refine cU.val D (qw (L:=L) J M x I.1 ex n X R C E [] f D H.left.left) (λA0 h=>qP C x A0 h) (λk t _=>?_);have s:=dG.one (L:=L) (H.left.last (by simp[ins])) (by simp[ins]) (HV (K:=C++E) (S:=[]) (p:=n+(ai vs x).1.length) (f:=f) (k:=k));rw[zj AM]at s;refine cU.pre s ?_;have Ap:∀y∈xs,(aE vs y).e=0:=λy AO=>AN y (by simp[AO]);have:=Zi hw Z fs xs (pp++[fl]) (n+((ai vs x).1++[ins 6 (eH vs name fl).1 0 0 0]).length) X R c (eP C (eH vs name fl).1 k) E f (by simpa using V) I.2 AB (H.flat (HS fs xs I.2 Ap)) (by simpa using D);rw[acY,<-adv];rw[show n+(ai vs x).1.length+1=n+((ai vs x).1++[ins 6 (eH vs name fl).1 0 0 0]).length by simp;omega];exact this
omit J M in
theorem abU{C:List Int}{a k:Int}(h:a.toNat+(dQ k).length<=C.length):(tO C a k).length=C.length:=by
 unfold tO;simp only[acY,ag6,agU,wo];omega
omit J M in
theorem Wf{C E:List Int}{a k:Int}(h:a.toNat+(dQ k).length<=C.length):pb (ins 12 a k 0 0) (C++E)=tO C a k++E:=by
 have e:=V8 k;unfold DN at e;unfold pb tO ins;simp only[<-e];rw[ahb (by omega),apV (by omega),apV (by omega),ahb (by rw[agU];omega)];simp
theorem ai6{name:Tx}{to val:Ex}{conds:List Ex}{fields:List Tx}{line:Int}{w:Vr}(hw:bj vs name=some w)(Z:2<w.ty)(AH:bI conds=true)(V:conds.length=fields.length)(h:(iU vs w.ty line fields conds []).1=0):
 Qt L vs v lp (.mk 9 name to val conds [] fields [] line) (nH vs name fields conds):=by
 intro n X R c C E f A5 T H D;have e:b8 vs (.mk 9 name to val conds [] fields [] line) c=(dC vs name fields conds++[ins 12 (bu vs name).1 w.ty 0 0],c):=by simp[b8,eI hw]
 rw[e]at T H⊢;simp only at T H⊢;have A1:=nh (cells:=v) J (by omega) hw Z;unfold nH;refine cU.bind (Zi J M hw Z fields conds [] n X R c C E f V AH h H.left D) (λs AC A' U AB=>?_);have s1:=dG.one (L:=L) (H.last (by simp[ins])) (by simp[ins]) (anD (K:=s.cells++AC) (S:=[]) (p:=n+(dC vs name fields conds).length) (f:=s.fuel));have Ai:(bu vs name).1.toNat+(dQ w.ty).length<=s.cells.length:=by omega
 rw[Wf Ai]at s1;refine cU.pre s1 ?_;rw[eI hw];rw[show n+(dC vs name fields conds++[ins 12 (bu vs name).1 w.ty 0 0]).length=n+(dC vs name fields conds).length+1 by simp;omega];exact cU.si (by rw[abU Ai];exact A')
theorem ai7{x:Sm}(I:j9 x=true)(h:(lA vs lp x).1=0)(A4:∀(lp:Bool) (cs:List Ex),cu (aP x)=true->(fj vs lp cs (aP x)).1=0->∀b∈aP x,Fl L vs v lp b):Zd L vs v lp x:=by
 have hm:=BU I h;have AX:∀b,aP x=[b]->eA b=true->(fa vs true b).1=0->Fl L vs v true b:=λb AY AD AW=>A4 true [] (by rw[AY];simp[cu,AD]) (by rw[AY];simp[fj,gS,AW]) b (by rw[AY];simp);cases hm with
 |@Tc to val line w A7 hw Aq ft Ar O A2 Z=>exact Da (λs=>by simp[iw]) (aiT J M A7 hw ft Ar O A2)
 |@Td to val conds blocks line A7 AP AH A' U AB A8 hh=>
  refine Da (F:=λs=>gJ vs blocks conds s) (λs=>by simp[iw]) ?_;intro n X R c C E f A5 T H D;have e:b8 vs (.mk 2 [] to val conds [] [] blocks line) c=(cF (conds.map λx=>(ai vs x).1) (ay vs blocks c).1,(ay vs blocks c).2):=by simp[b8]
  rw[e]at T H⊢;have AN:∀y∈conds,bm y=true/\(aE vs y).e=0:=λy AO=>⟨(fT _).1 AH y AO,(fM (sN U hh y AO)).1⟩;exact Ze J M blocks conds n X R c C E f (A4 lp conds A8 hh) AN AB A5 T H D
 |@Tf to val As blocks line A7 O AI U AB Az A8 hh=>exact Da (λs=>by simp[iw]) (aiV J M O (fM AI).1 AB (A4 lp [] A8 hh))
 |@Tg name to val x y z b line w AV A7 AP hw Aq AS Z AT At AK Au AL Av A8 hh=>exact Da (λs=>by simp[iw,lR]) (ai5 J M hw AS Z AT (fM At).1 AK (fM Au).1 AL (fM Av).1 (AX b (by simp[aP]) A8 hh))
 |@Th to val b line A7 O AI A8 hh=>exact Da (λs=>by simp[iw,lR]) (ai3 J M O (fM AI).1 (AX b (by simp[aP]) A8 hh))
 |@rep to val b line A7 O AI A8 hh=>exact Da (λs=>by simp[iw,lR]) (ai4 J M O (fM AI).1 (AX b (by simp[aP]) A8 hh))
 |@ext to val line A7 AP Aw=>
  refine Da (F:=λs=>(.lv,s)) (λs=>by simp[iw]) ?_;intro n X R c C E f A5 T H D;have e:b8 vs (.mk 7 [] to val [] [] [] [] line) c=([ins 9 (-1) 0 0 0],c):=by simp[b8]
  rw[e]at H⊢;have A9:=H 0 _ rfl;have s:=dG.one (L:=L) A9 (by simp[rU,ins]) (show bB (rU n X R (ins 9 (-1) 0 0 0)) (mS (C++E) [] (n+0) f)=mS (C++E) [] X f by simp[rU,ins,bB,dI,fZ,mS]);exact⟨_,s,E,rfl,D,rfl,λ_ _=>rfl,rfl,Aw,rfl,rfl,rfl⟩
 |@ret to val line A7 AP=>
  refine Da (F:=λs=>(.rt,s)) (λs=>by simp[iw]) ?_;intro n X R c C E f A5 T H D;have e:b8 vs (.mk 8 [] to val [] [] [] [] line) c=([ins 9 (-2) 0 0 0],c):=by simp[b8]
  rw[e]at H⊢;have A9:=H 0 _ rfl;have s:=dG.one (L:=L) A9 (by simp[rU,ins]) (show bB (rU n X R (ins 9 (-2) 0 0 0)) (mS (C++E) [] (n+0) f)=mS (C++E) [] R f by simp[rU,ins,bB,dI,fZ,mS]);exact⟨_,s,E,rfl,D,rfl,λ_ _=>rfl,rfl,rfl,rfl,rfl⟩
 |@Ti name to val conds fields line w AV A7 AP hw Z AH V B' hh=>exact Da (λs=>by simp[iw]) (ai6 J M hw Z AH V hh)
mutual
theorem aja:∀(x:Sm)(lp:Bool),j9 x=true->(lA vs lp x).1=0->Zd L vs v lp x
 | .mk op name to val conds As fields blocks line,lp,I,h=>ai7 J M I h (λlp cs A' U=>HZ blocks lp cs A' U)
theorem Db:∀(l:List Sm)(lp:Bool),eA l=true->(fa vs lp l).1=0->∀x∈l,Zd L vs v lp x
 |[],_,_,_,x,A9=>absurd A9 (adL)
 |y::r,lp,I,h,x,A9=>by
  simp only[eA,Ds]at I;simp only[fa]at h;obtain⟨A',U⟩:=bM.1 h;rcases ac4.1 A9 with AJ|A9
  .rw[AJ];exact aja y lp I.1 A'
  .exact Db r lp I.2 U x A9
theorem HZ:∀(l:List (List Sm))(lp:Bool)(cs:List Ex),cu l=true->(fj vs lp cs l).1=0->∀b∈l,Fl L vs v lp b
 |[],_,_,_,_,b,A1=>absurd A1 (adL)
 |y::r,lp,[],I,h,b,A1=>by
  simp only[cu,Ds]at I;simp only[fj]at h;obtain⟨A',U⟩:=bM.1 h;rcases ac4.1 A1 with AJ|A1
  .rw[AJ];exact NQ y (Db y lp I.1 A')
  .exact HZ r lp [] I.2 U b A1
 |y::r,lp,c::cs,I,h,b,A1=>by
  simp only[cu,Ds]at I;simp only[fj]at h;obtain⟨A',U⟩:=bM.1 h;obtain⟨U,AB⟩:=bM.1 U;rcases ac4.1 A1 with AJ|A1
  .rw[AJ];exact NQ y (Db y lp I.1 U)
  .exact HZ r lp cs I.2 AB b A1
end
end
def Qu{P:Program}{w:World}{n:String}{d:DataW Unit}:∀{l:List (String×DataW Unit)}{ps:List MemPlace},DataW.LaidVars P w l ps->(n,d)∈l->
 ∃g t cs fuel p,P.globalNamed n=some g/\(P.globals[g]?).map (·.type)=some t/\w.var? P n=some cs/\DataW.trod (λ_=>()) P w 0 (λ_=>true) false fuel t cs.toList=some (d,p)
 |[],_,_,hm=>by simp at hm
 |(AF,AG)::r,ps,⟨g,t,cs,fuel,p,q,V,O,I,T,U,_⟩,hm=>by
  rcases ac4.1 hm with hm|hm
  .cases hm;exact⟨g,t,cs,fuel,p,V,O,I,T⟩
  .exact Qu U hm
def Zj{H:Type}{enc:TypeId×Value->H}{P:Program}{w:World}{base:Nat}{sp:Nat->Bool}{held:Bool}{fuel:Nat}{t e:TypeId}{n:Nat}{k:IntKind}{cs:List Value}{Z:List (DataW H)}{p:List MemPlace}
 (y:P.underlying t=some (.array n e)) (he:P.underlying e=some (.int k)) (A':P.cellsOf e=1) (h:DataW.trod enc P w base sp held fuel t cs=some (.agg Z,p)):
 cs.length=P.cellsOf t/\Z.length=n/\∀i,i<n->∃z,cs[i]?=some (.int k z)/\Z[i]?=some (.lit (.int k z)):=by
 cases fuel with
 |zero=>simp[DataW.trod]at h
 |succ m=>
  unfold DataW.trod at h;rw[y]at h;simp only at h;split at h
  .rename_i A0;simp only[ac3,aeb,DataW.agg.injEq]at h;obtain⟨xs,A3,rfl,_⟩:=h;have V:xs.length=n:=by simpa using mapM_some_length A3
   refine⟨A0,by simpa using V,λi hi=>?_⟩;have O:=mapM_some_get A3 i i (by simp[hi]);have I:i<xs.length:=by omega
   have T:xs[i]?=some xs[i]:=by simp[I]
   rw[T,A']at O;obtain⟨z,U,A1,_⟩:=DataW.trod_int he O;refine⟨z,?_,by simp[T,A1]⟩;have Y:=ahw (·[0]?) U;simpa [adq,adR]using Y
  .cases h
def Qv{P:Program}{W:World}{l:List (String×DataW Unit)}{name:String}{g:Nat}{t e:TypeId}{n:Nat}{k:IntKind}{zs:List Int}
 (A0:laidMet P l W) (hm:(name,DataW.agg (zs.map λz=>.lit (.int k z)))∈l) (A2:P.globalNamed name=some g) (AA:(P.globals[g]?).map (·.type)=some t)
 (y:P.underlying t=some (.array n e)) (he:P.underlying e=some (.int k)) (A':P.cellsOf e=1) (AH:0<n) (AB:P.cellsOf t=n):
 (g<W.heap.size/\∀cs,D.agg (zs.map λz=>.int k z)=.agg cs->∃cur e A4,W.heap[g]?=some (.cells cur e A4)/\cur.size=cs.length)/\∃A5,aR W (λ_=>False) (.agg (zs.map λz=>.int k z)) A5/\∀(i:Nat)(c:Value),A5.cells[i]?=some c->W.cell? ⟨g,i,none⟩=some c:=by
 obtain⟨ps,M,_⟩:=A0;obtain⟨AI,AJ,cs,fuel,p,V,O,I,T⟩:=Qu M hm;obtain rfl:=aiX (A2.symm.trans V);obtain rfl:=aiX (AA.symm.trans O);obtain⟨A6,U,A1⟩:=Zj y he A' T;rw[AB]at A6;simp at U;have Y:∀i z,zs[i]?=some z->W.cell? ⟨g,i,none⟩=some (.int k z):=by
  intro i z J;have hi:i<n:=by
   have:=(aap.1 J).1;omega
  obtain⟨AC,AD,A7⟩:=A1 i hi;simp[J]at A7;subst A7;rw[World.var?_cell A2 I i];simpa using AD
 refine⟨⟨?_,?_⟩,.agg (zs.map λz=>Value.int k z).toArray,?_,?_⟩
 .have J:∃z,zs[0]?=some z:=⟨zs[0]'(by omega),by simp[show 0<zs.length by omega]⟩
  obtain⟨z,J⟩:=J;exact (HP (Y 0 z J)).1
 .rintro AK AE;obtain rfl:=D.agg.inj AE;unfold World.var? at I;rw[A2]at I;simp only[ad8]at I;split at I
  .rename_i cur e' A4 hh;cases I;exact⟨_,_,_,hh,by simp at U A6⊢;omega⟩
  .cases I
 .refine aR.ss (by simp) (λv M=>?_) (λi c v A8 M=>?_)
  .simp at M;obtain⟨z,_,rfl⟩:=M;rfl
  .simp only[adn,ac3]at A8 M;obtain⟨z,J,rfl⟩:=A8;obtain⟨AC,A9,rfl⟩:=M;rw[J]at A9;cases A9;exact .int k z
 .intro i c hi;simp[Value.cells]at hi;obtain⟨z,J,rfl⟩:=hi;exact Y i z J
end Go.Am
end
section
namespace Go.Am
open Go
variable {H:Type} {enc:TypeId×Value->H}
theorem Wg{a:Assume}{C:Checked}{os:Os}{f:FuncId}{fn:Func}{s:OpenSpec}{k:(H:Type)->List (DataW H)->Bool}(J:s.cond=some k){conds:List PathCond}{apart fresh handsOn again:Bool}{X:World->Array Value->Prop}{F:Stop.Interp}
 (M:∀(w w':World)(args:Array Value),w.heap=w'.heap->X w args->X w' args)
 (own:ownKnob C.prog.godebug=none) (started:os.Started) (A':C.prog.inits.idxOf? f=none) (A0:C.prog.funcs[f]?=some fn)
 (witness:∃(w:World)(tape:Tape)(i:Input),w.os=os/\(w.forCall tape i).Shaped C.prog/\i.vars=[]/\Input.okWide C.prog (w.forCall tape i) .any w.heap.size f i/\
  ((s.pre enc C.prog fn conds apart (w.forCall tape i).memory i.args/\X (w.forCall tape i).memory i.args)/\sizedMet enc C.prog fn s apart (w.forCall tape i).memory i.args)/\a.holds C.prog (lone (Frame.enter C.prog f i.args .normal) [] (w.forCall tape i)))
 (A1:∀(W:World)(base:Nat)(args:Array Value)(T gs:List (DataW H))(before:List MemPlace),
  (∀(j:Nat) t v,fn.params[j]?=some t->args[j]?=some v->Value.okWide C.prog W .any base t v)->
  DataW.Whole enc C.prog fn.params.toList s.vars apart W args.toList T gs before->k H (T++gs)=true->X W args->W.ShapedOpen C.prog->
  Calls C.prog f args W λe y=>∃v,e=.returned v/\(s.at F).post enc C.prog fn apart fresh handsOn again W args v y):
 ReturnsInHanded a C os f .any (λw args=>(s.pre enc C.prog fn conds apart w args/\X w args)/\sizedMet enc C.prog fn s apart w args) ((s.at F).post enc C.prog fn apart fresh handsOn again):=by
 refine returnsInHanded_of_calls own started A' witness ?_;intro w tape i _ O _ I A2 _;obtain⟨_,_,_,A3,A4,_,_,_,_,A5⟩:=I;have e:A3=fn:=aiX (A4.symm.trans A0);subst e;obtain⟨⟨U,D⟩,A8⟩:=A2;obtain⟨T,gs,before,hw,A9,V⟩:=(OpenSpec.pre_some J conds apart _ _).1 U;have A6:=DataW.Whole.of_heap (w':=w.forCall tape i) (by rfl) hw;refine (A1 (w.forCall tape i) w.heap.size i.args T gs before A5 A6 V (M _ _ _ (by rfl) D) O).mono λe y ⟨v,he,U⟩=>?_;subst he;exact ChangeSpec.post_blind U
theorem JP{C:Checked}{os:Os}{f:FuncId}{fn:Func}{s:OpenSpec}{k:(H:Type)->List (DataW H)->Bool}(J:s.cond=some k){conds:List PathCond}{apart:Bool}{X:World->Array Value->Prop}(modest:Bool)(w0:World)(args:Array Value)(fuel:Nat)(Y:w0.os=os)
 (O:(w0.forCall (λ_ _=>0) ⟨#[],args,[]⟩).Shaped C.prog)
 (I:Input.okWideB C.prog (w0.forCall (λ_ _=>0) ⟨#[],args,[]⟩) f ⟨#[],args,[]⟩=true)
 {x:List (DataW H)×List (DataW H)×List MemPlace} (D:DataW.whole enc C.prog (w0.forCall (λ_ _=>0) ⟨#[],args,[]⟩).memory fn.params.toList s.vars apart args.toList fuel=some x)
 (A7:conds.all (PathCond.test C.prog ⟨fn.params.toList,x.1,s.bare.plain.varTypes C.prog,x.2.1⟩)=true) (V:k H (x.1++x.2.1)=true)
 (Z:s.bare.sizedB enc C.prog fn apart (w0.forCall (λ_ _=>0) ⟨#[],args,[]⟩).memory args fuel=true)
 (M:X (w0.forCall (λ_ _=>0) ⟨#[],args,[]⟩).memory args):
 ∃(w:World)(tape:Tape)(i:Input),w.os=os/\(w.forCall tape i).Shaped C.prog/\i.vars=[]/\Input.okWide C.prog (w.forCall tape i) .any w.heap.size f i/\
  ((s.pre enc C.prog fn conds apart (w.forCall tape i).memory i.args/\X (w.forCall tape i).memory i.args)/\sizedMet enc C.prog fn s apart (w.forCall tape i).memory i.args)/\({modest:=modest}:Assume).holds C.prog (lone (Frame.enter C.prog f i.args .normal) [] (w.forCall tape i)):=
 ⟨w0,λ_ _=>0,⟨#[],args,[]⟩,Y,O,(Input.okWide_of_okWideB (base:=0) I).1,(Input.okWide_of_okWideB I).2,
  ⟨⟨(OpenSpec.pre_some J conds apart _ _).2 ⟨x.1,x.2.1,x.2.2,DataW.Whole_of_whole D,A7,V⟩,M⟩,sizedMet_of_sizedB Z⟩,by
  simp only[Assume.holds];exact⟨by simp,by simp,λ_=>Modest.zero,by simp,by simp⟩⟩
def Zk{H:Type}(enc:TypeId×Value->H)(P:Program)(s:OpenSpec)(k:(H:Type)->List (DataW H)->Bool)(conds:List PathCond)(apart:Bool)(w:World)(ts:List TypeId)(args:List Value)(fuel:Nat):Bool:=
 match DataW.whole enc P w ts s.vars apart args fuel with
 |some x=>conds.all (PathCond.test P ⟨ts,x.1,s.bare.plain.varTypes P,x.2.1⟩)&&k H (x.1++x.2.1)
 |none=>false
theorem JQ{C:Checked}{os:Os}{f:FuncId}{fn:Func}{s:OpenSpec}{k:(H:Type)->List (DataW H)->Bool}(J:s.cond=some k){conds:List PathCond}{apart:Bool}{X:World->Array Value->Prop}(modest:Bool)(w0:World)(args:Array Value)(fuel:Nat)(Y:w0.os=os)
 (O:(w0.forCall (λ_ _=>0) ⟨#[],args,[]⟩).Shaped C.prog)
 (I:Input.okWideB C.prog (w0.forCall (λ_ _=>0) ⟨#[],args,[]⟩) f ⟨#[],args,[]⟩=true)
 (D:Zk enc C.prog s k conds apart (w0.forCall (λ_ _=>0) ⟨#[],args,[]⟩).memory fn.params.toList args.toList fuel=true)
 (Z:s.bare.sizedB enc C.prog fn apart (w0.forCall (λ_ _=>0) ⟨#[],args,[]⟩).memory args fuel=true)
 (M:X (w0.forCall (λ_ _=>0) ⟨#[],args,[]⟩).memory args):
 ∃(w:World)(tape:Tape)(i:Input),w.os=os/\(w.forCall tape i).Shaped C.prog/\i.vars=[]/\Input.okWide C.prog (w.forCall tape i) .any w.heap.size f i/\
  ((s.pre enc C.prog fn conds apart (w.forCall tape i).memory i.args/\X (w.forCall tape i).memory i.args)/\sizedMet enc C.prog fn s apart (w.forCall tape i).memory i.args)/\({modest:=modest}:Assume).holds C.prog (lone (Frame.enter C.prog f i.args .normal) [] (w.forCall tape i)):=by
 unfold Zk at D;split at D
 .rename_i x hw;simp only[Ds]at D;exact JP J modest w0 args fuel Y O I hw D.1 D.2 Z M
 .cases D
end Go.Am
end
section
namespace Go.Am
open Go Go.Proofs
set_option maxRecDepth 20000
set_option maxHeartbeats 4000000
abbrev T2(t:Nat)(k:TK)(s:Nat):Prop:=tk Tryz.prog t=k/\gT Tryz.prog t=some s
abbrev T5(t:Nat)(k:TK)(s:Nat)(z:List AV)(b:Nat)(d:D):Prop:=tk Tryz.prog t=k/\gT Tryz.prog t=some s/\vi Tryz.prog t=some z/\Bf Tryz.prog t=some b/\oW Tryz.prog t=some d
abbrev T6(t s:Nat)(d:List D)(b:Nat):Prop:=tk Tryz.prog t=.struct/\gT Tryz.prog t=some s/\vi Tryz.prog t=some (d.map .d)/\Bf Tryz.prog t=some b/\oW Tryz.prog t=some (.agg d)
abbrev TI(t:Nat)(k:IntKind)(b:Nat):Prop:=T5 t (.int k) 1 [.d (.int k 0)] b (.int k 0)
abbrev FF(t i o y:Nat):Prop:=Ce Tryz.prog t i=some o/\OB Tryz.prog t i=some y
@[simp] def awq:TI 2 .i64 8:=by and_intros<;>kernel_rfl
@[simp] def awr:TI 3 .i64 8:=by and_intros<;>kernel_rfl
@[simp] def aws:T5 4 (.bool) 1 ([.d (.bool false)]) 1 (.bool false):=by and_intros<;>kernel_rfl
@[simp] def awt:T5 9 (.str) 1 ([.d (.str [])]) 16 (.str [])/\kf Tryz.prog 9=true:=by and_intros<;>kernel_rfl
@[simp] def avH:T2 20 (.iface) 1:=by and_intros<;>kernel_rfl
@[simp] def avI:T5 22 (.slice 59) 1 ([.lit (.slice none 0 0)]) 24 (.list [])/\kf Tryz.prog 22=true:=by and_intros<;>kernel_rfl
@[simp] def avJ:T5 23 (.slice 124) 1 ([.lit (.slice none 0 0)]) 24 (.list [])/\kf Tryz.prog 23=true:=by and_intros<;>kernel_rfl
@[simp] def avK:T5 25 (.struct) 3 ([.d (.str []),.lit (.slice none 0 0),.lit (.slice none 0 0)]) 64 (.agg ([.str [],.list [],.list []]))/\FF 25 0 0 9/\FF 25 1 1 22/\FF 25 2 2 23/\jv Tryz.prog 25=some [(0,1),(1,1),(2,1)]:=by and_intros<;>kernel_rfl
@[simp] def avL:T5 26 (.slice 2) 1 ([.lit (.slice none 0 0)]) 24 (.list [])/\kf Tryz.prog 26=true:=by and_intros<;>kernel_rfl
@[simp] def avM:T6 30 2 [.int .i64 0,.int .i64 0] 16/\FF 30 0 0 3/\FF 30 1 1 3/\jv Tryz.prog 30=some [(0,1),(1,1)]/\mX Tryz.prog 30=some [.int .i64,.int .i64]:=by and_intros<;>kernel_rfl
@[simp] def avN:T5 32 (.slice 54) 1 ([.lit (.slice none 0 0)]) 24 (.list [])/\kf Tryz.prog 32=true:=by and_intros<;>kernel_rfl
@[simp] def avO:T5 34 (.struct) 3 ([.lit (.slice none 0 0),.d (.int .i64 0),.d (.int .i64 0)]) 40 (.agg ([.list [],.int .i64 0,.int .i64 0]))/\FF 34 0 0 32/\FF 34 1 1 3/\FF 34 2 2 3/\jv Tryz.prog 34=some [(0,1),(1,1),(2,1)]:=by and_intros<;>kernel_rfl
@[simp] def avP:T5 41 (.struct) 3 ([.lit (.slice none 0 0),.d (.int .i64 0),.d (.int .i64 0)]) 40 (.agg ([.list [],.int .i64 0,.int .i64 0]))/\FF 41 0 0 26/\FF 41 1 1 3/\FF 41 2 2 3/\jv Tryz.prog 41=some [(0,1),(1,1),(2,1)]:=by and_intros<;>kernel_rfl
@[simp] def avQ:T6 54 5 [.int .i64 0,.int .i64 0,.int .i64 0,.int .i64 0,.int .i64 0] 40/\FF 54 0 0 3/\FF 54 1 1 3/\FF 54 2 2 3/\FF 54 3 3 2/\FF 54 4 4 2/\jv Tryz.prog 54=some [(0,1),(1,1),(2,1),(3,1),(4,1)]/\mX Tryz.prog 54=some [.int .i64,.int .i64,.int .i64,.int .i64,.int .i64]:=by and_intros<;>kernel_rfl
@[simp] def avR:T6 59 8 [.str [],.int .i64 0,.int .i64 0,.bool false,.int .i64 0,.int .i64 0,.int .i64 0,.int .i64 0] 72/\FF 59 0 0 9/\FF 59 1 1 3/\FF 59 2 2 3/\FF 59 3 3 4/\FF 59 4 4 2/\FF 59 5 5 2/\FF 59 6 6 2/\FF 59 7 7 3/\jv Tryz.prog 59=some [(0,1),(1,1),(2,1),(3,1),(4,1),(5,1),(6,1),(7,1)]/\mX Tryz.prog 59=some [.str,.int .i64,.int .i64,.bool,.int .i64,.int .i64,.int .i64,.int .i64]:=by and_intros<;>kernel_rfl
@[simp] def avS:T5 66 (.slice 3) 1 ([.lit (.slice none 0 0)]) 24 (.list [])/\kf Tryz.prog 66=true:=by and_intros<;>kernel_rfl
@[simp] def avT:T5 68 (.struct) 3 ([.lit (.slice none 0 0),.d (.int .i64 0),.lit (.slice none 0 0)]) 56 (.agg ([.list [],.int .i64 0,.list []]))/\FF 68 0 0 66/\FF 68 1 1 3/\FF 68 2 2 26/\jv Tryz.prog 68=some [(0,1),(1,1),(2,1)]:=by and_intros<;>kernel_rfl
@[simp] def avU:T2 70 (.ptr 73) 1:=by and_intros<;>kernel_rfl
@[simp] def avV:T5 71 (.slice 66) 1 ([.lit (.slice none 0 0)]) 24 (.list [])/\kf Tryz.prog 71=true:=by and_intros<;>kernel_rfl
@[simp] def avW:T5 73 (.struct) 9 ([.d (.str []),.lit (.slice none 0 0),.lit (.slice none 0 0),.lit (.slice none 0 0),.d (.int .i64 0),.d (.int .i64 0),.d (.int .i64 0),.lit (.slice none 0 0),.lit (.slice none 0 0)]) 160 (.agg ([.str [],.list [],.list [],.list [],.int .i64 0,.int .i64 0,.int .i64 0,.list [],.list []]))/\FF 73 0 0 25/\FF 73 1 3 32/\FF 73 2 4 3/\FF 73 3 5 3/\FF 73 4 6 3/\FF 73 5 7 71/\FF 73 6 8 66/\jv Tryz.prog 73=some [(0,3),(3,1),(4,1),(5,1),(6,1),(7,1),(8,1)]:=by and_intros<;>kernel_rfl
@[simp] def avX:T5 85 (.arr 64 2) 64 (List.replicate 64 (.d (.int .i64 0))) 512 (.agg (List.replicate 64 (.int .i64 0)))/\jv Tryz.prog 85=none:=by and_intros<;>kernel_rfl
@[simp] def avY:T5 87 (.struct) 72 ([.lit (.slice none 0 0),.d (.int .i64 0),.d (.int .i64 0),.lit (.slice none 0 0),.d (.int .i64 0),.d (.int .i64 0),.d (.int .i64 0),.d (.int .i64 0),.d (.int .i64 0),.d (.int .i64 0),.d (.int .i64 0),.d (.int .i64 0),.d (.int .i64 0),.d (.int .i64 0),.d (.int .i64 0),.d (.int .i64 0),.d (.int .i64 0),.d (.int .i64 0),.d (.int .i64 0),.d (.int .i64 0),.d (.int .i64 0),.d (.int .i64 0),.d (.int .i64 0),.d (.int .i64 0),.d (.int .i64 0),.d (.int .i64 0),.d (.int .i64 0),.d (.int .i64 0),.d (.int .i64 0),.d (.int .i64 0),.d (.int .i64 0),.d (.int .i64 0),.d (.int .i64 0),.d (.int .i64 0),.d (.int .i64 0),.d (.int .i64 0),.d (.int .i64 0),.d (.int .i64 0),.d (.int .i64 0),.d (.int .i64 0),.d (.int .i64 0),.d (.int .i64 0),.d (.int .i64 0),.d (.int .i64 0),.d (.int .i64 0),.d (.int .i64 0),.d (.int .i64 0),.d (.int .i64 0),.d (.int .i64 0),.d (.int .i64 0),.d (.int .i64 0),.d (.int .i64 0),.d (.int .i64 0),.d (.int .i64 0),.d (.int .i64 0),.d (.int .i64 0),.d (.int .i64 0),.d (.int .i64 0),.d (.int .i64 0),.d (.int .i64 0),.d (.int .i64 0),.d (.int .i64 0),.d (.int .i64 0),.d (.int .i64 0),.d (.int .i64 0),.d (.int .i64 0),.d (.int .i64 0),.d (.int .i64 0),.d (.int .i64 0),.d (.int .i64 0),.d (.int .i64 0),.d (.int .i64 0)]) 608 (.agg ([.list [],.int .i64 0,.int .i64 0,.list [],.int .i64 0,.int .i64 0,.int .i64 0,.int .i64 0,.int .i64 0,.int .i64 0,.int .i64 0,.int .i64 0,.int .i64 0,.int .i64 0,.int .i64 0,.int .i64 0,.int .i64 0,.int .i64 0,.int .i64 0,.int .i64 0,.int .i64 0,.int .i64 0,.int .i64 0,.int .i64 0,.int .i64 0,.int .i64 0,.int .i64 0,.int .i64 0,.int .i64 0,.int .i64 0,.int .i64 0,.int .i64 0,.int .i64 0,.int .i64 0,.int .i64 0,.int .i64 0,.int .i64 0,.int .i64 0,.int .i64 0,.int .i64 0,.int .i64 0,.int .i64 0,.int .i64 0,.int .i64 0,.int .i64 0,.int .i64 0,.int .i64 0,.int .i64 0,.int .i64 0,.int .i64 0,.int .i64 0,.int .i64 0,.int .i64 0,.int .i64 0,.int .i64 0,.int .i64 0,.int .i64 0,.int .i64 0,.int .i64 0,.int .i64 0,.int .i64 0,.int .i64 0,.int .i64 0,.int .i64 0,.int .i64 0,.int .i64 0,.int .i64 0,.int .i64 0,.int .i64 0,.int .i64 0,.int .i64 0,.int .i64 0]))/\FF 87 0 0 34/\FF 87 1 3 26/\FF 87 2 4 85/\FF 87 3 68 3/\FF 87 4 69 3/\FF 87 5 70 3/\FF 87 6 71 3/\jv Tryz.prog 87=some [(0,3),(3,1),(4,64),(68,1),(69,1),(70,1),(71,1)]:=by and_intros<;>kernel_rfl
@[simp] def avZ:T5 91 (.slice 94) 1 ([.lit (.slice none 0 0)]) 24 (.list [])/\kf Tryz.prog 91=true:=by and_intros<;>kernel_rfl
@[simp] def av0:T5 94 (.slice 148) 1 ([.lit (.slice none 0 0)]) 24 (.list [])/\kf Tryz.prog 94=true:=by and_intros<;>kernel_rfl
@[simp] def av1:T2 97 (.ptr 99) 1:=by and_intros<;>kernel_rfl
@[simp] def av2:T5 99 (.struct) 7 ([.d (.str []),.lit (.slice none 0 0),.lit (.slice none 0 0),.lit (.slice none 0 0),.lit (.slice none 0 0),.lit (.slice none 0 0),.d (.int .i64 0)]) 144 (.agg ([.str [],.list [],.list [],.list [],.list [],.list [],.int .i64 0]))/\FF 99 0 0 25/\FF 99 1 3 66/\FF 99 2 4 91/\FF 99 3 5 26/\FF 99 4 6 3/\jv Tryz.prog 99=some [(0,3),(3,1),(4,1),(5,1),(6,1)]:=by and_intros<;>kernel_rfl
@[simp] def auk:T6 101 1 [.int .i64 0] 8/\FF 101 0 0 3/\jv Tryz.prog 101=some [(0,1)]/\mX Tryz.prog 101=some [.int .i64]:=by and_intros<;>kernel_rfl
@[simp] def aul:T5 113 (.slice 117) 1 ([.lit (.slice none 0 0)]) 24 (.list [])/\kf Tryz.prog 113=true:=by and_intros<;>kernel_rfl
@[simp] def aum:T5 115 (.slice 9) 1 ([.lit (.slice none 0 0)]) 24 (.list [])/\kf Tryz.prog 115=true:=by and_intros<;>kernel_rfl
@[simp] def aun:T5 117 (.struct) 4 ([.d (.int .i64 0),.d (.str []),.d (.str []),.lit (.slice none 0 0)]) 64 (.agg ([.int .i64 0,.str [],.str [],.list []]))/\FF 117 0 0 3/\FF 117 1 1 9/\FF 117 2 2 9/\FF 117 3 3 115/\jv Tryz.prog 117=some [(0,1),(1,1),(2,1),(3,1)]:=by and_intros<;>kernel_rfl
@[simp] def auo:T5 118 (.slice 120) 1 ([.lit (.slice none 0 0)]) 24 (.list [])/\kf Tryz.prog 118=true:=by and_intros<;>kernel_rfl
@[simp] def aup:T5 120 (.struct) 6 ([.d (.int .i64 0),.d (.int .i64 0),.d (.str []),.d (.str []),.lit (.slice none 0 0),.d (.int .i64 0)]) 80 (.agg ([.int .i64 0,.int .i64 0,.str [],.str [],.list [],.int .i64 0]))/\FF 120 0 0 3/\FF 120 1 1 2/\FF 120 2 2 9/\FF 120 3 3 9/\FF 120 4 4 118/\FF 120 5 5 3/\jv Tryz.prog 120=some [(0,1),(1,1),(2,1),(3,1),(4,1),(5,1)]:=by and_intros<;>kernel_rfl
@[simp] def auq:T5 121 (.slice 26) 1 ([.lit (.slice none 0 0)]) 24 (.list [])/\kf Tryz.prog 121=true:=by and_intros<;>kernel_rfl
@[simp] def aur:T5 122 (.slice 23) 1 ([.lit (.slice none 0 0)]) 24 (.list [])/\kf Tryz.prog 122=true:=by and_intros<;>kernel_rfl
@[simp] def aus:T5 124 (.struct) 19 ([.d (.int .i64 0),.d (.str []),.d (.int .i64 0),.d (.int .i64 0),.d (.str []),.d (.str []),.lit (.slice none 0 0),.d (.int .i64 0),.d (.int .i64 0),.d (.int .i64 0),.d (.str []),.d (.str []),.lit (.slice none 0 0),.d (.int .i64 0),.lit (.slice none 0 0),.lit (.slice none 0 0),.lit (.slice none 0 0),.lit (.slice none 0 0),.d (.int .i64 0)]) 288 (.agg ([.int .i64 0,.str [],.int .i64 0,.int .i64 0,.str [],.str [],.list [],.int .i64 0,.int .i64 0,.int .i64 0,.str [],.str [],.list [],.int .i64 0,.list [],.list [],.list [],.list [],.int .i64 0]))/\FF 124 0 0 3/\FF 124 1 1 9/\FF 124 2 2 120/\FF 124 3 8 120/\FF 124 4 14 118/\FF 124 5 15 121/\FF 124 6 16 115/\FF 124 7 17 122/\FF 124 8 18 3/\jv Tryz.prog 124=some [(0,1),(1,1),(2,6),(8,6),(14,1),(15,1),(16,1),(17,1),(18,1)]:=by and_intros<;>kernel_rfl
@[simp] def aut:T5 133 (.slice 4) 1 ([.lit (.slice none 0 0)]) 24 (.list [])/\kf Tryz.prog 133=true:=by and_intros<;>kernel_rfl
@[simp] def auu:T5 135 (.struct) 5 ([.lit (.slice none 0 0),.d (.int .i64 0),.d (.int .i64 0),.lit (.slice none 0 0),.lit (.slice none 0 0)]) 88 (.agg ([.list [],.int .i64 0,.int .i64 0,.list [],.list []]))/\FF 135 0 0 34/\FF 135 1 3 133/\FF 135 2 4 133/\jv Tryz.prog 135=some [(0,3),(3,1),(4,1)]:=by and_intros<;>kernel_rfl
@[simp] def auv:T6 148 3 [.str [],.int .i64 0,.bool false] 32/\FF 148 0 0 9/\FF 148 1 1 3/\FF 148 2 2 4/\jv Tryz.prog 148=some [(0,1),(1,1),(2,1)]/\mX Tryz.prog 148=some [.str,.int .i64,.bool]:=by and_intros<;>kernel_rfl
@[simp] def auw:T6 151 5 [.int .i64 0,.str [],.str [],.str [],.int .i64 0] 64/\FF 151 0 0 3/\FF 151 1 1 9/\FF 151 2 2 9/\FF 151 3 3 9/\FF 151 4 4 3/\jv Tryz.prog 151=some [(0,1),(1,1),(2,1),(3,1),(4,1)]/\mX Tryz.prog 151=some [.int .i64,.str,.str,.str,.int .i64]:=by and_intros<;>kernel_rfl
@[simp] def auy:T5 176 (.slice 118) 1 ([.lit (.slice none 0 0)]) 24 (.list [])/\kf Tryz.prog 176=true:=by and_intros<;>kernel_rfl
@[simp] def auz:T5 200 (.slice 151) 1 ([.lit (.slice none 0 0)]) 24 (.list [])/\kf Tryz.prog 200=true:=by and_intros<;>kernel_rfl
@[simp] def auA:TI 296 .u64 8:=by and_intros<;>kernel_rfl
structure Tb where
 k:Nat->List Nat
 g:Nat->List Gh
 m:List Nat
 f:il
 l:Nat->List (Nat×Nat)
 o:Nat->List (List Nat)
def rr:List Nat:=List.range 99
abbrev zk:Nat->List Nat:=λ_=>[]
abbrev za:Nat->List Nat:=λ_=>[0,0]
abbrev zg:Nat->List Gh:=λ_=>[]
abbrev zf:il:=⟨[],false,[0],[],false⟩
abbrev zo:Nat->List (List Nat):=λ_=>[]
abbrev zl:Nat->List (Nat×Nat):=λ_=>[]
abbrev zt:Tb:=⟨zk,zg,[],zf,zl,zo⟩
abbrev fs(l:List Nat):il:=⟨[],false,l,[],false⟩
@[simp] def od4:Nat->List (List Nat)
 |6=>[rr,rr,rr,rr,rr,rr,[7,8,9],rr,rr,rr,[],[],rr,rr]
 |_=>[]
@[simp] def anI:Nat->List Nat
 |0=>[1]
 |1=>[1,14]
 |2|8|10|12|14|15=>[2]
 |3|5=>[1,3]
 |4=>[1,3,19]
 |6=>[1,3,4]
 |7=>[1,3,4,40]
 |9=>[1,3,4,54]
 |11=>[1,3,4,93]
 |13=>[1,3,125]
 |_=>[]
@[simp] def ajd:Nat->List Nat
 |0=>[1,2]
 |1=>[1,2,3]
 |2|4|8=>[1,2,3,4]
 |3=>[1,2,3,4,11]
 |5=>[1,2,3,4,6]
 |6=>[1,2,3,4,28]
 |7|10|11=>[2]
 |9=>[1,2,3,4,45]
 |_=>[]
@[simp] def arv:Nat->List (List Nat)
 |5=>[rr,rr,rr,[4,5,6,7,8,9,14],rr,rr,rr,rr,rr,rr,[14],rr,rr,rr,[0,1,2,3,4,5,6,7,8,9,10,11,12,13],[13],rr]
 |_=>[]
@[simp] def arw:Nat->List (List Nat)
 |8=>[rr,rr,rr,rr,rr,rr,rr,rr,rr,rr,[],rr]
 |_=>[]
@[simp] def arx:Nat->List Gh
 |2=>[.qG 700 3 701 5,.wb 700 7 702,.qG 700 8 703 1]
 |_=>[]
@[simp] def aje:Nat->List Nat
 |0=>[1,2,3,6]
 |1=>[1,2,3,6,26]
 |2|10=>[6]
 |3|9=>[3,6,7]
 |4=>[3,6,7,46]
 |5|7=>[3,6,7,8]
 |6=>[3,6,7,8,57]
 |8=>[3,6,7,8,68]
 |_=>[]
@[simp] def ary:Nat->List (List Nat)
 |3=>[rr,rr,[0,3,4,5,6,7,9],rr,rr,rr,rr,rr,[0,9],rr,rr,[],rr]
 |5=>[rr,rr,rr,rr,rr,rr,rr,rr,[0,1,2,3,4,5,6,7],[]]
 |10=>[rr,rr,rr,rr,rr,rr,[8,9,10,11,12,13,14,15],[8,9,10,11,12,13,14,15],rr,rr,rr,rr,rr,rr,rr,rr,rr,[]]
 |_=>[]
@[simp] def ajf:Nat->List Nat
 |0=>[1,2,3,6]
 |1=>[1,2,3,6,7]
 |2=>[1,2,3,6,7,8]
 |3=>[3,6,8,33]
 |4|12=>[6]
 |5|8|9=>[3,6,8,40,41,42]
 |6=>[3,6,8,40,41,42,43]
 |7=>[3,6,8,10,40,41,42]
 |10=>[3,6,8]
 |11=>[6,8]
 |_=>[]
@[simp] def arz:Nat->List (List Nat)
 |2=>[rr,rr,rr,rr,[0,1,2,5,8],rr,rr,[8],[0,1,2,3,4,5,6,7],[]]
 |8=>[rr,rr,rr,rr,rr,rr,rr,[0,1,2,3,4],[0,1,2,3,4],[0],rr,rr,[]]
 |12=>[rr,rr,rr,rr,rr,rr,rr,rr,rr,[]]
 |_=>[]
@[simp] def arA:Nat->List Gh
 |2=>[.qG 1100 4 1101 1]
 |_=>[]
@[simp] def ajg:Nat->List Nat
 |0=>[0]
 |1=>[0,17]
 |2|9|10=>[2]
 |3|5=>[0,3]
 |4=>[0,3,21]
 |6=>[0,3,4]
 |7=>[0,3,4,5]
 |8=>[0,3,58]
 |_=>[]
@[simp] def ajh:Nat->List Nat
 |0=>[0]
 |1=>[0,3]
 |2|4=>[0,3,4]
 |3=>[0,3,4,9]
 |5=>[0,3,4,18]
 |6|7=>[2]
 |_=>[]
@[simp] def aji:Nat->List Nat
 |0=>[0]
 |1|3=>[0,3]
 |2=>[0,3,20]
 |4=>[0,3,4]
 |5=>[0,3,4,5,6,7]
 |6=>[0,3,4,6,7,59]
 |7|9|11|26|31|36|41|46|47=>[2]
 |8=>[0,3,4,7,89]
 |10=>[0,3,4,118]
 |12|15|17|19|22|24=>[0,3,4,8,9,10,11,12]
 |13=>[0,3,4,8,9,10,11,12,120]
 |14=>[0,3,4,8,9,10,11,12,120,121]
 |16=>[0,3,4,8,9,10,11,12,120,131]
 |18=>[0,3,4,8,9,10,11,12,120,139]
 |20|21=>[0,3,4,8,9,10,11,12,120,141]
 |23=>[0,3,4,8,9,10,11,12,144]
 |25=>[0,3,4,186]
 |27|29=>[0,3,4,13]
 |28=>[0,3,4,13,191]
 |30=>[0,3,4,13,200]
 |32|34=>[0,3,4,14]
 |33=>[0,3,4,14,205]
 |35=>[0,3,4,14,224]
 |37|39=>[0,3,4,14,15]
 |38=>[0,3,4,14,15,232]
 |40=>[0,3,4,14,15,243]
 |42|44=>[0,3,4,16]
 |43=>[0,3,4,16,248]
 |45=>[0,3,4,16,257]
 |_=>[]
@[simp] def arB:Nat->List (List Nat)
 |15=>[rr,rr,rr,rr,rr,rr,rr,rr,rr,rr,rr]
 |17=>[rr,rr,rr,rr,rr,rr,rr,rr,rr]
 |24=>[rr,rr,rr,rr,rr,rr,rr,rr]
 |_=>[]
@[simp] def ajj:Nat->List Nat
 |0=>[0,1,4]
 |1|3=>[0,1,4,6]
 |2=>[0,1,4,6,10]
 |4=>[0,1,4,6,19]
 |5|6=>[4,5]
 |_=>[]
@[simp] def ajk:Nat->List Nat
 |0=>[0,1,2,6]
 |1|3=>[0,1,2,6,7]
 |2=>[0,1,2,6,7,12]
 |4=>[0,1,2,6,7,8]
 |5=>[0,1,2,6,7,8,24]
 |6|7=>[6]
 |_=>[]
@[simp] def ajl:Nat->List Nat
 |0=>[1,2]
 |1=>[1,2,3]
 |2|10|11=>[2,3,8,9,10]
 |3=>[2,3,8,9,10,11]
 |4|5|8=>[2,3,5,8,9,10]
 |6|7=>[2,3,5,6,8,9,10]
 |9=>[2,3,5,8,9,10,40]
 |12=>[2]
 |_=>[]
@[simp] def arC:Nat->List Gh
 |1=>[.qG 250 0 251 1,.qG 250 2 252 1]
 |_=>[]
@[simp] def ajm:Nat->List Nat
 |0|3|4=>[0,6,7,8]
 |1=>[0,6,7,8,9]
 |2=>[0,5,6,7,8]
 |_=>[]
@[simp] def ajn:Nat->List Nat
 |0|3|4=>[0,6,7,8]
 |1=>[0,6,7,8,9]
 |2=>[0,5,6,7,8]
 |_=>[]
@[simp] def arD:Nat->List (List Nat)
 |1=>[rr,rr,rr,rr,rr,rr,[0,1,2,3,4],[0],rr,rr,[]]
 |3=>[rr,rr,rr,rr,rr,rr,rr,rr,rr,rr,rr,rr,[]]
 |_=>[]
@[simp] def arE:Nat->List (List Nat)
 |1=>[rr,rr,rr,rr,[0],rr,[],rr]
 |_=>[]
@[simp] def arF:Nat->List Gh
 |1=>[.qG 600 3 601 1]
 |_=>[]
@[simp] def ajo:Nat->List Nat
 |0=>[0,1]
 |1=>[0,1,10]
 |2|7|8=>[4]
 |3|5=>[0,1,5]
 |4=>[0,1,5,14]
 |6=>[0,1,5,25]
 |_=>[]
@[simp] def arG:Nat->List (List Nat)
 |6=>[rr,rr,rr,rr,rr,rr,rr,rr,rr]
 |_=>[]
@[simp] def ajp:Nat->List Nat
 |0=>[0,3]
 |1=>[0,3,12]
 |2|24=>[4]
 |3=>[0,3,12,13]
 |5=>[0,3,12,19]
 |7=>[0,3,12,31]
 |9|10=>[0,3,12,45]
 |11=>[0,3,5,6]
 |13=>[0,3,5,67]
 |14=>[0,5,70]
 |16=>[0,3,12,83]
 |17=>[0,3,7]
 |19=>[0,3,95]
 |20=>[0,3,8]
 |21=>[0,8,9,10]
 |22=>[0,8,9,107]
 |_=>[]
@[simp] def arH:Nat->List (List Nat)
 |6=>[rr,rr,rr,rr,rr,rr,rr,rr,rr,[]]
 |8=>[rr,rr,rr,rr,rr,rr,rr,rr,rr,rr,[0],[]]
 |11=>[rr,rr,rr,[0,1],[],rr,rr,rr,rr,rr]
 |18=>[rr,rr,rr,rr,rr,rr,rr,rr,[]]
 |21=>[rr,rr,rr,[0,1],[],rr,rr,rr,rr,rr]
 |_=>[]
@[simp] def ajq:Nat->List Nat
 |0=>[0,3]
 |1=>[0,3,7]
 |2=>[0,3,7,8]
 |4=>[0,3,7,13]
 |6=>[0,3,7,20]
 |7=>[0,3,24]
 |9=>[0,3,7,30]
 |10=>[0,36]
 |13=>[0,3,7,47]
 |14=>[0,3,4]
 |16=>[0,3,7,75]
 |18=>[0,3,83]
 |19=>[0,3,5]
 |_=>[]
@[simp] def arI:Nat->List (List Nat)
 |15=>[rr,rr,rr,rr,rr,rr,[7,8,9,10,11,12,13,14,15,16,17,18,19,20],rr,rr,rr,rr,rr,rr,rr,rr,rr,rr,rr,rr,[0,1,2,3,4,5,6,7,8],[0,1,2,3,4,5,6],[]]
 |19=>[rr,rr,rr,rr,rr,rr,rr,rr,rr]
 |_=>[]
@[simp] def ajr:Nat->List Nat
 |0=>[0]
 |1=>[0,14]
 |2|20|21=>[2]
 |3=>[0,3]
 |4|6=>[0,3,4]
 |5=>[0,3,4,19]
 |7=>[0,3,4,28]
 |8=>[3,4,5]
 |9|11|19=>[3,4,5,6]
 |10=>[3,4,5,6,36]
 |12=>[3,4,5,6,7]
 |13|15|17=>[3,4,5,6,7,8]
 |14=>[3,4,5,6,7,8,52]
 |16=>[3,4,5,6,7,8,55]
 |18=>[3,4,5,6,8]
 |_=>[]
@[simp] def ajs:Nat->List Nat
 |0=>[0]
 |1=>[3,4]
 |2=>[3,12]
 |3|9=>[2]
 |4=>[3,5]
 |5|7|8=>[5,21,22]
 |6=>[5,21,22,23]
 |_=>[]
@[simp] def arJ:Nat->List (List Nat)
 |4=>[rr,rr,[3,4],rr,rr,[],[],rr]
 |_=>[]
@[simp] def arK:Nat->List (List Nat)
 |5=>[rr,rr,rr,rr,rr,rr,rr,rr,rr,rr,rr,[]]
 |_=>[]
@[simp] def ajt:Nat->List Nat
 |0=>[0,1]
 |1|7=>[0,8,9,10]
 |2=>[0,8,9,10,11]
 |3=>[0,6,8,9,10]
 |4=>[0,7,8,9,10]
 |5=>[0,7,8,9,10,18]
 |6|8=>[4]
 |_=>[]
@[simp] def aju:Nat->List Nat
 |0=>[0,1]
 |1=>[0,1,6,7]
 |2|4|5=>[0,1,6,7,8]
 |3=>[0,1,6,7,8,26]
 |6|14=>[0,1,6,7,8,9]
 |7|12|13=>[0,1,6,7,8,9,42,43,44]
 |8=>[0,1,6,7,8,9,42,43,44,45]
 |9=>[0,1,6,7,8,9,11,42,43,44]
 |10=>[0,1,6,7,8,9,12,13,42,43,44]
 |11=>[0,1,6,7,8,9,13,42,43,44]
 |15|17|18=>[0,1,6,7,8,9,14]
 |16=>[0,1,6,7,8,9,14,88]
 |19|21|24=>[0,1,6,7,8,9,15]
 |20=>[0,1,6,7,8,9,15,111]
 |22=>[0,1,6,7,8,9,15,16,17]
 |23=>[0,1,6,7,8,9,15,17]
 |25=>[4,5]
 |_=>[]
@[simp] def ajv:Nat->List Nat
 |0=>[0]
 |1|6=>[0,5,6,7]
 |2=>[0,5,6,7,8]
 |3=>[0,4,5,6,7]
 |4=>[0,5,6,7,13]
 |5|7=>[2]
 |_=>[]
@[simp] def ajw:Nat->List Nat
 |1=>[0]
 |_=>[]
@[simp] def ajx:Nat->List Nat
 |0=>[0]
 |1|3=>[0,3]
 |2=>[0,3,11]
 |4=>[0,3,4]
 |5|13|15|17|19|21=>[0,3,4,5,6,7]
 |6|7|8|9|10=>[0,3,4,5,6,7,18]
 |11|23|24=>[2]
 |12=>[0,3,4,5,6,7,54]
 |14=>[0,3,4,5,6,7,58]
 |16=>[0,3,4,5,6,7,62]
 |18=>[0,3,4,5,6,7,66]
 |20=>[0,3,4,5,6,7,75]
 |22=>[0,3,125]
 |_=>[]
@[simp] def ajy:Nat->List Nat
 |0=>[0,2,4,6]
 |1=>[0,2,4,6,25]
 |2=>[0,2,4,6,25,26]
 |3=>[0,4,6,7,8]
 |4=>[0,4,6,7,37]
 |5|7|10|13|15|23|26|30|36|40|42|44|50|51|55|56|60|61|64|66|67=>[6]
 |6=>[0,4,6,44]
 |8=>[0,4,6,9,10]
 |9=>[0,4,6,9,10,58]
 |11=>[4,6,9,10,11]
 |12=>[4,6,9,10,11,69]
 |14=>[4,6,73]
 |16=>[0,2,4,6,25,77]
 |17|19=>[0,2,4,6,12]
 |18=>[0,2,4,6,12,83]
 |20=>[0,2,4,6,12,90]
 |21=>[0,2,4,6,12,13]
 |22=>[0,2,4,6,12,13,100]
 |24=>[0,2,4,6,12,14]
 |25=>[0,2,4,6,12,14,112]
 |27=>[0,2,4,6,25,114]
 |28=>[0,2,4,6,15]
 |29=>[0,2,4,6,15,122]
 |31|33=>[0,2,4,6,16]
 |32=>[0,2,4,6,16,128]
 |34=>[0,2,4,6,16,17]
 |35=>[0,2,4,6,16,17,141]
 |37=>[0,2,4,6,25,143]
 |38=>[0,4,6,18,19]
 |39=>[0,4,6,18,153]
 |41=>[0,4,6,18,159]
 |43=>[0,4,6,169]
 |45|47=>[0,4,6,20]
 |46=>[0,4,6,20,177]
 |48=>[0,4,6,20,21]
 |49=>[0,4,6,20,21,189]
 |52=>[0,2,4,6,25,197]
 |53=>[0,4,6,22]
 |54=>[0,4,6,22,205]
 |57=>[0,2,4,6,25,213]
 |58=>[0,4,6,23]
 |59=>[0,4,6,23,223]
 |62=>[0,2,4,6,25,229]
 |63=>[4,6,232]
 |65=>[0,4,6,236]
 |_=>[]
@[simp] def ajz:Nat->List Nat
 |0|1=>[2,3]
 |2=>[2,3,8]
 |3=>[2,3,8,9]
 |5=>[2,3,8,14]
 |7=>[2,3,8,24]
 |9=>[2,3,8,29]
 |11|12=>[2,3,8,34]
 |14=>[2,3,8,40]
 |15=>[2,4]
 |17=>[2,3,8,65]
 |19=>[2,3,78]
 |_=>[]
@[simp] def arL:Nat->List (List Nat)
 |16=>[rr,rr,rr,rr,rr,rr,rr,rr,rr,rr,rr,rr,rr,[0,1,2,3,4,5,6,7,8,9,10,11],[0,1,2,3,4,5,6,7,8,9,10,11],[0,1,2,3,4],rr,[]]
 |18=>[rr,rr,rr,rr,rr,rr,[0,1,2,3,4],[0,1,2,3,4],[0],rr,rr,[]]
 |_=>[]
@[simp] def arM:Nat->List Gh
 |15=>[.gg 2 101]
 |16=>[.cls 2 101]
 |_=>[]
@[simp] def arN:Nat->List (Nat×Nat)
 |16=>[(0,7),(2,0)]
 |18=>[(0,8)]
 |_=>[]
@[simp] def ajA:Nat->List Nat
 |0=>[0]
 |1=>[0,3]
 |2|13|14=>[3,9,10,11]
 |3=>[3,9,10,11,12]
 |4|5|12=>[3,5,9,10,11]
 |6=>[3,5,6,9,10,11]
 |7|10|11=>[3,5,6,9,10,11,28,29,30]
 |8=>[3,5,6,9,10,11,28,29,30,31]
 |9=>[3,5,6,8,9,10,11,28,29,30]
 |15=>[2]
 |_=>[]
@[simp] def arO:Nat->List (List Nat)
 |5=>[rr,rr,[3,4,6,7],rr,rr,[6,7,9],rr,rr,[9],rr,[],rr,[],rr,[]]
 |_=>[]
@[simp] def arP:Nat->List Gh
 |1000002=>[.freeze 400]
 |_=>[]
@[simp] def arQ:Nat->List (List Nat)
 |0=>[rr,rr,rr,rr,rr,rr,[0,1,2,3,4],rr,rr,[]]
 |_=>[]
@[simp] def arR:Nat->List (Nat×Nat)
 |0=>[(0,3)]
 |_=>[]
@[simp] def ajB:Nat->List Nat
 |0=>[0]
 |1=>[0,3]
 |2=>[0,3,4]
 |3=>[0,3,51]
 |4|9|11=>[2]
 |5|10=>[0,53,54,55]
 |6=>[0,53,54,55,56]
 |7=>[0,5,6,53,54,55]
 |8=>[0,53,54,55,64]
 |_=>[]
@[simp] def ajC:Nat->List Nat
 |0=>[0]
 |1|5|6=>[0,11,12,13]
 |2=>[0,11,12,13,14]
 |3=>[0,4,11,12,13]
 |4=>[0,4,11,12,13,24]
 |7|12=>[0,37,38,39]
 |8=>[0,37,38,39,40]
 |9=>[0,5,6,37,38,39]
 |10=>[0,37,38,39,61]
 |11|13=>[2]
 |_=>[]
@[simp] def arS:Nat->List (List Nat)
 |5=>[rr,rr,rr,rr,rr,rr,rr,[]]
 |_=>[]
@[simp] def ajD:Nat->List Nat
 |0=>[0]
 |1=>[0,3]
 |2|7=>[0,3,17,18]
 |3=>[0,3,17,18,19]
 |4=>[0,3,4,17,18]
 |5=>[0,3,17,18,24]
 |6|8=>[2]
 |_=>[]
@[simp] def ajE:Nat->List Nat
 |0=>[0]
 |_=>[]
@[simp] def arT:Nat->List (List Nat)
 |0=>[rr,rr,rr,rr,rr,rr,rr,rr,rr,[]]
 |_=>[]
@[simp] def arU:Nat->List (List Nat)
 |2=>[rr,rr,rr,rr,rr,rr,rr,rr,rr,rr]
 |_=>[]
@[simp] def arV:Nat->List (List Nat)
 |4=>[rr,rr,rr,rr,rr,rr,rr,rr,rr,rr,rr,rr,rr,[],[],rr]
 |_=>[]
@[simp] def ajF:Nat->List Nat
 |0=>[0,1]
 |1=>[0,5]
 |2=>[0,5,13]
 |3|22=>[4]
 |4=>[0,5,15]
 |5|6|7=>[0,5,15,16]
 |8|11|13|14|16|17|19|21=>[5]
 |9|10=>[0,5,15,23]
 |12=>[5,15,29]
 |15=>[5,15,51]
 |18=>[5,15,73]
 |20=>[5,94]
 |_=>[]
@[simp] def arW:Nat->List (List Nat)
 |1=>[rr,rr,rr,rr,rr,rr,rr,rr,rr,rr,rr,rr,rr,rr,rr,rr,rr,rr,rr,rr,rr,rr,rr,rr,rr,rr,rr,rr]
 |_=>[]
@[simp] def ajG:Nat->List Nat
 |0=>[0,1]
 |1=>[0,1,5]
 |2|9|10=>[1,5,12,13,14]
 |3=>[1,5,12,13,14,15]
 |4=>[1,5,7,12,13,14]
 |5=>[1,5,7,8,12,13,14]
 |6=>[1,5,8,9,10,12,13,14]
 |7=>[1,5,8,9,12,13,14,26]
 |8=>[1,5,8,12,13,14]
 |11=>[4]
 |_=>[]
@[simp] def ajH:Nat->List Nat
 |0=>[0,1]
 |1=>[0,1,6,7]
 |2|4|7=>[0,1,6,7,8]
 |3=>[0,1,6,7,8,19]
 |5=>[0,1,6,7,8,9,10]
 |6=>[0,1,6,7,8,10]
 |8=>[4,5]
 |_=>[]
@[simp] def ajI:Nat->List Nat
 |0=>[0,3,5]
 |1=>[0,3,5,6]
 |2=>[0,3,5,6,21]
 |3|4=>[0,3,5,6,21,22]
 |5|11|14|17|18|20|24|25|28|33|53|54=>[4,5]
 |6|7=>[0,3,5,6,21,28]
 |8=>[0,3,5,6,28]
 |9=>[0,3,5,6,7,8]
 |10=>[0,3,5,6,7,40]
 |12=>[0,3,5,6,7,46]
 |13=>[3,5,6,7,49]
 |15=>[3,5,9,10]
 |16=>[3,5,9,60]
 |19=>[0,3,5,6,7,77]
 |21=>[0,3,5,7,81]
 |22=>[5,7,11]
 |23=>[5,7,11,90]
 |26=>[0,3,5,6,12,13]
 |27=>[0,3,5,6,12,13,106]
 |29=>[0,3,5,6,12,13,14]
 |30=>[0,3,5,6,12,13,14,112]
 |31=>[3,5,6,12,13,14]
 |32=>[3,5,6,12,13,14,124]
 |34=>[3,5,6,12,14,15]
 |35=>[3,5,6,12,14,15,16]
 |36=>[5,6,12,14,15,16,127]
 |37|38|39|40|41|42=>[5,6,12,14,15,16,127,128]
 |43|46|51=>[5,6,12,14,15,16]
 |44|45=>[5,6,12,14,15,16,127,135]
 |47|48|49=>[5,6,12,14,15,16,127,139]
 |50=>[5,6,12,14,15,16,139]
 |52=>[5,6,16,151]
 |_=>[]
@[simp] def arX:Nat->List (List Nat)
 |11=>[rr,rr,rr,rr,[]]
 |14=>[rr,rr,[]]
 |17=>[rr,rr,rr,rr,[]]
 |20=>[rr,rr,[]]
 |24=>[rr,rr,[]]
 |28=>[rr,rr,[]]
 |33=>[rr,rr,[]]
 |53=>[rr,rr,[]]
 |_=>[]
@[simp] def ajJ:Nat->List Nat
 |0=>[0,3,4]
 |1=>[0,3,4,5,6]
 |2=>[0,3,4,5,20]
 |3|5|11|16|19|20=>[4]
 |4=>[0,3,4,5,26]
 |6|8=>[0,3,4,5,7]
 |7=>[0,3,4,5,7,34]
 |9=>[0,3,4,5,7,8,9]
 |10=>[0,3,4,5,7,8,54]
 |12|14=>[0,3,4,5,7,8,10]
 |13=>[0,3,4,5,7,8,10,60]
 |15=>[0,3,4,5,7,8,10,73]
 |17=>[0,3,4,5,7,11]
 |18=>[0,3,4,5,7,11,88]
 |_=>[]
@[simp] def arY:Nat->List (List Nat)
 |9=>[rr,rr,rr,rr,rr,rr,rr,[11],rr,rr,rr,[0,1,2,3,4,5,6,7,8,9,10],[10],rr]
 |15=>[rr,rr,rr,rr,rr,rr,rr,rr,rr,rr,rr]
 |17=>[rr,rr,rr,rr,rr,rr,rr,rr,[9],[0,1,2,3,4,5,6,7,8],[]]
 |_=>[]
@[simp] def arZ:Nat->List (List Nat)
 |1=>[rr,rr,rr,rr,rr,rr,rr,[12],rr,rr,rr,rr,[0,1,2,3,4,5,6,7,8,9,10,11],rr,[11],rr]
 |_=>[]
@[simp] def ajK:Nat->List Nat
 |0=>[0,1,2,3,8]
 |1|12|13=>[0,1,2,3,8,12,13,14]
 |2=>[0,1,2,3,8,12,13,14,15]
 |3|6=>[0,1,2,3,8,9,10,12,13,14]
 |4|7=>[0,1,2,3,8,9,10,11,12,13,14]
 |5=>[0,1,2,3,8,9,10,11,12,13,14,21]
 |8=>[0,1,2,3,8,9,11,12,13,14]
 |9=>[0,1,2,3,8,11,12,13,14,34]
 |10=>[0,1,2,3,8,11,12,13,14]
 |11=>[0,1,2,3,8,11,12,13,14,41]
 |_=>[]
@[simp] def anJ:Nat->List (List Nat)
 |0=>[rr,rr,rr,rr,rr,rr,[]]
 |_=>[]
@[simp] def afh:Nat->List Nat
 |0=>[0,3]
 |1=>[0,3,20]
 |2|3=>[0,3,20,21]
 |4|31=>[3]
 |5|9|17|21|32=>[4]
 |6=>[0,3,20,32]
 |7=>[0,5,6]
 |8=>[6]
 |10=>[0,3,20,53]
 |11=>[0,3,8,9]
 |12=>[0,8,9]
 |13|15=>[0,8,9,11]
 |14=>[0,8,9,11,74]
 |16=>[9]
 |18=>[0,3,87]
 |19=>[0,12,13]
 |20=>[13]
 |22=>[0,3,15]
 |23|26|27=>[0,3,15,111,112,113]
 |24=>[0,3,15,111,112,113,114]
 |25=>[0,3,17,111,112,113]
 |28=>[0,3,15,18]
 |29=>[0,3,18,124]
 |30=>[0,3,18]
 |_=>[]
@[simp] def anK:Nat->List (List Nat)
 |7=>[rr,rr,rr,rr,rr,rr,[11],rr,rr,rr,rr,[0,1,2,3,4,5,6,7,8,9,10],rr,[10],rr]
 |11=>[rr,rr,rr,rr,rr,rr,[11],rr,rr,rr,rr,[0,1,2,3,4,5,6,7,8,9,10],rr,[10],rr]
 |19=>[rr,rr,rr,rr,rr,rr,rr,rr,[13],rr,rr,rr,rr,[0,1,2,3,4,5,6,7,8,9,10,11,12],rr,[12],rr]
 |_=>[]
@[simp] def afi:Nat->List Nat
 |0=>[2,3]
 |1=>[2,3,4]
 |2|8|9|10=>[2,3,4,5]
 |3|6|7=>[2,3,4,5,24,25,26]
 |4=>[2,3,4,5,24,25,26,27]
 |5=>[2,3,4,5,9,24,25,26]
 |_=>[]
@[simp] def anL:Nat->List (List Nat)
 |2=>[rr,rr,rr,rr,rr,rr,[11,12],rr,rr,rr,rr,[0,1,2,3,4,5,6,7,8,9,10,12],[0,1,2,3,4,5,6,7,8,9,10,11],[9,10],[10],rr]
 |_=>[]
@[simp] def afj:Nat->List Nat
 |0=>[2,3]
 |_=>[]
@[simp] def afk:Nat->List Nat
 |0=>[0,3]
 |1=>[0,3,4,5]
 |2|7|8=>[0,3,4,5,24,25,26]
 |3=>[0,3,4,5,24,25,26,27]
 |4=>[0,3,4,5,7,8,24,25,26]
 |5=>[0,3,4,5,7,9,24,25,26]
 |6=>[0,3,4,5,9,24,25,26]
 |_=>[]
@[simp] def anM:Nat->List (List Nat)
 |1=>[rr,rr,rr,rr,rr,rr,[11],rr,rr,rr,rr,[0,1,2,3,4,5,6,7,8,9,10],rr,[10],rr]
 |5=>[rr,rr,rr,rr,rr,rr,rr,[12],rr,rr,rr,rr,[0,1,2,3,4,5,6,7,8,9,10,11],rr,[11],rr]
 |_=>[]
@[simp] def afl:Nat->List Nat
 |0=>[1,2]
 |1|7=>[1,2,3]
 |2|5|6=>[1,2,3,20,21,22]
 |3=>[1,2,3,20,21,22,23]
 |4=>[1,2,3,5,20,21,22]
 |8=>[1,2,3,36]
 |9|12|20|25|28|29=>[2]
 |10=>[1,2,3,8]
 |11=>[1,2,3,44]
 |13=>[1,2,3,9]
 |14=>[1,2,3,9,10]
 |15|22|23=>[1,2,9,10,46,47,48]
 |16=>[1,2,9,10,46,47,48,49]
 |17=>[1,2,9,10,12,46,47,48]
 |18=>[1,2,9,10,13,14,15,46,47,48]
 |19=>[1,2,9,10,13,14,46,47,48,59]
 |21=>[1,2,9,10,14,46,47,48]
 |24=>[1,2,9,10,77]
 |26=>[1,2,16,17,18]
 |27=>[1,2,16,17,98]
 |_=>[]
@[simp] def afm:Nat->List Nat
 |0=>[0]
 |1=>[0,3]
 |2|5|6=>[3,6,7,8]
 |3=>[3,6,7,8,9]
 |4=>[3,5,6,7,8]
 |7=>[2]
 |_=>[]
@[simp] def afn:Nat->List Nat
 |0=>[0,1,5]
 |1=>[0,1,5,7]
 |2=>[0,1,5,7,17]
 |3|4=>[0,1,5,7,17,18]
 |5|10|12|16|18|21|24|26|27=>[6]
 |6|7|8|9=>[0,1,5,7,17,21]
 |11=>[0,1,5,7,17,30]
 |13|14|15=>[0,1,5,7,17,42]
 |17=>[0,1,5,7,17,49]
 |19|20=>[0,1,5,7,17,53]
 |22=>[0,1,5,7,17,65]
 |23=>[0,5,8]
 |25=>[1,7,80]
 |_=>[]
@[simp] def afo:Nat->List Nat
 |0=>[0,3]
 |1=>[0,3,7]
 |2=>[0,3,7,8]
 |3|5|9|11|13|15|17|22|24|25=>[4]
 |4=>[0,3,7,20]
 |6|7|8=>[0,3,7,24]
 |10=>[0,3,7,30]
 |12=>[0,3,7,38]
 |14=>[0,3,7,46]
 |16=>[0,3,7,50]
 |18=>[0,3,7,54]
 |19|21=>[0,3,5]
 |20=>[0,3,5,63]
 |23=>[0,82]
 |_=>[]
@[simp] def afp:Nat->List Nat
 |0|3=>[0,1,2]
 |1=>[0,1,2,13]
 |2|9|12=>[6]
 |4=>[0,1,2,31]
 |5|10=>[0,1,2,41,42,43]
 |6=>[0,1,2,41,42,43,44]
 |7=>[0,1,2,8,41,42,43]
 |8=>[0,1,2,41,42,43,62]
 |_=>[]
@[simp] def afq:Nat->List Nat
 |0=>[0,1,2]
 |1|6=>[0,1,2,11,12,13]
 |2=>[0,1,2,11,12,13,14]
 |3=>[0,1,2,10,11,12,13]
 |4=>[0,1,2,11,12,13,25]
 |5|8|10|12|14|16|17=>[6,7,8]
 |7=>[0,1,2,27]
 |9=>[0,1,2,40]
 |11=>[0,1,44]
 |13=>[0,1,57]
 |15=>[0,1,75]
 |_=>[]
@[simp] def anN:Nat->List (List Nat)
 |12=>[rr,rr,rr,rr,rr,rr,rr,[],rr,rr,rr,rr,rr,rr]
 |14=>[rr,rr,rr,rr,rr,rr,rr,[],rr,rr,rr,rr,rr,rr]
 |16=>[rr,rr,rr,rr,rr,rr,rr,[],rr,rr,rr,rr,rr,rr]
 |_=>[]
@[simp] def afr:Nat->List Nat
 |0=>[0,3]
 |1=>[0,3,4]
 |2=>[3,4,6]
 |3=>[3,4,6,7]
 |4=>[3,4,12]
 |6|12|20=>[3]
 |8=>[3,4,6,29]
 |9=>[3,4,34]
 |11=>[3,4,42]
 |14=>[3,4,55]
 |15=>[3,4,72]
 |16|18|19=>[3,4]
 |17=>[3,4,80]
 |_=>[]
@[simp] def anO:Nat->List (List Nat)
 |5=>[rr,rr,rr,[1],rr,[]]
 |7=>[rr,rr,rr,rr,rr,rr,rr,rr,[0],rr,[]]
 |10=>[rr,rr,rr,[1],rr,[]]
 |13=>[rr,rr,rr,rr,rr,rr,rr,rr,[0],rr,[]]
 |16=>[rr,rr,rr,[1],rr,[]]
 |18=>[rr,rr,rr,rr,rr,rr,rr,rr,[0],rr,[]]
 |19=>[rr,rr,rr,rr,rr,[]]
 |21=>[rr,rr,rr,rr,rr,[0],rr,[]]
 |_=>[]
@[simp] def afs:Nat->List Nat
 |0=>[0,1,4]
 |1=>[1,4,16]
 |2=>[1,4,20]
 |3|5|6|8|10|11=>[1]
 |4=>[1,29]
 |7=>[1,4,48]
 |9=>[1,60]
 |_=>[]
@[simp] def anP:Nat->List (List Nat)
 |6=>[rr,rr,rr,rr,rr,rr,rr,rr,[0],rr,[]]
 |_=>[]
@[simp] def aft:Nat->List Nat
 |1=>[0]
 |_=>[]
@[simp] def afu:Nat->List Nat
 |0=>[0,1]
 |1|6=>[0,1,7,8]
 |2=>[0,1,7,8,9]
 |3=>[0,1,5,7,8]
 |4=>[0,1,5,7,8,16]
 |5|7=>[4]
 |_=>[]
@[simp] def afv:Nat->List Nat
 |0=>[0]
 |1=>[0,3]
 |2=>[0,3,4]
 |3=>[0,3,4,5]
 |4|6|11=>[0,3,4,5,6]
 |5=>[0,3,4,5,6,16]
 |7|8=>[0,3,4,5,6,7]
 |9=>[0,3,4,5,6,8]
 |10=>[0,3,5,6,8]
 |12=>[0,3,37]
 |13|32=>[2]
 |14=>[0,9]
 |15|16=>[0,9,10]
 |17|19|24|25|26|28=>[0,9,10,12]
 |18=>[0,9,10,12,53]
 |20|23|29=>[0,9,10,11,12]
 |21=>[0,9,10,11,12,60]
 |22=>[0,9,10,11,12,66]
 |27=>[0,9,10,12,91]
 |30=>[0,9,10,11,98]
 |31=>[9]
 |_=>[]
@[simp] def anQ:Nat->List (List Nat)
 |3=>[rr,rr,rr,rr,rr,rr,rr,rr,[0,1,2,3,4],rr,[]]
 |6=>[rr,rr,rr,rr,rr,rr,rr,[0,1,2,3,8],rr,rr,[]]
 |_=>[]
@[simp] def afw:Nat->List Nat
 |0=>[0,3]
 |1|6=>[0,3,8,9,10]
 |2=>[0,3,8,9,10,11]
 |3=>[0,3,5,6,8,9,10]
 |4=>[0,3,5,8,9,10,18]
 |5|7=>[4]
 |_=>[]
@[simp] def afx:Nat->List Nat
 |0=>[0,3]
 |1=>[0,3,5]
 |2|10=>[0,3,5,14,15,16]
 |3=>[0,3,5,14,15,16,17]
 |4=>[0,3,5,6,7,14,15,16]
 |5|7=>[0,3,5,6,7,8,14,15,16]
 |6=>[0,3,5,6,7,8,14,15,16,25]
 |8=>[0,3,5,6,7,8,14,15,16,42]
 |9|11=>[4]
 |_=>[]
@[simp] def afy:Nat->List Nat
 |0=>[0,3]
 |1=>[0,3,5]
 |2=>[0,3,5,7]
 |3=>[0,3,5,7,8]
 |4=>[0,3,5,7,8,9]
 |5|6|15=>[0,3,5,8,9]
 |7=>[0,3,5,8,9,75]
 |8|11=>[4]
 |9=>[0,3,5,8,9,10]
 |10=>[0,3,5,8,9,10,83]
 |12=>[0,3,5,8,9,11,13]
 |13=>[0,3,5,8,9,11,13,100]
 |14=>[0,3,5,8,9,11]
 |_=>[]
@[simp] def afz:Nat->List Nat
 |0|2|9=>[0,3]
 |1=>[0,3,8]
 |3=>[0,3,15]
 |4|7|11=>[4]
 |5=>[0,3,5]
 |6=>[0,3,5,23]
 |8=>[0,3,27]
 |10=>[0,3,34]
 |_=>[]
@[simp] def afA:Nat->List Nat
 |0=>[0,3]
 |1=>[0,3,4,5]
 |2|6|7=>[0,3,4,5,19,20,21]
 |3=>[0,3,4,5,19,20,21,22]
 |4=>[0,3,4,5,6,7,19,20,21]
 |5=>[0,3,4,5,6,8,19,20,21]
 |8=>[0,4,5,10]
 |_=>[]
@[simp] def anR:Nat->List (List Nat)
 |6=>[rr,rr,rr,rr,rr,rr,rr,rr,rr,rr,rr,[0,1,2,3,4],rr,[]]
 |9=>[rr,rr,rr,rr,rr,[6,7,8,9,10,11,12,13,14,15,16,17],rr,rr,rr,rr,rr,rr,rr,rr,rr,rr,[0,1,2,3,4,5,6,7],[0,1,2,3,4,5],[]]
 |_=>[]
@[simp] def afB:Nat->List Nat
 |0=>[0,1,4]
 |1=>[1,4,6]
 |2|4=>[1,4,6,7]
 |3=>[1,4,6,7,13]
 |5=>[1,4,6,7,26]
 |6|7=>[4,5]
 |_=>[]
@[simp] def afC:Nat->List Nat
 |0=>[1,2,5]
 |1=>[1,2,5,7]
 |2|7|8=>[1,5,7,11,12,13]
 |3=>[1,5,7,11,12,13,14]
 |4=>[1,5,7,9,11,12,13]
 |5=>[1,5,7,9,11,12,13,20]
 |6|9=>[4,5,6]
 |_=>[]
@[simp] def anS:Nat->List (List Nat)
 |6=>[rr,rr,rr,[],rr]
 |_=>[]
@[simp] def anT:Nat->List (List Nat)
 |8=>[rr,rr,rr,rr,rr,rr,rr,rr,[],rr]
 |_=>[]
@[simp] def afD:Nat->List Nat
 |0=>[0,1,2,3]
 |1=>[1,3,5]
 |2|4|5|6=>[1,3,5,6]
 |3=>[1,3,5,6,19]
 |_=>[]
@[simp] def anU:Nat->List (List Nat)
 |5=>[rr,rr,rr,rr,rr,rr,rr,rr,rr,rr,rr,rr,[]]
 |_=>[]
@[simp] def anV:Nat->List Gh
 |2=>[.gg 4 101,.gg 6 101]
 |4=>[.shut 4,.shut 6]
 |_=>[]
@[simp] def anW:Nat->List (List Nat)
 |4=>[rr,rr,rr,rr,rr,[]]
 |_=>[]
@[simp] def anX:Nat->List (List Nat)
 |2=>[rr,rr,rr,rr,rr,[]]
 |9=>[rr,rr,rr,rr,rr,[]]
 |_=>[]
@[simp] def afE:Nat->List Nat
 |0=>[0,1,2]
 |1=>[0,1,2,15]
 |2|7|10=>[6]
 |3|8=>[0,1,2,27,28,29]
 |4=>[0,1,2,27,28,29,30]
 |5=>[0,1,2,8,27,28,29]
 |6=>[0,1,2,27,28,29,37]
 |_=>[]
@[simp] def anY:Nat->List (List Nat)
 |3=>[rr,rr,rr,rr,rr,rr,rr,rr,rr,rr,rr,[13],rr,rr]
 |9=>[rr,rr,rr,rr,rr,rr,rr,rr,rr,rr,rr,rr,[0],rr,rr,[]]
 |_=>[]
@[simp] def afF:Nat->List Nat
 |0=>[0,1,2]
 |1=>[0,1,2,9]
 |2=>[0,1,2,9,10]
 |3=>[0,1,2,9,10,11]
 |4=>[1,2,9,10,11,12]
 |5=>[1,2,9,10,11,12,13]
 |6|8|10|12|14=>[9,10,11]
 |7=>[1,2,9,10,11,12,21]
 |9=>[1,2,9,10,11,12,29]
 |11=>[1,2,9,10,11,12,37]
 |13=>[1,2,9,10,11,45]
 |15=>[9,10,11,53]
 |16|18|19=>[6,7,8]
 |17=>[9,56]
 |_=>[]
@[simp] def afG:Nat->List Nat
 |0=>[0,7]
 |_=>[]
@[simp] def anZ:Nat->List (List Nat)
 |0=>[rr,rr,rr,rr,rr,rr,rr]
 |_=>[]
@[simp] def afH:Nat->List Nat
 |0=>[0,1]
 |1=>[0,1,5]
 |2=>[0,1,5,6]
 |3|8|9|11=>[0,1,5,6,14]
 |4=>[0,1,5,6,14,15,16]
 |5=>[0,1,5,6,7,8,14]
 |6=>[0,1,5,6,7,14,21]
 |7=>[0,1,5,6,7,14,23]
 |10=>[0,1,5,6,7,14,33]
 |12=>[0,5,6,36]
 |13=>[0,5]
 |14=>[0,5,9]
 |15|18|19=>[0,9,47,48,49]
 |16=>[0,9,47,48,49,50]
 |17=>[0,9,10,11,47,48,49]
 |20=>[4]
 |_=>[]
@[simp] def an0:Nat->List (List Nat)
 |2=>[rr,rr,rr,rr,rr,rr,rr,rr,rr,rr,rr,rr,rr,rr,rr,rr,[]]
 |_=>[]
@[simp] def an1:Nat->List (List Nat)
 |3=>[rr,rr,rr,rr,rr,rr,rr,rr,rr,rr,rr,rr,rr,rr,rr,rr,rr,rr,rr,rr,[]]
 |_=>[]
@[simp] def afI:Nat->List Nat
 |0=>[0,1]
 |1|6=>[0,1,7,8]
 |2=>[0,1,7,8,9]
 |3=>[0,1,5,7,8]
 |4=>[0,1,5,7,8,16]
 |5|7=>[4]
 |_=>[]
@[simp] def afJ:Nat->List Nat
 |0=>[0,1]
 |1|6=>[0,1,7,8]
 |2=>[0,1,7,8,9]
 |3=>[0,1,5,7,8]
 |4=>[0,1,5,7,8,16]
 |5|7=>[4]
 |_=>[]
@[simp] def afK:Nat->List Nat
 |0=>[0,3]
 |1=>[0,3,24]
 |2=>[0,3,24,25]
 |3|5|8|12|15|28=>[4,5]
 |4=>[0,3,24,29]
 |6=>[0,3,24,33]
 |7=>[0,6,7]
 |9=>[0,3,24,50]
 |10=>[0,3,8,9]
 |11=>[0,8,9,10]
 |13=>[0,3,79]
 |14=>[0,12,13]
 |16=>[0,3,14]
 |17=>[0,3,14,15]
 |18|23|24=>[0,3,14,15,99,100,101]
 |19=>[0,3,14,15,99,100,101,102]
 |20=>[0,3,14,17,99,100,101]
 |21=>[0,3,14,18,19,99,100,101]
 |22=>[0,3,14,19,99,100,101]
 |25=>[20,21,22]
 |26=>[20,21,22,127]
 |27=>[20,21]
 |_=>[]
@[simp] def an2:Nat->List (List Nat)
 |8=>[rr,rr,rr,rr,[5,6,7],rr,rr,rr,rr,rr]
 |12=>[rr,rr,rr,rr,[0,5,6,8,9,10],rr,rr,[8,9,10],rr,rr,rr,rr,rr]
 |15=>[rr,rr,rr,rr,[5,6,7],rr,rr,rr,rr,rr]
 |_=>[]
@[simp] def afL:Nat->List Nat
 |0=>[0,1]
 |1=>[0,1,17]
 |2|10=>[0,1,19,20]
 |3=>[0,1,19,20,21]
 |4=>[0,1,5,19,20]
 |5=>[0,1,6,19,20]
 |6=>[0,1,6,19,20,31]
 |7|9|11|18|22=>[4]
 |8=>[0,1,6,19,20,37]
 |12=>[0,1,7]
 |13|20|21=>[0,1,7,8]
 |14=>[0,1,7,8,62]
 |15=>[0,1,7,8,9]
 |16=>[0,1,7,8,9,10]
 |17=>[0,1,7,8,9,10,85]
 |19=>[0,1,7,8,9,110]
 |_=>[]
@[simp] def an3:Nat->List (List Nat)
 |9=>[rr,rr,rr,rr,rr,rr,rr,rr,rr,rr,rr,rr,rr,rr,rr,rr,rr,rr,rr,rr]
 |18=>[rr,rr,rr,rr,rr,rr,rr,rr,rr,rr,rr,rr,rr,rr,rr,rr,rr,rr,rr,rr]
 |_=>[]
@[simp] def afM:Nat->List Nat
 |0=>[0,1]
 |1=>[0,1,13]
 |2|10=>[0,1,15,16]
 |3=>[0,1,15,16,17]
 |4=>[0,1,5,15,16]
 |5=>[0,1,6,15,16]
 |6=>[0,1,6,15,16,27]
 |7|9|11|18|22=>[4]
 |8=>[0,1,6,15,16,33]
 |12=>[0,1,7]
 |13|20|21=>[0,1,7,8]
 |14=>[0,1,7,8,58]
 |15=>[0,1,7,8,9]
 |16=>[0,1,7,8,9,10]
 |17=>[0,1,7,8,9,10,78]
 |19=>[0,1,7,8,9,95]
 |_=>[]
@[simp] def an4:Nat->List (List Nat)
 |9=>[rr,rr,rr,rr,rr,rr,rr,rr,rr,rr,rr,rr,rr,rr,rr,rr,rr,rr,rr,rr]
 |_=>[]
end Go.Am
end
section
namespace Go.Am
open Go Go.Proofs.Tryz
open Go.Proofs Go.Proofs.Tryz
set_option maxRecDepth 10000
@[simp] noncomputable def tA0:Nat->Tb
 |4=>⟨za,zg,[3,6],fs [250,450],zl,od4⟩
 |8=>⟨za,zg,[],fs [150],zl,zo⟩
 |9=>⟨anI,zg,[9,11,13],fs [150,300],zl,zo⟩
 |10=>⟨ajd,zg,[],fs [150,200,350],zl,arv⟩
 |11=>⟨za,arx,[],fs [150,200,700,701,702,703],zl,arw⟩
 |13=>⟨za,zg,[],fs [200,250],zl,zo⟩
 |14=>⟨aje,zg,[],fs [250,400,500,1701,2150,4051],zl,ary⟩
 |_=>zt
@[simp] noncomputable def tA1:Nat->Tb
 |0=>⟨za,zg,[2],fs [150],zl,zo⟩
 |1=>⟨ajf,arA,[],fs [250,400,450,500,600,951,1100,1101],zl,arz⟩
 |7=>⟨za,zg,[],fs [200],zl,zo⟩
 |8=>⟨ajg,zg,[1,7,8],fs [],zl,zo⟩
 |9=>⟨ajh,zg,[],fs [],zl,zo⟩
 |10=>⟨aji,zg,[6,8,10,35],fs [300],zl,arB⟩
 |11=>⟨ajj,zg,[],fs [300],zl,zo⟩
 |12=>⟨za,zg,[],fs [150],zl,zo⟩
 |13=>⟨ajk,zg,[],fs [400,500],zl,zo⟩
 |14=>⟨ajl,arC,[],fs [150,200,250,251,252,350],zl,zo⟩
 |15=>⟨ajm,zg,[],⟨[1,2,3,4,5,6,7,8],false,[350],[],false⟩,zl,zo⟩
 |_=>zt
@[simp] noncomputable def tA2:Nat->Tb
 |0=>⟨za,zg,[],fs [150,200],zl,zo⟩
 |1=>⟨ajn,zg,[],⟨[1,2,3,4,5,6,7,8],false,[],[1],false⟩,zl,zo⟩
 |2=>⟨za,zg,[],⟨[1,2,3,4,5,6,7,8],false,[300],[],false⟩,zl,arD⟩
 |3=>⟨za,arF,[2],fs [150,500,600,601],zl,arE⟩
 |6=>⟨ajo,zg,[],fs [],zl,arG⟩
 |7=>⟨za,zg,[],⟨[],true,[200,350],[],true⟩,zl,zo⟩
 |8=>⟨ajp,zg,[],⟨[1],false,[250],[],false⟩,zl,arH⟩
 |9=>⟨ajq,zg,[],⟨[1],false,[250,3751],[],false⟩,zl,arI⟩
 |11=>⟨ajr,zg,[],fs [350,500],zl,zo⟩
 |13=>⟨ajs,zg,[],fs [250,851],zl,arJ⟩
 |14=>⟨za,zg,[],⟨[1,2,3,4,5,6],false,[250],[],false⟩,zl,arK⟩
 |15=>⟨ajt,zg,[],⟨[1,2],false,[400],[],false⟩,zl,zo⟩
 |_=>zt
@[simp] noncomputable def tA3:Nat->Tb
 |4=>⟨aju,zg,[],fs [550],zl,zo⟩
 |5=>⟨ajv,zg,[],fs [],zl,zo⟩
 |6=>⟨ajw,zg,[],fs [],zl,zo⟩
 |7=>⟨za,zg,[],fs [],zl,zo⟩
 |8=>⟨ajx,zg,[7,22],fs [300],zl,zo⟩
 |9=>⟨za,zg,[],fs [150],zl,zo⟩
 |10=>⟨ajy,zg,[],fs [300,400,450,600,750,800,850,950,1000,1150,1200,1250],zl,zo⟩
 |11=>⟨za,zg,[],fs [150],zl,zo⟩
 |12=>⟨ajz,arM,[],⟨[1,2,3,4,5,6,7,8],false,[101,200,250],[],false⟩,arN,arL⟩
 |13=>⟨ajA,arP,[],fs [250,350,400],zl,arO⟩
 |14=>⟨zk,zg,[],⟨[1,2,3,4,5,6,7,8],false,[],[],false⟩,arR,arQ⟩
 |15=>⟨ajB,zg,[3],⟨[1,2],false,[250,400],[],false⟩,zl,zo⟩
 |_=>zt
@[simp] noncomputable def tA4:Nat->Tb
 |0=>⟨ajC,zg,[10],fs [300,400],zl,arS⟩
 |1=>⟨ajD,zg,[],⟨[1,2],false,[650],[],false⟩,zl,zo⟩
 |7=>⟨ajE,zg,[],⟨[1],false,[],[],false⟩,zl,arT⟩
 |8=>⟨za,zg,[],fs [],zl,zo⟩
 |9=>⟨za,zg,[],⟨[1],false,[300],[],false⟩,zl,zo⟩
 |10=>⟨za,zg,[],⟨[1],false,[],[],false⟩,zl,arU⟩
 |11=>⟨za,zg,[],⟨[1],false,[250,1651],[],false⟩,zl,arV⟩
 |12=>⟨ajF,zg,[13,16,19,21],⟨[],true,[300,451],[],false⟩,zl,zo⟩
 |13=>⟨za,zg,[2],⟨[1],false,[250],[],false⟩,zl,arW⟩
 |_=>zt
@[simp] noncomputable def tA5:Nat->Tb
 |0=>⟨za,zg,[],fs [150,200],zl,zo⟩
 |1=>⟨ajG,zg,[],⟨[],true,[300,350,500],[],false⟩,zl,zo⟩
 |2=>⟨za,zg,[],⟨[1,2],false,[250],[],false⟩,zl,zo⟩
 |13=>⟨ajH,zg,[],fs [],zl,zo⟩
 |14=>⟨ajI,zg,[],fs [250,350,400,450,550,650,750],zl,arX⟩
 |15=>⟨za,zg,[],fs [300,400,500],zl,zo⟩
 |_=>zt
@[simp] noncomputable def tA6:Nat->Tb
 |0=>⟨ajJ,zg,[],fs [250,300,350,500,650],zl,arY⟩
 |1=>⟨zk,zg,[],⟨[1,2,3,4,5,6,7,8],false,[],[],false⟩,zl,zo⟩
 |2=>⟨za,zg,[],⟨[1,2,3,4,5,6,7,8],false,[250,350],[],false⟩,zl,arZ⟩
 |3=>⟨ajK,zg,[],⟨[1,2,3,4,5,6,7,8],false,[500],[],false⟩,zl,zo⟩
 |4=>⟨zk,zg,[],⟨[1,2,3,4,5,6,7,8],false,[],[],false⟩,zl,anJ⟩
 |5=>⟨afh,zg,[],⟨[1,2,3,4,5,6,7,8],false,[250,400,550,750,950,1000],[],false⟩,zl,anK⟩
 |6=>⟨za,zg,[],⟨[1,2,3,4,5,6,7,8],false,[200,250,300],[],false⟩,zl,zo⟩
 |7=>⟨afi,zg,[],⟨[1,2,3,4,5,6,7,8],false,[200,250,300,350,400,550],[],false⟩,zl,anL⟩
 |8=>⟨afj,zg,[],⟨[1,2,3,4,5,6,7,8],false,[200,250],[],false⟩,zl,zo⟩
 |9=>⟨za,zg,[],⟨[1,2,3,4,5,6,7,8],false,[],[],false⟩,zl,zo⟩
 |10=>⟨afk,zg,[],⟨[1,2,3,4,5,6,7,8],false,[250,350,600],[],false⟩,zl,anM⟩
 |11=>⟨afl,zg,[27],fs [150,200,250,350,550,700],zl,zo⟩
 |12=>⟨afm,zg,[],fs [250,350],zl,zo⟩
 |13=>⟨za,zg,[],⟨[1,2,3,4,5,6,7,8],false,[],[],false⟩,zl,zo⟩
 |14=>⟨afn,zg,[12,24],⟨[1,2],false,[350],[],false⟩,zl,zo⟩
 |15=>⟨za,zg,[],⟨[1,2],false,[],[],false⟩,zl,zo⟩
 |_=>zt
@[simp] noncomputable def tA7:Nat->Tb
 |0=>⟨afo,zg,[11,13,22,24],⟨[2],false,[250],[],false⟩,zl,zo⟩
 |1=>⟨afp,zg,[8],⟨[1,2,3],false,[],[2],false⟩,zl,zo⟩
 |4=>⟨afq,zg,[],fs [],zl,anN⟩
 |5=>⟨afr,zg,[15],⟨[0],false,[250],[1],false⟩,zl,anO⟩
 |6=>⟨afs,zg,[0,4,9],⟨[0],false,[],[1],false⟩,zl,anP⟩
 |7=>⟨za,zg,[],fs [],zl,zo⟩
 |_=>zt
@[simp] noncomputable def tA8:Nat->Tb
 |0=>⟨aft,zg,[],fs [],zl,zo⟩
 |1=>⟨afu,zg,[],fs [],zl,zo⟩
 |2=>⟨za,zg,[],fs [200],zl,zo⟩
 |3=>⟨afv,zg,[18,27],fs [2150],zl,zo⟩
 |4=>⟨za,zg,[],fs [],zl,zo⟩
 |5=>⟨za,zg,[],⟨[1,2],false,[],[],false⟩,zl,zo⟩
 |6=>⟨za,zg,[],⟨[1,2],false,[250,350],[],false⟩,zl,anQ⟩
 |7=>⟨afw,zg,[],⟨[1,2],false,[250,400],[],false⟩,zl,zo⟩
 |8=>⟨afx,zg,[8],⟨[1,2],false,[250],[],false⟩,zl,zo⟩
 |9=>⟨za,zg,[],fs [],zl,zo⟩
 |10=>⟨afy,zg,[7],⟨[1,2],false,[250,400],[],false⟩,zl,zo⟩
 |11=>⟨afz,zg,[],⟨[1,2],false,[250],[],false⟩,zl,zo⟩
 |12=>⟨afA,zg,[],⟨[1,2],false,[250,350,550,3551],[],false⟩,zl,anR⟩
 |_=>zt
@[simp] noncomputable def ar0:Nat->Tb
 |1=>⟨afB,zg,[5],fs [300],zl,zo⟩
 |2=>⟨za,zg,[],fs [250,300,400],zl,zo⟩
 |3=>⟨afC,zg,[],fs [200,350,550],zl,anS⟩
 |4=>⟨zk,zg,[],⟨[1,2,3,4,5,6,7,8],false,[],[],false⟩,zl,zo⟩
 |5=>⟨za,zg,[],⟨[1,2,3,4,5,6,7,8],false,[],[],false⟩,zl,zo⟩
 |6=>⟨za,zg,[],⟨[1,2,3,4,5,6,7,8],false,[],[],false⟩,zl,zo⟩
 |7=>⟨za,zg,[],fs [250,350,450,600],zl,anT⟩
 |8=>⟨za,zg,[],⟨[1,2,3,4,5,6,7,8],false,[],[],false⟩,zl,zo⟩
 |9=>⟨afD,zg,[],⟨[1,2,3,4,5,6,7,8],false,[],[],false⟩,zl,anU⟩
 |10=>⟨za,anV,[],⟨[1,2,3,4,5,6,7,8],false,[101,650],[],false⟩,zl,zo⟩
 |11=>⟨za,zg,[],⟨[1,2,3,4,5,6,7,8],false,[],[],false⟩,zl,anW⟩
 |12=>⟨za,zg,[],⟨[1,2,3,4,5,6,7,8],false,[],[],false⟩,zl,anX⟩
 |13=>⟨za,zg,[5],fs [150],zl,zo⟩
 |14=>⟨za,zg,[],fs [],zl,zo⟩
 |15=>⟨za,zg,[],fs [400],zl,zo⟩
 |_=>zt
@[simp] noncomputable def ar1:Nat->Tb
 |0=>⟨za,zg,[],⟨[1,2],false,[],[],false⟩,zl,zo⟩
 |1=>⟨za,zg,[1],⟨[1,2],false,[250],[],false⟩,zl,zo⟩
 |2=>⟨za,zg,[2,4],fs [150],zl,zo⟩
 |3=>⟨za,zg,[],⟨[2],false,[],[],false⟩,zl,zo⟩
 |4=>⟨afE,zg,[],⟨[2],false,[],[],false⟩,zl,anY⟩
 |5=>⟨za,zg,[],fs [250],zl,zo⟩
 |6=>⟨za,zg,[],fs [],zl,zo⟩
 |7=>⟨za,zg,[],fs [],zl,zo⟩
 |8=>⟨afF,zg,[],fs [],zl,zo⟩
 |9=>⟨za,zg,[],fs [],zl,zo⟩
 |10=>⟨afG,zg,[],⟨[1],false,[],[],false⟩,zl,anZ⟩
 |14=>⟨afH,zg,[],fs [650,700,2400],zl,zo⟩
 |15=>⟨za,zg,[],fs [],zl,zo⟩
 |_=>zt
@[simp] noncomputable def ar2:Nat->Tb
 |0=>⟨za,zg,[],fs [],zl,zo⟩
 |1=>⟨za,zg,[],⟨[1,2],false,[350],[],false⟩,zl,an0⟩
 |2=>⟨za,zg,[],⟨[1,2],false,[250],[2000],false⟩,zl,zo⟩
 |3=>⟨za,zg,[],fs [300],zl,zo⟩
 |4=>⟨za,zg,[],⟨[1,2],false,[300],[],false⟩,zl,zo⟩
 |5=>⟨za,zg,[],⟨[1,2],false,[350,450],[],false⟩,zl,an1⟩
 |_=>zt
@[simp] noncomputable def ar3:Nat->Tb
 |0=>⟨afI,zg,[],fs [],zl,zo⟩
 |8=>⟨afJ,zg,[],fs [],zl,zo⟩
 |9=>⟨za,zg,[],fs [200],zl,zo⟩
 |10=>⟨za,zg,[],fs [],zl,zo⟩
 |11=>⟨za,zg,[],fs [],zl,zo⟩
 |12=>⟨za,zg,[],fs [],zl,zo⟩
 |13=>⟨za,zg,[],fs [],zl,zo⟩
 |14=>⟨za,zg,[],fs [],zl,zo⟩
 |15=>⟨za,zg,[3,6],fs [],zl,zo⟩
 |_=>zt
@[simp] noncomputable def ar4:Nat->Tb
 |0=>⟨za,zg,[1],fs [],zl,zo⟩
 |1=>⟨za,zg,[],⟨[1,2],false,[250],[],false⟩,zl,zo⟩
 |2=>⟨afK,zg,[],⟨[1,2],false,[250,450,550,750,800,950],[],false⟩,zl,an2⟩
 |3=>⟨za,zg,[],fs [200],zl,zo⟩
 |_=>zt
@[simp] noncomputable def ar5:Nat->Tb
 |11=>⟨za,zg,[],fs [],zl,zo⟩
 |12=>⟨za,zg,[],fs [],zl,zo⟩
 |13=>⟨za,zg,[],fs [],zl,zo⟩
 |14=>⟨afL,zg,[],fs [],zl,an3⟩
 |15=>⟨afM,zg,[],fs [600],zl,an4⟩
 |_=>zt
@[simp] noncomputable def ar6:Nat->Tb
 |0=>⟨za,zg,[],fs [200],zl,zo⟩
 |1=>⟨za,zg,[],⟨[1,2],false,[],[],false⟩,zl,zo⟩
 |_=>zt
@[simp] noncomputable def ar7:Nat->Tb
 |9=>⟨za,zg,[],fs [],zl,zo⟩
 |_=>zt
@[simp] noncomputable def tbT:Nat->Nat->Tb
 |0=>tA0
 |1=>tA1
 |2=>tA2
 |3=>tA3
 |4=>tA4
 |5=>tA5
 |6=>tA6
 |7=>tA7
 |8=>tA8
 |10=>ar0
 |11=>ar1
 |12=>ar2
 |14=>ar3
 |15=>ar4
 |16=>ar5
 |17=>ar6
 |18=>ar7
 |_=>λ_=>zt
@[simp] noncomputable def pe(n:Nat):Tb:=tbT (n/16) (n%16)
def bO:Type:=Int
variable [Inhabited bO]
def K5:List Int:=[0,0,0,0,0,0,0,0,0,1,1,1,1,1,0,0,0,0,0,0,0,0,0,0,0,0,0,0,0,0,0,0,1,0,0,0,0,0,0,0,0,0,0,0,0,0,0,0,0,0,0,0,0,0,0,0,0,0,0,0,0,0,0,0,0,0,0,0,0,0,0,0,0,0,0,0,0,0,0,0,0,0,0,0,0,0,0,0,0,0,0,0,0,0,0,0,0,0,0,0,0,0,0,0,0,0,0,0,0,0,0,0,0,0,0,0,0,0,0,0,0,0,0,0,0,0,0,0,0,0,0,0,0,0,0,0,0,0,0,0,0,0,0,0,0,0,0,0,0,0,0,0,0,0,0,0,0,0,0,0,0,0,0,0,0,0,0,0,0,0,0,0,0,0,0,0,0,0,0,0,0,0,0,0,0,0,0,0,0,0,0,0,0,0,0,0,0,0,0,0,0,0,0,0,0,0,0,0,0,0,0,0,0,0,0,0,0,0,0,0,0,0,0,0,0,0,0,0,0,0,0,0,0,0,0,0,0,0,0,0,0,0,0,0,0,0,0,0,0,0,0,0,0,0,0,0]
def aB:List (Nat×D):=[(0,.agg (K5.map λz=>.int .u8 z)),(2,.int .i64 (id (α:=Int) (default:bO)))]
@[simp] def av3:Ln aB 0=some (.agg (K5.map λz=>.int .u8 z)):=rfl
def abW:FuncId->Option (List AV->Option AV)
 |_=>none
noncomputable def ctx:Ctx:=⟨Tryz.prog,aB,λf=>(pe f).k,λf=>(pe f).g,λf r=>(pe f).m.contains r,λf=>(pe f).f,λf=>(pe f).o,abW,λf=>(pe f).l,none⟩
@[simp] def av4:ctx.P=Tryz.prog:=rfl
@[simp] def auM:ctx.gl=aB:=rfl
@[simp] def ar8(f:FuncId):ctx.wS f=(pe f).k:=rfl
@[simp] def auN(f:FuncId):ctx.gh f=(pe f).g:=rfl
@[simp] def auO(f:FuncId):ctx.md f=(pe f).m.contains:=rfl
@[simp] def auP(f:FuncId):ctx.fp f=(pe f).f:=rfl
@[simp] def auQ(f:FuncId):ctx.fl f=(pe f).l:=rfl
@[simp] def auR(f:FuncId):ctx.od f=(pe f).o:=rfl
@[simp] def bh(fn:Func):Code:=fn.body.getD .skip
abbrev RF(n c:Nat)(fn:Func)(rs:List ResultVar):Prop:=∀{args:List AV}{cs:List aF},nY c (pe n).f args cs=true->aj ctx n args cs=aL ctx n (bh fn) (entry c aB args cs (pe n).f.sites) (CT Tryz.prog (pe n).f cs.length rs)
def bk{n c:Nat}{fn:Func}{rs:List ResultVar}(J:Tryz.prog.funcs[n]?=some fn:=by kernel_rfl)(M:fn.ntmps=c:=by kernel_rfl)(O:fn.results.toList=rs:=by kernel_rfl)(T:fn.body=some (bh fn):=by rfl)(U:yJ (bh fn)=false:=by kernel_rfl)(V:ctx.Bu n=none:=by rfl)(Y:(pe n).f.split=false:=by rfl):RF n c fn rs:=λh=>abm rfl V J T U M O rfl Y h
def ar9:RF 4 56 f4 [.tmp 6]:=bk
def asa:RF 8 18 f8 [.tmp 2]:=bk
def asb:RF 9 129 f9 [.tmp 2]:=bk
def an5:RF 10 58 f10 [.cell 2 30]:=bk
def an6:RF 11 51 f11 [.cell 2 34,.tmp 3]:=bk
def an7:RF 13 24 f13 [.tmp 4]:=bk
def adZ:RF 14 89 f14 [.cell 6 41]:=bk
def ad0{args:List AV}{cs:List aF}(h:nY 73 (pe 17).f args cs=true):aj ctx 17 args cs=m9 ctx 17 (bh f17) (entry 73 aB args cs (pe 17).f.sites) [] (Jx ctx (pe 17).f cs.length [.cell 6 41]):=
 Ys rfl rfl Tryz.func17 rfl (by kernel_rfl) Tryz.ntmps17 (by rw[Tryz.results17]) rfl h
def an8:RF 23 21 f23 [.tmp 4,.tmp 5]:=bk
def an9:RF 24 59 f24 [.tmp 2]:=bk
def aoa:RF 25 24 f25 [.tmp 2]:=bk
def aob:RF 26 258 f26 [.tmp 2]:=bk
def aoc:RF 27 25 f27 [.cell 4 59,.tmp 5]:=bk
def aod:RF 28 18 f28 [.tmp 2]:=bk
def aoe:RF 29 27 f29 [.cell 6 30]:=bk
def aof:RF 30 51 f30 [.cell 2 68]:=bk
def aog:RF 31 16 f31 []:=bk
def aoh:RF 32 8 f32 [.cell 2 25]:=bk
def ad1:RF 33 16 f33 []:=bk
def Wh:RF 34 43 f34 [.tmp 6]:=bk
def aoi:RF 35 22 f35 [.tmp 2]:=bk
def aoj:RF 38 26 f38 [.tmp 4]:=bk
def aok{args:List AV}{cs:List aF}(h:nY 8 (pe 39).f args cs=true):aj ctx 39 args cs=jN (λargs=>aL ctx 39 (bh f39) (entry 8 aB args cs (pe 39).f.sites) (CT Tryz.prog (pe 39).f cs.length [.tmp 2])) args true:=
 KR rfl rfl Tryz.func39 rfl (by kernel_rfl) Tryz.ntmps39 (by rw[Tryz.results39]) rfl rfl h
def vF:RF 40 115 f40 [.tmp 4]:=bk
def Dc:RF 41 106 f41 []:=bk
def aol:RF 43 77 f43 [.tmp 2]:=bk
def aom:RF 45 30 f45 [.tmp 2]:=bk
def ad2{args H:List AV}{I:AV}{cs:List aF}(Z:args.getLast?=some I)(y:args.dropLast=H)(h:nY 27 (pe 46).f H cs=true):HO ctx 46 args cs=zX ctx 46 I (bh f46) (entry 27 aB H cs (pe 46).f.sites) (NJ Tryz.prog (pe 46).f cs.length []):=
 aeT Tryz.func46 rfl Tryz.ntmps46 (by rw[Tryz.results46]) rfl Z y h
def aon:RF 47 21 f47 [.tmp 4]:=bk
def aoo:RF 52 136 f52 [.tmp 4,.tmp 5]:=bk
def aop:RF 53 15 f53 [.tmp 2]:=bk
def aoq:RF 55 27 f55 [.tmp 2,.tmp 3,.tmp 4]:=bk
def aor:RF 56 126 f56 [.tmp 2]:=bk
def aos:RF 57 25 f57 [.tmp 2]:=bk
def qQ:RF 58 242 f58 [.cell 6 30]:=bk
def aot:RF 59 20 f59 [.tmp 2]:=bk
def Af:RF 60 83 f60 []:=bk
def aou:RF 61 48 f61 [.tmp 2]:=bk
def aov:RF 62 13 f62 []:=bk
def aow:RF 63 66 f63 [.tmp 2]:=bk
def aoy:RF 64 63 f64 [.tmp 2]:=bk
def aoz:RF 65 26 f65 [.tmp 2]:=bk
def aoA:RF 71 20 f71 []:=bk
def aoB:RF 72 4 f72 [.tmp 2]:=bk
def aoC:RF 73 28 f73 [.tmp 6,.tmp 7]:=bk
def aoD:RF 74 19 f74 [.tmp 2]:=bk
def ad3:RF 75 60 f75 []:=bk
def aoE:RF 76 116 f76 [.tmp 4]:=bk
def aoF:RF 77 49 f77 [.tmp 4]:=bk
def aoG:RF 80 17 f80 [.cell 2 151,.tmp 3]:=bk
def Dd:RF 82 46 f82 [.tmp 4]:=bk
def aoH:RF 93 44 f93 [.tmp 4,.tmp 5]:=bk
def iG:RF 94 155 f94 [.tmp 4,.cell 5 30]:=bk
def aoI:RF 95 27 f95 [.cell 6 30]:=bk
def aoJ:RF 96 91 f96 [.cell 4 30]:=bk
def aoK:RF 97 5 f97 []:=bk
def ad4:RF 98 49 f98 []:=bk
def ad5:RF 99 49 f99 []:=bk
def ajL:RF 100 11 f100 []:=bk
def zm:RF 101 141 f101 [.tmp 4]:=bk
def ajM:RF 102 22 f102 []:=bk
def ajN:RF 103 47 f103 []:=bk
def Zl:RF 104 7 f104 []:=bk
def Qw:RF 105 9 f105 [.tmp 4]:=bk
def ajO:RF 106 60 f106 []:=bk
def ajP:RF 107 105 f107 [.cell 2 120]:=bk
def ajQ:RF 108 19 f108 [.tmp 2]:=bk
def ajR:RF 109 8 f109 [.tmp 2]:=bk
def ajS:RF 110 85 f110 [.tmp 6]:=bk
def ajT:RF 111 9 f111 [.tmp 2]:=bk
def ajU:RF 112 92 f112 [.tmp 4]:=bk
def ajV:RF 113 67 f113 [.tmp 6]:=bk
def Zm:RF 116 93 f116 [.tmp 6,.tmp 7,.tmp 8]:=bk
def Zn:RF 117 105 f117 []:=bk
def ajW:RF 118 80 f118 []:=bk
def ajX:RF 119 4 f119 [.tmp 2]:=bk
def ajY:RF 129 19 f129 [.tmp 4]:=bk
def ajZ:RF 130 8 f130 [.tmp 3]:=bk
def aj0:RF 133 16 f133 []:=bk
def Zo:RF 134 51 f134 []:=bk
def aj1:RF 135 33 f135 [.tmp 4]:=bk
def aj2:RF 136 57 f136 [.tmp 4]:=bk
def aj3:RF 137 6 f137 [.tmp 2]:=bk
def aj4:RF 138 111 f138 [.tmp 4]:=bk
def aj5:RF 139 35 f139 [.tmp 4]:=bk
def aj6:RF 140 71 f140 []:=bk
def aj7:RF 161 32 f161 [.cell 4 148,.tmp 5]:=bk
def aj8:RF 162 24 f162 [.cell 4 30]:=bk
def aj9:RF 163 29 f163 [.tmp 4,.cell 5 59,.tmp 6]:=bk
def aka:RF 164 8 f164 []:=bk
def akb:RF 165 9 f165 [.tmp 4]:=bk
def akc:RF 166 14 f166 []:=bk
def akd:RF 167 49 f167 [.tmp 6,.cell 7 148,.tmp 8]:=bk
def ake:RF 168 19 f168 [.tmp 4]:=bk
def akf:RF 169 38 f169 []:=bk
def Zp:RF 170 42 f170 []:=bk
def akg:RF 171 42 f171 []:=bk
def Zq:RF 172 44 f172 []:=bk
def akh:RF 173 41 f173 [.tmp 2,.tmp 3,.tmp 4]:=bk
def aki:RF 174 4 f174 [.tmp 2]:=bk
def akj:RF 175 25 f175 [.cell 6 120]:=bk
def akk:RF 176 33 f176 [.tmp 6]:=bk
def akl:RF 177 32 f177 [.tmp 4]:=bk
def akm:RF 178 47 f178 [.tmp 2]:=bk
def akn:RF 179 21 f179 [.tmp 4]:=bk
def ako:RF 180 54 f180 [.tmp 6]:=bk
def akp:RF 181 24 f181 [.tmp 4]:=bk
def akq:RF 182 34 f182 [.tmp 6,.tmp 7,.tmp 8]:=bk
def akr:RF 183 33 f183 [.tmp 6,.tmp 7,.tmp 8]:=bk
def aks:RF 184 64 f184 [.tmp 6,.tmp 7,.tmp 8]:=bk
def akt:RF 185 43 f185 [.tmp 6,.tmp 7,.tmp 8]:=bk
def Zr:RF 186 13 f186 []:=bk
def aku:RF 193 25 f193 [.tmp 4,.cell 5 59]:=bk
def akv:RF 194 14 f194 [.tmp 4]:=bk
def akw:RF 195 25 f195 [.tmp 6]:=bk
def akx:RF 196 19 f196 [.tmp 6]:=bk
def aky:RF 197 41 f197 [.tmp 6,.cell 7 148]:=bk
def akz:RF 224 19 f224 [.tmp 4]:=bk
def Zs:RF 232 19 f232 [.tmp 4]:=bk
def akA:RF 233 8 f233 [.tmp 3]:=bk
def akB:RF 234 23 f234 [.tmp 4,.tmp 5]:=bk
def akC:RF 235 23 f235 [.tmp 4,.tmp 5]:=bk
def akD:RF 236 27 f236 [.tmp 4,.tmp 5]:=bk
def akE:RF 237 19 f237 [.tmp 4,.tmp 5]:=bk
def akF:RF 238 14 f238 [.tmp 4,.tmp 5]:=bk
def akG:RF 241 12 f241 [.tmp 4]:=bk
def zn:RF 242 133 f242 [.tmp 4,.tmp 5]:=bk
def akH:RF 243 8 f243 [.tmp 3]:=bk
def akI:RF 267 51 f267 [.tmp 4,.tmp 5]:=bk
def akJ:RF 268 10 f268 [.tmp 2]:=bk
def akK:RF 269 24 f269 [.tmp 4,.tmp 5]:=bk
def akL:RF 272 8 f272 [.tmp 3]:=bk
def akM:RF 273 25 f273 [.tmp 6]:=bk
def akN:RF 297 4 f297 [.tmp 2]:=bk
end Go.Am
end
section
namespace Go.Am
open Go Go.Proofs Go.Proofs.Tryz
variable [Inhabited bO]
set_option maxRecDepth 20000
set_option maxHeartbeats 4000000
@[simp] def as5(a b:Tx):(a == b)=decide (a=b):=by by_cases h:a=b<;>simp[h]
def tP:D->Option Int
 | .agg [.int .i64 k,.str _,.str _,.str _,.int .i64 _]=>some k
 |_=>none
def G4{d:D}{k:Int}(h:tP d=some k):∃a b c n,d=.agg [.int .i64 k,.str a,.str b,.str c,.int .i64 n]:=by
 unfold tP at h;split at h
 .rename_i A3 a b c n;cases h;exact⟨a,b,c,n,rfl⟩
 .cases h
def TE:Option (Out×List (Nat×aF))->Option (List (Option Int))
 |some (.ret (.d (.list l)),[])=>some (l.map tP)
 |_=>none
def akO:TE (bE ctx 120 128 [] [])=some (jx.map some):=by kernel_rfl
def abX:∃l:List D,aj ctx 128 [] []=some (.ret (.d (.list l)),[])/\l.map tP=jx.map some:=by
 have h:=akO;generalize Y:bE ctx 120 128 [] []=r at h;unfold TE at h;split at h
 .rename_i l;exact⟨l,yQ 120 Y,by simpa using h⟩
 .cases h
def abY(d:D)(k b:Int)(I:tP d=some k):aj ctx 130 [.d d,.ptr 0 0 0] [.box [.d (.int .i64 b)]]=some (.ret (.d (.bool (decide (k=b)))),[(0,.box [.d (.int .i64 b)])]):=by
 obtain⟨a,e,c,n,rfl⟩:=G4 I;rw[ajZ (by simp)];simp[f130]
def G5(b:Int):∀(rest pre:List D),(∀d∈rest,∃k,tP d=some k/\k≠b)->(pre++rest).length<1000->∀k:Kt,
 aL ctx 129 (.loop (Code.at (bh f129) [1,0,1,0,0])) ⟨19,aB,[(0,true,.d (.list (pre++rest))),(1,true,.fn 130 [.ptr 0 0 0]),(7,true,.d (.int .i64 (pre++rest).length)),(8,true,.d (.int .i64 pre.length))],[⟨0,0,.box [.d (.int .i64 b)]⟩]⟩ k=
  k (.exit 0) ⟨19,aB,[(0,true,.d (.list (pre++rest))),(1,true,.fn 130 [.ptr 0 0 0]),(7,true,.d (.int .i64 (pre++rest).length)),(8,true,.d (.int .i64 (pre++rest).length)),(9,true,.d (.bool false))],[⟨0,0,.box [.d (.int .i64 b)]⟩]⟩
 |[],pre,h,J,k=>by
  rw[ah];simp[f129]
 |d::rest,pre,h,J,k=>by
  obtain⟨T,M,Z⟩:=h d (by simp);have U:=abY d T b M;obtain⟨y,a2,a3,a4,rfl⟩:=G4 M;have ih:=G5 b rest (pre++[.agg [.int .i64 T,.str y,.str a2,.str a3,.int .i64 a4]]) (λd I=>h d (by simp[I])) (by simpa using J) k;have O:(pre.length:Int)<pre.length+(rest.length+1):=by omega
  have A':IntKind.i64.wrap ((pre.length:Int)+1)=pre.length+1:=jb (by unfold bz;simp at J;omega);simp[Z]at U;rw[ah];simp[f129]at ih⊢;simp[O,A',U,ih]
def Wi(b:Int)(H:b∉jx):aj ctx 45 [.d (.int .i64 b)] []=some (.ret (.d (.list [])),[]):=by
 obtain⟨l,J,hm⟩:=abX;have A4:l.length=21:=by have:=ahw List.length hm;simpa [jx]using this
 have A0:∀d∈l,∃k,tP d=some k/\k≠b:=by
  intro d I;have O:tP d∈l.map tP:=adP I;rw[hm]at O;obtain⟨k,M,he⟩:=adk.1 O;exact⟨k,he.symm,λh=>H (h▸M)⟩
 have V:=G5 b l [] A0 (by simp;omega);have A1:aj ctx 129 [.d (.list l),.fn 130 [.ptr 0 0 0]] [.box [.d (.int .i64 b)]]=some (.ret (.d (.int .i64 (-1))),[(0,.box [.d (.int .i64 b)])]):=by
  rw[ajY (by simp)];simp[f129]at V⊢;simp[V]
 have A2:aj ctx 80 [.d (.int .i64 b)] []=some (.ret (.bq [.d (.agg [.int .i64 0,.str [],.str [],.str [],.int .i64 0]),.d (.bool false)]),[]):=by
  rw[aoG (by simp)];simp[f80,J,A1]
 rw[aom (by simp)];simp[f45,A2]
def afN{b:Int}(H:b∈jx):aj ctx 45 [.d (.int .i64 b)] []=some (.ret (.d (.list ((dQ b).map gz))),[]):=by
 simp only[jx,ac4,adL]at H;repeat' (obtain rfl|H:=H)
 all_goals exact yQ 120 (by as_aux_lemma=>kernel_rfl)
def B0(b:Int):aj ctx 45 [.d (.int .i64 b)] []=some (.ret (.d (.list ((dQ b).map gz))),[]):=by
 by_cases H:b∈jx
 .exact afN H
 .rw[tL H];exact Wi b H
def xu:Vr:=⟨[],0,0,false,0,0,0,0⟩
def fV(vs:List Vr)(s:Tx):Vr:=(bj vs s).getD xu
def Ag:Pn:=⟨[],0,false⟩
def fP(k:Int)(s:Tx):Pn:=(mn k s).getD Ag
@[simp] def Wj(t:Tx):D:=.str t
def JR(s:Tx)(l:List Tx)(A0:l.length<=1000)(k:Kt)(R1 R2:bS)
 (I:k .ret ⟨15,aB,[(2,true,.d (.bool true))],[]⟩=R1)
 (H:∀Y:Env,k (.exit 0) ⟨15,aB,Y,[]⟩=R2):∀(rest:List Tx)(j:Nat),l.drop j=rest->j+rest.length=l.length->
 aL ctx 53 (.loop (Code.at (bh f53) [1,0,1,0,0])) ⟨15,aB,[(0,true,.d (.str s)),(5,true,.d (.list (l.map Wj))),(6,true,.d (.int .i64 l.length)),(7,true,.d (.int .i64 j))],[]⟩ k=if s∈rest then R1 else R2
 |[],j,M,J=>by
  have J:j=l.length:=by simpa using J
  subst J;rw[ah];simp[f53,H]
 |x::rest,j,M,J=>by
  have T:j<l.length:=by simp at J;omega
  have y:l[j]=x:=by
   have:=ahw (·[0]?) M;simp at this;simpa [T]using this
  have ih:=JR s l A0 k R1 R2 I H rest (j+1) (by rw[<-List.tail_drop,M];rfl) (by simp at J;omega);have U:=b9 ((j:Int)+1);rw[ah];by_cases A1:x=s
  .simp[f53];simp[T,y,A1,I]
  .have A6:¬s=x:=λh=>A1 h.symm;simp[f53]at ih⊢;simp[T,y,A1,A6,U,ih]
def Zt(s:Tx):aj ctx 53 [.d (.str s)] []=some (.ret (.d (.bool (NK s))),[]):=by
 have V:=λk R1 R2 I H=>JR s qj (by decide) k R1 R2 I H qj 0 rfl (by decide);have e:List.map Wj qj=qj.map Wj:=rfl;have AA:qj.length=36:=rfl;have A7:List.range' 0 36=[0,1,2,3,4,5,6,7,8,9,10,11,12,13,14,15,16,17,18,19,20,21,22,23,24,25,26,27,28,29,30,31,32,33,34,35]:=rfl;rw[aop (by simp)];unfold NK;generalize A2:decide (s∈qj)=B;simp[f53,qj]at V;simp[f53,A7];rw[V _ (some (.ret (.d (.bool true)),[])) (some (.ret (.d (.bool false)),[])) (by simp) (by simp)];subst A2;by_cases hm:s∈qj
 .rw[ahl hm];simp only[qj,ac4,adL,apQ]at hm;rw[ac1 hm]
 .rw[decide_eq_false hm];simp only[qj,ac4,adL,apQ]at hm;rw[aaf hm]
def JS(s:Tx)(A0:s.length<=16)(k:Kt)(R1 R2:bS)
 (I:k .ret ⟨59,aB,[(2,true,.d (.bool false))],[]⟩=R1)
 (H:∀Y:Env,k (.exit 0) ⟨59,aB,Y,[]⟩=R2):∀(rest:Tx)(j:Nat),s.drop j=rest->j+rest.length=s.length->
 aL ctx 24 (.loop (Code.at (bh f24) [1,1,0,1,0,0])) ⟨59,aB,[(0,true,.d (.str s)),(3,true,.d (.int .i64 j))],[]⟩ k=if zY rest j=true then R2 else R1
 |[],j,M,J=>by
  have J:j=s.length:=by simpa using J
  subst J;rw[ah];simp[f24,H,zY]
 |c::rest,j,M,J=>by
  have T:j<s.length:=by simp at J;omega
  have y:FD s j=c:=by
   have:=ahw (·[0]?) M;simp at this;simp[FD,this]
  have ih:=JS s A0 k R1 R2 I H rest (j+1) (by rw[<-List.tail_drop,M];rfl) (by simp at J;omega);have U:=b9 ((j:Int)+1);have key:zY (c::rest) j=((abt c||(!decide (j=0)&&(decide (c=95)||abu c)))&&zY rest (j+1)):=rfl;have A8:decide (c=95)=decide (c.toNat=95):=by
   rw[ahL];exact⟨λh=>by rw[h];rfl,λh=>UInt8.toNat_inj.1 (by rw[h];rfl)⟩
  rw[key,A8];generalize zY rest (j+1)=B at*;rw[ah];simp[f24]at ih⊢;simp[T,y,U,I,ih];unfold abt abu;grind
def gv(s:Tx):aj ctx 24 [.d (.str s)] []=some (.ret (.d (.bool (dV s))),[]):=by
 have hw:=Zt s;unfold dV;rw[an9 (by simp)];by_cases I:s.length<1
 .have H:¬1<=s.length:=by omega
  have O:(s.length:Int)<1:=by omega
  simp[f24,H,O]
 .by_cases A3:16<s.length
  .have H:1<=s.length:=by omega
   have O:¬(s.length:Int)<1:=by omega
   have Z:¬s.length<=16:=by omega
   have A':(16:Int)<s.length:=by omega
   simp[f24,H,O,Z,A3,A']
  .have H:1<=s.length:=by omega
   have O:¬(s.length:Int)<1:=by omega
   have Z:s.length<=16:=by omega
   have A':¬(16:Int)<s.length:=by omega
   cases A5:NK s with
   |true=>
    rw[A5]at hw;simp[f24,H,O,Z,A3,A',hw]
   |false=>
    rw[A5]at hw;have V:=λk R1 R2 I H=>JS s Z k R1 R2 I H s 0 rfl (by simp);simp[f24]at V;simp[f24,H,O,Z,A3,A',hw];rw[V _ (some (.ret (.d (.bool false)),[])) (some (.ret (.d (.bool true)),[])) (by simp) (by simp)];cases zY s 0<;>simp
def TF{x:Ex}(h:(eh x).length<100000000/\(ic x).length<100000000/\(di x).length<100000000):aj ctx 57 [.d (.agg [.int .i64 (bQ x),.int .i64 (iS x),.str (eh x),.str (ic x),.list ((di x).map cm),.int .i64 (lQ x)])] []=some (.ret (.d (.bool (ff x))),[]):=by
 have U:=b9 ((eh x).length+(ic x).length:Int);have A9:=b9 ((eh x).length+(ic x).length+(di x).length:Int);unfold ff;generalize A2:decide ((eh x).length+(ic x).length+(di x).length=0)=B;rw[aos (by simp)];by_cases A4:bQ x=0
 .by_cases I:iS x=0
  .simp[f57,A4,I];rw[U,A9,<-A2,ahL];omega
  .simp[f57,A4,I]
 .simp[f57,A4]
def abZ(op:Int):aj ctx 55 [.d (.int .i64 op)] []=some (.ret (.bq [.d (.bool (decide (op=4\/op=9))),.d (.bool (decide (op=1))),.d (.bool (decide (op=1\/op=3\/op=5\/op=6)))]),[]):=by
 rw[aoq (by simp)];simp[f55];grind
def tQ(x:Ex):bm x=(!decide ((bQ x=1/\iS x<0)\/(bQ x=2/\(iS x<0\/1<iS x))\/(2<bQ x/\iS x≠0)\/bQ x<1\/21<bQ x)&&
 (decide ((di x).length=fe (bQ x))&&((if bQ x=3\/bQ x=4\/bQ x=5 then dV (eh x)else decide (eh x=[]))&&((if bQ x=5 then dV (ic x)else decide (ic x=[]))&&bI (di x))))):=by
 cases x;rw[bm];rfl
def KF(l:List Ex):Prop:=aj ctx 56 [.d (.list (l.map cm))] []=some (.ret (.d (.bool (bI l))),[])
def akP{l:List Ex}(Y:l.length<100000000){i:Nat}{x:Ex}(H:i<l.length)(I:l[i]=x)(D:KF (di x))(Z:(di x).length<100000000)(k:Kt)(R1 R2:bS)(B:Bool)
 (J:∀v X,k .ret ⟨126,aB,[(2,true,.d (.bool false))],[⟨300,v,X⟩]⟩=R1)
 (ih:∀v X,aL ctx 56 (.loop (Code.at (bh f56) [1,0,1,0,0])) ⟨126,aB,[(0,true,.d (.list (l.map cm))),(3,true,.d (.int .i64 (i+1)))],[⟨300,v,X⟩]⟩ k=if B=true then R2 else R1) (h:bQ x<1) (v:Nat) (X:aF):
 aL ctx 56 (.loop (Code.at (bh f56) [1,0,1,0,0])) ⟨126,aB,[(0,true,.d (.list (l.map cm))),(3,true,.d (.int .i64 i))],[⟨300,v,X⟩]⟩ k=if (bm x&&B)=true then R2 else R1:=by
 have M:=b9 ((i:Int)+1);have O:=gv (eh x);have T:=gv (ic x);unfold KF at D;rw[tQ];generalize bI (di x)=S at*;generalize dV (eh x)=N at*;generalize dV (ic x)=F at*;have y:¬bQ x=1:=by omega
 have A':¬bQ x=2:=by omega
 have A1:¬bQ x=3:=by omega
 have A2:¬bQ x=4:=by omega
 have A3:¬bQ x=5:=by omega
 have A4:¬bQ x=6:=by omega
 have A5:¬bQ x=7:=by omega
 have d1:¬2<bQ x:=by omega
 rw[ah];simp[f56]at ih⊢;simp[H,I,M,az,h,D,O,T,ih,J,y,A',d1];intros;omega
def akQ{l:List Ex}(Y:l.length<100000000){i:Nat}{x:Ex}(H:i<l.length)(I:l[i]=x)(D:KF (di x))(Z:(di x).length<100000000)(k:Kt)(R1 R2:bS)(B:Bool)
 (J:∀v X,k .ret ⟨126,aB,[(2,true,.d (.bool false))],[⟨300,v,X⟩]⟩=R1)
 (ih:∀v X,aL ctx 56 (.loop (Code.at (bh f56) [1,0,1,0,0])) ⟨126,aB,[(0,true,.d (.list (l.map cm))),(3,true,.d (.int .i64 (i+1)))],[⟨300,v,X⟩]⟩ k=if B=true then R2 else R1) (h:bQ x=1) (v:Nat) (X:aF):
 aL ctx 56 (.loop (Code.at (bh f56) [1,0,1,0,0])) ⟨126,aB,[(0,true,.d (.list (l.map cm))),(3,true,.d (.int .i64 i))],[⟨300,v,X⟩]⟩ k=if (bm x&&B)=true then R2 else R1:=by
 have M:=b9 ((i:Int)+1);have O:=gv (eh x);have T:=gv (ic x);unfold KF at D;rw[tQ];generalize bI (di x)=S at*;generalize dV (eh x)=N at*;generalize dV (ic x)=F at*;rw[ah];simp[f56]at ih⊢;have V:fe 1=0:=rfl;by_cases U:iS x<0
 .simp[H,I,M,az,h,D,O,T,ih,J,U];intros;omega
 .by_cases A0:1<iS x
  .simp[H,I,M,az,h,D,O,T,ih,J,U,A0,V];grind
  .simp[H,I,M,az,h,D,O,T,ih,J,U,A0,V];grind
def akR{l:List Ex}(Y:l.length<100000000){i:Nat}{x:Ex}(H:i<l.length)(I:l[i]=x)(D:KF (di x))(Z:(di x).length<100000000)(k:Kt)(R1 R2:bS)(B:Bool)
 (J:∀v X,k .ret ⟨126,aB,[(2,true,.d (.bool false))],[⟨300,v,X⟩]⟩=R1)
 (ih:∀v X,aL ctx 56 (.loop (Code.at (bh f56) [1,0,1,0,0])) ⟨126,aB,[(0,true,.d (.list (l.map cm))),(3,true,.d (.int .i64 (i+1)))],[⟨300,v,X⟩]⟩ k=if B=true then R2 else R1) (h:bQ x=2) (v:Nat) (X:aF):
 aL ctx 56 (.loop (Code.at (bh f56) [1,0,1,0,0])) ⟨126,aB,[(0,true,.d (.list (l.map cm))),(3,true,.d (.int .i64 i))],[⟨300,v,X⟩]⟩ k=if (bm x&&B)=true then R2 else R1:=by
 have M:=b9 ((i:Int)+1);have O:=gv (eh x);have T:=gv (ic x);unfold KF at D;rw[tQ];generalize bI (di x)=S at*;generalize dV (eh x)=N at*;generalize dV (ic x)=F at*;rw[ah];simp[f56]at ih⊢;have V:fe 2=0:=rfl;by_cases U:iS x<0
 .simp[H,I,M,az,h,D,O,T,ih,J,U];intros;omega
 .by_cases A0:1<iS x
  .simp[H,I,M,az,h,D,O,T,ih,J,U,A0,V];intros;omega
  .simp[H,I,M,az,h,D,O,T,ih,J,U,A0,V];grind
def akS{l:List Ex}(Y:l.length<100000000){i:Nat}{x:Ex}(H:i<l.length)(I:l[i]=x)(D:KF (di x))(Z:(di x).length<100000000)(k:Kt)(R1 R2:bS)(B:Bool)
 (J:∀v X,k .ret ⟨126,aB,[(2,true,.d (.bool false))],[⟨300,v,X⟩]⟩=R1)
 (ih:∀v X,aL ctx 56 (.loop (Code.at (bh f56) [1,0,1,0,0])) ⟨126,aB,[(0,true,.d (.list (l.map cm))),(3,true,.d (.int .i64 (i+1)))],[⟨300,v,X⟩]⟩ k=if B=true then R2 else R1) (h:bQ x=3) (v:Nat) (X:aF):
 aL ctx 56 (.loop (Code.at (bh f56) [1,0,1,0,0])) ⟨126,aB,[(0,true,.d (.list (l.map cm))),(3,true,.d (.int .i64 i))],[⟨300,v,X⟩]⟩ k=if (bm x&&B)=true then R2 else R1:=by
 have M:=b9 ((i:Int)+1);have O:=gv (eh x);have T:=gv (ic x);unfold KF at D;rw[tQ];generalize bI (di x)=S at*;generalize dV (eh x)=N at*;generalize dV (ic x)=F at*;rw[ah];simp[f56]at ih⊢;have V:fe 3=0:=rfl;by_cases U:iS x=0
 .simp[H,I,M,az,h,D,O,T,ih,J,U,V];grind
 .simp[H,I,M,az,h,D,O,T,ih,J,U]
def akT{l:List Ex}(Y:l.length<100000000){i:Nat}{x:Ex}(H:i<l.length)(I:l[i]=x)(D:KF (di x))(Z:(di x).length<100000000)(k:Kt)(R1 R2:bS)(B:Bool)
 (J:∀v X,k .ret ⟨126,aB,[(2,true,.d (.bool false))],[⟨300,v,X⟩]⟩=R1)
 (ih:∀v X,aL ctx 56 (.loop (Code.at (bh f56) [1,0,1,0,0])) ⟨126,aB,[(0,true,.d (.list (l.map cm))),(3,true,.d (.int .i64 (i+1)))],[⟨300,v,X⟩]⟩ k=if B=true then R2 else R1) (h:bQ x=4) (v:Nat) (X:aF):
 aL ctx 56 (.loop (Code.at (bh f56) [1,0,1,0,0])) ⟨126,aB,[(0,true,.d (.list (l.map cm))),(3,true,.d (.int .i64 i))],[⟨300,v,X⟩]⟩ k=if (bm x&&B)=true then R2 else R1:=by
 have M:=b9 ((i:Int)+1);have O:=gv (eh x);have T:=gv (ic x);unfold KF at D;rw[tQ];generalize bI (di x)=S at*;generalize dV (eh x)=N at*;generalize dV (ic x)=F at*;rw[ah];simp[f56]at ih⊢;have V:fe 4=1:=rfl;by_cases U:iS x=0
 .simp[H,I,M,az,h,D,O,T,ih,J,U,V];grind
 .simp[H,I,M,az,h,D,O,T,ih,J,U]
def akU{l:List Ex}(Y:l.length<100000000){i:Nat}{x:Ex}(H:i<l.length)(I:l[i]=x)(D:KF (di x))(Z:(di x).length<100000000)(k:Kt)(R1 R2:bS)(B:Bool)
 (J:∀v X,k .ret ⟨126,aB,[(2,true,.d (.bool false))],[⟨300,v,X⟩]⟩=R1)
 (ih:∀v X,aL ctx 56 (.loop (Code.at (bh f56) [1,0,1,0,0])) ⟨126,aB,[(0,true,.d (.list (l.map cm))),(3,true,.d (.int .i64 (i+1)))],[⟨300,v,X⟩]⟩ k=if B=true then R2 else R1) (h:bQ x=5) (v:Nat) (X:aF):
 aL ctx 56 (.loop (Code.at (bh f56) [1,0,1,0,0])) ⟨126,aB,[(0,true,.d (.list (l.map cm))),(3,true,.d (.int .i64 i))],[⟨300,v,X⟩]⟩ k=if (bm x&&B)=true then R2 else R1:=by
 have M:=b9 ((i:Int)+1);have O:=gv (eh x);have T:=gv (ic x);unfold KF at D;rw[tQ];generalize bI (di x)=S at*;generalize dV (eh x)=N at*;generalize dV (ic x)=F at*;rw[ah];simp[f56]at ih⊢;have V:fe 5=0:=rfl;by_cases U:iS x=0
 .simp[H,I,M,az,h,D,O,T,ih,J,U,V];grind
 .simp[H,I,M,az,h,D,O,T,ih,J,U]
def akV{l:List Ex}(Y:l.length<100000000){i:Nat}{x:Ex}(H:i<l.length)(I:l[i]=x)(D:KF (di x))(Z:(di x).length<100000000)(k:Kt)(R1 R2:bS)(B:Bool)
 (J:∀v X,k .ret ⟨126,aB,[(2,true,.d (.bool false))],[⟨300,v,X⟩]⟩=R1)
 (ih:∀v X,aL ctx 56 (.loop (Code.at (bh f56) [1,0,1,0,0])) ⟨126,aB,[(0,true,.d (.list (l.map cm))),(3,true,.d (.int .i64 (i+1)))],[⟨300,v,X⟩]⟩ k=if B=true then R2 else R1) (h:bQ x=6) (v:Nat) (X:aF):
 aL ctx 56 (.loop (Code.at (bh f56) [1,0,1,0,0])) ⟨126,aB,[(0,true,.d (.list (l.map cm))),(3,true,.d (.int .i64 i))],[⟨300,v,X⟩]⟩ k=if (bm x&&B)=true then R2 else R1:=by
 have M:=b9 ((i:Int)+1);have O:=gv (eh x);have T:=gv (ic x);unfold KF at D;rw[tQ];generalize bI (di x)=S at*;generalize dV (eh x)=N at*;generalize dV (ic x)=F at*;rw[ah];simp[f56]at ih⊢;have V:fe 6=1:=rfl;by_cases U:iS x=0
 .simp[H,I,M,az,h,D,O,T,ih,J,U,V];grind
 .simp[H,I,M,az,h,D,O,T,ih,J,U]
def akW{l:List Ex}(Y:l.length<100000000){i:Nat}{x:Ex}(H:i<l.length)(I:l[i]=x)(D:KF (di x))(Z:(di x).length<100000000)(k:Kt)(R1 R2:bS)(B:Bool)
 (J:∀v X,k .ret ⟨126,aB,[(2,true,.d (.bool false))],[⟨300,v,X⟩]⟩=R1)
 (ih:∀v X,aL ctx 56 (.loop (Code.at (bh f56) [1,0,1,0,0])) ⟨126,aB,[(0,true,.d (.list (l.map cm))),(3,true,.d (.int .i64 (i+1)))],[⟨300,v,X⟩]⟩ k=if B=true then R2 else R1) (h:bQ x=7) (v:Nat) (X:aF):
 aL ctx 56 (.loop (Code.at (bh f56) [1,0,1,0,0])) ⟨126,aB,[(0,true,.d (.list (l.map cm))),(3,true,.d (.int .i64 i))],[⟨300,v,X⟩]⟩ k=if (bm x&&B)=true then R2 else R1:=by
 have M:=b9 ((i:Int)+1);have O:=gv (eh x);have T:=gv (ic x);unfold KF at D;rw[tQ];generalize bI (di x)=S at*;generalize dV (eh x)=N at*;generalize dV (ic x)=F at*;rw[ah];simp[f56]at ih⊢;have V:fe 7=1:=rfl;by_cases U:iS x=0
 .simp[H,I,M,az,h,D,O,T,ih,J,U,V];grind
 .simp[H,I,M,az,h,D,O,T,ih,J,U]
def akX{l:List Ex}(Y:l.length<100000000){i:Nat}{x:Ex}(H:i<l.length)(I:l[i]=x)(D:KF (di x))(Z:(di x).length<100000000)(k:Kt)(R1 R2:bS)(B:Bool)
 (J:∀v X,k .ret ⟨126,aB,[(2,true,.d (.bool false))],[⟨300,v,X⟩]⟩=R1)
 (ih:∀v X,aL ctx 56 (.loop (Code.at (bh f56) [1,0,1,0,0])) ⟨126,aB,[(0,true,.d (.list (l.map cm))),(3,true,.d (.int .i64 (i+1)))],[⟨300,v,X⟩]⟩ k=if B=true then R2 else R1) (h:7<bQ x) (v:Nat) (X:aF):
 aL ctx 56 (.loop (Code.at (bh f56) [1,0,1,0,0])) ⟨126,aB,[(0,true,.d (.list (l.map cm))),(3,true,.d (.int .i64 i))],[⟨300,v,X⟩]⟩ k=if (bm x&&B)=true then R2 else R1:=by
 have M:=b9 ((i:Int)+1);have O:=gv (eh x);have T:=gv (ic x);unfold KF at D;rw[tQ];generalize bI (di x)=S at*;generalize dV (eh x)=N at*;generalize dV (ic x)=F at*;have y:¬bQ x=1:=by omega
 have A':¬bQ x=2:=by omega
 have A1:¬bQ x=3:=by omega
 have A2:¬bQ x=4:=by omega
 have A3:¬bQ x=5:=by omega
 have A4:¬bQ x=6:=by omega
 have A5:¬bQ x=7:=by omega
 have d1:2<bQ x:=by omega
 have d2:¬bQ x<1:=by omega
 have V:fe (bQ x)=2:=by unfold fe;rw[aaf (by omega),ac1 h]
 rw[ah];simp[f56]at ih⊢;by_cases U:iS x=0
 .by_cases A6:21<bQ x
  .simp[H,I,M,az,h,D,O,T,ih,J,U,A6,y,A',A1,A2,A3,A4,A5,d1,d2];intros;omega
  .simp[H,I,M,az,h,D,O,T,ih,J,U,A6,V,y,A',A1,A2,A3,A4,A5,d1,d2];grind
 .simp[H,I,M,az,h,D,O,T,ih,J,U,y,A',d1];intros;omega
def MP(l:List Ex)(D:l.length<100000000)(A':∀x∈l,KF (di x))(U:∀x∈l,(di x).length<100000000)(k:Kt)(R1 R2:bS)
 (H:∀v X,k .ret ⟨126,aB,[(2,true,.d (.bool false))],[⟨300,v,X⟩]⟩=R1)
 (Z:∀(Y:Env) v X,k (.exit 0) ⟨126,aB,Y,[⟨300,v,X⟩]⟩=R2):∀(rest pre:List Ex)(v:Nat)(X:aF),l=pre++rest->
 aL ctx 56 (.loop (Code.at (bh f56) [1,0,1,0,0])) ⟨126,aB,[(0,true,.d (.list (l.map cm))),(3,true,.d (.int .i64 pre.length))],[⟨300,v,X⟩]⟩ k=if bI rest=true then R2 else R1
 |[],pre,v,X,V=>by
  have A0:pre.length=l.length:=by rw[V];simp
  rw[A0,ah];simp[f56,Z,bI]
 |x::rest,pre,v,X,V=>by
  have J:pre.length<l.length:=by rw[V];simp
  have M:l[pre.length]=x:=by simp[V]
  have O:=A' x (by rw[V];simp);have T:=U x (by rw[V];simp);have ih:∀v X,aL ctx 56 (.loop (Code.at (bh f56) [1,0,1,0,0])) ⟨126,aB,[(0,true,.d (.list (l.map cm))),(3,true,.d (.int .i64 (pre.length+1)))],[⟨300,v,X⟩]⟩ k=if bI rest=true then R2 else R1:=λv X=>by
   have:=MP l D A' U k R1 R2 H Z rest (pre++[x]) v X (by simp[V]);simpa using this
  have key:bI (x::rest)=(bm x&&bI rest):=by rw[bI]
  rw[key];have A1:bQ x<1\/bQ x=1\/bQ x=2\/bQ x=3\/bQ x=4\/bQ x=5\/bQ x=6\/bQ x=7\/7<bQ x:=by omega
  rcases A1 with h|h|h|h|h|h|h|h|h
  .exact akP D J M O T k R1 R2 _ H ih h v X
  .exact akQ D J M O T k R1 R2 _ H ih h v X
  .exact akR D J M O T k R1 R2 _ H ih h v X
  .exact akS D J M O T k R1 R2 _ H ih h v X
  .exact akT D J M O T k R1 R2 _ H ih h v X
  .exact akU D J M O T k R1 R2 _ H ih h v X
  .exact akV D J M O T k R1 R2 _ H ih h v X
  .exact akW D J M O T k R1 R2 _ H ih h v X
  .exact akX D J M O T k R1 R2 _ H ih h v X
def Zu{l:List Ex}(D:l.length<100000000)(A':∀x∈l,KF (di x))(U:∀x∈l,(di x).length<100000000):KF l:=by
 have h:=λk R1 R2 H Z v X=>MP l D A' U k R1 R2 H Z l [] v X rfl;unfold KF;rw[aor (by simp)];simp[f56]at h⊢;rw[h _ (some (.ret (.d (.bool false)),[])) (some (.ret (.d (.bool true)),[]))]
 .cases bI l<;>simp
 .intro v X;simp
 .intro Y v X;simp
mutual
def B1:Ex->Prop
 | .mk _ _ name field sub _=>(name.length<100000000/\field.length<100000000/\sub.length<100000000)/\tR sub
def tR:List Ex->Prop
 |[]=>True
 |x::r=>B1 x/\tR r
end
mutual
def akY:∀x:Ex,B1 x->KF (di x)/\(di x).length<100000000
 | .mk op nn name field sub line,h=>by
  simp only[B1]at h;have U:=Gm sub h.2;exact⟨Zu h.1.2.2 (λx I=>(U x I).1) (λx I=>(U x I).2),h.1.2.2⟩
def Gm:∀l:List Ex,tR l->∀x∈l,KF (di x)/\(di x).length<100000000
 |[],_,x,I=>by simp at I
 |y::r,h,x,I=>by
  simp only[tR]at h;have H:=akY y h.1;have Z:=Gm r h.2;rcases ac4.1 I with e|I
  .rw[e];exact H
  .exact Z x I
end
def H0{l:List Ex}(D:l.length<100000000)(h:tR l):KF l:=
 Zu D (λx I=>(Gm l h x I).1) (λx I=>(Gm l h x I).2)
@[simp] def smL(x:Sm):List D:=[.int .i64 (bG x),.str (gk x),
 .int .i64 (bQ (gm x)),.int .i64 (iS (gm x)),.str (eh (gm x)),.str (ic (gm x)),.list ((di (gm x)).map cm),.int .i64 (lQ (gm x)),
 .int .i64 (bQ (dO x)),.int .i64 (iS (dO x)),.str (eh (dO x)),.str (ic (dO x)),.list ((di (dO x)).map cm),.int .i64 (lQ (dO x)),
 .list ((b7 x).map cm),.list ((dq x).map jR),.list ((dP x).map .str),.list ((aP x).map dZ),.int .i64 (n6 x)]
section
variable {vs:List Vr} {n:Int} (H:vs.length<1000000) (I:∀v∈vs,dr v=true)
include H I
end
@[simp] def bA(x:Sm):aF:=.box [.d (.int .i64 (bG x)),.d (.str (gk x)),.d (.int .i64 (bQ (gm x))),.d (.int .i64 (iS (gm x))),.d (.str (eh (gm x))),.d (.str (ic (gm x))),.d (.list ((di (gm x)).map cm)),.d (.int .i64 (lQ (gm x))),
 .d (.int .i64 (bQ (dO x))),.d (.int .i64 (iS (dO x))),.d (.str (eh (dO x))),.d (.str (ic (dO x))),.d (.list ((di (dO x)).map cm)),.d (.int .i64 (lQ (dO x))),.d (.list ((b7 x).map cm)),.d (.list ((dq x).map jR)),.d (.list ((dP x).map .str)),.d (.list ((aP x).map dZ)),.d (.int .i64 (n6 x))]
@[simp] def jA(v:Vr):aF:=.box [.d (.str v.name),.d (.int .i64 v.ty),.d (.int .i64 v.sec),.d (.bool v.arr),.d (.int .i64 v.lo),.d (.int .i64 v.hi),.d (.int .i64 v.init),.d (.int .i64 v.line)]
def Qx{v:Vr}(H:dr v=true):aj ctx 59 [.d (bF v)] []=some (.ret (.d (.int .i64 (cB v))),[]):=by
 have J:=B0 v.ty;rw[aot (by simp)];unfold cB;cases D:v.arr with
 |true=>
  simp only[dr,Ds,D,ad7,ac2]at H;have M:=b9 (v.hi-v.lo);have O:=b9 (v.hi-v.lo+1);simp[f59,bF,dK,D,M,O]
 |false=>
  by_cases I:2<v.ty
  .simp[f59,bF,dK,D,I,J]
  .simp[f59,bF,dK,D,I]
def vG{v:Vr}(H:dr v=true):0<=cB v/\cB v<=256:=by
 have:=wm v.ty;unfold cB;cases D:v.arr with
 |true=>
  simp only[dr,Ds,D,ad7,ac2]at H;simp only[ad7];omega
 |false=>
  simp only[ahs,adN];split<;>omega
@[reducible] noncomputable def cN(p:List Nat):Code:=Code.at (bh f26) p
section
variable {x:Sm} {v:Nat} {k:Kt} {R1:bS} {a b:AV} (D:k .ret ⟨258,aB,[(2,true,.d (.bool false))],[⟨300,v,bA x⟩]⟩=R1)
def Qy(x:Sm):Bool:=decide (1<=bG x/\bG x<=9)&&(if bG x=4\/bG x=9 then dV (gk x)else decide (gk x=[]))
def Qz(x:Sm):Bool:=if bG x=1 then decide (bQ (gm x)=3\/bQ (gm x)=4)&&bm (gm x)else ff (gm x)
def K6(x:Sm):Bool:=(if bG x=1\/bG x=3\/bG x=5\/bG x=6 then !ff (dO x)&&bm (dO x)else ff (dO x))&&bI (b7 x)
include D
theorem ase{d6 d7:AV}:aL ctx 26 (cN [1,0,1,0,0,1,0,0,1,1,0]) ⟨258,aB,[(0,true,a),(3,true,b),(4,true,.ptr 300 v 0),(5,true,.d (.bool (decide (bG x=4\/bG x=9)))),(6,true,d6),(7,true,d7)],[⟨300,v,bA x⟩]⟩ k=
 if Qy x=true then k .normal ⟨258,aB,[(0,true,a),(3,true,b),(4,true,.ptr 300 v 0),(6,true,d6),(7,true,d7),(59,true,.d (.bool false))],[⟨300,v,bA x⟩]⟩else R1:=by
 have U:=gv (gk x);unfold Qy;simp only[bA]at D;generalize dV (gk x)=N at*;by_cases H:bG x<1
 .have O:¬1<=bG x:=by omega
  simp[cN,f26];simp[H,O,D]
 .have O:1<=bG x:=by omega
  by_cases Y:9<bG x
  .have I:¬bG x<=9:=by omega
   simp[cN,f26];simp[H,O,Y,I,D]
  .have I:bG x<=9:=by omega
   by_cases J:bG x=4
   .simp only[J]at D⊢;cases N<;>(simp[cN,f26];simp[J,U,D])
   .by_cases V:bG x=9
    .simp only[V]at D⊢;cases N<;>(simp[cN,f26];simp[V,U,D])
    .by_cases he:gk x=[]
     .simp only[he]at D⊢;simp[cN,f26];simp[H,O,Y,I,J,V,he,D]
     .simp[cN,f26];simp[H,O,Y,I,J,V,he,D]
theorem asf{d7:AV}(Z:(eh (gm x)).length<100000000/\(ic (gm x)).length<100000000/\(di (gm x)).length<100000000)(M:KF [gm x]):aL ctx 26 (cN [1,0,1,0,0,1,0,0,1,1,1,0]) ⟨258,aB,[(0,true,a),(3,true,b),(4,true,.ptr 300 v 0),(6,true,.d (.bool (decide (bG x=1)))),(7,true,d7),(59,true,.d (.bool false))],[⟨300,v,bA x⟩]⟩ k=
 if Qz x=true then k .normal ⟨258,aB,[(0,true,a),(3,true,b),(4,true,.ptr 300 v 0),(7,true,d7),(89,true,.d (.bool false))],[⟨300,v,bA x⟩]⟩else R1:=by
 have U:=TF Z;unfold KF at M;simp[az,bI]at M;unfold Qz;simp only[bA]at D;generalize ff (gm x)=N at*;generalize bm (gm x)=T at*;by_cases H:bG x=1
 .simp only[H]at D;by_cases I:bQ (gm x)=3
  .simp only[I]at D M;cases T<;>(simp[cN,f26];simp[H,I,M,D])
  .by_cases J:bQ (gm x)=4
   .simp only[J]at D M;cases T<;>(simp[cN,f26];simp[H,J,M,D])
   .simp[cN,f26];simp[H,I,J,D]
 .cases N<;>(simp[cN,f26];simp[H,U,D])
end
section
variable {x:Sm} {v:Nat} {k:Kt} {R1:bS} {a b:AV}
theorem ash(D:k .ret ⟨258,aB,[(2,true,.d (.bool false))],[⟨300,v,bA x⟩]⟩=R1){V:Bool}(A8:V=decide (bG x=1\/bG x=3\/bG x=5\/bG x=6))(A9:(eh (dO x)).length<100000000/\(ic (dO x)).length<100000000/\(di (dO x)).length<100000000)(A5:KF [dO x])(A6:KF (b7 x)):aL ctx 26 (cN [1,0,1,0,0,1,0,0,1,1,1,1,0]) ⟨258,aB,[(0,true,a),(3,true,b),(4,true,.ptr 300 v 0),(7,true,.d (.bool V)),(89,true,.d (.bool false))],[⟨300,v,bA x⟩]⟩ k=
 if K6 x=true then k .normal ⟨258,aB,[(0,true,a),(3,true,b),(4,true,.ptr 300 v 0),(118,true,.d (.bool false))],[⟨300,v,bA x⟩]⟩else R1:=by
 have A7:=TF A9;unfold KF at A5 A6;simp[az,bI]at A5;have e:K6 x=((if V=true then !ff (dO x)&&bm (dO x)else ff (dO x))&&bI (b7 x)):=by
  unfold K6;rw[A8];by_cases h:bG x=1\/bG x=3\/bG x=5\/bG x=6
  .rw[ac1 h,ac1 (by simpa using h)]
  .rw[aaf h,aaf (by simpa using h)]
 rw[e];simp only[bA]at D;generalize ff (dO x)=N at*;generalize bm (dO x)=T at*;generalize bI (b7 x)=W at*;clear A8 e;cases V with
 |true=>
  cases N with
  |true=>(simp[cN,f26];simp[A7,D])
  |false=>cases T<;>cases W<;>(simp[cN,f26];simp[A7,A5,A6,D])
 |false=>cases N<;>cases W<;>(simp[cN,f26];simp[A7,A6,D])
theorem asi{X:Env}:aL ctx 26 (cN [1,0,1,0,0,1,0,0,1,1,1,1,1,0]) ⟨258,aB,[(0,true,a),(3,true,b),(4,true,.ptr 300 v 0),(118,true,.d (.bool false))],[⟨300,v,bA x⟩]⟩ k=
 k .normal ⟨258,aB,[(0,true,a),(3,true,b),(4,true,.ptr 300 v 0),(8,true,.d (.int .i64 0)),(9,true,.d (.int .i64 0)),(10,true,.d (.int .i64 0)),(11,true,.d (.int .i64 0)),(12,true,.d (.int .i64 0))],[⟨300,v,bA x⟩]⟩:=by
 simp[cN,f26]
def Fp(n:Int):Int:=if 1<n then n else 1
def uv(x:Sm):Int:=if bG x=2 then Fp (b7 x).length else if bG x=4 then 3 else if bG x=9 then (dP x).length else 0
def uw(x:Sm):Int:=if bG x=3 then (dq x).length else 0
def pA(x:Sm):Int:=if bG x=9 then (dP x).length else 0
def lK(x:Sm):Int:=if bG x=2 then Fp (b7 x).length else if bG x=3 then (dq x).length else if bG x=4\/bG x=5\/bG x=6 then 1 else 0
def mw(x:Sm):Int:=if bG x=2\/bG x=3 then 1 else 0
def cX(x:Sm):Env:=if bG x=2\/bG x=3\/bG x=4\/bG x=5\/bG x=6\/bG x=9 then []else [(144,true,.d (.bool false))]
theorem ak0(A':bG x=2):aL ctx 26 (cN [1,0,1,0,0,1,0,0,1,1,1,1,1,1,0]) ⟨258,aB,[(0,true,a),(3,true,b),(4,true,.ptr 300 v 0),(8,true,.d (.int .i64 0)),(9,true,.d (.int .i64 0)),(10,true,.d (.int .i64 0)),(11,true,.d (.int .i64 0)),(12,true,.d (.int .i64 0))],[⟨300,v,bA x⟩]⟩ k=
 k .normal ⟨258,aB,[(0,true,a),(3,true,b),(4,true,.ptr 300 v 0),(8,true,.d (.int .i64 (uv x))),(9,true,.d (.int .i64 (uw x))),(10,true,.d (.int .i64 (pA x))),(11,true,.d (.int .i64 (lK x))),(12,true,.d (.int .i64 (mw x)))]++cX x,[⟨300,v,bA x⟩]⟩:=by
 unfold uv uw pA lK mw cX;simp[cN,f26];simp[A',ak,Fp]
theorem ak1(A0:bG x=3):aL ctx 26 (cN [1,0,1,0,0,1,0,0,1,1,1,1,1,1,0]) ⟨258,aB,[(0,true,a),(3,true,b),(4,true,.ptr 300 v 0),(8,true,.d (.int .i64 0)),(9,true,.d (.int .i64 0)),(10,true,.d (.int .i64 0)),(11,true,.d (.int .i64 0)),(12,true,.d (.int .i64 0))],[⟨300,v,bA x⟩]⟩ k=
 k .normal ⟨258,aB,[(0,true,a),(3,true,b),(4,true,.ptr 300 v 0),(8,true,.d (.int .i64 (uv x))),(9,true,.d (.int .i64 (uw x))),(10,true,.d (.int .i64 (pA x))),(11,true,.d (.int .i64 (lK x))),(12,true,.d (.int .i64 (mw x)))]++cX x,[⟨300,v,bA x⟩]⟩:=by
 unfold uv uw pA lK mw cX;simp[cN,f26];simp[A0,ak,Fp]
theorem ak2(A1:bG x=4):aL ctx 26 (cN [1,0,1,0,0,1,0,0,1,1,1,1,1,1,0]) ⟨258,aB,[(0,true,a),(3,true,b),(4,true,.ptr 300 v 0),(8,true,.d (.int .i64 0)),(9,true,.d (.int .i64 0)),(10,true,.d (.int .i64 0)),(11,true,.d (.int .i64 0)),(12,true,.d (.int .i64 0))],[⟨300,v,bA x⟩]⟩ k=
 k .normal ⟨258,aB,[(0,true,a),(3,true,b),(4,true,.ptr 300 v 0),(8,true,.d (.int .i64 (uv x))),(9,true,.d (.int .i64 (uw x))),(10,true,.d (.int .i64 (pA x))),(11,true,.d (.int .i64 (lK x))),(12,true,.d (.int .i64 (mw x)))]++cX x,[⟨300,v,bA x⟩]⟩:=by
 unfold uv uw pA lK mw cX;simp[cN,f26];simp[A1,ak,Fp]
theorem ak3(A2:bG x=5):aL ctx 26 (cN [1,0,1,0,0,1,0,0,1,1,1,1,1,1,0]) ⟨258,aB,[(0,true,a),(3,true,b),(4,true,.ptr 300 v 0),(8,true,.d (.int .i64 0)),(9,true,.d (.int .i64 0)),(10,true,.d (.int .i64 0)),(11,true,.d (.int .i64 0)),(12,true,.d (.int .i64 0))],[⟨300,v,bA x⟩]⟩ k=
 k .normal ⟨258,aB,[(0,true,a),(3,true,b),(4,true,.ptr 300 v 0),(8,true,.d (.int .i64 (uv x))),(9,true,.d (.int .i64 (uw x))),(10,true,.d (.int .i64 (pA x))),(11,true,.d (.int .i64 (lK x))),(12,true,.d (.int .i64 (mw x)))]++cX x,[⟨300,v,bA x⟩]⟩:=by
 unfold uv uw pA lK mw cX;simp[cN,f26];simp[A2,ak,Fp]
theorem ak4(A3:bG x=6):aL ctx 26 (cN [1,0,1,0,0,1,0,0,1,1,1,1,1,1,0]) ⟨258,aB,[(0,true,a),(3,true,b),(4,true,.ptr 300 v 0),(8,true,.d (.int .i64 0)),(9,true,.d (.int .i64 0)),(10,true,.d (.int .i64 0)),(11,true,.d (.int .i64 0)),(12,true,.d (.int .i64 0))],[⟨300,v,bA x⟩]⟩ k=
 k .normal ⟨258,aB,[(0,true,a),(3,true,b),(4,true,.ptr 300 v 0),(8,true,.d (.int .i64 (uv x))),(9,true,.d (.int .i64 (uw x))),(10,true,.d (.int .i64 (pA x))),(11,true,.d (.int .i64 (lK x))),(12,true,.d (.int .i64 (mw x)))]++cX x,[⟨300,v,bA x⟩]⟩:=by
 unfold uv uw pA lK mw cX;simp[cN,f26];simp[A3,ak,Fp]
theorem ak5(H:bG x=9):aL ctx 26 (cN [1,0,1,0,0,1,0,0,1,1,1,1,1,1,0]) ⟨258,aB,[(0,true,a),(3,true,b),(4,true,.ptr 300 v 0),(8,true,.d (.int .i64 0)),(9,true,.d (.int .i64 0)),(10,true,.d (.int .i64 0)),(11,true,.d (.int .i64 0)),(12,true,.d (.int .i64 0))],[⟨300,v,bA x⟩]⟩ k=
 k .normal ⟨258,aB,[(0,true,a),(3,true,b),(4,true,.ptr 300 v 0),(8,true,.d (.int .i64 (uv x))),(9,true,.d (.int .i64 (uw x))),(10,true,.d (.int .i64 (pA x))),(11,true,.d (.int .i64 (lK x))),(12,true,.d (.int .i64 (mw x)))]++cX x,[⟨300,v,bA x⟩]⟩:=by
 unfold uv uw pA lK mw cX;simp[cN,f26];simp[H,ak,Fp]
theorem ak6(A':¬bG x=2)(A0:¬bG x=3)(A1:¬bG x=4)(A2:¬bG x=5)(A3:¬bG x=6)(H:¬bG x=9):aL ctx 26 (cN [1,0,1,0,0,1,0,0,1,1,1,1,1,1,0]) ⟨258,aB,[(0,true,a),(3,true,b),(4,true,.ptr 300 v 0),(8,true,.d (.int .i64 0)),(9,true,.d (.int .i64 0)),(10,true,.d (.int .i64 0)),(11,true,.d (.int .i64 0)),(12,true,.d (.int .i64 0))],[⟨300,v,bA x⟩]⟩ k=
 k .normal ⟨258,aB,[(0,true,a),(3,true,b),(4,true,.ptr 300 v 0),(8,true,.d (.int .i64 (uv x))),(9,true,.d (.int .i64 (uw x))),(10,true,.d (.int .i64 (pA x))),(11,true,.d (.int .i64 (lK x))),(12,true,.d (.int .i64 (mw x)))]++cX x,[⟨300,v,bA x⟩]⟩:=by
 unfold uv uw pA lK mw cX;simp[cN,f26];simp[A',A0,A1,A2,A3,H,ak,Fp]
theorem asj:aL ctx 26 (cN [1,0,1,0,0,1,0,0,1,1,1,1,1,1,0]) ⟨258,aB,[(0,true,a),(3,true,b),(4,true,.ptr 300 v 0),(8,true,.d (.int .i64 0)),(9,true,.d (.int .i64 0)),(10,true,.d (.int .i64 0)),(11,true,.d (.int .i64 0)),(12,true,.d (.int .i64 0))],[⟨300,v,bA x⟩]⟩ k=
 k .normal ⟨258,aB,[(0,true,a),(3,true,b),(4,true,.ptr 300 v 0),(8,true,.d (.int .i64 (uv x))),(9,true,.d (.int .i64 (uw x))),(10,true,.d (.int .i64 (pA x))),(11,true,.d (.int .i64 (lK x))),(12,true,.d (.int .i64 (mw x)))]++cX x,[⟨300,v,bA x⟩]⟩:=by
 by_cases A':bG x=2
 .exact ak0 A'
 .by_cases A0:bG x=3
  .exact ak1 A0
  .by_cases A1:bG x=4
   .exact ak2 A1
   .by_cases A2:bG x=5
    .exact ak3 A2
    .by_cases A3:bG x=6
     .exact ak4 A3
     .by_cases H:bG x=9
      .exact ak5 H
      .exact ak6 A' A0 A1 A2 A3 H
theorem aoL(D:k .ret ⟨258,aB,[(2,true,.d (.bool false))],[⟨300,v,bA x⟩]⟩=R1){U Y Z I M:Int}(hw:IntKind.i64.wrap (I+M)=I+M):aL ctx 26 (cN [1,0,1,0,0,1,0,0,1,1,1,1,1,1,1,0]) ⟨258,aB,[(0,true,a),(3,true,b),(4,true,.ptr 300 v 0),(8,true,.d (.int .i64 U)),(9,true,.d (.int .i64 Y)),(10,true,.d (.int .i64 Z)),(11,true,.d (.int .i64 I)),(12,true,.d (.int .i64 M))],[⟨300,v,bA x⟩]⟩ k=
 if (((b7 x).length:Int)=U/\((dq x).length:Int)=Y/\((dP x).length:Int)=Z/\¬((aP x).length:Int)<I/\¬I+M<((aP x).length:Int))then k .normal ⟨258,aB,[(0,true,a),(3,true,b),(4,true,.ptr 300 v 0),(186,true,.d (.bool false))],[⟨300,v,bA x⟩]⟩else R1:=by
 simp only[bA]at D;by_cases J:((b7 x).length:Int)=U
 .by_cases H:((dq x).length:Int)=Y
  .by_cases O:((dP x).length:Int)=Z
   .by_cases y:((aP x).length:Int)<I
    ·(simp[cN,f26];simp[J,H,O,y,D];intros;exfalso;omega)
    .by_cases A4:I+M<((aP x).length:Int)
     ·(simp[cN,f26];simp[J,H,O,y,hw,A4,D];intros;exfalso;omega)
     ·(simp[cN,f26];simp[J,H,O,y,hw,A4,D])
   ·(simp[cN,f26];simp[J,H,O,D])
  ·(simp[cN,f26];simp[J,H,D])
 ·(simp[cN,f26];simp[J,D])
theorem aoM(D:k .ret ⟨258,aB,[(2,true,.d (.bool false))],[⟨300,v,bA x⟩]⟩=R1){U Y Z I M:Int}(hw:IntKind.i64.wrap (I+M)=I+M):aL ctx 26 (cN [1,0,1,0,0,1,0,0,1,1,1,1,1,1,1,0]) ⟨258,aB,[(0,true,a),(3,true,b),(4,true,.ptr 300 v 0),(8,true,.d (.int .i64 U)),(9,true,.d (.int .i64 Y)),(10,true,.d (.int .i64 Z)),(11,true,.d (.int .i64 I)),(12,true,.d (.int .i64 M)),(144,true,.d (.bool false))],[⟨300,v,bA x⟩]⟩ k=
 if (((b7 x).length:Int)=U/\((dq x).length:Int)=Y/\((dP x).length:Int)=Z/\¬((aP x).length:Int)<I/\¬I+M<((aP x).length:Int))then k .normal ⟨258,aB,[(0,true,a),(3,true,b),(4,true,.ptr 300 v 0),(186,true,.d (.bool false))],[⟨300,v,bA x⟩]⟩else R1:=by
 simp only[bA]at D;by_cases J:((b7 x).length:Int)=U
 .by_cases H:((dq x).length:Int)=Y
  .by_cases O:((dP x).length:Int)=Z
   .by_cases y:((aP x).length:Int)<I
    ·(simp[cN,f26];simp[J,H,O,y,D];intros;exfalso;omega)
    .by_cases A4:I+M<((aP x).length:Int)
     ·(simp[cN,f26];simp[J,H,O,y,hw,A4,D];intros;exfalso;omega)
     ·(simp[cN,f26];simp[J,H,O,y,hw,A4,D])
   ·(simp[cN,f26];simp[J,H,O,D])
  ·(simp[cN,f26];simp[J,H,D])
 ·(simp[cN,f26];simp[J,D])
end
def KS(b:List Sm):Prop:=aj ctx 26 [.d (.list (b.map bZ))] []=some (.ret (.d (.bool (eA b))),[])
section
variable {x:Sm} {v:Nat} {k:Kt} {R1 R2:bS} {a b:AV}
theorem QB(T:(dP x).length<100000000)(H:k .ret ⟨258,aB,[(2,true,.d (.bool false))],[⟨300,v,bA x⟩]⟩=R1)
 (I:k (.exit 3) ⟨258,aB,[(0,true,a),(3,true,b),(4,true,.ptr 300 v 0),(13,true,.d (.int .i64 (dP x).length)),(191,true,.d (.bool false))],[⟨300,v,bA x⟩]⟩=R2):∀(rest pre:List Tx),dP x=pre++rest->
 aL ctx 26 (.loop (cN [1,0,1,0,0,1,0,0,1,1,1,1,1,1,1,1,0,1,0,0])) ⟨258,aB,[(0,true,a),(3,true,b),(4,true,.ptr 300 v 0),(13,true,.d (.int .i64 pre.length))],[⟨300,v,bA x⟩]⟩ k=if rest.all dV=true then R2 else R1
 |[],pre,D=>by
  have U:pre.length=(dP x).length:=by rw[D];simp
  simp only[bA]at I;rw[U,ah];simp[cN,f26,I]
 |c::rest,pre,D=>by
  have J:pre.length<(dP x).length:=by rw[D];simp
  have M:(dP x)[pre.length]=c:=by simp[D]
  have ih:=QB T H I rest (pre++[c]) (by simp[D]);have O:=gv c;have V:=b9 ((pre.length:Int)+1);simp only[bA]at H;rw[ah7];generalize dV c=N at*;rw[ah];cases N with
  |true=>
   simp[cN,f26]at ih⊢;simp[J,M,O,V,ih]
  |false=>
   simp[cN,f26];simp[J,M,O,H]
theorem QC{l:List Int}{i:Nat}(hi:i<(dq x).length)(Y:(dq x)[i]=l)(T:l.length<100000000)(H:k .ret ⟨258,aB,[(2,true,.d (.bool false))],[⟨300,v,bA x⟩]⟩=R1)
 (I:k (.exit 7) ⟨258,aB,[(0,true,a),(3,true,b),(4,true,.ptr 300 v 0),(14,true,.d (.int .i64 i)),(15,true,.d (.int .i64 l.length)),(232,true,.d (.bool false))],[⟨300,v,bA x⟩]⟩=R2):∀(rest pre:List Int),l=pre++rest->
 aL ctx 26 (.loop (cN [1,0,1,0,0,1,0,0,1,1,1,1,1,1,1,1,1,0,1,0,0,1,0,0,1,1,0,0])) ⟨258,aB,[(0,true,a),(3,true,b),(4,true,.ptr 300 v 0),(14,true,.d (.int .i64 i)),(15,true,.d (.int .i64 pre.length))],[⟨300,v,bA x⟩]⟩ k=if rest.all (λn=>decide (n≠ -9223372036854775808))=true then R2 else R1
 |[],pre,D=>by
  have U:pre.length=l.length:=by rw[D];simp
  simp only[bA]at I;rw[U,ah];simp[cN,f26];simp[hi,Y,jR,I]
 |c::rest,pre,D=>by
  have J:pre.length<l.length:=by rw[D];simp
  have M:l[pre.length]=c:=by simp[D]
  have ih:=QC hi Y T H I rest (pre++[c]) (by simp[D]);have V:=b9 ((pre.length:Int)+1);simp only[bA]at H;rw[ah7];rw[ah];by_cases Z:c= -9223372036854775808
  .simp[cN,f26];simp[hi,Y,jR,J,M,Z,H]
  .simp[cN,f26]at ih⊢;simp[hi,Y,jR,J,M,Z,V,ih]
theorem QD(T:(aP x).length<100000000)(y:∀c∈aP x,KS c)(H:k .ret ⟨258,aB,[(2,true,.d (.bool false))],[⟨300,v,bA x⟩]⟩=R1)
 (I:k (.exit 9) ⟨258,aB,[(0,true,a),(3,true,b),(4,true,.ptr 300 v 0),(16,true,.d (.int .i64 (aP x).length)),(248,true,.d (.bool false))],[⟨300,v,bA x⟩]⟩=R2):∀(rest pre:List (List Sm)),aP x=pre++rest->
 aL ctx 26 (.loop (cN [1,0,1,0,0,1,0,0,1,1,1,1,1,1,1,1,1,1,1,0,0])) ⟨258,aB,[(0,true,a),(3,true,b),(4,true,.ptr 300 v 0),(16,true,.d (.int .i64 pre.length))],[⟨300,v,bA x⟩]⟩ k=if cu rest=true then R2 else R1
 |[],pre,D=>by
  have U:pre.length=(aP x).length:=by rw[D];simp
  simp only[bA]at I;rw[U,ah];simp[cN,f26,I,cu]
 |c::rest,pre,D=>by
  have J:pre.length<(aP x).length:=by rw[D];simp
  have M:(aP x)[pre.length]=c:=by simp[D]
  have ih:=QD T y H I rest (pre++[c]) (by simp[D]);have O:=y c (by rw[D];simp);have V:=b9 ((pre.length:Int)+1);simp only[bA]at H;unfold KS at O;have key:cu (c::rest)=(eA c&&cu rest):=by rw[cu]
  rw[key];generalize eA c=N at*;rw[ah];cases N with
  |true=>
   simp[cN,f26]at ih⊢;simp[J,M,O,dZ,V,ih]
  |false=>
   simp[cN,f26];simp[J,M,O,dZ,H]
end
section
variable {x:Sm} {v:Nat} {k:Kt} {R1 R2:bS} {a b:AV}
theorem QE(A':(dq x).length<100000000)(Z:∀l∈dq x,l.length<100000000)(D:k .ret ⟨258,aB,[(2,true,.d (.bool false))],[⟨300,v,bA x⟩]⟩=R1)
 (I:k (.exit 5) ⟨258,aB,[(0,true,a),(3,true,b),(4,true,.ptr 300 v 0),(14,true,.d (.int .i64 (dq x).length)),(205,true,.d (.bool false))],[⟨300,v,bA x⟩]⟩=R2):∀(rest pre:List (List Int)),dq x=pre++rest->
 aL ctx 26 (.loop (cN [1,0,1,0,0,1,0,0,1,1,1,1,1,1,1,1,1,0,1,0,0])) ⟨258,aB,[(0,true,a),(3,true,b),(4,true,.ptr 300 v 0),(14,true,.d (.int .i64 pre.length))],[⟨300,v,bA x⟩]⟩ k=if rest.all uV=true then R2 else R1
 |[],pre,H=>by
  have A0:pre.length=(dq x).length:=by rw[H];simp
  simp only[bA]at I;rw[A0,ah];simp[cN,f26,I]
 |c::rest,pre,H=>by
  have M:pre.length<(dq x).length:=by rw[H];simp
  have O:(dq x)[pre.length]=c:=by simp[H]
  have A1:=Z c (by rw[H];simp);have ih:=QE A' Z D I rest (pre++[c]) (by simp[H]);have A2:=b9 ((pre.length:Int)+1);have y:=λk R1 R2 D I=>QC (a:=a) (b:=b) (v:=v) (k:=k) (R1:=R1) (R2:=R2) M O A1 D I c [] rfl;simp only[bA]at D;rw[ah7];have key:uV c=(!decide (c.length=0)&&(decide (c.length%2=0)&&c.all λn=>decide (n≠ -9223372036854775808))):=rfl;rw[key];generalize (c.all λn=>decide (n≠ -9223372036854775808))=B at*;rw[ah];have T:((c.length:Int)).tmod 2=((c.length%2:Nat):Int):=(Int.ofNat_tmod c.length 2).symm;by_cases J:c.length=0
  .have U:c=[]:=adf J;simp[cN,f26];simp[M,O,jR,J,U,D]
  .have U:¬c=[]:=λh=>J (by rw[h];rfl);by_cases Y:c.length%2=1
   .have V:¬c.length%2=0:=by omega
    rw[Y]at T;simp[cN,f26];simp[M,O,jR,J,U,Y,V,T,D]
   .have V:c.length%2=0:=by omega
    rw[V]at T;simp[cN,f26]at ih y⊢;simp[M,O,jR,J,U,Y,V,T];rw[y];cases B<;>simp[D,A2,ih]
end
section
variable {x:Sm} {v:Nat} {k:Kt} {R1 R2:bS} {a b:AV}
theorem asl(J:(dP x).length<100000000)(D:k .ret ⟨258,aB,[(2,true,.d (.bool false))],[⟨300,v,bA x⟩]⟩=R1):
 aL ctx 26 (cN [1,0,1,0,0,1,0,0,1,1,1,1,1,1,1,1,0]) ⟨258,aB,[(0,true,a),(3,true,b),(4,true,.ptr 300 v 0),(186,true,.d (.bool false))],[⟨300,v,bA x⟩]⟩ k=
 if (dP x).all dV=true then k .normal ⟨258,aB,[(0,true,a),(3,true,b),(4,true,.ptr 300 v 0),(13,true,.d (.int .i64 (dP x).length)),(191,true,.d (.bool false))],[⟨300,v,bA x⟩]⟩else R1:=by
 have H:=λk R1 R2 D I=>QB (a:=a) (b:=b) (v:=v) (k:=k) (R1:=R1) (R2:=R2) J D I (dP x) [] rfl;simp only[bA]at D;generalize (dP x).all dV=B at*;simp[cN,f26]at H⊢;rw[H];cases B<;>simp[D]
theorem asm(J:(dq x).length<100000000)(Y:∀l∈dq x,l.length<100000000)(D:k .ret ⟨258,aB,[(2,true,.d (.bool false))],[⟨300,v,bA x⟩]⟩=R1){d1 d2:AV}:
 aL ctx 26 (cN [1,0,1,0,0,1,0,0,1,1,1,1,1,1,1,1,1,0]) ⟨258,aB,[(0,true,a),(3,true,b),(4,true,.ptr 300 v 0),(13,true,d1),(191,true,d2)],[⟨300,v,bA x⟩]⟩ k=
 if (dq x).all uV=true then k .normal ⟨258,aB,[(0,true,a),(3,true,b),(4,true,.ptr 300 v 0),(14,true,.d (.int .i64 (dq x).length)),(205,true,.d (.bool false))],[⟨300,v,bA x⟩]⟩else R1:=by
 have H:=λk R1 R2 D I=>QE (a:=a) (b:=b) (v:=v) (k:=k) (R1:=R1) (R2:=R2) J Y D I (dq x) [] rfl;simp only[bA]at D;generalize (dq x).all uV=B at*;simp[cN,f26]at H⊢;rw[H];cases B<;>simp[D]
theorem asn(J:(aP x).length<100000000)(Z:∀c∈aP x,KS c)(D:k .ret ⟨258,aB,[(2,true,.d (.bool false))],[⟨300,v,bA x⟩]⟩=R1){d1 d2:AV}:
 aL ctx 26 (cN [1,0,1,0,0,1,0,0,1,1,1,1,1,1,1,1,1,1]) ⟨258,aB,[(0,true,a),(3,true,b),(4,true,.ptr 300 v 0),(14,true,d1),(205,true,d2)],[⟨300,v,bA x⟩]⟩ k=
 if cu (aP x)=true then k .normal ⟨258,aB,[(0,true,a),(3,true,b),(4,true,.ptr 300 v 0),(16,true,.d (.int .i64 (aP x).length)),(248,true,.d (.bool false))],[⟨300,v,bA x⟩]⟩else R1:=by
 have H:=λk R1 R2 D I=>QD (a:=a) (b:=b) (v:=v) (k:=k) (R1:=R1) (R2:=R2) J Z D I (aP x) [] rfl;simp only[bA]at D;generalize cu (aP x)=B at*;simp[cN,f26]at H⊢;rw[H];cases B<;>simp[D]
theorem aso:aL ctx 26 (cN [1,0,1,0,0,1,0,0,1,0]) ⟨258,aB,[(0,true,a),(3,true,b),(4,true,.ptr 300 v 0)],[⟨300,v,bA x⟩]⟩ k=
 k .normal ⟨258,aB,[(0,true,a),(3,true,b),(4,true,.ptr 300 v 0),(5,true,.d (.bool (decide (bG x=4\/bG x=9)))),(6,true,.d (.bool (decide (bG x=1)))),(7,true,.d (.bool (decide (bG x=1\/bG x=3\/bG x=5\/bG x=6))))],[⟨300,v,bA x⟩]⟩:=by
 have y:=abZ (bG x);simp[cN,f26];simp[y]
end
def K7(x:Sm):Bool:=decide (((b7 x).length:Int)=uv x/\((dq x).length:Int)=uw x/\((dP x).length:Int)=pA x/\¬((aP x).length:Int)<lK x/\¬lK x+mw x<((aP x).length:Int))
def Wk(x:Sm):K7 x=dj (bG x) (b7 x).length (dq x).length (dP x).length (aP x).length:=by
 unfold K7 dj uv uw pA lK mw Fp;generalize bG x=o;generalize (b7 x).length=A';generalize (dq x).length=A0;generalize (dP x).length=A1;generalize (aP x).length=A2;rw[Bool.eq_iff_iff];by_cases I:o=2
 .subst I;by_cases h:(1:Int)<A'
  .simp[h];omega
  .simp[h];omega
 .by_cases M:o=3
  .subst M;simp;omega
  .by_cases O:o=4
   .subst O;simp;omega
   .by_cases T:o=5
    .subst T;simp;omega
    .by_cases U:o=6
     .subst U;simp;omega
     .by_cases V:o=9
      .subst V;simp;omega
      .simp[I,M,O,T,U,V]
def ak7(x:Sm):j9 x=(Qy x&&(Qz x&&(K6 x&&(K7 x&&((dP x).all dV&&((dq x).all uV&&cu (aP x))))))):=by
 rw[Wk];obtain⟨op,name,to,val,conds,A3,fields,blocks,line⟩:=x;unfold j9 Qy Qz K6;simp only[Bool.and_assoc];rfl
def ad6(x:Ex):B1 x↔((eh x).length<100000000/\(ic x).length<100000000/\(di x).length<100000000)/\tR (di x):=by
 obtain⟨op,nn,name,field,sub,line⟩:=x;simp only[B1,BM,PH,nZ]
mutual
def DO:Sm->Prop
 | .mk _ _ to val conds I fields blocks _=>(B1 to/\B1 val/\(conds.length<100000000/\tR conds)/\(I.length<100000000/\∀l∈I,l.length<100000000)/\fields.length<100000000/\blocks.length<100000000)/\pD blocks
def nz:List Sm->Prop
 |[]=>True
 |x::r=>DO x/\nz r
def pD:List (List Sm)->Prop
 |[]=>True
 |b::r=>(b.length<100000000/\nz b)/\pD r
end
def Ah(x:Sm):Prop:=B1 (gm x)/\B1 (dO x)/\((b7 x).length<100000000/\tR (b7 x))/\((dq x).length<100000000/\∀l∈dq x,l.length<100000000)/\(dP x).length<100000000/\(aP x).length<100000000
def Wl(x:Sm):DO x↔Ah x/\pD (aP x):=by
 obtain⟨op,name,to,val,conds,I,fields,blocks,line⟩:=x;unfold DO Ah;rfl
def ab0(x:Sm):cX x=[]\/cX x=[(144,true,.d (.bool false))]:=by
 unfold cX;split
 .exact .inl rfl
 .exact .inr rfl
def aoN{x:Sm}(h:Ah x):IntKind.i64.wrap (lK x+mw x)=lK x+mw x:=by
 obtain⟨_,_,⟨J,_⟩,⟨AG,_⟩,_,_⟩:=h;apply jb;have AH:0<=lK x/\lK x<200000000:=by
  unfold lK Fp;split
  .split<;>omega
  .split
   .omega
   .split<;>omega
 have a2:0<=mw x/\mw x<=1:=by
  unfold mw;split<;>omega
 unfold bz;omega
section
variable {x:Sm} {v:Nat} {k:Kt} {R1:bS} {a b:AV}
theorem ak8(O:Ah x)(Y:∀c∈aP x,KS c)(J:k .ret ⟨258,aB,[(2,true,.d (.bool false))],[⟨300,v,bA x⟩]⟩=R1):
 aL ctx 26 (cN [1,0,1,0,0,1,0,0,1]) ⟨258,aB,[(0,true,a),(3,true,b),(4,true,.ptr 300 v 0)],[⟨300,v,bA x⟩]⟩ k=
 if j9 x=true then k .normal ⟨258,aB,[(0,true,a),(3,true,b),(4,true,.ptr 300 v 0),(16,true,.d (.int .i64 (aP x).length)),(248,true,.d (.bool false))],[⟨300,v,bA x⟩]⟩else R1:=by
 have Z:cN [1,0,1,0,0,1,0,0,1]=Code.seq (cN [1,0,1,0,0,1,0,0,1,0]) (cN [1,0,1,0,0,1,0,0,1,1]):=rfl;have y:cN [1,0,1,0,0,1,0,0,1,1]=Code.seq (cN [1,0,1,0,0,1,0,0,1,1,0]) (cN [1,0,1,0,0,1,0,0,1,1,1]):=rfl;have A':cN [1,0,1,0,0,1,0,0,1,1,1]=Code.seq (cN [1,0,1,0,0,1,0,0,1,1,1,0]) (cN [1,0,1,0,0,1,0,0,1,1,1,1]):=rfl;have A0:cN [1,0,1,0,0,1,0,0,1,1,1,1]=Code.seq (cN [1,0,1,0,0,1,0,0,1,1,1,1,0]) (cN [1,0,1,0,0,1,0,0,1,1,1,1,1]):=rfl;have A1:cN [1,0,1,0,0,1,0,0,1,1,1,1,1]=Code.seq (cN [1,0,1,0,0,1,0,0,1,1,1,1,1,0]) (cN [1,0,1,0,0,1,0,0,1,1,1,1,1,1]):=rfl;have A2:cN [1,0,1,0,0,1,0,0,1,1,1,1,1,1]=Code.seq (cN [1,0,1,0,0,1,0,0,1,1,1,1,1,1,0]) (cN [1,0,1,0,0,1,0,0,1,1,1,1,1,1,1]):=rfl;have A3:cN [1,0,1,0,0,1,0,0,1,1,1,1,1,1,1]=Code.seq (cN [1,0,1,0,0,1,0,0,1,1,1,1,1,1,1,0]) (cN [1,0,1,0,0,1,0,0,1,1,1,1,1,1,1,1]):=rfl;have A4:cN [1,0,1,0,0,1,0,0,1,1,1,1,1,1,1,1]=Code.seq (cN [1,0,1,0,0,1,0,0,1,1,1,1,1,1,1,1,0]) (cN [1,0,1,0,0,1,0,0,1,1,1,1,1,1,1,1,1]):=rfl;have A5:cN [1,0,1,0,0,1,0,0,1,1,1,1,1,1,1,1,1]=Code.seq (cN [1,0,1,0,0,1,0,0,1,1,1,1,1,1,1,1,1,0]) (cN [1,0,1,0,0,1,0,0,1,1,1,1,1,1,1,1,1,1]):=rfl;have D:∀c,EU ctx 26 c k .ret ⟨258,aB,[(2,true,.d (.bool false))],[⟨300,v,bA x⟩]⟩=R1:=λ_=>J;have hw:=aoN O;obtain⟨T,U,⟨A6,A7⟩,⟨A8,A9⟩,AA,AB⟩:=O;have AC:KF [gm x]:=H0 (l:=[gm x]) (by simp) ⟨T,trivial⟩;have AD:KF [dO x]:=H0 (l:=[dO x]) (by simp) ⟨U,trivial⟩;have AE:KF (b7 x):=H0 A6 A7;rw[ak7];rw[Z,jo,aso,ml,y,jo,ase (D _)];cases Qy x
 .rw[ain,aaf aec,aaf aec]
 rw[ac1 rfl,aid,ml,A',jo,asf (D _) ((ad6 _).1 T).1 AC];cases Qz x
 .rw[ain,aaf aec,aaf aec]
 rw[ac1 rfl,aid,ml,A0,jo,ash (D _) rfl ((ad6 _).1 U).1 AD AE];cases K6 x
 .rw[ain,aaf aec,aaf aec]
 rw[ac1 rfl,aid,ml,A1,jo,asi (X:=[]),ml,A2,jo,asj,ml,A3,jo];have AF:∀H:Kt,H .ret ⟨258,aB,[(2,true,.d (.bool false))],[⟨300,v,bA x⟩]⟩=R1->aL ctx 26 (cN [1,0,1,0,0,1,0,0,1,1,1,1,1,1,1,0]) ⟨258,aB,[(0,true,a),(3,true,b),(4,true,.ptr 300 v 0),(8,true,.d (.int .i64 (uv x))),(9,true,.d (.int .i64 (uw x))),(10,true,.d (.int .i64 (pA x))),(11,true,.d (.int .i64 (lK x))),(12,true,.d (.int .i64 (mw x)))]++cX x,[⟨300,v,bA x⟩]⟩ H=
  if K7 x=true then H .normal ⟨258,aB,[(0,true,a),(3,true,b),(4,true,.ptr 300 v 0),(186,true,.d (.bool false))],[⟨300,v,bA x⟩]⟩else R1:=by
  intro H V;unfold K7;rcases ab0 x with M|M
  .rw[M,agV,aoL V hw];simp only[ac2]
  .rw[M];simp only[ahy,aeg];rw[aoM V hw];simp only[ac2]
 rw[AF _ (D _)];cases K7 x
 .rw[ain,aaf aec,aaf aec]
 rw[ac1 rfl,aid,ml,A4,jo,asl AA (D _)];cases (dP x).all dV
 .rw[ain,aaf aec,aaf aec]
 rw[ac1 rfl,aid,ml,A5,jo,asm A8 A9 (D _)];cases (dq x).all uV
 .rw[ain,aaf aec,aaf aec]
 rw[ac1 rfl,aid,ml,asn AB Y J]
end
def QF(l:List Sm)(O:l.length<100000000)(U:∀x∈l,Ah x)(V:∀x∈l,∀c∈aP x,KS c)(k:Kt)(R1 R2:bS)
 (H:∀v X,k .ret ⟨258,aB,[(2,true,.d (.bool false))],[⟨300,v,X⟩]⟩=R1)
 (I:∀(Y:Env) v X,k (.exit 0) ⟨258,aB,Y,[⟨300,v,X⟩]⟩=R2):∀(rest pre:List Sm)(v:Nat)(X:aF),l=pre++rest->
 aL ctx 26 (.loop (cN [1,0,1,0,0])) ⟨258,aB,[(0,true,.d (.list (l.map bZ))),(3,true,.d (.int .i64 pre.length))],[⟨300,v,X⟩]⟩ k=if eA rest=true then R2 else R1
 |[],pre,v,X,J=>by
  have A':pre.length=l.length:=by rw[J];simp
  rw[A',ah];simp[cN,f26,I,eA]
 |x::rest,pre,v,X,J=>by
  have A0:pre.length<l.length:=by rw[J];simp
  have A1:l[pre.length]=x:=by simp[J]
  have hm:x∈l:=by rw[J];simp
  have Z:=λ(v:Nat) (a b:AV) (k:Kt)=>ak8 (v:=v) (a:=a) (b:=b) (k:=k) (U x hm) (V x hm) rfl;have ih:∀v X,aL ctx 26 (.loop (cN [1,0,1,0,0])) ⟨258,aB,[(0,true,.d (.list (l.map bZ))),(3,true,.d (.int .i64 (pre.length+1)))],[⟨300,v,X⟩]⟩ k=if eA rest=true then R2 else R1:=λv X=>by
   have:=QF l O U V k R1 R2 H I rest (pre++[x]) v X (by simp[J]);simpa using this
  have A2:=b9 ((pre.length:Int)+1);have key:eA (x::rest)=(j9 x&&eA rest):=by rw[eA]
  rw[key];generalize j9 x=N at*;generalize eA rest=M at*;rw[ah];simp[cN,f26]at Z ih⊢;simp[A0,A1,bU];simp[Z];cases N<;>simp[H,A2,ih]
def Zv{l:List Sm}(O:l.length<100000000)(U:∀x∈l,Ah x)(V:∀x∈l,∀c∈aP x,KS c):KS l:=by
 have h:=λk R1 R2 H I v X=>QF l O U V k R1 R2 H I l [] v X rfl;unfold KS;rw[aob (by simp)];simp[cN,f26]at h⊢;rw[h _ (some (.ret (.d (.bool false)),[])) (some (.ret (.d (.bool true)),[]))]
 .cases eA l<;>simp
 .intro v X;simp
 .intro Y v X;simp
mutual
def ala:∀x:Sm,DO x->Ah x/\∀c∈aP x,KS c
 | .mk op name to val conds A3 fields blocks line,h=>by
  have h:=(Wl _).1 h;exact⟨h.1,TG blocks h.2⟩
def Gn:∀l:List Sm,nz l->∀x∈l,Ah x/\∀c∈aP x,KS c
 |[],_,x,D=>by simp at D
 |y::r,h,x,D=>by
  simp only[nz]at h;have H:=ala y h.1;have I:=Gn r h.2;rcases ac4.1 D with e|D
  .rw[e];exact H
  .exact I x D
def TG:∀l:List (List Sm),pD l->∀c∈l,KS c
 |[],_,c,T=>by simp at T
 |b::r,h,c,T=>by
  simp only[pD]at h;have H:=Gn b h.1.2;have I:=TG r h.2;rcases ac4.1 T with e|T
  .rw[e];exact Zv h.1.1 (λx D=>(H x D).1) (λx D=>(H x D).2)
  .exact I c T
end
def ab1{l:List Sm}(O:l.length<100000000)(h:nz l):KS l:=
 Zv O (λx D=>(Gn l h x D).1) (λx D=>(Gn l h x D).2)
def TH(k:Int):aj ctx 43 [.d (.int .i64 k)] []=some (.ret (.d (.list ((dQ k).map gz))),[]):=by
 by_cases D:k∈19::jx
 .simp only[jx,ac4,adL]at D;repeat' (obtain rfl|D:=D)
  all_goals exact yQ 120 (by kernel_rfl)
 .rw[tL λh=>D (aep _ h),aol (by simp)];simp only[jx,ac4,adL,apQ]at D;by_cases H:k<10
  .simp[f43,H]
  .have I:31<k:=by omega
   simp[f43,H,I]
abbrev Rw:=Int×Tx×Tx×List Tx
def JT:List Rw:=[
 (10,[84,79,78],[105,73,111,79],[[73,78],[80,84],[81],[69,84]]),
 (11,[84,79,70],[105,73,111,79],[[73,78],[80,84],[81],[69,84]]),
 (12,[84,80],[105,73,111,79,46,46],[[73,78],[80,84],[81],[69,84]]),
 (13,[67,84,85],[105,105,73,111,79,46],[[67,85],[82],[80,86],[81],[67,86]]),
 (14,[67,84,68],[105,105,73,111,79,46],[[67,68],[76,68],[80,86],[81],[67,86]]),
 (15,[82,95,84,82,73,71],[105,111,46],[[67,76,75],[81]]),
 (16,[70,95,84,82,73,71],[105,111,46],[[67,76,75],[81]]),
 (17,[83,82],[105,105,111],[[83,49],[82],[81,49]]),
 (18,[82,83],[105,105,111],[[83],[82,49],[81,49]]),
 (20,[77,67,95,80,111,119,101,114],[73,105,111,111],[[65,120,105,115],[69,110,97,98,108,101],[83,116,97,116,117,115],[69,114,114,111,114]]),
 (21,[77,67,95,72,111,109,101],[73,105,111,111,111,111,111,46,46],[[65,120,105,115],[69,120,101,99,117,116,101],[68,111,110,101],[66,117,115,121],[65,99,116,105,118,101],[67,111,109,109,97,110,100,65,98,111,114,116,101,100],[69,114,114,111,114]]),
 (22,[77,67,95,83,116,111,112],[73,105,111,111,111,111,111,46,46],[[65,120,105,115],[69,120,101,99,117,116,101],[68,111,110,101],[66,117,115,121],[65,99,116,105,118,101],[67,111,109,109,97,110,100,65,98,111,114,116,101,100],[69,114,114,111,114]]),
 (23,[77,67,95,72,97,108,116],[73,105,111,111,111,111,111,46,46],[[65,120,105,115],[69,120,101,99,117,116,101],[68,111,110,101],[66,117,115,121],[65,99,116,105,118,101],[67,111,109,109,97,110,100,65,98,111,114,116,101,100],[69,114,114,111,114]]),
 (24,[77,67,95,77,111,118,101,65,98,115,111,108,117,116,101],[73,105,73,73,73,111,111,111,111,111,46,46],[[65,120,105,115],[69,120,101,99,117,116,101],[80,111,115,105,116,105,111,110],[86,101,108,111,99,105,116,121],[66,117,102,102,101,114,77,111,100,101],[68,111,110,101],[66,117,115,121],[65,99,116,105,118,101],[67,111,109,109,97,110,100,65,98,111,114,116,101,100],[69,114,114,111,114]]),
 (25,[77,67,95,77,111,118,101,82,101,108,97,116,105,118,101],[73,105,73,73,73,111,111,111,111,111,46,46],[[65,120,105,115],[69,120,101,99,117,116,101],[68,105,115,116,97,110,99,101],[86,101,108,111,99,105,116,121],[66,117,102,102,101,114,77,111,100,101],[68,111,110,101],[66,117,115,121],[65,99,116,105,118,101],[67,111,109,109,97,110,100,65,98,111,114,116,101,100],[69,114,114,111,114]]),
 (26,[77,67,95,77,111,118,101,65,100,100,105,116,105,118,101],[73,105,73,73,73,111,111,111,111,111,46,46],[[65,120,105,115],[69,120,101,99,117,116,101],[68,105,115,116,97,110,99,101],[86,101,108,111,99,105,116,121],[66,117,102,102,101,114,77,111,100,101],[68,111,110,101],[66,117,115,121],[65,99,116,105,118,101],[67,111,109,109,97,110,100,65,98,111,114,116,101,100],[69,114,114,111,114]]),
 (27,[77,67,95,77,111,118,101,86,101,108,111,99,105,116,121],[73,105,73,111,111,111,111,111,46,46],[[65,120,105,115],[69,120,101,99,117,116,101],[86,101,108,111,99,105,116,121],[73,110,86,101,108,111,99,105,116,121],[66,117,115,121],[65,99,116,105,118,101],[67,111,109,109,97,110,100,65,98,111,114,116,101,100],[69,114,114,111,114]]),
 (28,[77,67,95,71,101,97,114,73,110],[73,105,73,73,73,111,111,111,111,111,46,46],[[65,120,105,115],[69,120,101,99,117,116,101],[77,97,115,116,101,114],[78,117,109,101,114,97,116,111,114],[68,101,110,111,109,105,110,97,116,111,114],[73,110,71,101,97,114],[66,117,115,121],[65,99,116,105,118,101],[67,111,109,109,97,110,100,65,98,111,114,116,101,100],[69,114,114,111,114]]),
 (29,[77,67,95,82,101,115,101,116],[73,105,111,111,46],[[65,120,105,115],[69,120,101,99,117,116,101],[68,111,110,101],[69,114,114,111,114]]),
 (30,[77,67,95,83,101,116,80,111,115,105,116,105,111,110],[73,105,73,111,111,46],[[65,120,105,115],[69,120,101,99,117,116,101],[80,111,115,105,116,105,111,110],[68,111,110,101],[69,114,114,111,114]]),
 (31,[77,67,95,83,101,116,79,118,101,114,114,105,100,101],[73,105,73,111],[[65,120,105,115],[69,110,97,98,108,101],[80,101,114,99,101,110,116],[69,110,97,98,108,101,100]])]
def rwD(r:Rw):D:=.agg [.int .i64 r.1,.str r.2.1,.str r.2.2.1,.list (r.2.2.2.map .str)]
def alb:aj ctx 54 [] []=some (.ret (.d (.list (JT.map rwD))),[]):=yQ 120 (by kernel_rfl)
def A6(k:Int):List Rw->Tx
 |[]=>[]
 |r::l=>if r.1=k then r.2.1 else A6 k l
def TJ(q:Int)(l:List Rw)(U:l.length<1000)(k:Kt)(RF:Tx->bS)
 (I:∀t,k .ret ⟨24,aB,[(2,true,.d (.str t))],[]⟩=RF t)
 (J:∀Y:Env,k (.exit 0) ⟨24,aB,Y,[]⟩=RF []):∀(rest pre:List Rw),l=pre++rest->
 aL ctx 25 (.loop (Code.at (bh f25) [1,1,0,1,0,0])) ⟨24,aB,[(0,true,.d (.int .i64 q)),(3,true,.d (.list (l.map rwD))),(4,true,.d (.int .i64 pre.length))],[]⟩ k=RF (A6 q rest)
 |[],pre,H=>by
  have V:pre.length=l.length:=by rw[H];simp
  rw[V,ah];simp[f25,J,A6]
 |x::rest,pre,H=>by
  have M:pre.length<l.length:=by rw[H];simp
  have O:l[pre.length]=x:=by simp[H]
  have ih:=TJ q l U k RF I J rest (pre++[x]) (by simp[H]);have Z:=b9 ((pre.length:Int)+1);rw[ah];by_cases T:x.1=q
  .simp[f25];simp[M,O,rwD,T,I,A6]
  .simp[f25]at ih⊢;simp[M,O,rwD,T,Z,ih,A6]
def asp(q:Int):aj ctx 25 [.d (.int .i64 q)] []=some (.ret (.d (.str (A6 q JT))),[]):=by
 have h:=λk RF I J=>TJ q JT (by decide) k RF I J JT [] rfl;have y:=alb;rw[aoa (by simp)];generalize JT=l at*;simp[f25]at h⊢;simp[y];rw[h _ (λt=>some (.ret (.d (.str t)),[])) (by simp) (by simp)]
def afO(q:Int):(A6 q JT=[])↔tN q=false:=by
 by_cases h:10<=q/\q<=31
 .have:q=10\/q=11\/q=12\/q=13\/q=14\/q=15\/q=16\/q=17\/q=18\/q=19\/q=20\/q=21\/q=22\/q=23\/q=24\/q=25\/q=26\/q=27\/q=28\/q=29\/q=30\/q=31:=by omega
  rcases this with h|h|h|h|h|h|h|h|h|h|h|h|h|h|h|h|h|h|h|h|h|h<;>subst h<;>decide
 .have e:∀n:Int,10<=n->n<=31->¬n=q:=λn a b c=>h (by omega);have A':dQ q=[]:=by
   unfold dQ SZ;simp only[zZ];rw[aaf (e _ (by decide) (by decide)),aaf (e _ (by decide) (by decide)),aaf (e _ (by decide) (by decide)),aaf (e _ (by decide) (by decide)),aaf (e _ (by decide) (by decide)),aaf (e _ (by decide) (by decide)),aaf (e _ (by decide) (by decide)),aaf (e _ (by decide) (by decide)),aaf (e _ (by decide) (by decide)),aaf (e _ (by decide) (by decide)),aaf (e _ (by decide) (by decide)),aaf (e _ (by decide) (by decide)),aaf (e _ (by decide) (by decide)),aaf (e _ (by decide) (by decide)),aaf (e _ (by decide) (by decide)),aaf (e _ (by decide) (by decide)),aaf (e _ (by decide) (by decide)),aaf (e _ (by decide) (by decide)),aaf (e _ (by decide) (by decide)),aaf (e _ (by decide) (by decide)),aaf (e _ (by decide) (by decide))]
  have A0:A6 q JT=[]:=by
   unfold JT;simp only[A6];rw[aaf (e _ (by decide) (by decide)),aaf (e _ (by decide) (by decide)),aaf (e _ (by decide) (by decide)),aaf (e _ (by decide) (by decide)),aaf (e _ (by decide) (by decide)),aaf (e _ (by decide) (by decide)),aaf (e _ (by decide) (by decide)),aaf (e _ (by decide) (by decide)),aaf (e _ (by decide) (by decide)),aaf (e _ (by decide) (by decide)),aaf (e _ (by decide) (by decide)),aaf (e _ (by decide) (by decide)),aaf (e _ (by decide) (by decide)),aaf (e _ (by decide) (by decide)),aaf (e _ (by decide) (by decide)),aaf (e _ (by decide) (by decide)),aaf (e _ (by decide) (by decide)),aaf (e _ (by decide) (by decide)),aaf (e _ (by decide) (by decide)),aaf (e _ (by decide) (by decide)),aaf (e _ (by decide) (by decide))]
  rw[A0];unfold tN;rw[A'];simp
section
variable {vs:List Vr} {n:Int} (D:vs.length<1000000) (H:∀v∈vs,dr v=true)
def Zw(vs:List Vr)(x:Sm):EL:=match bj vs (gk x)with
 |none=>(9,n6 x)
 |some v=>if v.ty<=2 then (10,n6 x)else iU vs v.ty (n6 x) (dP x) (b7 x) []
def coE(vs:List Vr)(x:Sm):EL:=match bj vs (gk x)with
 |none=>(9,n6 x)
 |some v=>if v.sec=1 then (1,n6 x)else if v.arr=true\/v.ty≠1 then (10,n6 x)else gS (n7 vs 1 (b7 x)) (uq vs (aP x))
include D H
end
def xT(vs:List Vr)(lp:Bool)(x:Sm):lA vs lp x=
 if bG x=1 then JA vs (gm x) (dO x) (n6 x)
 else if bG x=2 then fj vs lp (b7 x) (aP x)
 else if bG x=3 then gS (ew vs (dO x) 1) (fj vs lp [] (aP x))
 else if bG x=4 then coE vs x
 else if bG x=5 then gS (ew vs (dO x) 2) (uq vs (aP x))
 else if bG x=6 then gS (uq vs (aP x)) (ew vs (dO x) 2)
 else if bG x=7 then (if lp=true then (0,0)else (14,n6 x))
 else if bG x=9 then Zw vs x
 else (0,0):=by
 obtain⟨op,name,to,val,conds,D,fields,blocks,line⟩:=x;unfold lA coE Zw;rfl
mutual
def TL:Sm->Nat
 | .mk _ _ _ _ conds D fields blocks _=>1+conds.length+D.length+fields.length+A7 blocks
def xb:List Sm->Nat
 |[]=>0
 |x::r=>TL x+xb r
def A7:List (List Sm)->Nat
 |[]=>0
 |b::r=>xb b+1+A7 r
end
def H2:∀l:List Sm,l.length<=xb l
 |[]=>by simp[xb]
 | .mk _ _ _ _ c H f I _::r=>by have:=H2 r;simp only[xb,TL,ac5];omega
def QG:∀l:List (List Sm),l.length<=A7 l
 |[]=>by simp[A7]
 |b::r=>by have:=QG r;simp only[A7,ac5];omega
section
variable {vs:List Vr} {n:Int} (J:vs.length<1000000) (M:∀v∈vs,dr v=true)
end
section
variable {vs:List Vr} {n:Int} (D:vs.length<1000000) (H:∀v∈vs,dr v=true)
theorem oS{a b:EL}(h:a.1=0):gS a b=b:=by unfold gS;rw[aaf (by simp[h])]
theorem tS{a b:EL}(h:¬a.1=0):gS a b=a:=by unfold gS;rw[ac1 h]
include D H
end
def eY(e:EL):EL:=if e.1=0 then (0,0)else e
@[reducible] noncomputable def iM(p:List Nat):Code:=Code.at (bh f9) p
def Zx(w:Vr):Bool:=dV w.name&&decide (0<=w.sec/\w.sec<=2)
def Zy(w:Vr):Bool:=decide (w.ty=1\/w.ty=2)||tN w.ty
def Zz(w:Vr):Bool:=if w.arr=true then decide (w.ty<=2/\0<=w.lo/\w.lo<=w.hi/\w.hi<=255)else decide (w.lo=0/\w.hi=0)
def fiE(w:Vr):Bool:=!decide (((w.arr=true\/2<w.ty)/\w.init≠0)\/(w.ty=2/\(w.init<0\/1<w.init))\/w.init= -9223372036854775808)
def ald(w:Vr):dr w=(Zx w&&(Zy w&&(Zz w&&fiE w))):=by
 unfold dr Zx Zy Zz fiE;simp only[Bool.and_assoc]
section
variable {w:Vr} {v:Nat} {k:Kt} {R1:bS} {a b:AV} {B:aF} (D:k .ret ⟨129,aB,[(2,true,.d (.bool false))],[⟨150,1,B⟩,⟨300,v,jA w⟩]⟩=R1)
include D
theorem aoO:aL ctx 9 (iM [1,1,0,1,0,0,1,0,0,1,0]) ⟨129,aB,[(1,true,a),(3,true,b),(4,true,.ptr 300 v 0)],[⟨150,1,B⟩,⟨300,v,jA w⟩]⟩ k=
 if Zx w=true then k .normal ⟨129,aB,[(1,true,a),(3,true,b),(4,true,.ptr 300 v 0),(40,true,.d (.bool false))],[⟨150,1,B⟩,⟨300,v,jA w⟩]⟩else R1:=by
 have V:=gv w.name;unfold Zx;simp only[jA]at D;generalize dV w.name=N at*;cases N with
 |false=>(simp[iM,f9];simp[V,D])
 |true=>
  by_cases H:w.sec<0
  .have I:¬0<=w.sec:=by omega
   (simp[iM,f9];simp[V,H,I,D])
  .have I:0<=w.sec:=by omega
   by_cases J:2<w.sec
   .have O:¬w.sec<=2:=by omega
    (simp[iM,f9];simp[V,H,I,J,O,D])
   .have O:w.sec<=2:=by omega
    (simp[iM,f9];simp[V,H,I,J,O,D])
theorem aoP{d:AV}:aL ctx 9 (iM [1,1,0,1,0,0,1,0,0,1,1,0]) ⟨129,aB,[(1,true,a),(3,true,b),(4,true,.ptr 300 v 0),(40,true,d)],[⟨150,1,B⟩,⟨300,v,jA w⟩]⟩ k=
 if Zy w=true then k .normal ⟨129,aB,[(1,true,a),(3,true,b),(4,true,.ptr 300 v 0),(54,true,.d (.bool false))],[⟨150,1,B⟩,⟨300,v,jA w⟩]⟩else R1:=by
 have V:=asp w.ty;have A2:=afO w.ty;unfold Zy;simp only[jA]at D;generalize A6 w.ty JT=T at*;generalize tN w.ty=Q at*;by_cases H:w.ty=1
 ·(simp only[H]at D⊢;simp[iM,f9];simp[H])
 .by_cases I:w.ty=2
  ·(simp only[I]at D⊢;simp[iM,f9];simp[I])
  .by_cases Z:T=[]
   .have A0:=A2.1 Z
    (simp[iM,f9];simp[V,H,I,Z,A0,D])
   .have A0:Q=true:=by cases Q with|true=>rfl|false=>exact absurd (A2.2 rfl) Z
    (simp[iM,f9];simp[V,H,I,Z,A0,D])
theorem aoQ{d:AV}:aL ctx 9 (iM [1,1,0,1,0,0,1,0,0,1,1,1,0]) ⟨129,aB,[(1,true,a),(3,true,b),(4,true,.ptr 300 v 0),(54,true,d)],[⟨150,1,B⟩,⟨300,v,jA w⟩]⟩ k=
 if Zz w=true then k .normal ⟨129,aB,[(1,true,a),(3,true,b),(4,true,.ptr 300 v 0),(93,true,.d (.bool false))],[⟨150,1,B⟩,⟨300,v,jA w⟩]⟩else R1:=by
 unfold Zz;simp only[jA]at D;obtain⟨name,ty,sec,arr,lo,hi,init,line⟩:=w;simp only at D⊢;cases arr with
 |false=>
  by_cases H:lo=0
  .by_cases I:hi=0
   ·(simp[iM,f9];simp[H,I,D])
   ·(simp only[H]at D;simp[iM,f9];simp[H,I,D])
  ·(simp[iM,f9];simp[H,D])
 |true=>
  by_cases H:2<ty
  .have M:¬ty<=2:=by omega
   (simp[iM,f9];simp[H,M,D])
  .have M:ty<=2:=by omega
   by_cases I:lo<0
   .have Y:¬0<=lo:=by omega
    (simp[iM,f9];simp[H,M,I,Y,D])
   .have Y:0<=lo:=by omega
    by_cases J:hi<lo
    .have y:¬lo<=hi:=by omega
     (simp[iM,f9];simp[H,M,I,Y,J,y,D])
    .have y:lo<=hi:=by omega
     by_cases O:255<hi
     .have U:¬hi<=255:=by omega
      (simp[iM,f9];simp[H,M,I,Y,J,y,O,U,D])
     .have U:hi<=255:=by omega
      (simp[iM,f9];simp[H,M,I,Y,J,y,O,U,D])
theorem aoR{d:AV}:aL ctx 9 (iM [1,1,0,1,0,0,1,0,0,1,1,1,1]) ⟨129,aB,[(1,true,a),(3,true,b),(4,true,.ptr 300 v 0),(93,true,d)],[⟨150,1,B⟩,⟨300,v,jA w⟩]⟩ k=
 if fiE w=true then k .normal ⟨129,aB,[(1,true,a),(3,true,b),(125,true,.d (.bool false))],[⟨150,1,B⟩,⟨300,v,jA w⟩]⟩else R1:=by
 unfold fiE;simp only[jA]at D;obtain⟨name,ty,sec,arr,lo,hi,init,line⟩:=w;simp only at D⊢;cases arr with
 |true=>
  by_cases I:init=0
  .subst I;by_cases J:ty=2
   .subst J;(simp[iM,f9];all_goals simp[D])
   ·(simp[iM,f9];all_goals simp[J,D])
  ·(simp[iM,f9];all_goals simp[I,D])
 |false=>
  by_cases H:2<ty
  .have J:¬ty=2:=by omega
   have M:¬ty<=2:=by omega
   by_cases I:init=0
   .subst I;(simp[iM,f9];all_goals simp[H,M,J,D])
   ·(simp[iM,f9];all_goals simp[H,M,I,J,D])
  .have M:ty<=2:=by omega
   by_cases J:ty=2
   .subst J;by_cases O:init<0
    .have U:¬0<=init:=by omega
     (simp[iM,f9];all_goals simp[O,U,D])
    .have U:0<=init:=by omega
     by_cases A3:1<init
     .have A1:¬init<=1:=by omega
      (simp[iM,f9];all_goals simp[O,U,A3,A1,D])
     .have A':¬init= -9223372036854775808:=by omega
      have A1:init<=1:=by omega
      (simp[iM,f9];all_goals simp[O,U,A3,A1,A',D])
   .by_cases A':init= -9223372036854775808
    .subst A';(simp[iM,f9];all_goals simp[H,M,J,D])
    ·(simp[iM,f9];all_goals simp[H,M,J,A',D])
end
section
variable {w:Vr} {v:Nat} {k:Kt} {R1:bS} {a b:AV} {B:aF}
theorem alf(y:k .ret ⟨129,aB,[(2,true,.d (.bool false))],[⟨150,1,B⟩,⟨300,v,jA w⟩]⟩=R1):
 aL ctx 9 (iM [1,1,0,1,0,0,1,0,0,1]) ⟨129,aB,[(1,true,a),(3,true,b),(4,true,.ptr 300 v 0)],[⟨150,1,B⟩,⟨300,v,jA w⟩]⟩ k=
 if dr w=true then k .normal ⟨129,aB,[(1,true,a),(3,true,b),(125,true,.d (.bool false))],[⟨150,1,B⟩,⟨300,v,jA w⟩]⟩else R1:=by
 have A2:iM [1,1,0,1,0,0,1,0,0,1]=Code.seq (iM [1,1,0,1,0,0,1,0,0,1,0]) (iM [1,1,0,1,0,0,1,0,0,1,1]):=rfl;have A3:iM [1,1,0,1,0,0,1,0,0,1,1]=Code.seq (iM [1,1,0,1,0,0,1,0,0,1,1,0]) (iM [1,1,0,1,0,0,1,0,0,1,1,1]):=rfl;have A4:iM [1,1,0,1,0,0,1,0,0,1,1,1]=Code.seq (iM [1,1,0,1,0,0,1,0,0,1,1,1,0]) (iM [1,1,0,1,0,0,1,0,0,1,1,1,1]):=rfl;have V:∀c,EU ctx 9 c k .ret ⟨129,aB,[(2,true,.d (.bool false))],[⟨150,1,B⟩,⟨300,v,jA w⟩]⟩=R1:=λ_=>y;rw[ald,A2,jo,aoO (V _)];cases Zx w
 .rw[ain,aaf aec,aaf aec]
 rw[ac1 rfl,aid,ml,A3,jo,aoP (V _)];cases Zy w
 .rw[ain,aaf aec,aaf aec]
 rw[ac1 rfl,aid,ml,A4,jo,aoQ (V _)];cases Zz w
 .rw[ain,aaf aec,aaf aec]
 rw[ac1 rfl,aid,ml,aoR y]
end
def TM(l:List Vr)(A5:l.length<=64)(D H:AV)(k:Kt)(R1 R2:bS)
 (J:∀v X,k .ret ⟨129,aB,[(2,true,.d (.bool false))],[⟨150,1,.box [D,.d (.list (l.map bF)),H]⟩,⟨300,v,X⟩]⟩=R1)
 (O:∀(b c:AV) v X,k (.exit 0) ⟨129,aB,[(1,true,.ptr 150 1 0),(3,true,b),(19,true,c)],[⟨150,1,.box [D,.d (.list (l.map bF)),H]⟩,⟨300,v,X⟩]⟩=R2):∀(rest pre:List Vr)(v:Nat)(X:aF),l=pre++rest->
 aL ctx 9 (.loop (iM [1,1,0,1,0,0])) ⟨129,aB,[(1,true,.ptr 150 1 0),(3,true,.d (.int .i64 pre.length))],[⟨150,1,.box [D,.d (.list (l.map bF)),H]⟩,⟨300,v,X⟩]⟩ k=if rest.all dr=true then R2 else R1
 |[],pre,v,X,I=>by
  have A6:pre.length=l.length:=by rw[I];simp
  rw[A6,ah];simp[iM,f9,O]
 |x::rest,pre,v,X,I=>by
  have A7:pre.length<l.length:=by rw[I];simp
  have A8:l[pre.length]=x:=by simp[I]
  have T:=λ(v:Nat) (a b:AV) (k:Kt)=>alf (w:=x) (v:=v) (a:=a) (b:=b) (k:=k) (B:=.box [D,.d (.list (l.map bF)),H]) rfl;have ih:∀v X,aL ctx 9 (.loop (iM [1,1,0,1,0,0])) ⟨129,aB,[(1,true,.ptr 150 1 0),(3,true,.d (.int .i64 (pre.length+1)))],[⟨150,1,.box [D,.d (.list (l.map bF)),H]⟩,⟨300,v,X⟩]⟩ k=if rest.all dr=true then R2 else R1:=λv X=>by
   have:=TM l A5 D H k R1 R2 J O rest (pre++[x]) v X (by simp[I]);simpa using this
  have A9:=b9 ((pre.length:Int)+1);rw[ah7];generalize dr x=N at*;generalize rest.all dr=M at*;rw[ah];simp[iM,f9]at T ih⊢;simp[A7,A8,bF,dK];simp[T];cases N<;>simp[J,A9,ih]
def alg{p:Pg}(T:p.body.length<100000000)(AA:nz p.body):aj ctx 9 [.d (.agg [.str p.name,.list (p.vars.map bF),.list (p.body.map bZ)])] []=some (.ret (.d (.bool (lH p))),[]):=by
 have Y:=gv p.name;have A':=ab1 T AA;unfold KS at A';rw[asb (by simp)];unfold lH;generalize dV p.name=N at*;generalize eA p.body=M at*;cases N with
 |false=>simp[f9,Y]
 |true=>
  by_cases A0:64<p.vars.length
  .have Z:(64:Int)<p.vars.length:=by omega
   have U:¬p.vars.length<=64:=by omega
   simp[f9,Y,A0,Z,U]
  .have Z:¬(64:Int)<p.vars.length:=by omega
   have U:p.vars.length<=64:=by omega
   have A1:=λD H k R1 R2 J O v X=>TM p.vars U D H k R1 R2 J O p.vars [] v X rfl;generalize p.vars.all dr=Q at*;simp[iM,f9]at A1;simp[f9,Y,A0,Z,U];rw[A1 _ _ _ (some (.ret (.d (.bool false)),[])) (some (.ret (.d (.bool M)),[]))]
   .cases Q<;>simp
   .intro v X;simp
   .intro b c v X;simp[A']
def SE(l:List Ex):Prop:=∀most:Int,∃n d:Int,aj ctx 93 [.d (.list (l.map cm)),.d (.int .i64 most)] []=some (.ret (.bq [.d (.int .i64 n),.d (.int .i64 d)]),[])
def TN(l:List Ex)(H:l.length<100000000)(M:∀x∈l,SE (di x))(most:Int)(k:Kt)(Q:bS->Prop)
 (I:∀(n d:Int)(b c:AV),Q (k (.exit 0) ⟨44,aB,[(0,true,.d (.list (l.map cm))),(1,true,.d (.int .i64 most)),(6,true,.d (.int .i64 n)),(7,true,.d (.int .i64 d)),(8,true,b),(19,true,c)],[]⟩)):∀(rest pre:List Ex)(n d:Int),l=pre++rest->
 Q (aL ctx 93 (.loop (Code.at (bh f93) [1,1,0,1,0,0])) ⟨44,aB,[(0,true,.d (.list (l.map cm))),(1,true,.d (.int .i64 most)),(6,true,.d (.int .i64 n)),(7,true,.d (.int .i64 d)),(8,true,.d (.int .i64 pre.length))],[]⟩ k)
 |[],pre,n,d,D=>by
  have U:pre.length=l.length:=by rw[D];simp
  rw[U,ah];simp[f93,I]
 |x::rest,pre,n,d,D=>by
  have O:pre.length<l.length:=by rw[D];simp
  have V:l[pre.length]=x:=by simp[D]
  obtain⟨m,Z,hm⟩:=M x (by rw[D];simp) (IntKind.i64.wrap (most-n));have ih:∀n d,Q (aL ctx 93 (.loop (Code.at (bh f93) [1,1,0,1,0,0])) ⟨44,aB,[(0,true,.d (.list (l.map cm))),(1,true,.d (.int .i64 most)),(6,true,.d (.int .i64 n)),(7,true,.d (.int .i64 d)),(8,true,.d (.int .i64 (pre.length+1)))],[]⟩ k):=λn d=>by
   have:=TN l H M most k Q I rest (pre++[x]) n d (by simp[D]);simpa using this
  have Y:=b9 ((pre.length:Int)+1);rw[ah];by_cases T:n<=most
  .simp[f93]at ih⊢;simp[O,V,T,az,hm,Y,ih]
  .simp[f93];simp[O,T,I]
def ali{l:List Ex}(H:l.length<100000000)(M:∀x∈l,SE (di x)):SE l:=by
 intro most;have h:=λk Q I=>TN l H M most k Q I l [] 0 0 rfl;rw[aoH (by simp)];simp[f93]at h⊢;apply h _ (λA=>∃n d:Int,A=some (.ret (.bq [.d (.int .i64 n),.d (.int .i64 d)]),[]));intro n d b c;simp
mutual
def asq:∀x:Ex,B1 x->SE (di x)
 | .mk op nn name field sub line,h=>by
  simp only[B1]at h;exact ali h.1.2.2 (Wm sub h.2)
def Wm:∀l:List Ex,tR l->∀x∈l,SE (di x)
 |[],_,x,J=>by simp at J
 |y::r,h,x,J=>by
  simp only[tR]at h;rcases ac4.1 J with e|J
  .rw[e];exact asq y h.1
  .exact Wm r h.2 x J
end
def ZA{l:List Ex}(H:l.length<100000000)(h:tR l):SE l:=ali H (Wm l h)
@[reducible] noncomputable def oy(p:List Nat):Code:=Code.at (bh f52) p
def SS(l:List Sm):Prop:=∀most:Int,∃n d:Int,aj ctx 52 [.d (.list (l.map bZ)),.d (.int .i64 most)] []=some (.ret (.bq [.d (.int .i64 n),.d (.int .i64 d)]),[])
section
variable {x:Sm} {v:Nat} {k:Kt} {Q:bS->Prop} {a b:AV} {most:Int}
theorem ssA(D:SE [gm x,dO x])(H:SE (b7 x))(n d:Int)
 (I:∀(n d:Int)(M O T U:AV),Q (k .normal ⟨136,aB,[(0,true,a),(1,true,.d (.int .i64 most)),(6,true,.d (.int .i64 n)),(7,true,.d (.int .i64 d)),(8,true,b),(9,true,.ptr 550 v 0),(42,true,M),(43,true,O),(44,true,T),(45,true,U)],[⟨550,v,bA x⟩]⟩)):
 Q (aL ctx 52 (oy [1,1,0,1,0,0,1,0,0,1,1,0]) ⟨136,aB,[(0,true,a),(1,true,.d (.int .i64 most)),(6,true,.d (.int .i64 n)),(7,true,.d (.int .i64 d)),(8,true,b),(9,true,.ptr 550 v 0)],[⟨550,v,bA x⟩]⟩ k):=by
 unfold SE at D H;simp[az]at D;have J:IntKind.i64.wrap 1=1:=by decide
 have V:IntKind.i64.wrap 2=2:=by decide
 have Y:List.range' 0 2=[0,1]:=rfl;simp only[bA]at I;obtain⟨m,A',hm⟩:=D (IntKind.i64.wrap (most-n));simp[oy,f52,Y];rw[ah];simp[hm,J];generalize IntKind.i64.wrap (n+m)=Z;obtain⟨A0,d2,y⟩:=H (IntKind.i64.wrap (most-Z));rw[ah];simp[y,J,V];rw[ah];simp[I]
end
section
variable {x:Sm} {v:Nat} {k:Kt} {Q:bS->Prop} {a b:AV} {most:Int}
theorem ssB(n d:Int)(J M A6 A7:AV)
 (D:∀(n:Int),Q (k .normal ⟨136,aB,[(0,true,a),(1,true,.d (.int .i64 most)),(6,true,.d (.int .i64 n)),(7,true,.d (.int .i64 d)),(8,true,b),(9,true,.ptr 550 v 0)],[⟨550,v,bA x⟩]⟩)):
 Q (aL ctx 52 (oy [1,1,0,1,0,0,1,0,0,1,1,1,0]) ⟨136,aB,[(0,true,a),(1,true,.d (.int .i64 most)),(6,true,.d (.int .i64 n)),(7,true,.d (.int .i64 d)),(8,true,b),(9,true,.ptr 550 v 0),(42,true,J),(43,true,M),(44,true,A6),(45,true,A7)],[⟨550,v,bA x⟩]⟩ k):=by
 simp only[bA]at D;simp[oy,f52];apply D
theorem QH(Y:(dq x).length<100000000)(d:Int)
 (D:∀(n:Int)(J M:AV),Q (k (.exit 4) ⟨136,aB,[(0,true,a),(1,true,.d (.int .i64 most)),(6,true,.d (.int .i64 n)),(7,true,.d (.int .i64 d)),(8,true,b),(9,true,.ptr 550 v 0),(14,true,J),(88,true,M)],[⟨550,v,bA x⟩]⟩)):∀(rest pre:List (List Int))(n:Int),dq x=pre++rest->
 Q (aL ctx 52 (.loop (oy [1,1,0,1,0,0,1,0,0,1,1,1,1,0,1,0,0])) ⟨136,aB,[(0,true,a),(1,true,.d (.int .i64 most)),(6,true,.d (.int .i64 n)),(7,true,.d (.int .i64 d)),(8,true,b),(9,true,.ptr 550 v 0),(14,true,.d (.int .i64 pre.length))],[⟨550,v,bA x⟩]⟩ k)
 |[],pre,n,H=>by
  have A0:pre.length=(dq x).length:=by rw[H];simp
  simp only[bA]at D;rw[A0,ah];simp[oy,f52,D]
 |c::rest,pre,n,H=>by
  have U:pre.length<(dq x).length:=by rw[H];simp
  have A1:(dq x)[pre.length]=c:=by simp[H]
  have ih:=λn=>QH Y d D rest (pre++[c]) n (by simp[H]);have A2:=b9 ((pre.length:Int)+1);simp only[bA]at D;rw[ah];by_cases V:n<=most
  .simp[oy,f52]at ih⊢;simp[U,A1,V,jR,A2];apply ih
  .simp[oy,f52];simp[U,V,D]
theorem QI(Y:(aP x).length<100000000)(O:∀c∈aP x,SS c)
 (D:∀(n d:Int)(J M:AV),Q (k (.exit 6) ⟨136,aB,[(0,true,a),(1,true,.d (.int .i64 most)),(6,true,.d (.int .i64 n)),(7,true,.d (.int .i64 d)),(8,true,b),(9,true,.ptr 550 v 0),(15,true,J),(111,true,M)],[⟨550,v,bA x⟩]⟩)):∀(rest pre:List (List Sm))(n d:Int),aP x=pre++rest->
 Q (aL ctx 52 (.loop (oy [1,1,0,1,0,0,1,0,0,1,1,1,1,1,1,0,0])) ⟨136,aB,[(0,true,a),(1,true,.d (.int .i64 most)),(6,true,.d (.int .i64 n)),(7,true,.d (.int .i64 d)),(8,true,b),(9,true,.ptr 550 v 0),(15,true,.d (.int .i64 pre.length))],[⟨550,v,bA x⟩]⟩ k)
 |[],pre,n,d,H=>by
  have A0:pre.length=(aP x).length:=by rw[H];simp
  simp only[bA]at D;rw[A0,ah];simp[oy,f52,D]
 |c::rest,pre,n,d,H=>by
  have U:pre.length<(aP x).length:=by rw[H];simp
  have A1:(aP x)[pre.length]=c:=by simp[H]
  have ih:=λn d=>QI Y O D rest (pre++[c]) n d (by simp[H]);obtain⟨m,AH,hm⟩:=O c (by rw[H];simp) (IntKind.i64.wrap (most-n));have A2:=b9 ((pre.length:Int)+1);simp only[bA]at D;rw[ah];by_cases V:n<=most
  .simp[oy,f52]at ih⊢;simp[U,A1,V,dZ,hm,A2];apply ih
  .simp[oy,f52];simp[U,V,D]
theorem alj(I:Ah x)(O:∀c∈aP x,SS c)(n d:Int)
 (D:∀(n d:Int)(J M:AV),Q (k .normal ⟨136,aB,[(0,true,a),(1,true,.d (.int .i64 most)),(6,true,.d (.int .i64 n)),(7,true,.d (.int .i64 d)),(8,true,b),(9,true,.ptr 550 v 0),(15,true,J),(111,true,M)],[⟨550,v,bA x⟩]⟩)):
 Q (aL ctx 52 (oy [1,1,0,1,0,0,1,0,0,1,1]) ⟨136,aB,[(0,true,a),(1,true,.d (.int .i64 most)),(6,true,.d (.int .i64 n)),(7,true,.d (.int .i64 d)),(8,true,b),(9,true,.ptr 550 v 0)],[⟨550,v,bA x⟩]⟩ k):=by
 obtain⟨AA,AB,⟨Z,AC⟩,⟨AD,AI⟩,AJ,AE⟩:=I;have AF:oy [1,1,0,1,0,0,1,0,0,1,1]=Code.seq (oy [1,1,0,1,0,0,1,0,0,1,1,0]) (oy [1,1,0,1,0,0,1,0,0,1,1,1]):=rfl;have AG:oy [1,1,0,1,0,0,1,0,0,1,1,1]=Code.seq (oy [1,1,0,1,0,0,1,0,0,1,1,1,0]) (oy [1,1,0,1,0,0,1,0,0,1,1,1,1]):=rfl;rw[AF,jo];apply ssA (ZA (l:=[gm x,dO x]) (by simp) ⟨AA,AB,trivial⟩) (ZA Z AC);intro n d J M A6 A7;rw[ml,AG,jo];apply ssB;intro n;rw[ml];have A8:=λk Q D=>QH (a:=a) (b:=b) (v:=v) (most:=most) (k:=k) (Q:=Q) AD d D (dq x) [] n rfl;simp[oy,f52]at A8⊢;apply A8;intro n J M;have A9:=λk Q D=>QI (a:=a) (b:=b) (v:=v) (most:=most) (k:=k) (Q:=Q) AE O D (aP x) [] n d rfl;simp[oy,f52]at A9⊢;apply A9;intro n d J M;simp only[bA]at D;simp[D]
end
def TO(l:List Sm)(A3:l.length<100000000)(A4:∀x∈l,Ah x)(O:∀x∈l,∀c∈aP x,SS c)(most:Int)(k:Kt)(Q:bS->Prop)
 (T:∀(n d:Int)(b c:AV) v X,Q (k (.exit 0) ⟨136,aB,[(0,true,.d (.list (l.map bZ))),(1,true,.d (.int .i64 most)),(6,true,.d (.int .i64 n)),(7,true,.d (.int .i64 d)),(8,true,b),(26,true,c)],[⟨550,v,X⟩]⟩)):∀(rest pre:List Sm)(n d:Int)(v:Nat)(X:aF),l=pre++rest->
 Q (aL ctx 52 (.loop (oy [1,1,0,1,0,0])) ⟨136,aB,[(0,true,.d (.list (l.map bZ))),(1,true,.d (.int .i64 most)),(6,true,.d (.int .i64 n)),(7,true,.d (.int .i64 d)),(8,true,.d (.int .i64 pre.length))],[⟨550,v,X⟩]⟩ k)
 |[],pre,n,d,v,X,H=>by
  have A0:pre.length=l.length:=by rw[H];simp
  rw[A0,ah];simp[oy,f52,T]
 |x::rest,pre,n,d,v,X,H=>by
  have U:pre.length<l.length:=by rw[H];simp
  have A1:l[pre.length]=x:=by simp[H]
  have hm:x∈l:=by rw[H];simp
  have A':=λ(v:Nat) (a b:AV) (k:Kt) (Q:bS->Prop) (n d:Int)=>alj (v:=v) (a:=a) (b:=b) (most:=most) (k:=k) (Q:=Q) (A4 x hm) (O x hm) n d;have ih:=λn d v X=>TO l A3 A4 O most k Q T rest (pre++[x]) n d v X (by simp[H]);have A2:=b9 ((pre.length:Int)+1);rw[ah];by_cases V:n<=most
  .simp[oy,f52]at A' ih⊢;simp[U,A1,V,bU];apply A';intro n d J M;simp[A2,ih]
  .simp[oy,f52];simp[U,V,T]
def alk{l:List Sm}(A3:l.length<100000000)(A4:∀x∈l,Ah x)(O:∀x∈l,∀c∈aP x,SS c):SS l:=by
 intro most;have h:=λk Q T v X=>TO l A3 A4 O most k Q T l [] 0 0 v X rfl;rw[aoo (by simp)];simp[oy,f52]at h⊢;apply h _ (λA=>∃n d:Int,A=some (.ret (.bq [.d (.int .i64 n),.d (.int .i64 d)]),[]));intro n d b c v X;simp
mutual
def asr:∀x:Sm,DO x->Ah x/\∀c∈aP x,SS c
 | .mk op name to val conds AK fields blocks line,h=>by
  have h:=(Wl _).1 h;exact⟨h.1,ad9 blocks h.2⟩
def NR:∀l:List Sm,nz l->∀x∈l,Ah x/\∀c∈aP x,SS c
 |[],_,x,I=>by simp at I
 |y::r,h,x,I=>by
  simp only[nz]at h;have A5:=asr y h.1;have T:=NR r h.2;rcases ac4.1 I with e|I
  .rw[e];exact A5
  .exact T x I
def ad9:∀l:List (List Sm),pD l->∀c∈l,SS c
 |[],_,c,Z=>by simp at Z
 |b::r,h,c,Z=>by
  simp only[pD]at h;have A5:=NR b h.1.2;have T:=ad9 r h.2;rcases ac4.1 Z with e|Z
  .rw[e];exact alk h.1.1 (λx I=>(A5 x I).1) (λx I=>(A5 x I).2)
  .exact T c Z
end
def alm{l:List Sm}(A3:l.length<100000000)(h:nz l):SS l:=
 alk A3 (λx I=>(NR l h x I).1) (λx I=>(NR l h x I).2)
def aln{p:Pg}(A':p.body.length<100000000)(Y:nz p.body)(most:Int):∃n d:Int,aj ctx 23 [.d (.agg [.str p.name,.list (p.vars.map bF),.list (p.body.map bZ)]),.d (.int .i64 most)] []=some (.ret (.bq [.d (.int .i64 n),.d (.int .i64 d)]),[]):=by
 obtain⟨n,d,h⟩:=alm A' Y most;rw[an8 (by simp)];simp[f23,h]
def afP{p:Pg}(A':p.body.length<100000000)(Y:nz p.body):∃B:Bool,aj ctx 8 [.d (.agg [.str p.name,.list (p.vars.map bF),.list (p.body.map bZ)])] []=some (.ret (.d (.bool B)),[]):=by
 obtain⟨n,d,h⟩:=aln A' Y 2000;rw[asa (by simp)];simp[f8,h]
end Go.Am
end
section
namespace Go.Am
open Go
set_option maxRecDepth 20000
set_option maxHeartbeats 4000000
def QJ(l:List Ex):(jq l).length=l.length:=by rw[yc];simp
def B3(x:Ex):fw (cm x)=cq (BI x)+1:=by rw[NL];rfl
mutual
def QK:∀x:Ex,fw (cm x)<100000000->B1 x
 | .mk op n name field sub line,h=>by
  simp only[cm,fw,cq]at h;have H:=qn (jq sub);rw[QJ]at H;simp only[B1];exact⟨⟨by omega,by omega,by omega⟩,K8 sub (by omega)⟩
def K8:∀l:List Ex,cq (jq l)<100000000->tR l
 |[],_=>by simp only[tR]
 |x::r,h=>by
  simp only[jq,cq]at h;simp only[tR];exact⟨QK x (by omega),K8 r (by omega)⟩
end
def De{α:Type}(f:α->D)(l:List α):l.length<=cq (l.map f):=by
 have:=qn (l.map f);simpa using this
def aea(l:List Int):l.length<=fw (jR l):=by
 have:=De (λn=>D.int .i64 n) l;simp only[jR,fw];omega
def ab2(l:List (List Sm)):(py l).length=l.length:=by rw[FZ];simp
def H3(l:List Sm):(pz l).length=l.length:=by rw[BJ];simp
mutual
def alo:∀x:Sm,fw (bZ x)<100000000->DO x/\TL x<=fw (bZ x)
 | .mk op name to val conds M fields blocks line,h=>by
  simp only[bZ,fw,cq,uW]at h⊢;have V:=B3 to;have Y:=B3 val;have H:=qn (jq conds);rw[QJ]at H;have Z:=De jR M;have y:=De D.str fields;have O:=qn (py blocks);rw[ab2]at O;have T:=TP blocks (by omega);simp only[DO,TL];refine⟨⟨⟨QK to (by omega),QK val (by omega),⟨by omega,K8 conds (by omega)⟩,⟨by omega,λl U=>?_⟩,by omega,by omega⟩,T.1⟩,by omega⟩;have A':=PO (adP (f:=jR) U);have A0:=aea l;omega
def K9:∀l:List Sm,cq (pz l)<100000000->nz l/\xb l<=cq (pz l)
 |[],_=>by simp only[nz,xb];exact⟨trivial,apR _⟩
 |x::r,h=>by
  simp only[pz,cq]at h⊢;have I:=alo x (by omega);have H:=K9 r (by omega);simp only[nz,xb];exact⟨⟨I.1,H.1⟩,by omega⟩
def TP:∀l:List (List Sm),cq (py l)<100000000->pD l/\A7 l<=cq (py l)
 |[],_=>by simp only[pD,A7];exact⟨trivial,apR _⟩
 |b::r,h=>by
  simp only[py,cq,fw]at h⊢;have J:=qn (pz b);rw[H3]at J;have I:=K9 b (by omega);have H:=TP r (by omega);simp only[pD,A7];exact⟨⟨⟨by omega,I.1⟩,H.1⟩,by omega⟩
end
def Df{p:Pg}(h:fw (.agg [.str p.name,.list (p.vars.map bF),.list (p.body.map bZ)])<50000000):p.body.length<100000000/\nz p.body/\xb p.body<50000000:=by
 simp only[fw,cq]at h;rw[<-BJ]at h;have J:=qn (pz p.body);rw[H3]at J;have I:=K9 p.body (by omega);exact⟨by omega,I.1,by omega⟩
end Go.Am
end
section
namespace Go.Am
open Go Go.Proofs Go.Proofs.Tryz
variable [Inhabited bO]
set_option maxRecDepth 20000
set_option maxHeartbeats 4000000
def wG{P:Program}{n:Nat}{t:TypeId}{d:D}(h:typed P n t d):∃m,n=m+1:=by
 cases n with
 |zero=>exact h.elim
 |succ m=>exact⟨m,rfl⟩
def ob{P:Program}{n:Nat}{t:TypeId}{d:D}(M:P.underlying t=some (.int .i64))(h:typed P n t d):∃z,d=.int .i64 z/\wY z=true:=by
 obtain⟨m,rfl⟩:=wG h;obtain⟨z,rfl,hw⟩:=YG M h;refine⟨z,rfl,?_⟩;have J:bz z:=by
  simp[Lit.wf]at hw;unfold bz;have AB:IntKind.i64.min= -9223372036854775808:=by decide
  have AC:IntKind.i64.max=9223372036854775807:=by decide
  simp only[AB,AC]at hw;omega
 unfold bz at J;unfold wY;simp only[ac2];exact J
def afQ{P:Program}{n:Nat}{t:TypeId}{d:D}(M:P.underlying t=some .bool)(h:typed P n t d):∃b,d=.bool b:=by
 obtain⟨m,rfl⟩:=wG h;exact VW M h
def sR{P:Program}{n:Nat}{t:TypeId}{d:D}(M:P.underlying t=some .string)(h:typed P n t d):∃s,d=.str s:=by
 obtain⟨m,rfl⟩:=wG h;obtain⟨s,rfl,_⟩:=PK M h;exact⟨s,rfl⟩
def oT{P:Program}{n:Nat}{t e:TypeId}{d:D}(M:P.underlying t=some (.slice e))(h:typed P n t d):∃xs m,m<n/\d=.list xs/\∀x∈xs,typed P m e x:=by
 obtain⟨m,rfl⟩:=wG h;obtain⟨xs,rfl,_,H⟩:=Sf M h;exact⟨xs,m,by omega,rfl,H⟩
def Aj{P:Program}{n:Nat}{t:TypeId}{d:D}{fs:Array Field}(M:P.underlying t=some (.struct fs))(h:typed P n t d):∃O m,m<n/\d=.agg O/\F4 P m fs.toList O:=by
 obtain⟨m,rfl⟩:=wG h;obtain⟨O,rfl,AD⟩:=PN M h;exact⟨O,m,by omega,rfl,AD⟩
def kR{α:Type}{f:α->D}{Q:α->Prop}:∀{xs:List D},(∀x∈xs,∃r,x=f r/\Q r)->∃rs:List α,xs=rs.map f/\∀r∈rs,Q r
 |[],_=>⟨[],rfl,λr h=>by cases h⟩
 |x::xs,h=>by
  obtain⟨r,rfl,AE⟩:=h x (by simp);obtain⟨rs,rfl,AF⟩:=kR (xs:=xs) (λy I=>h y (by simp[I]));exact⟨r::rs,rfl,λy I=>by
   rcases ac4.1 I with rfl|I
   .exact AE
   .exact AF y I⟩
def H4:∀{l:List Ex},(∀x∈l,dt x=true)->da l=true
 |[],_=>by simp[da]
 |x::r,h=>by simp only[da,Ds];exact⟨h x (by simp),H4 λy I=>h y (by simp[I])⟩
def H5:∀{l:List Sm},(∀x∈l,ka x=true)->gN l=true
 |[],_=>by simp[gN]
 |x::r,h=>by simp only[gN,Ds];exact⟨h x (by simp),H5 λy I=>h y (by simp[I])⟩
def QL:∀{l:List (List Sm)},(∀x∈l,gN x=true)->fJ l=true
 |[],_=>by simp[fJ]
 |x::r,h=>by simp only[fJ,Ds];exact⟨h x (by simp),QL λy I=>h y (by simp[I])⟩
def H6:∀(n:Nat)(x:D),typed Tryz.prog n 120 x->∃e:Ex,x=cm e/\dt e=true:=by
 intro n;induction n using Nat.strongRecOn with
 |ind n ih=>
 intro x h;obtain⟨O,m,hm,rfl,A2,d0,T,⟨A3,d1,U,⟨A4,d2,J,⟨A7,d3,V,⟨A8,d4,Y,⟨A9,d5,Z,rfl,rfl⟩,rfl⟩,rfl⟩,rfl⟩,rfl⟩,rfl⟩:=Aj Tryz.underlying120 h;obtain⟨op,rfl,_⟩:=ob Tryz.underlying3 T;obtain⟨k,rfl,AG⟩:=ob Tryz.underlying2 U;obtain⟨name,rfl⟩:=sR Tryz.underlying9 J;obtain⟨field,rfl⟩:=sR Tryz.underlying9 V;obtain⟨xs,q,AA,rfl,A'⟩:=oT Tryz.underlying118 Y;obtain⟨line,rfl,_⟩:=ob Tryz.underlying3 Z;obtain⟨l,rfl,A1⟩:=kR (f:=cm) (Q:=λe=>dt e=true) (λx H=>ih q (by omega) x (A' x H));exact⟨.mk op k name field l line,by rw[NL];simp[BI,yc,D.cells],by
  simp only[dt,Ds];exact⟨AG,H4 A1⟩⟩
def JU{n:Nat}{x:D}(h:typed Tryz.prog n 26 x):∃l:List Int,x=jR l/\l.all wY=true:=by
 obtain⟨xs,q,AA,rfl,A'⟩:=oT Tryz.underlying26 h;obtain⟨l,rfl,A1⟩:=kR (f:=λn=>D.int .i64 n) (Q:=λe=>wY e=true) (λx H=>ob Tryz.underlying2 (A' x H));exact⟨l,rfl,adp.2 A1⟩
def ab3:∀(n:Nat)(x:D),typed Tryz.prog n 124 x->∃e:Sm,x=bZ e/\ka e=true:=by
 intro n;induction n using Nat.strongRecOn with
 |ind n ih=>
 intro x h;obtain⟨O,m,hm,rfl,A2,d0,T,⟨A3,d1,U,⟨A4,d2,J,⟨A7,d3,V,⟨A8,d4,Y,⟨A9,d5,Z,⟨AH,d6,A5,⟨AI,d7,A6,⟨AX,d8,AJ,rfl,rfl⟩,rfl⟩,rfl⟩,rfl⟩,rfl⟩,rfl⟩,rfl⟩,rfl⟩,rfl⟩:=Aj Tryz.underlying124 h;obtain⟨op,rfl,_⟩:=ob Tryz.underlying3 T;obtain⟨name,rfl⟩:=sR Tryz.underlying9 U;obtain⟨to,rfl,AK⟩:=H6 _ _ J;obtain⟨val,rfl,AL⟩:=H6 _ _ V;obtain⟨AY,AZ,A_,rfl,AM⟩:=oT Tryz.underlying118 Y;obtain⟨Aa,Ab,Ac,rfl,AN⟩:=oT Tryz.underlying121 Z;obtain⟨Ad,Ae,Af,rfl,AO⟩:=oT Tryz.underlying115 A5;obtain⟨Ag,Ah,Ai,rfl,AP⟩:=oT Tryz.underlying122 A6;obtain⟨line,rfl,_⟩:=ob Tryz.underlying3 AJ;obtain⟨conds,rfl,AQ⟩:=kR (f:=cm) (Q:=λe=>dt e=true) (λx H=>H6 _ _ (AM x H));obtain⟨AR,rfl,AS⟩:=kR (f:=jR) (Q:=λl=>l.all wY=true) (λx H=>JU (AN x H));obtain⟨fields,rfl⟩:=A0 (f:=D.str) (λx H=>sR Tryz.underlying9 (AO x H));obtain⟨blocks,rfl,AT⟩:=kR (f:=λb:List Sm=>D.list (b.map bZ)) (Q:=λb=>gN b=true) (λx H=>by
  obtain⟨xs,q,AA,rfl,A'⟩:=oT Tryz.underlying23 (AP x H);obtain⟨l,rfl,A1⟩:=kR (f:=bZ) (Q:=λe=>ka e=true) (λx H=>ih q (by omega) x (A' x H));exact⟨l,rfl,H5 A1⟩)
 refine⟨.mk op name to val conds AR fields blocks line,?_,?_⟩
 .simp[bZ,yc,FZ,D.cells,NL]
 .simp only[ka,Ds];exact⟨AK,AL,H4 AQ,adp.2 AS,QL AT⟩
def ab4{n:Nat}{x:D}(h:typed Tryz.prog n 59 x):∃v:Vr,x=bF v:=by
 obtain⟨O,m,hm,rfl,A2,d0,T,⟨A3,d1,U,⟨A4,d2,J,⟨A7,d3,V,⟨A8,d4,Y,⟨A9,d5,Z,⟨AH,d6,A5,⟨AI,d7,A6,rfl,rfl⟩,rfl⟩,rfl⟩,rfl⟩,rfl⟩,rfl⟩,rfl⟩,rfl⟩:=Aj Tryz.underlying59 h;obtain⟨name,rfl⟩:=sR Tryz.underlying9 T;obtain⟨ty,rfl,_⟩:=ob Tryz.underlying3 U;obtain⟨sec,rfl,_⟩:=ob Tryz.underlying3 J;obtain⟨arr,rfl⟩:=afQ Tryz.underlying4 V;obtain⟨lo,rfl,_⟩:=ob Tryz.underlying2 Y;obtain⟨hi,rfl,_⟩:=ob Tryz.underlying2 Z;obtain⟨init,rfl,_⟩:=ob Tryz.underlying2 A5;obtain⟨line,rfl,_⟩:=ob Tryz.underlying3 A6;exact⟨⟨name,ty,sec,arr,lo,hi,init,line⟩,rfl⟩
def ab5{n:Nat}{x:D}(h:typed Tryz.prog n 25 x):∃p:Pg,x=.agg [.str p.name,.list (p.vars.map bF),.list (p.body.map bZ)]/\gN p.body=true:=by
 obtain⟨O,m,hm,rfl,A2,d0,T,⟨A3,d1,U,⟨A4,d2,J,rfl,rfl⟩,rfl⟩,rfl⟩:=Aj Tryz.underlying25 h;obtain⟨name,rfl⟩:=sR Tryz.underlying9 T;obtain⟨Ak,q1,Al,rfl,AU⟩:=oT Tryz.underlying22 U;obtain⟨An,q2,Ao,rfl,AV⟩:=oT Tryz.underlying23 J;obtain⟨vars,rfl⟩:=A0 (f:=bF) (λx H=>ab4 (AU x H));obtain⟨body,rfl,AW⟩:=kR (f:=bZ) (Q:=λe=>ka e=true) (λx H=>ab3 _ _ (AV x H));exact⟨⟨name,vars,body⟩,rfl,H5 AW⟩
@[simp] def cH(x:ar):D:=.agg [.int .i64 x.op,.int .i64 x.a,.int .i64 x.b,.int .i64 x.n,.int .i64 x.m]
@[simp] def gn(ins:List ar)(vars cells:Int)(x y:AV):aF:=.box [.d (.list (ins.map cH)),.d (.int .i64 vars),.d (.int .i64 cells),x,y]
@[simp] def bD(l:List Bool):List D:=l.map .bool
section
variable (ins:List ar) (vars cells:Int) (s1 A1 M s2 A2 O:Nat) (S T:List D)
theorem Dg(at_ n:Int)(V:0<=cells/\cells<=8192)(A3:bz n):
 aj ctx 176 [.ptr 0 0 0,.d (.int .i64 at_),.d (.int .i64 n)] [gn ins vars cells (.vec 1 0 0 M) (.vec 2 0 0 O),.vec 1 S,.vec 1 T]=
  some (.ret (.d (.bool (fW cells at_ n))),[(0,gn ins vars cells (.vec 1 0 0 M) (.vec 2 0 0 O)),(0,.vec 1 S),(0,.vec 1 T)]):=by
 rw[akk (by simp)];unfold fW;by_cases H:0<=at_<;>by_cases I:0<=n<;>by_cases J:n<=cells<;>simp[f176,H,I,J];rw[(b9 _)]
theorem ZB(x:ar)(V:0<=cells/\cells<=8192):
 aj ctx 177 [.ptr 0 0 0,.d (cH x)] [gn ins vars cells (.vec 1 0 0 M) (.vec 2 0 0 O),.vec 1 S,.vec 1 T]=
  some (.ret (.d (.bool (AY cells x))),[(0,gn ins vars cells (.vec 1 0 0 M) (.vec 2 0 0 O)),(0,.vec 1 S),(0,.vec 1 T)]):=by
 rw[akl (by simp)];unfold AY;by_cases H:0<=x.n
 .by_cases I:x.n<=x.m
  .by_cases J:x.m<=255
   .have h:=Dg ins vars cells M O S T x.a (x.m-x.n+1) V (by unfold bz;omega);have Z:=b9 (x.m-x.n);have A':=b9 (x.m-x.n+1);simp at h;simp[f177,H,I,J,Z,A',h]
   .simp[f177,H,I,J]
  .simp[f177,H,I]
 .simp[f177,H]
theorem ab6(x:ar):aj ctx 178 [.d (cH x)] []=some (.ret (.d (.bool (xQ x))),[]):=by
 rw[akm (by simp)];unfold xQ;by_cases U:x.a=0
 .by_cases H:x.b=6
  .simp[f178,U,H]
  .by_cases I:8<=x.b<;>simp[f178,U,H,I]
 .by_cases H:x.a=1
  .by_cases I:x.b=7
   .simp[f178,H,I]
   .by_cases J:x.b=13
    .simp[f178,H,J]
    .by_cases Y:x.b=14
     .simp[f178,H,Y]
     .by_cases A0:19<=x.b<;>simp[f178,H,I,J,Y,A0]
  .simp[f178,U,H]
end
structure Mk where
 out:List ar
 cells:Int
 most:Int
 ex:List (List Int)
 lv:List Int
@[simp] def eQ(n:Int):D:=.int .i64 n
@[simp] def iV(l:List Int):List D:=l.map eQ
@[simp] def mkB(p:Pg)(m:Mk)(h:Int):aF:=.box [.d (.str p.name),.d (.list (p.vars.map bF)),.d (.list (p.body.map bZ)),.vec 1 0 0 m.out.length,.d (.int .i64 m.cells),.d (.int .i64 h),.d (.int .i64 m.most),.vec 2 0 0 m.ex.length,.vec 3 0 0 m.lv.length]
@[simp] def iW(p:Pg)(m:Mk)(h:Int):List aF:=[mkB p m h,.vec 5 (m.out.map cH),.vv (m.ex.map iV) none,.vec 1 (m.lv.map eQ)]
@[simp] def TQ(p:Pg)(m:Mk)(h:Int)(v1 v2 v3:Nat):List (Nat×aF):=[(0,.box [.d (.str p.name),.d (.list (p.vars.map bF)),.d (.list (p.body.map bZ)),.vec 1 v1 0 m.out.length,.d (.int .i64 m.cells),.d (.int .i64 h),.d (.int .i64 m.most),.vec 2 v2 0 m.ex.length,.vec 3 v3 0 m.lv.length]),(v1,.vec 5 (m.out.map cH)),(v2,.vv (m.ex.map iV) none),(v3,.vec 1 (m.lv.map eQ))]
@[simp] def jX(p:Pg)(m:Mk)(h:Int)(a b c O T U:Nat):aF:=.box [.d (.str p.name),.d (.list (p.vars.map bF)),.d (.list (p.body.map bZ)),.vec a O 0 m.out.length,.d (.int .i64 m.cells),.d (.int .i64 h),.d (.int .i64 m.most),.vec b T 0 m.ex.length,.vec c U 0 m.lv.length]
def iX(p:Pg)(m:Mk)(h:Int)(o:Out)(r:bS):Prop:=∃v1 v2 v3,r=some (o,TQ p m h v1 v2 v3)
def Mk.put(m:Mk)(x:ar)(t:Int):Mk:={m with out:=m.out++[x],most:=max m.most t}
def mxI(a b:Int):(if a<b then b else a)=max a b:=by
 rw[Int.max_def];by_cases h:a<b
 .rw[ac1 h,ac1 (by omega)]
 .by_cases V:a=b
  .subst V;simp
  .rw[aaf h,aaf (by omega)]
def JV(p:Pg)(m:Mk)(h:Int):aj ctx 109 [.ptr 0 0 0] (iW p m h)=some (.ret (.d (.int .i64 m.out.length)),TQ p m h 0 0 0):=by
 rw[ajR (by simp)];simp[f109]
def mD(p:Pg)(m:Mk)(h by_:Int)(x:ar)(I:m.out.length<100000000)(hw:IntKind.i64.wrap (h+by_)=h+by_):iX p (m.put x (h+by_)) (h+by_) (.ret (.d (.int .i64 m.out.length))) (aj ctx 34 [.ptr 0 0 0,.d (cH x),.d (.int .i64 by_)] (iW p m h)):=by
 have w0:=b9 (m.out.length:Int);have Y:m.out.length<=4611686018427387903:=by omega
 have Z:(m.out.length+1)*40<=140737488355328:=by omega
 rw[Wh (by simp)];simp[f34,ak,hw,w0,Y,Z,mxI];exact⟨1,0,0,by simp[Mk.put]⟩
def ZC(p:Pg)(m:Mk)(h n:Int)(hw:IntKind.i64.wrap (m.cells+n)=m.cells+n):iX p {m with cells:=m.cells+n} h (.ret (.d (.int .i64 m.cells))) (aj ctx 168 [.ptr 0 0 0,.d (.int .i64 n)] (iW p m h)):=by
 rw[ake (by simp)];simp[f168,hw];exact⟨_,_,_,rfl⟩
def u5(p:Pg)(m:Mk)(h at_:Int)(I:m.out.length<100000000)(hw:IntKind.i64.wrap (h+ -1)=h+ -1):iX p (m.put (ins 6 at_ 0 0 0) (h+ -1)) (h+ -1) (.ret (.bq [])) (aj ctx 164 [.ptr 0 0 0,.d (.int .i64 at_)] (iW p m h)):=by
 obtain⟨v1,v2,v3,H⟩:=mD p m h (-1) (ins 6 at_ 0 0 0) I hw;generalize m.put (ins 6 at_ 0 0 0) (h+ -1)=M at*;rw[aka (by simp)];simp[ins]at H;simp[f164,H];exact⟨_,_,_,rfl⟩
def qx(p:Pg)(m:Mk)(h:Int)(I:m.out.length<100000000)(hw:IntKind.i64.wrap h=h):iX p (m.put (ins 11 0 0 0 0) h) h (.ret (.bq [])) (aj ctx 97 [.ptr 0 0 0] (iW p m h)):=by
 obtain⟨v1,v2,v3,H⟩:=mD p m h 0 (ins 11 0 0 0 0) I (by simpa using hw);rw[show h+0=h by omega]at H;generalize m.put (ins 11 0 0 0 0) h=M at*;rw[aoK (by simp)];simp[ins]at H;simp[f97,H];exact⟨_,_,_,rfl⟩
def Dh(p:Pg)(m:Mk)(h to:Int)(I:m.out.length<100000000)(hw:IntKind.i64.wrap (h+ -1)=h+ -1):iX p (m.put (ins 10 to 0 0 0) (h+ -1)) (h+ -1) (.ret (.d (.int .i64 m.out.length))) (aj ctx 165 [.ptr 0 0 0,.d (.int .i64 to)] (iW p m h)):=by
 obtain⟨v1,v2,v3,H⟩:=mD p m h (-1) (ins 10 to 0 0 0) I hw;generalize m.put (ins 10 to 0 0 0) (h+ -1)=M at*;rw[akb (by simp)];simp[ins]at H;simp[f165,H];exact⟨_,_,_,rfl⟩
def JW(p:Pg)(m:Mk)(h to:Int)(I:m.out.length<100000000)(hw:IntKind.i64.wrap h=h):iX p (m.put (ins 9 to 0 0 0) h) h (.ret (.d (.int .i64 m.out.length))) (aj ctx 105 [.ptr 0 0 0,.d (.int .i64 to)] (iW p m h)):=by
 obtain⟨v1,v2,v3,H⟩:=mD p m h 0 (ins 9 to 0 0 0) I (by simpa using hw);rw[show h+0=h by omega]at H;generalize m.put (ins 9 to 0 0 0) h=M at*;rw[Qw (by simp)];simp[ins]at H;simp[f105,H];exact⟨_,_,_,rfl⟩
def JX(p:Pg)(m:Mk)(h at_ t:Int)(I:m.out.length<100000000)(hw:IntKind.i64.wrap (h+1)=h+1):iX p (m.put (ins (if t=2 then 3 else 2) at_ 0 0 0) (h+1)) (h+1) (.ret (.bq [])) (aj ctx 166 [.ptr 0 0 0,.d (.int .i64 at_),.d (.int .i64 t)] (iW p m h)):=by
 obtain⟨v1,v2,v3,H⟩:=mD p m h 1 (ins (if t=2 then 3 else 2) at_ 0 0 0) I hw;generalize m.put (ins (if t=2 then 3 else 2) at_ 0 0 0) (h+1)=M at*;rw[akc (by simp)];by_cases J:t=2
 .simp[ins,J]at H;simp[f166,J,H];exact⟨_,_,_,rfl⟩
 .simp[ins,J]at H;simp[f166,J,H];exact⟨_,_,_,rfl⟩
def Mk.lead(m:Mk)(at_:Int):Mk:={m with out:=setAt m.out at_ m.out.length}
def ZD:∀(l:List ar)(i:Nat)(v:Int)(hi:i<l.length),(l.map cH).set i (.agg [.int .i64 l[i].op,.int .i64 v,.int .i64 l[i].b,.int .i64 l[i].n,.int .i64 l[i].m])=(setAt l i v).map cH
 |x::l,0,v,hi=>by simp[setAt]
 |x::l,i+1,v,hi=>by
  have ih:=ZD l i v (by simpa using hi);simp only[setAt,Int.toNat_natCast]at ih⊢;have e:((i+1:Nat):Int).toNat=i+1:=by omega
  try rw[e]
  simp only[adz,amM,List.getElem_cons_succ,List.modify_succ_cons];rw[ih]
def wH(p:Pg)(m:Mk)(h:Int)(i:Nat)(hi:i<m.out.length)(H:m.out.length<100000000):aj ctx 62 [.ptr 0 0 0,.d (.int .i64 i)] (iW p m h)=some (.ret (.bq []),TQ p (m.lead i) h 0 0 0):=by
 have A3:=JV p m h;have A4:=ZD m.out i m.out.length hi;rw[aov (by simp)];simp at A3 A4;simp[f62,A3,hi,KQ,NG,NF,CU,E0,FV,qa,tC,tB,xH,I5,I6,I7,I8,gZ,xG,AJ,KC,zM,Hx,SF,Xw,OV,fF,gw,oN,vy,bC.app];simp[A4,Mk.lead]
def Mk.dp(m:Mk)(ps:List Int):Mk:={m with out:=mr m.out ps m.out.length}
def zq(m:Mk)(i:Int)(ps:List Int):m.dp (i::ps)=(m.lead i).dp ps:=by
 unfold Mk.dp Mk.lead;simp only[vE,YP]
@[simp] def H7(m:Mk)(i:Int):(m.lead i).out.length=m.out.length:=by simp[Mk.lead]
def Pl(n:Nat)(ps:List Int):Prop:=∀i∈ps,∃k:Nat,i=k/\k<n
def Fs(p:Pg)(h:Int)(l:List Int)(O:l.length<100000000)(k:Kt)(R:bS):∀(rest pre:List Int)(m:Mk),l=pre++rest->m.out.length<100000000->Pl m.out.length rest->
 (∀Y:Env,k (.exit 0) ⟨16,aB,Y,[⟨0,0,jX p (m.dp rest) h 2 3 4 0 0 0⟩,⟨1,0,.vec 1 (l.map eQ)⟩,⟨2,0,.vec 5 ((m.dp rest).out.map cH)⟩,⟨3,0,.vv (m.ex.map iV) none⟩,⟨4,0,.vec 1 (m.lv.map eQ)⟩]⟩=R)->
 aL ctx 33 (.loop (Code.at (bh f33) [1,0,0])) ⟨16,aB,[(0,true,.ptr 0 0 0),(6,true,.vec 1 0 0 l.length),(7,true,.d (.int .i64 l.length)),(8,true,.d (.int .i64 pre.length))],[⟨0,0,jX p m h 2 3 4 0 0 0⟩,⟨1,0,.vec 1 (l.map eQ)⟩,⟨2,0,.vec 5 (m.out.map cH)⟩,⟨3,0,.vv (m.ex.map iV) none⟩,⟨4,0,.vec 1 (m.lv.map eQ)⟩]⟩ k=R
 |[],pre,m,I,H,J,D=>by
  have Z:pre.length=l.length:=by rw[I];simp
  have e:m.dp []=m:=rfl;rw[e]at D;simp at D;rw[Z,ah];simp[f33,D]
 |i::rest,pre,m,I,H,J,D=>by
  obtain⟨j,rfl,y⟩:=J i (by simp);have A':pre.length<l.length:=by rw[I];simp
  have A0:l[pre.length]=(j:Int):=by simp[I]
  have hle:=wH p m h j y H;have A1:=b9 ((pre.length:Int)+1);have ih:=Fs p h l O k R rest (pre++[(j:Int)]) (m.lead j) (by simp[I]) (by simpa using H) (λi hi=>by simpa using J i (by simp[hi])) (λY=>by have:=D Y;rw[zq]at this;exact this);clear D;generalize m.lead j=M at*;rw[ah];simp[f33]at ih hle⊢;simp[A',A0,hle,A1,ih]
def Ak(p:Pg)(m:Mk)(h:Int)(l:List Int)(O:l.length<100000000)(H:m.out.length<100000000)(J:Pl m.out.length l):aj ctx 33 [.ptr 0 0 0,.vec 1 0 0 l.length] [jX p m h 2 3 4 0 0 0,.vec 1 (l.map eQ),.vec 5 (m.out.map cH),.vv (m.ex.map iV) none,.vec 1 (m.lv.map eQ)]=
 some (.ret (.bq []),[(0,jX p (m.dp l) h 2 3 4 0 0 0),(0,.vec 1 (l.map eQ)),(0,.vec 5 ((m.dp l).out.map cH)),(0,.vv (m.ex.map iV) none),(0,.vec 1 (m.lv.map eQ))]):=by
 have T:=λk R D=>Fs p h l O k R l [] m rfl H J D;rw[ad1 (by simp)];simp[f33]at T⊢;have A2:(m.dp l).ex=m.ex:=rfl;have U:(m.dp l).lv=m.lv:=rfl;rw[T _ (some (.ret (.bq []),[(0,jX p (m.dp l) h 2 3 4 0 0 0),(0,.vec 1 (l.map eQ)),(0,.vec 5 ((m.dp l).out.map cH)),(0,.vv (m.ex.map iV) none),(0,.vec 1 (m.lv.map eQ))])) (λY=>by simp[A2,U])];simp
def G6(p:Pg)(h:Int)(l:List Int)(O:l.length<100000000)(k:Kt)(R:bS):∀(rest pre:List Int)(m:Mk),l=m.lv->l=pre++rest->m.out.length<100000000->Pl m.out.length rest->
 (∀Y:Env,k (.exit 0) ⟨16,aB,Y,[⟨0,0,jX p (m.dp rest) h 2 3 1 0 0 0⟩,⟨1,0,.vec 1 (m.lv.map eQ)⟩,⟨2,0,.vec 5 ((m.dp rest).out.map cH)⟩,⟨3,0,.vv (m.ex.map iV) none⟩]⟩=R)->
 aL ctx 33 (.loop (Code.at (bh f33) [1,0,0])) ⟨16,aB,[(0,true,.ptr 0 0 0),(6,true,.vec 1 0 0 l.length),(7,true,.d (.int .i64 l.length)),(8,true,.d (.int .i64 pre.length))],[⟨0,0,jX p m h 2 3 1 0 0 0⟩,⟨1,0,.vec 1 (m.lv.map eQ)⟩,⟨2,0,.vec 5 (m.out.map cH)⟩,⟨3,0,.vv (m.ex.map iV) none⟩]⟩ k=R
 |[],pre,m,V,I,H,J,D=>by
  have Z:pre.length=l.length:=by rw[I];simp
  have e:m.dp []=m:=rfl;rw[e]at D;simp at D;rw[Z,ah];simp[f33,D]
 |i::rest,pre,m,V,I,H,J,D=>by
  obtain⟨j,rfl,y⟩:=J i (by simp);have A':pre.length<m.lv.length:=by rw[<-V,I];simp
  have A0:m.lv[pre.length]=(j:Int):=by
   have:l[pre.length]?=some (j:Int):=by rw[I];simp
   rw[V]at this;exact (aap.1 this).2
  have A5:l.length=m.lv.length:=by rw[V]
  have hle:=wH p m h j y H;have A1:=b9 ((pre.length:Int)+1);have ih:=G6 p h l O k R rest (pre++[(j:Int)]) (m.lead j) V (by simp[I]) (by simpa using H) (λi hi=>by simpa using J i (by simp[hi])) (λY=>by have:=D Y;rw[zq]at this;exact this);have U:(m.lead j).lv=m.lv:=rfl;clear D;generalize m.lead j=M at*;rw[ah];simp[f33]at ih hle⊢;rw[U]at ih hle;simp[A',A0,A5,hle,A1,ih];simp[A5]at ih;exact ih
def ab7(p:Pg)(m:Mk)(h:Int)(O:m.lv.length<100000000)(H:m.out.length<100000000)(J:Pl m.out.length m.lv):aj ctx 33 [.ptr 0 0 0,.vec 1 0 0 m.lv.length] [jX p m h 2 3 1 0 0 0,.vec 1 (m.lv.map eQ),.vec 5 (m.out.map cH),.vv (m.ex.map iV) none]=
 some (.ret (.bq []),[(0,jX p (m.dp m.lv) h 2 3 1 0 0 0),(0,.vec 1 (m.lv.map eQ)),(0,.vec 5 ((m.dp m.lv).out.map cH)),(0,.vv (m.ex.map iV) none)]):=by
 have T:=λk R D=>G6 p h m.lv O k R m.lv [] m rfl rfl H J D;rw[ad1 (by simp)];simp[f33]at T⊢;have A2:(m.dp m.lv).ex=m.ex:=rfl;have U:(m.dp m.lv).lv=m.lv:=rfl;rw[T _ (some (.ret (.bq []),[(0,jX p (m.dp m.lv) h 2 3 1 0 0 0),(0,.vec 1 (m.lv.map eQ)),(0,.vec 5 ((m.dp m.lv).out.map cH)),(0,.vv (m.ex.map iV) none)])) (λY=>by simp[A2,U])];simp
def TR(l:List Vr)(Z:l.length<=1000)(M:∀v∈l,dr v=true)(s:Tx)(E:dn)(O:E.key=200)(k:Kt)(R:bS)(T:Int->Vr->bS)
 (V:∀(n:Int)(w:Vr) v1 v2 H,k .ret ⟨29,aB,[(4,true,.d (.int .i64 n)),(5,true,.ptr 350 v1 0),(6,true,.d (.bool true))],[E,⟨350,v1,jA w⟩,⟨550,v2,H⟩]⟩=T n w)
 (U:∀(Y:Env) v1 v2 H,k (.exit 0) ⟨29,aB,(1,true,.d (.str s))::(5,true,.ptr 350 v1 0)::Y,[E,⟨350,v1,jA E7⟩,⟨550,v2,H⟩]⟩=R):∀(rest pre:List Vr)(n:Int)(v1 v2:Nat)(H:aF),l=pre++rest->0<=n->n<=1000*pre.length->
 aL ctx 163 (.loop (Code.at (bh f163) [1,1,0,1,0,0])) ⟨29,aB,[(1,true,.d (.str s)),(5,true,.ptr 350 v1 0),(7,true,.d (.int .i64 n)),(11,true,.d (.list (l.map bF))),(12,true,.d (.int .i64 l.length)),(13,true,.d (.int .i64 pre.length))],[E,⟨350,v1,jA E7⟩,⟨550,v2,H⟩]⟩ k=if (bj rest s).isSome=true then T (qo rest s n).1 (qo rest s n).2 else R
 |[],pre,n,v1,v2,H,I,y,J=>by
  have A4:pre.length=l.length:=by rw[I];simp
  simp[jA,E7]at U;rw[A4,ah];simp[f163,jA,E7,bj];exact U _ _ _ _
 |w::rest,pre,n,v1,v2,H,I,y,J=>by
  have A0:pre.length<l.length:=by rw[I];simp
  have A1:l[pre.length]=w:=by simp[I]
  have A2:=Qx (M w (by rw[I];simp));have A8:=vG (M w (by rw[I];simp));have ih:=λv2 H=>TR l Z M s E O k R T V U rest (pre++[w]) (n+cB w) v1 v2 H (by simp[I]) (by omega) (by simp;omega);have A5:=b9 ((pre.length:Int)+1);have A6:=b9 (n+cB w);rw[ah];simp only[bj,qo];by_cases A':w.name=s
  .simp[f163];have:=V n w v1 (v2+1);simp[jA,A']at this;simp[A0,A1,O,bF,dK,A',ak,this]
  .simp[f163,bF,dK]at ih A2⊢;simp[A0,A1,O,bF,dK,A',A2,A5,A6,ih]
abbrev q8(p:Pg):D:=.agg [.str p.name,.list (p.vars.map bF),.list (p.body.map bZ)]
def u6(p:Pg)(Z:p.vars.length<=1000)(M:∀v∈p.vars,dr v=true)(s:Tx):aj ctx 163 [.d (q8 p),.d (.str s)] []=some (.ret (.bq [.d (.int .i64 (bu p.vars s).1),.d (bF (bu p.vars s).2),.d (.bool (bj p.vars s).isSome)]),[]):=by
 have A3:=λE O k R T V U v1 v2 H=>TR p.vars Z M s E O k R T V U p.vars [] 0 v1 v2 H rfl (by omega) (by simp);have key:(if (bj p.vars s).isSome=true then some (.ret (.bq [.d (.int .i64 (qo p.vars s 0).1),.d (bF (qo p.vars s 0).2),.d (.bool true)]),([]:List (Nat×aF)))else some (.ret (.bq [.d (.int .i64 0),.d (bF E7),.d (.bool false)]),[]))=some (Out.ret (.bq [.d (.int .i64 (bu p.vars s).1),.d (bF (bu p.vars s).2),.d (.bool (bj p.vars s).isSome)]),([]:List (Nat×aF))):=by
  unfold bu;cases h:(bj p.vars s).isSome with
  |true=>simp
  |false=>
   have y:∀(l:List Vr) n,(bj l s).isSome=false->qo l s n=(0,E7):=by
    intro l;induction l with
    |nil=>intro n _;rfl
    |cons v r ih=>
     intro n J;simp only[bj,qo]at J⊢;split at J
     .cases J
     .rename_i A7;rw[aaf A7];exact ih _ J
   simp[y _ _ h]
 rw[aj9 (by simp)];simp[f163,jA,E7]at A3⊢;rw[A3 _ rfl _ (some (.ret (.bq [.d (.int .i64 0),.d (bF E7),.d (.bool false)]),[])) (λn w=>some (.ret (.bq [.d (.int .i64 n),.d (bF w),.d (.bool true)]),[]))]
 .exact key
 .intro n w v1 v2 H;simp[bF,dK]
 .intro Y v1 v2 H;simp[bF,dK,E7,ak]
def afR(s:Tx)(q:Pn):aj ctx 233 [.d (gz q),.ptr 0 0 0] [.box [.d (.str s)]]=some (.ret (.d (.bool (decide (q.name=s)))),[(0,.box [.d (.str s)])]):=by
 rw[akA (by simp)];simp[f233,gz]
def MR(s:Tx):∀(rest pre:List Pn),(pre++rest).length<1000000->∀k:Kt,
 aL ctx 232 (.loop (Code.at (bh f232) [1,0,1,0,0])) ⟨19,aB,[(0,true,.d (.list ((pre++rest).map gz))),(1,true,.fn 233 [.ptr 0 0 0]),(7,true,.d (.int .i64 (pre++rest).length)),(8,true,.d (.int .i64 pre.length))],[⟨0,0,.box [.d (.str s)]⟩]⟩ k=
  if jU (λq:Pn=>decide (q.name=s)) rest pre.length<0 then k (.exit 0) ⟨19,aB,[(0,true,.d (.list ((pre++rest).map gz))),(1,true,.fn 233 [.ptr 0 0 0]),(7,true,.d (.int .i64 (pre++rest).length)),(8,true,.d (.int .i64 (pre++rest).length)),(9,true,.d (.bool false))],[⟨0,0,.box [.d (.str s)]⟩]⟩
  else k .ret ⟨19,aB,[(4,true,.d (.int .i64 (jU (λq:Pn=>decide (q.name=s)) rest pre.length)))],[⟨0,0,.box [.d (.str s)]⟩]⟩
 |[],pre,I,k=>by
  rw[ah];simp[f232,jU]
 |x::rest,pre,I,k=>by
  obtain⟨b,V⟩:∃b,b=(λq:Pn=>decide (q.name=s)) x:=⟨_,rfl⟩;have Y:aj ctx 233 [.d (gz x),.ptr 0 0 0] [.box [.d (.str s)]]=some (.ret (.d (.bool b)),[(0,.box [.d (.str s)])]):=by rw[V];exact afR s x
  have key:jU (λq:Pn=>decide (q.name=s)) (x::rest) pre.length=if b=true then (pre.length:Int)else jU (λq:Pn=>decide (q.name=s)) rest (pre.length+1):=by rw[V];rfl
  have ih:=MR s rest (pre++[x]) (by simpa using I) k;have D:(pre.length:Int)<pre.length+(rest.length+1):=by omega
  have Z:IntKind.i64.wrap ((pre.length:Int)+1)=pre.length+1:=jb (by unfold bz;simp at I;omega);have y:¬((pre.length:Int)<0):=by omega
  try simp[gz]at Y
  rw[ah,key];clear V key;cases b with
  |true=>simp[f232,D,Z,y,Y,gz]
  |false=>
   simp[f232,gz]at ih⊢;simp[D,Z,Y,ih,gz]
def afS(s:Tx)(l:List Pn)(I:l.length<1000000):aj ctx 232 [.d (.list (l.map gz)),.fn 233 [.ptr 0 0 0]] [.box [.d (.str s)]]=some (.ret (.d (.int .i64 (jU (λq:Pn=>decide (q.name=s)) l 0))),[(0,.box [.d (.str s)])]):=by
 have h:=λk=>MR s l [] (by simpa using I) k;rw[Zs (by simp)];simp[f232]at h⊢;simp[h];intro h;rcases xS (λq:Pn=>decide (q.name=s)) l 0 with D|D
 .exact D.symm
 .omega
def H8(s:Tx):∀(l:List Pn)(n:Nat),(match E8 l s n with
 |some (i,q)=>jU (λq:Pn=>decide (q.name=s)) l n=i/\n<=i/\l[i-n]?=some q
 |none=>jU (λq:Pn=>decide (q.name=s)) l n= -1)
 |[],n=>rfl
 |q::l,n=>by
  have ih:=H8 s l (n+1);simp only[E8,jU];by_cases h:q.name=s
  .rw[ac1 h];simp[h]
  .rw[aaf h];simp only[h,decide_false,ahs,adN];cases J:E8 l s (n+1)with
   |none=>rw[J]at ih;exact ih
   |some x=>
    obtain⟨i,w⟩:=x;rw[J]at ih;obtain⟨D,Z,y⟩:=ih;refine⟨D,by omega,?_⟩;rw[show i-n=(i-(n+1))+1 by omega];simpa using y
def QM(p:Pg)(A2:p.vars.length<=1000)(A0:∀v∈p.vars,dr v=true)(s f:Tx):∃b,aj ctx 167 [.d (q8 p),.d (.str s),.d (.str f)] []=some (.ret (.bq [.d (.int .i64 (eH p.vars s f).1),.d (gz (eH p.vars s f).2),.d (.bool b)]),[]):=by
 have H:=u6 p A2 A0 s;have A7:0<=(bu p.vars s).1/\(bu p.vars s).1<=1000*1000:=by
  have key:∀(l:List Vr)(n:Int),(∀v∈l,dr v=true)->0<=n->(qo l s n).1=0\/(n<=(qo l s n).1/\(qo l s n).1<=n+1000*l.length):=by
   intro l;induction l with
   |nil=>intro n _ _;exact .inl rfl
   |cons v r ih=>
    intro n M A8;have A9:=vG (M v (by simp));simp only[qo];split
    .exact .inr ⟨by omega,by simp;omega⟩
    .rcases ih (n+cB v) (λw hw=>M w (by simp[hw])) (by omega)with h|h
     .exact .inl h
     .exact .inr ⟨by omega,by simp;omega⟩
  unfold bu;rcases key p.vars 0 A0 (by omega)with h|h<;>omega
 have A1:=B0 (bu p.vars s).2.ty;have AA:=wm (bu p.vars s).2.ty;have T:=afS f (dQ (bu p.vars s).2.ty) (by omega);have O:=H8 f (dQ (bu p.vars s).2.ty) 0;unfold eH;generalize (bu p.vars s)=A at*;obtain⟨n,w⟩:=A;simp only at*;rw[akd (by simp)];cases M:bj p.vars s with
 |none=>
  rw[M]at H;exact⟨_,by simp[f167,H,bF,dK,KX,gz];rfl⟩
 |some v=>
  rw[M]at H;by_cases U:2<w.ty
  .by_cases A':f=[]
   .exact⟨_,by simp[f167,H,bF,dK,KX,gz,U,A'];rfl⟩
   .cases J:E8 (dQ w.ty) f 0 with
    |none=>
     rw[J]at O;simp only at O;rw[O]at T;refine⟨false,?_⟩;simp[f167,H,bF,dK,KX,gz,U,A',A1,T]
    |some x=>
     obtain⟨i,q⟩:=x;rw[J]at O;obtain⟨g1,g2,g3⟩:=O;refine⟨true,?_⟩;rw[g1]at T;have hi:i<(dQ w.ty).length:=by
      have:=(aap.1 g3).1;simpa using this
     have A3:(dQ w.ty)[i]=q:=by
      have:=(aap.1 g3).2;simpa using this
     have A4:=b9 (n+i);have A5:¬((i:Int)<0):=by omega
     simp[f167,H,bF,dK,U,A',A1,T,ak,A4,A5,hi,A3,gz]
  .have A6:w.ty<=2:=by omega
   exact⟨_,by simp[f167,H,bF,dK,KX,gz,U,A6];rfl⟩
end Go.Am
end
