/-
  Texts of one proof, one behind the other.
-/
import Derived.Test.YtdjlcobfpppbbaaGreatDoorT5
set_option linter.all false
section
namespace Go.Am
open Go
def zt(cells:Int)(x:ak):Prop:=fY x\/(du Bf cells 0 0 x=true/\x.op≠15)
structure iz(cells:Int)(ex:Bool)(e:Nat)(l:List ak):Prop where
 le:l.length<=e
 run:cD l []=some []
 ok:∀x∈l,zt cells x
 jmp:∀(i:Nat) x,l[i]?=some x->fY x->0<=x.a->x.a.toNat=e\/(x.a.toNat<=l.length/\cD (l.take x.a.toNat) []=some []/\(i<x.a.toNat\/∃y,l[x.a.toNat]?=some y/\y.op=11))
 out:∀x∈l,fY x->x.a<0->x.op=9/\(x.a= -2\/(ex=true/\x.a= -1))
def Fg(cells:Int)(ex:Bool)(l:List ak):Prop:=iz cells ex l.length l
section
variable {cells:Int} {ex:Bool}
theorem NF{k:Nat}{x:ak}:fY (mM k x)↔fY x:=by unfold fY;rw[Np]
theorem aka{k:Nat}{x:ak}(h:zt cells x):zt cells (mM k x):=by
 rcases Ys k x with e|⟨e,_⟩
 ·rw[e];exact h
 ·exact .inl (NF.2 e)
theorem Yt{k:Nat}{x:ak}(E:fY x)(h:0<=x.a):(mM k x).a=x.a+k:=by
 unfold mM;rw[acs ⟨E,h⟩]
theorem Yu{k:Nat}{x:ak}(h:x.a<0):(mM k x).a=x.a:=by
 unfold mM;rw[ach (by rintro ⟨_,U⟩;omega)]
theorem abE(k j:Nat)(l:List ak):(jg k l).take j=jg k (l.take j):=by simp[jg]
theorem Rj(k i:Nat)(l:List ak):(jg k l)[i]?=(l[i]?).map (mM k):=by simp[jg]
theorem iz.wk{e e':Nat}{l:List ak}(h:iz cells ex e l)(he:e=l.length)(U:l.length<=e'):iz cells ex e' l:=by
 subst he;refine⟨U,h.run,h.ok,λi x D E J=>?_,h.out⟩;rcases h.jmp i x D E J with M|M
 ·right;have hi:=(ace.1 D).1;exact⟨by omega,by rw[M,List.take_length];exact h.run,.inl (by omega)⟩
 ·exact .inr M
theorem iz.plain{l:List ak}(V:cD l []=some [])(Y:∀x∈l,zt cells x)(E:∀x∈l,¬fY x){e:Nat}(he:l.length<=e):iz cells ex e l:=
 ⟨he,V,Y,λ_ x D A1=>absurd A1 (E x (acu D)),λx D A1=>absurd A1 (E x D)⟩
theorem iz.app{e e':Nat}{A B:List ak}(Z:iz cells ex e' B)(he:e=A.length+e')(V:cD A []=some [])(Y:∀x∈A,zt cells x)
 (E:∀(i:Nat) x,A[i]?=some x->fY x->0<=x.a->x.a.toNat=e\/(x.a.toNat<=A.length+B.length/\cD ((A++jg A.length B).take x.a.toNat) []=some []/\(i<x.a.toNat\/∃y,(A++jg A.length B)[x.a.toNat]?=some y/\y.op=11)))
 (AA:∀x∈A,fY x->x.a<0->x.op=9/\(x.a= -2\/(ex=true/\x.a= -1))):iz cells ex e (A++jg A.length B):=by
 have hle:=Z.le;refine⟨by simp;omega,?_,?_,?_,?_⟩
 ·rw[dN,V];show cD (jg _ B) []=_;rw[Iu];exact Z.run
 ·intro x D;rcases acC.1 D with D|D
  ·exact Y x D
  ·obtain⟨y,H,rfl⟩:=acF.1 D;exact aka (Z.ok y H)
 ·intro i x D c J;by_cases hi:i<A.length
  ·rw[acB hi]at D;rcases E i x D c J with h|h
   ·exact .inl h
   ·refine .inr ⟨by simp;omega,h.2⟩
  ·rw[acG (by omega),Rj]at D;obtain⟨y,H,rfl⟩:=acp.1 D;have A':=NF.1 c;have A0:0<=y.a:=by
    by_cases h:0<=y.a
    ·exact h
    ·rw[Yu (by omega)]at J;exact J
   rw[Yt A' A0];have AB:(y.a+(A.length:Int)).toNat=A.length+y.a.toNat:=by omega
   rw[AB];rcases Z.jmp _ y H A' A0 with h|⟨M,T,I⟩
   ·exact .inl (by omega)
   ·refine .inr ⟨by simp;omega,?_,?_⟩
    ·rw[List.take_append,ahh (by omega),dN,V];show cD ((jg _ B).take _) []=_;rw[abE,Iu,Nat.add_sub_cancel_left];exact T
    ·rcases I with I|⟨z,A2,A3⟩
     ·exact .inl (by omega)
     ·refine .inr ⟨mM A.length z,?_,by rw[Np];exact A3⟩;rw[acG (by omega),Rj,Nat.add_sub_cancel_left,A2];rfl
 ·intro x D c J;rcases acC.1 D with D|D
  ·exact AA x D c J
  ·obtain⟨y,H,rfl⟩:=acF.1 D;have A':=NF.1 c;have A0:y.a<0:=by
    by_cases h:0<=y.a
    ·rw[Yt A' h]at J;omega
    ·omega
   rw[Yu A0,Np];exact Z.out y H A' A0
theorem iz.jn{e e':Nat}{a b:List ak}(J:iz cells ex e a)(A4:iz cells ex e' b)(he:e=a.length+e'):iz cells ex e (jn a b):=by
 refine A4.app he J.run J.ok ?_ J.out;intro i x D E O;rcases J.jmp i x D E O with h|⟨M,T,I⟩
 ·exact .inl h
 ·refine .inr ⟨by omega,?_,?_⟩
  ·rw[agN M];exact T
  ·rcases I with I|⟨y,H,A5⟩
   ·exact .inl I
   ·exact .inr ⟨y,by rw[acB (ace.1 H).1];exact H,A5⟩
theorem Fg.jn{a b:List ak}(J:Fg cells ex a)(A4:Fg cells ex b):Fg cells ex (jn a b):=by
 unfold Fg;rw[eO];exact iz.jn (J.wk rfl (by omega)) A4 rfl
theorem iz.tail{e A7:Nat}{l q:List ak}(h:iz cells ex A7 l)(O:A7=e)(V:cD q []=some [])(Y:∀x∈q,zt cells x)(A8:∀x∈q,fY x->x.a=0)
 (AC:∃y,(l++q)[0]?=some y/\y.op=11) (AD:(l++q).length<=e):iz cells ex e (l++q):=by
 subst O;refine⟨AD,?_,?_,?_,?_⟩
 ·rw[dN,h.run];exact V
 ·intro x D;rcases acC.1 D with D|D
  ·exact h.ok x D
  ·exact Y x D
 ·intro i x D E O;by_cases hi:i<l.length
  ·rw[acB hi]at D;rcases h.jmp i x D E O with h|⟨M,T,I⟩
   ·exact .inl h
   ·refine .inr ⟨by simp;omega,by rw[agN M];exact T,?_⟩;rcases I with I|⟨y,H,A5⟩
    ·exact .inl I
    ·exact .inr ⟨y,by rw[acB (ace.1 H).1];exact H,A5⟩
  ·rw[acG (by omega)]at D;have:=A8 x (acu D) E;rw[this];exact .inr ⟨by simp,rfl,.inr AC⟩
 ·intro x D E O;rcases acC.1 D with D|D
  ·exact h.out x D E O
  ·have:=A8 x D E;omega
theorem akb{k:Int}{x:ak}(AE:0<=k):(qF k x).a<0->x.a<0/\¬(x.op=9/\x.a= -1)/\qF k x=x:=by
 unfold qF;split
 ·rename_i h;intro U;simp only at U;omega
 ·rename_i h;exact λU=>⟨U,h,rfl⟩
theorem Fg.UI{l:List ak}(h:Fg cells true l):Fg cells ex (oO l):=by
 have A6:∀x,fY (qF l.length x)↔fY x:=λx=>by unfold fY;rw[Yn]
 unfold Fg;rw[qf];refine⟨by simp,?_,?_,?_,?_⟩
 ·rw[oO,sI (NB _)];exact h.run
 ·intro x D;obtain⟨y,H,rfl⟩:=acF.1 D;rcases NB (l.length:Int) y with e|⟨e,_⟩
  ·rw[e];exact h.ok y H
  ·exact .inl ((A6 y).2 e)
 ·intro i x D E O;unfold oO at D;rw[adD]at D;obtain⟨y,H,rfl⟩:=acp.1 D;by_cases A9:y.op=9/\y.a= -1
  ·left;unfold qF;rw[acs A9];simp
  ·have e:qF l.length y=y:=by unfold qF;rw[ach A9]
   rw[e]at O⊢;rcases h.jmp i y H ((A6 y).1 E) O with M|⟨M,T,I⟩
   ·exact .inl M
   ·refine .inr ⟨by simpa using M,?_,?_⟩
    ·unfold oO;rw[<-List.map_take,sI (NB _)];exact T
    ·rcases I with I|⟨z,A2,A3⟩
     ·exact .inl I
     ·refine .inr ⟨qF l.length z,?_,by rw[Yn];exact A3⟩;unfold oO;rw[adD,A2];rfl
 ·intro x D E O;obtain⟨y,H,rfl⟩:=acF.1 D;obtain⟨M,T,I⟩:=akb (by omega) O;rw[I]at O⊢;obtain⟨q1,q2⟩:=h.out y H ((A6 y).1 E) M;refine⟨q1,?_⟩;rcases q2 with q2|⟨_,q2⟩
  ·exact .inl q2
  ·exact absurd ⟨q1,q2⟩ T
end
section
variable {cells:Int} {ex:Bool}
theorem wD{x:ak}(h:xQ cells x):zt cells x/\¬fY x:=by
 obtain⟨I,T,V⟩:=h;exact⟨.inr ⟨V,by omega⟩,by unfold fY;omega⟩
def NH(cells:Int)(t:List ak):Prop:=cD t []=some [true]/\∀x∈t,zt cells x/\¬fY x
theorem Rk{e:Nat}(h:1<=e):iz cells ex e [ins 9 (e:Int) 0 0 0]:=by
 refine⟨by simpa using h,by simp[cD,cy,ins,iw],?_,?_,?_⟩
 ·intro x D;simp at D;subst D;exact .inl (.inl rfl)
 ·intro i x D E J;cases i with
  |zero=>simp at D;subst D;exact .inl (by simp[ins])
  |succ i=>simp at D
 ·intro x D E J;simp at D;subst D;simp only[ins]at J;omega
theorem Rn{e:Nat}{t p:List ak}(H:NH cells t)(A1:iz cells ex e p):iz cells ex (t.length+1+e) (t++[ins 10 ((t.length:Int)+1+p.length) 0 0 0]++jg (t.length+1) p):=by
 have U:cD (t++[ins 10 ((t.length:Int)+1+p.length) 0 0 0]) []=some []:=by
  rw[dN,H.1];have:=Hm [];simp only[ad8]at this;simp[cD,cy,ins,this,iw]
 have M:(t++[ins 10 ((t.length:Int)+1+p.length) 0 0 0]).length=t.length+1:=by simp
 have:=A1.app (e:=t.length+1+e) (A:=t++[ins 10 ((t.length:Int)+1+p.length) 0 0 0]) (by rw[M]) U ?_ ?_ ?_
 ·rw[M]at this;exact this
 ·intro x D;rcases acC.1 D with D|D
  ·exact (H.2 x D).1
  ·simp at D;subst D;exact .inl (.inr rfl)
 ·intro i x D E J;by_cases hi:i<t.length
  ·rw[acB hi]at D;exact absurd E (H.2 x (acu D)).2
  ·rw[acG (by omega)]at D;have:i-t.length=0:=by
    have:=(ace.1 D).1;simp at this;omega
   rw[this]at D;simp at D;subst D;have A5:((ins 10 ((t.length:Int)+1+p.length) 0 0 0).a).toNat=t.length+1+p.length:=by simp only[ins];omega
   rw[A5];refine .inr ⟨by simp,?_,.inl (by omega)⟩;rw[ahh (by simp;omega)];rw[dN,U];show cD (jg _ p) []=_;rw[Iu];exact A1.run
 ·intro x D E J;rcases acC.1 D with D|D
  ·exact absurd E (H.2 x D).2
  ·simp at D;subst D;simp only[ins]at J;omega
theorem zu(b:List ak)(r:List (List ak)):cI [] (b::r)=if r=[]then b else jn (b++[ins 9 ((b.length:Int)+1+(cI [] r).length) 0 0 0]) (cI [] r):=by rw[cI]
theorem Ro(b:List ak)(n:Nat):b++[ins 9 ((b.length:Int)+1+n) 0 0 0]=jn b [ins 9 (((1+n:Nat)):Int) 0 0 0]:=by
 simp only[jn,jg,adM,api];congr 2;unfold mM;rw[acs ⟨.inl rfl,by simp only[ins];omega⟩];simp only[ins,ak.mk.injEq,akC,apg];omega
theorem KI:∀(ts bs:List (List ak)),(∀t∈ts,NH cells t)->(∀b∈bs,Fg cells ex b)->Fg cells ex (cI ts bs)
 |[],[],_,_=>by
  rw[cI];exact iz.plain rfl (by simp) (by simp) (by simp)
 |_::_,[],_,_=>by
  rw[cI];exact iz.plain rfl (by simp) (by simp) (by simp)
 |[],b::r,H,O=>by
  have Y:=O b (by simp);have ih:=KI [] r H (λx D=>O x (by simp[D]));rw[zu];split
  ·exact Y
  ·generalize cI [] r=out at ih⊢;rw[Ro];have I:iz cells ex (b.length+(1+out.length)) (jn b [ins 9 (((1+out.length:Nat)):Int) 0 0 0]):=iz.jn (Y.wk rfl (by omega)) (Rk (by omega)) rfl;unfold Fg;rw[eO];have e:(jn b [ins 9 (((1+out.length:Nat)):Int) 0 0 0]).length=b.length+1:=by rw[eO];rfl
   rw[e];have:=iz.jn (e:=b.length+1+out.length) (b:=out) (e':=out.length) (by rw[show b.length+1+out.length=b.length+(1+out.length) by omega];exact I) ih (by rw[e]);exact this
 |t::ts,b::r,H,O=>by
  have Y:=O b (by simp);have A2:=H t (by simp);have ih:=KI ts r (λx D=>H x (by simp[D])) (λx D=>O x (by simp[D]));rw[cI];generalize cI ts r=out at ih⊢;split
  ·have I:=Rn A2 Y;have M:(t++[ins 10 ((t.length:Int)+1+b.length) 0 0 0]++jg (t.length+1) b).length=t.length+1+b.length:=by simp;omega
   unfold Fg;rw[eO,M];refine iz.jn (e':=out.length) ?_ ih (by rw[M]);exact (show iz cells ex (t.length+1+b.length) _ from I).wk M.symm (by rw[M];omega)
  ·rw[Ro];have I:iz cells ex (b.length+(1+out.length)) (jn b [ins 9 (((1+out.length:Nat)):Int) 0 0 0]):=iz.jn (Y.wk rfl (by omega)) (Rk (by omega)) rfl;have T:=Rn A2 I;have e:(jn b [ins 9 (((1+out.length:Nat)):Int) 0 0 0]).length=b.length+1:=by rw[eO];rfl
   generalize jn b [ins 9 (((1+out.length:Nat)):Int) 0 0 0]=part at T e⊢;have M:(t++[ins 10 ((t.length:Int)+1+part.length) 0 0 0]++jg (t.length+1) part).length=t.length+1+(b.length+1):=by simp[e];omega
   unfold Fg;rw[eO,M];refine iz.jn (e':=out.length) ?_ ih (by rw[M]);rw[show t.length+1+(b.length+1)+out.length=t.length+1+(b.length+(1+out.length)) by omega];exact T
theorem qK:zt cells (ins 11 0 0 0 0)/\¬fY (ins 11 0 0 0 0):=⟨.inr ⟨by simp[du,ins],by simp[ins]⟩,by simp[fY,ins]⟩
theorem Fk(S:List ak):cD (ins 11 0 0 0 0::S) []=cD S []:=by simp[cD,cy,ins,iw]
theorem abF{t b:List ak}(H:NH cells t)(O:Fg cells true b):Fg cells ex (iy t b):=by
 unfold iy;refine Fg.UI ?_;have M:(ins 11 0 0 0 0::t).length=t.length+1:=by simp
 have Z:NH cells (ins 11 0 0 0 0::t):=⟨by rw[Fk];exact H.1,λx D=>by
  rcases aco.1 D with rfl|D
  ·exact qK
  ·exact H.2 x D⟩
 --A6 test leads behind A6 jump back
 have U:cD (ins 11 0 0 0 0::t++[ins 10 ((t.length:Int)+3+b.length) 0 0 0]) []=some []:=by
  rw[dN,Z.1];have:=Hm [];simp only[ad8]at this;simp[cD,cy,ins,this,iw]
 have A3:(ins 11 0 0 0 0::t++[ins 10 ((t.length:Int)+3+b.length) 0 0 0]).length=t.length+2:=by simp
 have A':iz cells true (b.length+1) b:=iz.wk O rfl (by omega);have I:=A'.app (e:=t.length+3+b.length) (A:=ins 11 0 0 0 0::t++[ins 10 ((t.length:Int)+3+b.length) 0 0 0]) (by rw[A3];omega) U ?_ ?_ ?_
 ·rw[A3]at I;unfold Fg;have e:(ins 11 0 0 0 0::t++[ins 10 ((t.length:Int)+3+b.length) 0 0 0]++jg (t.length+2) b++[ins 9 0 0 0 0]).length=t.length+3+b.length:=by simp;omega
  have V:=iz.tail I (e:=t.length+3+b.length) rfl (q:=[ins 9 0 0 0 0]) (by simp[cD,cy,ins,iw]) (by
   intro x D;simp at D;subst D;exact .inl (.inl rfl)) (by
   intro x D _;simp at D;subst D;rfl) ⟨ins 11 0 0 0 0,by simp,rfl⟩ (by rw[e];omega)
  rw[e];exact V
 ·intro x D;rcases acC.1 D with D|D
  ·exact (Z.2 x D).1
  ·simp at D;subst D;exact .inl (.inr rfl)
 ·intro i x D E J;by_cases hi:i<(ins 11 0 0 0 0::t).length
  ·rw[acB hi]at D;exact absurd E (Z.2 x (acu D)).2
  ·rw[acG (by omega)]at D;have:i-(ins 11 0 0 0 0::t).length=0:=by
    have:=(ace.1 D).1;simp at this⊢;omega
   rw[this]at D;simp at D;subst D;left;simp only[ins];omega
 ·intro x D E J;rcases acC.1 D with D|D
  ·exact absurd E (Z.2 x D).2
  ·simp at D;subst D;simp only[ins]at J;omega
theorem akd{t b:List ak}(H:NH cells t)(O:Fg cells true b)(hh:b=[]\/∃y,b[0]?=some y/\y.op=11):Fg cells ex (mO t b):=by
 unfold mO;refine Fg.UI ?_;unfold Fg;have e:b++ins 11 0 0 0 0::t++[ins 10 0 0 0 0]=b++(ins 11 0 0 0 0::t++[ins 10 0 0 0 0]):=by simp
 rw[e];refine iz.tail (iz.wk O rfl (by simp)) rfl ?_ ?_ ?_ ?_ (ack _)
 ·rw[dN,Fk,H.1];have:=Hm [];simp only[ad8]at this;simp[cD,cy,ins,this,iw]
 ·intro x D;rcases acC.1 D with D|D
  ·rcases aco.1 D with rfl|D
   ·exact (qK (cells:=cells)).1
   ·exact (H.2 x D).1
  ·simp at D;subst D;exact .inl (.inr rfl)
 ·intro x D E;rcases acC.1 D with D|D
  ·rcases aco.1 D with rfl|D
   ·exact absurd E (qK (cells:=cells)).2
   ·exact absurd E (H.2 x D).2
  ·simp at D;subst D;rfl
 ·rcases hh with rfl|⟨y,A4,A7⟩
  ·exact⟨ins 11 0 0 0 0,by simp,rfl⟩
  ·exact⟨y,by rw[acB (ace.1 A4).1];exact A4,A7⟩
theorem ake{a c:Int}{b:List ak}(A0:fQ cells a 1=true)(A8:fQ cells c 2=true)(A9:fQ cells (c+1) 1=true)(O:Fg cells true b):Fg cells ex (lj a c b):=by
 unfold lj;refine Fg.UI ?_;have U:cD [ins 11 0 0 0 0,ins 13 a c 0 0,ins 10 ((b.length:Int)+8) 0 0 0] []=some []:=by
  have:=Hm [];simp only[ad8]at this;simp[cD,cy,ins,this,iw,fe]
 have A':iz cells true (b.length+5) b:=iz.wk O rfl (by omega);have I:=A'.app (e:=b.length+8) (A:=[ins 11 0 0 0 0,ins 13 a c 0 0,ins 10 ((b.length:Int)+8) 0 0 0]) (by simp;omega) U ?_ ?_ ?_
 ·unfold Fg;have e:([ins 11 0 0 0 0,ins 13 a c 0 0,ins 10 ((b.length:Int)+8) 0 0 0]++jg 3 b++[ins 2 a 0 0 0,ins 2 (c+1) 0 0 0,ins 8 0 8 0 0,ins 6 a 0 0 0,ins 9 0 0 0 0]).length=b.length+8:=by simp
  have V:=iz.tail I (e:=b.length+8) rfl (q:=[ins 2 a 0 0 0,ins 2 (c+1) 0 0 0,ins 8 0 8 0 0,ins 6 a 0 0 0,ins 9 0 0 0 0]) (by
   have T:=abD [] false false;have I:=CQ [] false;simp only[ad8,agx]at I T;simp[cD,cy,ins,iw,fe,I,T]) (by
   intro x D;simp at D;rcases D with rfl|rfl|rfl|rfl|rfl
   ·exact .inr ⟨by simp[du,ins,A0],by simp[ins]⟩
   ·exact .inr ⟨by simp[du,ins,A9],by simp[ins]⟩
   ·exact .inr ⟨by simp[du,ins,s9],by simp[ins]⟩
   ·exact .inr ⟨by simp[du,ins,A0],by simp[ins]⟩
   ·exact .inl (.inl rfl)) (by
   intro x D E;simp at D;rcases D with rfl|rfl|rfl|rfl|rfl
   ·simp[fY,ins]at E
   ·simp[fY,ins]at E
   ·simp[fY,ins]at E
   ·simp[fY,ins]at E
   ·rfl) ⟨ins 11 0 0 0 0,rfl,rfl⟩ (by rw[<-e];exact ack _)
  rw[e];exact V
 ·intro x D;simp at D;rcases D with rfl|rfl|rfl
  ·exact (qK (cells:=cells)).1
  ·exact .inr ⟨by simp[du,ins,A0,A8],by simp[ins]⟩
  ·exact .inl (.inr rfl)
 ·intro i x D E J;match i,D with
  |0,D=>simp at D;subst D;exact absurd E (qK (cells:=cells)).2
  |1,D=>simp at D;subst D;simp[fY,ins]at E
  |2,D=>
   simp at D;subst D;left;simp only[ins];omega
  |i+3,D=>simp at D
 ·intro x D E J;simp at D;rcases D with rfl|rfl|rfl
  ·exact absurd E (qK (cells:=cells)).2
  ·simp[fY,ins]at E
  ·simp only[ins]at J;omega
end
section
variable {vs:List Vr}
mutual
theorem CT:∀(s:Sm)(c:Int),c<=(cB vs s c).2
 | .mk op name to val conds AP fields blocks line,c=>by
  have A':=rJ blocks;have Y:=JU blocks;unfold cB;split
  ·exact ao7 _
  ·split
   ·exact A' c
   ·split
    ·have:=A' (c+1);simp only;omega
    ·split
     ·have:=Y (c+2);simp only;omega
     ·split
      ·exact Y c
      ·split
       ·exact Y c
       ·split
        ·exact ao7 _
        ·split<;>exact ao7 _
theorem iW:∀(l:List Sm)(c:Int),c<=(ah vs l c).2
 |[],c=>ao7 _
 |x::r,c=>by
  have A':=CT x c;have Y:=iW r (cB vs x c).2;simp only[ah];omega
theorem rJ:∀(l:List (List Sm))(c:Int),c<=(aC vs l c).2
 |[],c=>ao7 _
 |b::r,c=>by
  have A':=iW b c;have Y:=rJ r (ah vs b c).2;simp only[aC];omega
theorem JU:∀(l:List (List Sm))(c:Int),c<=(kq vs l c).2
 |[],c=>ao7 _
 |b::r,c=>iW b c
end
end
theorem UJ(vs:List Vr):∀(l:List Sm)(c:Int),(ah vs l c).1=[]\/∃y,(ah vs l c).1[0]?=some y/\y.op=11
 |[],c=>.inl rfl
 |x::r,c=>.inr ⟨ins 11 0 0 0 0,by simp[ah,jn],rfl⟩
theorem Rp{h:Int}:∀{l:List Ex},lZ l<=h->∀x∈l,aR 0 x<=h
 |y::r,E,x,I=>by
  simp only[lZ]at E;rcases aco.1 I with rfl|I
  ·omega
  ·exact Rp (by omega) x I
section
variable {vs:List Vr} {cells:Int} (H:∀v∈vs,dQ v=true) (M:cJ vs<=cells)
include H M
theorem NI{x:Ex}(Z:bC x=true)(hw:(dZ vs x 2).1=0)(E:aR 0 x<=64):NH cells (au vs x).1:=by
 obtain⟨A',Y⟩:=qG.1 hw;obtain⟨⟨f,i1,i2⟩,_,_,i4⟩:=qJ H M x [] Z A' (by simpa using E);obtain rfl:=i2 Y;exact⟨i1,λy D=>wD (i4 y D)⟩
theorem NJ{ex:Bool}{x:Ex}{a:Int}(Z:bC x=true)(he:(aK vs x).e=0)(E:aR 0 x<=64)(U:fQ cells a 1=true):cD ((au vs x).1++[ins 6 a 0 0 0]) []=some []/\∀y∈(au vs x).1++[ins 6 a 0 0 0],zt cells y/\¬fY y:=by
 obtain⟨⟨f,i1,i2⟩,_,_,i4⟩:=qJ H M x [] Z he (by simpa using E);constructor
 ·rw[dN,i1];have:=CQ [] f;simp only[ad8]at this;simp[cD,cy,ins,this]
 ·intro y D;rcases acC.1 D with D|D
  ·exact wD (i4 y D)
  ·simp at D;subst D;exact⟨.inr ⟨by simp[du,ins,U],by simp[ins]⟩,by simp[fY,ins]⟩
theorem wE{ex:Bool}{l:List ak}(h:cD l []=some []/\∀y∈l,zt cells y/\¬fY y):Fg cells ex l:=
 iz.plain h.1 (λx I=>(h.2 x I).1) (λx I=>(h.2 x I).2) (ack _)
omit H in
theorem ae1{c:Int}(h:fQ cells c 1=true)(l:List Int):NH cells (ins 1 0 0 0 0::dX c l):=by
 have key:∀(n:Nat)(l:List Int),l.length<=n->cD (dX c l) [true]=some [true]/\∀x∈dX c l,zt cells x/\¬fY x:=by
  intro n;induction n with
  |zero=>
   intro l O;obtain rfl:l=[]:=acL (by omega);exact⟨rfl,by simp[dX]⟩
  |succ n ih=>
   intro l O;match l,O with
   |[],_=>exact⟨rfl,by simp[dX]⟩
   |[a],_=>exact⟨rfl,by simp[dX]⟩
   |a::b::r,O=>
    obtain⟨i1,i2⟩:=ih r (by simp at O;omega);constructor
    ·have:=adS [];simp only[ad8,agx]at this;simp[dX,cD,cy,ins,fe,this,i1]
    ·intro x I;simp only[dX,aco]at I;rcases I with rfl|rfl|I
     ·exact⟨.inr ⟨by simp[du,ins,h],by simp[ins]⟩,by simp[fY,ins]⟩
     ·exact⟨.inr ⟨by simp[du,ins,s9],by simp[ins]⟩,by simp[fY,ins]⟩
     ·exact i2 x I
 obtain⟨i1,i2⟩:=key l.length l (ack _);refine⟨by simp[cD,cy,ins,fe,i1],λx I=>?_⟩;rcases aco.1 I with rfl|I
 ·exact⟨.inr ⟨by simp[du,ins],by simp[ins]⟩,by simp[fY,ins]⟩
 ·exact i2 x I
theorem NK{s:Tx}{v:Vr}(h:bq vs s=some v)(U:¬v.arr=true)(E:v.ty<=2):fQ cells (cm vs s).1 1=true:=by
 have A1:∀v∈vs,0<=bX v:=λv J=>qI (H v J);have A7:=xP A1 h;have A8:bX v=1:=by unfold bX;rw[ach U,ach (by omega)]
 exact kS (by omega) (by omega) (by omega)
theorem ae2{s:Tx}{v:Vr}(h:bq vs s=some v)(U:v.arr=true):Ct cells (ins 7 (cm vs s).1 0 v.lo v.hi)=true:=by
 have A1:∀v∈vs,0<=bX v:=λv J=>qI (H v J);have A7:=xP A1 h;have A0:=H v (ub h).1;simp only[dQ,Ds]at A0;have T:=A0.2.2.1;rw[acs U]at T;have T:=adT T;have A8:bX v=v.hi-v.lo+1:=by unfold bX;rw[acs U]
 have A3:fQ cells (cm vs s).1 (v.hi-v.lo+1)=true:=kS (by omega) (by omega) (by omega);unfold Ct;simp only[Ds];exact⟨⟨⟨agf (show (0:Int)<=v.lo by omega),agf (show v.lo<=v.hi by omega)⟩,agf (show v.hi<=255 by omega)⟩,A3⟩
theorem JV{s:Tx}{v:Vr}(h:bq vs s=some v)(E:2<v.ty):0<=(cm vs s).1/\(cm vs s).1+(bI v.ty).length<=cells/\0<(bI v.ty).length:=by
 have A1:∀v∈vs,0<=bX v:=λv J=>qI (H v J);have A7:=xP A1 h;have A0:=H v (ub h).1;have A9:rC v.ty=true:=by
  rcases Ij A0 with h|h
  ·omega
  ·exact h.2.2
 simp only[dQ,Ds]at A0;have A2:¬v.arr=true:=by
  intro U;have T:=A0.2.2.1;rw[acs U]at T;have T:=adT T;omega
 have A8:bX v=(bI v.ty).length:=by unfold bX;rw[ach A2,acs E]
 refine⟨by omega,by omega,?_⟩;unfold rC at A9;have:=adT A9;omega
theorem aoq{ex:Bool}{to val:Ex}{line:Int}(A4:cq to=3\/cq to=4)(f1:bC to=true)(f2:bC val=true)(h:(GW vs to val line).1=0)(E:(if cq to=3 then aR 0 val else max (gQ 0 (dq to)) (aR 1 val))<=64):
 Fg cells ex (if cq to=3 then (au vs val).1++[ins 6 (cm vs (ew to)).1 0 0 0]else nj vs (dq to)++((au vs val).1++[ins 7 (cm vs (ew to)).1 0 (cm vs (ew to)).2.lo (cm vs (ew to)).2.hi])):=by
 obtain⟨op,n,name,field,sub,l⟩:=to;simp only[pO,Cv,rB]at A4 E⊢;unfold GW at h;simp only[Cv]at h;cases J:bq vs name with
 |none=>rw[J]at h;simp at h
 |some v=>
  rw[J]at h;simp only at h;split at h
  ·simp at h
  ·obtain⟨q1,AC⟩:=cg.1 h;obtain⟨AD,_⟩:=cg.1 AC;have q1:(aK vs (.mk op n name field sub l)).e=0:=q1;have q2:(aK vs val).e=0:=AD;have AE:=DD f1 q1;obtain⟨AF,AG⟩:=zn f1;have AH:=iV J;unfold aK at q1;rw[ach (by omega),acs (by omega),J]at q1;simp only at q1;rw[ach (by omega)]at q1;by_cases AA:v.arr≠decide (op=4)\/2<v.ty
   ·rw[acs AA]at q1;simp[db]at q1
   ·have AB:v.arr=decide (op=4):=by
     cases AQ:v.arr<;>cases AR:decide (op=4)<;>simp_all
    have AS:¬2<v.ty:=λh=>AA (.inr h);by_cases AI:op=3
    ·subst AI;have E:aR 0 val<=64:=E;have A2:¬v.arr=true:=by rw[AB];decide
     exact wE (l:=(au vs val).1++[ins 6 (cm vs name).1 0 0 0]) H M (NJ (ex:=ex) H M f2 q2 E (NK H M J A2 (by omega)))
    ·have AJ:op=4:=by omega
     subst AJ;have E:max (gQ 0 sub) (aR 1 val)<=64:=E;obtain⟨z,rfl⟩:∃z,sub=[z]:=by
      match sub,AF with
      |[z],_=>exact⟨z,rfl⟩
      |[],h=>simp[eF]at h
      |_::_::_,h=>simp[eF]at h
     simp only[gQ]at E;have AK:=(jN _).1 AG z (by simp);obtain⟨⟨f,i1,_⟩,_,_,i4⟩:=qJ H M z [] AK (AE z (by simp)) (by simp;omega);obtain⟨⟨g,A5,_⟩,_,_,AL⟩:=qJ H M val [f] f2 q2 (by simp;omega);have A2:v.arr=true:=by rw[AB];decide
     have T:=ae2 H M J A2;simp only[nj,AH];refine wE (l:=(au vs z).1++((au vs val).1++[ins 7 (cm vs name).1 0 v.lo v.hi])) H M ⟨?_,?_⟩
     ·rw[dN,i1];simp only[ad8,ad0];rw[dN,A5];have:=abD [] f g;simp only[ad8,agx]at this;simp[cD,cy,ins,this]
     ·intro y D;rcases acC.1 D with D|D
      ·exact wD (i4 y D)
      ·rcases acC.1 D with D|D
       ·exact wD (AL y D)
       ·simp at D;subst D;refine⟨.inr ⟨?_,by simp[ins]⟩,by simp[fY,ins]⟩;unfold du;simp only[ins]at T⊢;simpa using T
theorem Rq{name:Tx}{v:Vr}{line:Int}(J:bq vs name=some v)(E:2<v.ty):∀(V:List Tx)(xs:List Ex)(p:List Tx),xs.length=V.length->bO xs=true->(jZ vs v.ty line V xs p).1=0->lZ xs<=64->
 cD (dE vs name V xs) []=some []/\∀y∈dE vs name V xs,zt cells y/\¬fY y
 |[],[],p,_,_,_,_=>⟨rfl,by simp[dE]⟩
 |f::V,x::xs,p,O,Z,h,AM=>by
  simp only[bO,Ds]at Z;simp only[lZ]at AM;unfold jZ at h;cases A6:nh v.ty f with
  |none=>rw[A6]at h;simp at h
  |some q=>
   rw[A6]at h;simp only at h;split at h
   ·simp at h
   ·split at h
    ·simp at h
    ·obtain⟨A4,AN⟩:=cg.1 h;obtain⟨i1,i2⟩:=Rq J E V xs (p++[f]) (by simpa using O) Z.2 AN (by omega);obtain⟨_,q2,j,q3,AT⟩:=vt J E A6;obtain⟨AU,AV,AW⟩:=JV H M J E;have A3:fQ cells (jz vs name f).1 1=true:=kS (by rw[q3];omega) (by omega) (by rw[q3];omega);obtain⟨A5,AO⟩:=NJ (ex:=false) H M Z.1 (qG.1 A4).1 (by omega) A3;have e:dE vs name (f::V) (x::xs)=((au vs x).1++[ins 6 (jz vs name f).1 0 0 0])++dE vs name V xs:=by simp[dE]
     rw[e];constructor
     ·rw[dN,A5];exact i1
     ·intro y D;rcases acC.1 D with D|D
      ·exact AO y D
      ·exact i2 y D
 |[],_::_,_,O,_,_,_=>by simp at O
 |_::_,[],_,O,_,_,_=>by simp at O
end
theorem ui{vs:List Vr}{I:Bool}:∀{cs:List Ex}{l:List (List Sm)},cs.length<=l.length->(fW vs I cs l).1=0->∀x∈cs,(dZ vs x 2).1=0
 |c::cs,b::r,A0,h,x,D=>by
  obtain⟨V,Y⟩:=cg.1 h;obtain⟨_,A4⟩:=cg.1 Y;rcases aco.1 D with rfl|D
  ·exact V
  ·exact ui (by simpa using A0) A4 x D
 |_::_,[],A0,_,_,_=>by simp at A0
section
variable {vs:List Vr} {cells:Int} (O:∀v∈vs,dQ v=true) (M:cJ vs<=cells)
include O M
mutual
theorem ae3(I:Bool):∀(s:Sm)(c:Int),j7 s=true->(kZ vs I s).1=0->iC s<=64->0<=c->(cB vs s c).2<=cells->Fg cells I (cB vs s c).1
 | .mk op name to val conds A5 fields blocks line,c,J,h,H,T,E=>by
  simp only[j7,Ds,acn]at J;obtain⟨Ag,Ah,A9,AB,A2,A6,Ai,Aj,A7⟩:=J;have AA:(op=1\/op=3\/op=5\/op=6)->bC val=true:=by
   intro V;rw[acs V]at AB;simp only[Ds]at AB;exact AB.2
  unfold kZ at h;unfold iC at H;unfold cB at E⊢;by_cases V:op=1
  ·subst V;rw[acs rfl]at h;rw[acs rfl]at A9;simp only[Ds,acn]at A9;simp only[adZ]at H⊢;exact aoq O M A9.1 A9.2 (AA (.inl rfl)) h H
  ·rw[ach V]at h H;simp only[ach V]at E⊢;by_cases Y:op=2
   ·subst Y;rw[acs rfl]at h H;simp only[adZ]at E⊢;have U:cR 2 conds.length A5.length fields.length blocks.length=true:=A6;simp[cR]at U;refine KI _ _ ?_ (AF I conds blocks c A7 h (by omega) T E);intro t AC;obtain⟨x,D,rfl⟩:=acF.1 AC;exact NI O M ((jN _).1 A2 x D) (ui (by omega) h x D) (Rp (by omega) x D)
   ·rw[ach Y]at h H;simp only[ach Y]at E⊢;by_cases A4:op=3
    ·subst A4;rw[acs rfl]at h H;simp only[adZ]at E⊢;obtain⟨q1,q2⟩:=cg.1 h;have hm:=rJ (vs:=vs) blocks (c+1);have AL:fQ cells c 1=true:=kS T (by omega) (by omega);refine Fg.jn (wE O M (NJ (ex:=I) O M (AA (.inr (.inl rfl))) (qG.1 q1).1 (by omega) AL)) ?_;refine KI _ _ ?_ (AF I [] blocks (c+1) A7 q2 (by omega) (by omega) E);intro t AC;obtain⟨l,A0,rfl⟩:=acF.1 AC;exact ae1 M AL l
    ·rw[ach A4]at h H;simp only[ach A4]at E⊢;by_cases AD:op=4
     ·subst AD;rw[acs rfl]at h H;simp only[adZ]at E⊢;have U:cR 4 conds.length A5.length fields.length blocks.length=true:=A6;simp[cR]at U;obtain⟨AR,_,_,AS⟩:=U;cases A':bq vs name with
      |none=>rw[A']at h;simp at h
      |some v=>
       rw[A']at h;simp only at h;split at h
       ·simp at h
       ·split at h
        ·simp at h
        ·rename_i g2;obtain⟨q1,q2⟩:=cg.1 h;have hm:=JU (vs:=vs) blocks (c+2);have AM:=NK O M A' (λe=>g2 (.inl e)) (by omega);have AT:fQ cells c 1=true:=kS T (by omega) (by omega);have AN:fQ cells (c+1) 1=true:=kS (by omega) (by omega) (by omega);have AU:fQ cells c 2=true:=kS T (by omega) (by omega);refine Fg.jn ?_ (ake AM AU AN (Iv blocks (c+2) A7 q2 AS (by omega) (by omega) E));obtain⟨x,y,z,rfl⟩:∃x y z,conds=[x,y,z]:=by
          match conds,AR with
          |[x,y,z],_=>exact⟨x,y,z,rfl⟩
         obtain⟨AV,AE⟩:=cg.1 q1;obtain⟨AE,AG⟩:=cg.1 AE;obtain⟨AG,_⟩:=cg.1 AG;simp only[bO,Ds]at A2;simp only[gQ,Int.zero_add,Int.reduceAdd]at H;obtain⟨⟨f,i1,_⟩,_,_,i4⟩:=qJ O M x [] A2.1 (qG.1 AV).1 (by simp;omega);obtain⟨⟨g,AW,_⟩,_,_,AX⟩:=qJ O M y [f] A2.2.1 (qG.1 AE).1 (by simp;omega);obtain⟨⟨k,AY,_⟩,_,_,AZ⟩:=qJ O M z [f,g] A2.2.2.1 (qG.1 AG).1 (by simp;omega);refine wE O M ⟨?_,?_⟩
         ·simp only[gd];rw[dN,dN,i1];simp only[ad8,ad0];rw[dN,AW];simp only[agx,ad8,ad0];rw[AY];have t1:=CQ [f,g] k;have t2:=CQ [f] g;have t3:=CQ [] f;simp only[agx,ad8]at t1 t2 t3;simp[cD,cy,ins,t1,t2,t3]
         ·intro a A1;simp only[gd,acC,aco,adQ,akp]at A1;rcases A1 with (A1|A1|A1)|rfl|rfl|rfl
          ·exact wD (i4 a A1)
          ·exact wD (AX a A1)
          ·exact wD (AZ a A1)
          ·exact⟨.inr ⟨by simp[du,ins,AN],by simp[ins]⟩,by simp[fY,ins]⟩
          ·exact⟨.inr ⟨by simp[du,ins,AT],by simp[ins]⟩,by simp[fY,ins]⟩
          ·exact⟨.inr ⟨by simp[du,ins,AM],by simp[ins]⟩,by simp[fY,ins]⟩
     ·rw[ach AD]at h H;simp only[ach AD]at E⊢;by_cases AH:op=5
      ·subst AH;rw[acs rfl]at h;rw[acs (.inl rfl)]at H;simp only[adZ]at E⊢;have U:cR 5 conds.length A5.length fields.length blocks.length=true:=A6;simp[cR]at U;obtain⟨q1,q2⟩:=cg.1 h;exact abF (NI O M (AA (.inr (.inr (.inl rfl)))) q1 (by omega)) (Iv blocks c A7 q2 U.2.2.2 (by omega) T E)
      ·rw[ach AH]at h;simp only[ach AH]at E⊢;by_cases AI:op=6
       ·subst AI;rw[acs rfl]at h;rw[acs (.inr rfl)]at H;simp only[adZ]at E⊢;have U:cR 6 conds.length A5.length fields.length blocks.length=true:=A6;simp[cR]at U;obtain⟨q1,q2⟩:=cg.1 h;refine akd (NI O M (AA (.inr (.inr (.inr rfl)))) q2 (by omega)) (Iv blocks c A7 q1 U.2.2.2 (by omega) T E) ?_;match blocks,U.2.2.2 with
        |[b],_=>exact UJ vs b c
       ·rw[ach AI]at h;rw[ach (by omega)]at H;simp only[ach AI]at E⊢;by_cases AJ:op=7
        ·subst AJ;rw[acs rfl]at h;simp only[adZ]at⊢;split at h
         ·rename_i A_;subst A_;refine⟨ack _,by simp[cD,cy,ins,iw],?_,?_,?_⟩
          ·intro x D;simp at D;subst D;exact .inl (.inl rfl)
          ·intro i x D AK A8;cases i with
           |zero=>simp at D;subst D;simp[ins]at A8
           |succ i=>simp at D
          ·intro x D AK A8;simp at D;subst D;exact⟨rfl,.inr ⟨rfl,rfl⟩⟩
         ·simp at h
        ·rw[ach AJ]at h;simp only[ach AJ]at⊢;by_cases AO:op=8
         ·subst AO;simp only[adZ];refine⟨ack _,by simp[cD,cy,ins,iw],?_,?_,?_⟩
          ·intro x D;simp at D;subst D;exact .inl (.inl rfl)
          ·intro i x D AK A8;cases i with
           |zero=>simp at D;subst D;simp[ins]at A8
           |succ i=>simp at D
          ·intro x D AK A8;simp at D;subst D;exact⟨rfl,.inl rfl⟩
         ·have Aa:op=9:=by omega
          subst Aa;rw[acs rfl]at h;rw[ach (by omega)]at H;simp only[ach AO];have U:cR 9 conds.length A5.length fields.length blocks.length=true:=A6;simp[cR]at U;cases A':bq vs name with
          |none=>rw[A']at h;simp at h
          |some v=>
           rw[A']at h;simp only at h;split at h
           ·simp at h
           ·rename_i g1;have Ab:=iV A';obtain⟨i1,i2⟩:=Rq O M A' (by omega) fields conds [] U.1 A2 h H;obtain⟨Ac,Ad,Ae⟩:=JV O M A' (by omega);refine wE O M ⟨?_,?_⟩
            ·rw[dN,i1];simp[cD,cy,ins,iw]
            ·intro y A3;rcases acC.1 A3 with A3|A3
             ·exact i2 y A3
             ·simp at A3;subst A3;refine⟨.inr ⟨?_,by simp[ins]⟩,by simp[fY,ins]⟩;rw[Ab];have Af:fQ cells (cm vs name).1 (bI v.ty).length=true:=kS Ac (by omega) Ad;simp[du,ins,Bf,Af];exact agf Ae
theorem wF(I:Bool):∀(l:List Sm)(c:Int),eP l=true->(fg vs I l).1=0->bu l<=64->0<=c->(ah vs l c).2<=cells->Fg cells I (ah vs l c).1
 |[],c,_,_,_,_,_=>iz.plain rfl (by simp[ah]) (by simp[ah]) (ack _)
 |x::r,c,J,h,H,T,E=>by
  simp only[eP,Ds]at J;simp only[bu]at H;obtain⟨V,Y⟩:=cg.1 h;simp only[ah]at E⊢;have AP:=CT (vs:=vs) x c;have AQ:=iW (vs:=vs) r (cB vs x c).2;have i1:=ae3 I x c J.1 V (by omega) T (by omega);have i2:=wF I r (cB vs x c).2 J.2 Y (by omega) (by omega) E;have tk:Fg cells I [ins 11 0 0 0 0]:=iz.plain (by rw[Fk];rfl) (λx D=>by simp at D;subst D;exact qK.1) (λx D=>by simp at D;subst D;exact (qK (cells:=cells)).2) (ack _);exact Fg.jn (Fg.jn tk i1) i2
theorem AF(I:Bool):∀(cs:List Ex)(l:List (List Sm))(c:Int),da l=true->(fW vs I cs l).1=0->cC l<=64->0<=c->(aC vs l c).2<=cells->∀b∈(aC vs l c).1,Fg cells I b
 |_,[],c,_,_,_,_,_,b,Z=>by simp[aC]at Z
 |[],x::r,c,J,h,H,T,E,b,Z=>by
  simp only[da,Ds]at J;simp only[cC]at H;obtain⟨V,Y⟩:=cg.1 h;simp only[aC]at E Z;have AP:=iW (vs:=vs) x c;have AQ:=rJ (vs:=vs) r (ah vs x c).2;have i1:=wF I x c J.1 V (by omega) T (by omega);have i2:=AF I [] r (ah vs x c).2 J.2 Y (by omega) (by omega) E;rcases aco.1 Z with rfl|Z
  ·exact i1
  ·exact i2 b Z
 |_::cs,x::r,c,J,h,H,T,E,b,Z=>by
  simp only[da,Ds]at J;simp only[cC]at H;obtain⟨_,h⟩:=cg.1 h;obtain⟨V,Y⟩:=cg.1 h;simp only[aC]at E Z;have AP:=iW (vs:=vs) x c;have AQ:=rJ (vs:=vs) r (ah vs x c).2;have i1:=wF I x c J.1 V (by omega) T (by omega);have i2:=AF I cs r (ah vs x c).2 J.2 Y (by omega) (by omega) E;rcases aco.1 Z with rfl|Z
  ·exact i1
  ·exact i2 b Z
theorem Iv:∀(l:List (List Sm))(c:Int),da l=true->(xC vs l).1=0->l.length=1->cC l<=64->0<=c->(kq vs l c).2<=cells->Fg cells true (kq vs l c).1
 |[b],c,J,h,_,H,T,E=>by
  simp only[da,apa]at J;simp only[cC]at H;exact wF true b c J h (by omega) T E
 |[],_,_,_,A0,_,_,_=>by simp at A0
 |_::_::_,_,_,_,A0,_,_,_=>by simp at A0
end
end
theorem DE:∀(ts bs:List (List ak)),(bs.map List.length).sum<=(cI ts bs).length
 |[],[]=>by simp[cI]
 |_::_,[]=>by simp[cI]
 |[],b::r=>by
  have ih:=DE [] r;rw[zu];simp only[adM,akH];split
  ·rename_i h;subst h;simp
  ·simp only[eO,acm,acq,acw];omega
 |t::ts,b::r=>by
  have ih:=DE ts r;rw[cI];simp only[adM,akH];generalize cI ts r=out at ih⊢;rw[eO];simp only[acm,acq,acw,nG];split
  ·omega
  ·simp only[acm,acq,acw];omega
section
variable {vs:List Vr}
mutual
theorem UK:∀(s:Sm)(c:Int),(cB vs s c).2<=c+(cB vs s c).1.length
 | .mk op name to val conds AE fields blocks line,c=>by
  have H:=λc=>El blocks c;have I:=λc=>UL blocks c;unfold cB;split
  ·simp only;omega
  ·split
   ·have q1:=H c;have q2:=DE (conds.map λx=>(au vs x).1) (aC vs blocks c).1;simp only
    omega
   ·split
    ·have q1:=H (c+1);have q2:=DE (AE.map λl=>ins 1 0 0 0 0::dX c l) (aC vs blocks (c+1)).1;simp only[eO,acm,acq,acw];omega
    ·split
     ·have q1:=I (c+2);simp only[eO,acm,acq,acw,lj,qf,nG];omega
     ·split
      ·have q1:=I c;simp only[iy,qf,acm,acq,acw,nG];omega
      ·split
       ·have q1:=I c;simp only[mO,qf,acm,acq,acw];omega
       ·split
        ·simp only;omega
        ·split<;>(simp only;omega)
theorem pQ:∀(l:List Sm)(c:Int),(ah vs l c).2<=c+(ah vs l c).1.length
 |[],c=>by simp[ah]
 |x::r,c=>by
  have H:=UK x c;have I:=pQ r (cB vs x c).2;simp only[ah,eO,acq,acw];omega
theorem El:∀(l:List (List Sm))(c:Int),(aC vs l c).2<=c+(((aC vs l c).1.map List.length).sum:Nat)
 |[],c=>by simp[aC]
 |b::r,c=>by
  have H:=pQ b c;have I:=El r (ah vs b c).2;simp only[aC,adM,akH];omega
theorem UL:∀(l:List (List Sm))(c:Int),(kq vs l c).2<=c+(kq vs l c).1.length
 |[],c=>by simp[kq]
 |b::r,c=>pQ b c
end
end
theorem abG{cells last:Int}{i:Int}{x:ak}(h:du Bf cells 0 0 x=true)(Y:¬fY x)(AF:x.op≠15):du Bf cells last i x=true:=by
 unfold du at h⊢;unfold fY at Y;split
 ·rfl
 ·rename_i g1;rw[ach g1]at h;split
  ·rename_i g2;rw[acs g2]at h;exact h
  ·rename_i g2;rw[ach g2]at h;split
   ·rename_i g3;rw[acs g3]at h;exact h
   ·rename_i g3;rw[ach g3]at h;split
    ·rename_i g4;rw[acs g4]at h;exact h
    ·rename_i g4;rw[ach g4]at h;split
     ·rename_i g5;rw[acs g5]at h;exact h
     ·rename_i g5;rw[ach g5,ach Y]at h;split
      ·rename_i g7;rw[acs g7]at h;exact h
      ·rename_i g7;rw[ach g7,ach AF]at h;cases h
theorem NL{l:List ak}{S AG:List Bool}(h:cD l S=some AG)(i:Nat):∃T,cD (l.take i) S=some T:=by
 rw[<-agA i l,dN]at h;cases Z:cD (l.take i) S with
 |none=>rw[Z]at h;cases h
 |some T=>exact⟨T,rfl⟩
theorem ae4{g:List ak}{cells:Int}(h:Fg cells false g)(AP:g.length+1<=4096):∃r st,Good Bf cells (g.map (ny g.length)++[ins 15 0 0 0 0]) r st:=by
 obtain⟨l,O⟩:∃l,l=g.map (ny g.length)++[ins 15 0 0 0 0]:=⟨_,rfl⟩;rw[<-O];have AQ:l.length=g.length+1:=by rw[O];simp
 have AH:cD (g.map (ny g.length)) []=some []:=by rw[sI (NC _)];exact h.run
 have A3:cD l []=some []:=by
  rw[O,dN,AH];simp[cD,cy,ins,iw]
 have A0:∀(i:Nat) x,l[i]?=some x->(i<g.length/\∃y,g[i]?=some y/\x=ny g.length y)\/(i=g.length/\x=ins 15 0 0 0 0):=by
  intro i x E;rw[O]at E;by_cases hi:i<g.length
  ·rw[acB (by simpa using hi),adD]at E;obtain⟨y,J,rfl⟩:=acp.1 E;exact .inl ⟨hi,y,J,rfl⟩
  ·rw[acG (by simpa using hi)]at E;have U:i-g.length=0:=by
    have:=(ace.1 E).1;simp at this;omega
   simp only[List.length_map]at E;rw[U]at E;simp at E;exact .inr ⟨by omega,E.symm⟩
 have A4:∀k,k<=g.length->cD (l.take k) []=cD (g.take k) []:=by
  intro k A5;rw[O,agN (by simpa using A5),<-List.map_take,sI (NC _)]
 have A6:∀y,fY (ny g.length y)↔fY y:=λy=>by unfold fY;rw[Yo]
 --where a jump leads
 have A1:∀(i:Nat) x,l[i]?=some x->fY x->0<=x.a/\x.a.toNat<=g.length/\cD (l.take x.a.toNat) []=some []/\(i<x.a.toNat\/∃y,l[x.a.toNat]?=some y/\y.op=11):=by
  intro i x E D;rcases A0 i x E with ⟨hi,y,J,rfl⟩|⟨_,rfl⟩
  ·have A7:=(A6 y).1 D;have A8:cD (l.take g.length) []=some []:=by rw[A4 _ (ack _),List.take_length];exact h.run
   by_cases U:0<=y.a
   ·have e:ny g.length y=y:=by unfold ny;rw[ach (by rintro ⟨_,AR⟩;omega)]
    rw[e];rcases h.jmp i y J A7 U with H|⟨H,I,M⟩
    ·refine⟨U,by omega,?_,.inl (by omega)⟩;rw[H];exact A8
    ·refine⟨U,H,by rw[A4 _ H];exact I,?_⟩;rcases M with M|⟨z,A9,AI⟩
     ·exact .inl M
     ·refine .inr ⟨ny g.length z,?_,by rw[Yo];exact AI⟩;rw[O,acB (by simpa using (ace.1 A9).1),adD,A9];rfl
   ·obtain⟨q1,q2⟩:=h.out y (acu J) A7 (by omega);have q2:y.a= -2:=by
     rcases q2 with q2|⟨q2,_⟩
     ·exact q2
     ·cases q2
    have e:(ny g.length y).a=g.length:=by unfold ny;rw[acs ⟨q1,q2⟩]
    rw[e];refine⟨by omega,by omega,?_,.inl (by omega)⟩;rw[show ((g.length:Int)).toNat=g.length by omega];exact A8
  ·simp[fY,ins]at D
 refine⟨λi=>match l[i]? with|some x=>if x.op=11 then 0 else l.length+1-i|none=>0,λi=>(cD (l.take i) []).getD [],?_⟩;refine⟨by omega,?_,?_,rfl,?_,?_,?_⟩
 ·intro x E;rcases A0 _ x E with ⟨hi,_⟩|⟨_,rfl⟩
  ·omega
  ·rfl
 ·intro i x E;by_cases D:fY x
  ·obtain⟨H,I,_⟩:=A1 i x E D;have M:x.a<=(l.length:Int)-1:=by omega
   unfold du;rcases D with e|e
   ·simp[e,H,M]
   ·simp[e,H,M]
  ·rcases A0 i x E with ⟨hi,y,J,rfl⟩|⟨hi,rfl⟩
   ·have e:ny g.length y=y:=by
     rcases NC (g.length:Int) y with e|⟨e,_⟩
     ·exact e
     ·exact absurd ((A6 y).2 e) D
    rw[e]at D⊢;rcases h.ok y (acu J)with H|⟨H,I⟩
    ·exact absurd H D
    ·exact abG H D I
   ·have:du Bf cells ((l.length:Int)-1) (i:Int) (ins 15 0 0 0 0)=true:=by
     simp[du,ins];omega
    exact this
 ·intro i x E;obtain⟨T,AA⟩:=NL A3 i;obtain⟨AB,AC⟩:=NL A3 (i+1);have hi:=(ace.1 E).1;have e:l.take (i+1)=l.take i++[x]:=by
   rw[List.take_add_one,E];rfl
  rw[e,dN,AA]at AC;have V:cD [x] T=some AB:=AC;simp only[cD]at V;have hm:cy x T=some AB:=by
   cases Z:cy x T with
   |none=>rw[Z]at V;cases V
   |some AS=>rw[Z]at V;simpa using V
  show cy x ((cD (l.take i) []).getD [])=some ((cD (l.take (i+1)) []).getD []);rw[e,dN,AA];show cy x T=some (((cD [x] T)).getD []);simp only[cD,hm];rfl
 ·intro i x E D;obtain⟨_,_,M,_⟩:=A1 i x E D;show (cD (l.take x.a.toNat) []).getD []=[];rw[M];rfl
 ·intro i x E AJ j D;have hi:=(ace.1 E).1;have AK:(match l[i]? with|some x=>if x.op=11 then 0 else l.length+1-i|none=>0)=l.length+1-i:=by
   rw[E];simp only
   rw[ach AJ]
  have AL:∀j:Nat,(match l[j]? with|some x=>if x.op=11 then 0 else l.length+1-j|none=>0)<=l.length+1-j:=by
   intro j;cases l[j]? with
   |none=>simp
   |some z=>simp only;split<;>omega
  have A2:∀k:Nat,i<k->(match l[k]? with|some x=>if x.op=11 then 0 else l.length+1-k|none=>0)<l.length+1-i:=by
   intro k A5;have:=AL k;omega
  have AT:fY x->(match l[x.a.toNat]? with|some x=>if x.op=11 then 0 else l.length+1-x.a.toNat|none=>0)<l.length+1-i\/True:=λ_=>.inr trivial;show (match l[j]? with|some x=>if x.op=11 then 0 else l.length+1-j|none=>0)<(match l[i]? with|some x=>if x.op=11 then 0 else l.length+1-i|none=>0);rw[AK];have AD:fY x->j=x.a.toNat->(match l[j]? with|some x=>if x.op=11 then 0 else l.length+1-j|none=>0)<l.length+1-i:=by
   intro AM e;obtain⟨_,_,_,A'⟩:=A1 i x E AM;rw[<-e]at A';rcases A' with A'|⟨y,J,AN⟩
   ·exact A2 j A'
   ·rw[J];simp only
    rw[acs AN];omega
  unfold Av at D;rw[E]at D;simp only at D;split at D
  ·rename_i Y;simp at D;exact AD (.inl Y) D
  ·split at D
   ·rename_i AO;simp at D;rcases D with D|D
    ·exact A2 j (by omega)
    ·exact AD (.inr AO) D
   ·split at D
    ·simp at D
    ·simp at D;exact A2 j (by omega)
def JW(x:ak):Prop:=wA x.n=true/\wA x.m=true
def gu(l:List ak):Prop:=∀x∈l,JW x
theorem gu.nil:gu []:=λ_ h=>by simp at h
theorem gu.app{a b:List ak}(U:gu a)(D:gu b):gu (a++b):=λx E=>(acC.1 E).elim (U x) (D x)
theorem gu.cons{x:ak}{l:List ak}(E:JW x)(M:gu l):gu (x::l):=λy O=>by
 rcases aco.1 O with rfl|O
 ·exact E
 ·exact M y O
theorem gu.one{x:ak}(E:JW x):gu [x]:=.cons E .nil
theorem kz{op a b:Int}:JW (ins op a b 0 0):=⟨rfl,rfl⟩
theorem Iw{f:ak->ak}(I:∀x,(f x).n=x.n/\(f x).m=x.m){l:List ak}(h:gu l):gu (l.map f):=λy O=>by
 obtain⟨x,E,rfl⟩:=acF.1 O;have:=h x E;unfold JW at*;rw[(I x).1,(I x).2];exact this
theorem gu.mv{l:List ak}(h:gu l)(k:Nat):gu (jg k l):=Iw (λx=>by unfold mM;split<;>exact⟨rfl,rfl⟩) h
theorem gu.out{l:List ak}(h:gu l):gu (oO l):=Iw (λx=>by unfold qF;split<;>exact⟨rfl,rfl⟩) h
theorem gu.rt{l:List ak}(h:gu l)(k:Int):gu (l.map (ny k)):=Iw (λx=>by unfold ny;split<;>exact⟨rfl,rfl⟩) h
theorem gu.jn{a b:List ak}(U:gu a)(D:gu b):gu (jn a b):=U.app (D.mv _)
theorem gu.ch:∀(ts bs:List (List ak)),(∀t∈ts,gu t)->(∀b∈bs,gu b)->gu (cI ts bs)
 |[],[],_,_=>by unfold cI;exact .nil
 |_::_,[],_,_=>by unfold cI;exact .nil
 |[],b::r,J,D=>by
  have ih:=gu.ch [] r J (λx E=>D x (by simp[E]));rw[zu];split
  ·exact D b (by simp)
  ·exact .jn ((D b (by simp)).app (.one kz)) ih
 |t::ts,b::r,J,D=>by
  have ih:=gu.ch ts r (λx E=>J x (by simp[E])) (λx E=>D x (by simp[E]));rw[cI];refine .jn (((J t (by simp)).app (.one kz)).app (.mv ?_ _)) ih;split
  ·exact D b (by simp)
  ·exact (D b (by simp)).app (.one kz)
theorem Rt:∀(vs:List Vr)(s:Tx)(n:Int),(pP vs s n).2∈vs\/(pP vs s n).2=CL
 |[],_,_=>.inr rfl
 |v::r,s,n=>by
  unfold pP;split
  ·exact .inl (by simp)
  ·rcases Rt r s (n+bX v)with h|h
   ·exact .inl (by simp[h])
   ·exact .inr h
section
variable {vs:List Vr} (H:∀w∈vs,dQ w=true)
include H
theorem adW(s:Tx){op a b:Int}:JW (ins op a b (cm vs s).2.lo (cm vs s).2.hi):=by
 unfold JW ins cm wA;rcases Rt vs s 0 with h|h
 ·have I:=H _ h;simp only[dQ,Ds]at I;have D:=I.2.2.1;split at D
  ·have:=adT D;simp only[acn];omega
  ·have:=adT D;simp only[acn];omega
 ·rw[h];exact⟨rfl,rfl⟩
mutual
theorem vu:∀x:Ex,eQ x=true->gu (au vs x).1
 | .mk op n name field sub line,h=>by
  simp only[eQ,Ds]at h;have V:=Fl sub h.2;have Y:=Rv sub h.2;unfold au;split
  ·exact .one ⟨h.1,rfl⟩
  ·split
   ·exact .one kz
   ·split
    ·exact .one kz
    ·split
     ·exact Y.app (.one (adW H name))
     ·exact V.app (.one kz)
theorem Fl:∀l:List Ex,dD l=true->gu (gd vs l).1
 |[],_=>by unfold gd;exact .nil
 |[x],h=>by
  simp only[dD,Ds]at h;unfold gd;exact vu x h.1
 |x::y::r,h=>by
  have A6:=h;simp only[dD,Ds]at h;unfold gd;exact (vu x h.1).app (Fl (y::r) (by simp only[dD,Ds];exact h.2))
theorem Rv:∀l:List Ex,dD l=true->gu (nj vs l)
 |[],_=>by unfold nj;exact .nil
 |x::r,h=>by
  simp only[dD,Ds]at h;unfold nj;exact vu x h.1
end
omit H in
theorem Yw(c:Int):∀(m:Nat)(l:List Int),l.length<=m->l.all wA=true->gu (dX c l)
 |_,[],_,_=>by unfold dX;exact .nil
 |_,[_],_,_=>by unfold dX;exact .nil
 |0,_::_::_,hm,_=>by simp at hm
 |m+1,a::b::r,hm,h=>by
  simp only[agZ,Ds]at h;unfold dX;exact .cons ⟨h.1,h.2.1⟩ (.cons kz (Yw c m r (by simp at hm;omega) h.2.2))
theorem Rx(name:Tx):∀(Z:List Tx)(xs:List Ex),dD xs=true->gu (dE vs name Z xs)
 |[],xs,_=>by cases xs<;>(unfold dE;exact .nil)
 |_::_,[],_=>by unfold dE;exact .nil
 |f::Z,x::xs,h=>by
  simp only[dD,Ds]at h;unfold dE;exact (vu H x h.1).app (.cons kz (Rx name Z xs h.2))
omit H in
theorem ae5{x:Ex}(h:eQ x=true):dD (dq x)=true:=by
 obtain⟨op,n,name,field,sub,line⟩:=x;simp only[eQ,Ds]at h;exact h.2
omit H in
theorem JX:∀{l:List Ex},dD l=true->∀x∈l,eQ x=true
 |y::r,h,x,E=>by
  simp only[dD,Ds]at h;rcases aco.1 E with rfl|E
  ·exact h.1
  ·exact JX h.2 x E
mutual
theorem ae6:∀(s:Sm)(c:Int),pA s=true->gu (cB vs s c).1
 | .mk op name to val conds A7 fields blocks line,c,h=>by
  simp only[pA,Ds]at h;obtain⟨V,Y,A',A3,A1⟩:=h;have A2:=λc=>NN blocks c A1;have A0:=λc=>ae7 blocks c A1;have T:=vu H val Y;have A4:∀t∈conds.map λx=>(au vs x).1,gu t:=λt J=>by
   obtain⟨x,E,rfl⟩:=acF.1 J;exact vu H x (JX A' x E)
  unfold cB;split
  ·split
   ·exact T.app (.one kz)
   ·exact (Rv H (dq to) (ae5 V)).app (T.app (.one (adW H _)))
  ·split
   ·exact .ch _ _ A4 (A2 c)
   ·split
    ·refine .jn (T.app (.one kz)) (.ch _ _ (λt J=>?_) (A2 _));obtain⟨l,M,rfl⟩:=acF.1 J;exact .cons kz (Yw c l.length l (ack _) (acI.1 A3 l M))
    ·split
     ·refine .jn ((Fl H conds A').app (.cons kz (.cons kz (.one kz)))) ?_;unfold lj;exact gu.out (((gu.cons kz (.cons kz (.one kz))).app ((A0 _).mv _)).app (.cons kz (.cons kz (.cons kz (.cons kz (.one kz))))))
     ·split
      ·unfold iy;exact gu.out ((((gu.cons kz T).app (.one kz)).app ((A0 _).mv _)).app (.one kz))
      ·split
       ·unfold mO;exact gu.out (((A0 _).app (gu.cons kz T)).app (.one kz))
       ·split
        ·exact .one kz
        ·split
         ·exact .one kz
         ·exact (Rx H name fields conds A').app (.one kz)
theorem AG:∀(l:List Sm)(c:Int),iT l=true->gu (ah vs l c).1
 |[],c,_=>by unfold ah;exact .nil
 |x::r,c,h=>by
  simp only[iT,Ds]at h;unfold ah;exact .jn (.jn (.one kz) (ae6 x c h.1)) (AG r _ h.2)
theorem NN:∀(l:List (List Sm))(c:Int),ic l=true->∀b∈(aC vs l c).1,gu b
 |[],c,_,b,D=>by simp[aC]at D
 |x::r,c,h,b,D=>by
  simp only[ic,Ds]at h;unfold aC at D;rcases aco.1 D with rfl|D
  ·exact AG x c h.1
  ·exact NN r _ h.2 b D
theorem ae7:∀(l:List (List Sm))(c:Int),ic l=true->gu (kq vs l c).1
 |[],c,_=>by unfold kq;exact .nil
 |x::r,c,h=>by
  simp only[ic,Ds]at h;unfold kq;exact AG x c h.1
end
end
theorem ae8{p:Pg}(I:nN p=true)(M:iT p.body=true)(A5:(oH p).1=0){g:List ak×Int×Int}(h:oP p=some g):gu g.1:=by
 unfold oP at h;simp only at h;split at h
 ·cases h
 ·cases h;simp only[nN,Ds,acI]at I;have D:=qH false p.body I.2.2.2 M (cg.1 A5).2;exact ((AG I.2.2.1 _ _ D.2.1).rt _).app (.one kz)
inductive Vl where
 |v (n:Int) (t:Bool)
 |f (e:Int)
 deriving DecidableEq
structure Mc where
 cells:List Int
 fuel:Nat
inductive Hw where
 |on
 |lv
 |rt
 |ft (e:Int)
 deriving DecidableEq
abbrev Rr:=Hw×Mc
def bR(q:Rr)(f:Mc->Rr):Rr:=
 match q with
 |(.on,s)=>f s
 |q=>q
def vR(q:Vl)(s:Mc)(f:Int->Rr):Rr:=
 match q with
 | .f e=>(.ft e,s)
 | .v n _=>f n
def Yx(F:Mc->Rr)(s:Mc):Rr:=if s.fuel=0 then (.ft 4,s)else F ⟨s.cells,s.fuel-1⟩
def akf(C:List Int)(k n:Int):List Int:=C.set k.toNat n
def Hn(q:Rr):Rr:=if q.1=.lv then (.on,q.2)else q
section
variable {vs:List Vr}
theorem UM{q:Rr}(f:Mc->Rr)(h:q.1=.on):bR q f=f q.2:=by
 obtain⟨w,s⟩:=q;simp only at h;subst h;rfl
theorem UN{q:Rr}(f:Mc->Rr)(h:q.1≠.on):bR q f=q:=by
 obtain⟨w,s⟩:=q;cases w with
 |on=>exact absurd rfl h
 |_=>rfl
def NO(m:Nat)(s:Mc):Mc:=⟨s.cells,s.fuel+m⟩
structure Rl(m f:Nat)(q D:Rr):Prop where
 out:q.1=.ft 4->q.2.fuel=0
 more:q.1≠.ft 4->D=(q.1,NO m q.2)
 le:q.2.fuel<=f
theorem Rl.bind{m f:Nat}{q D:Rr}(h:Rl m f q D){G I:Mc->Rr}(T:∀s,s.fuel<=f->Rl m s.fuel (G s) (I (NO m s))):Rl m f (bR q G) (bR D I):=by
 by_cases E:q.1=.on
 ·have e:=h.more (by rw[E];simp);have g:=T q.2 h.le;rw[UM G E,e,UM I (by simpa using E)];exact⟨g.out,g.more,agQ g.le h.le⟩
 ·rw[UN G E];refine⟨h.out,λJ=>?_,h.le⟩;rw[h.more J,UN I (by simpa using E)]
theorem Rl.ret{m:Nat}{s:Mc}{w:Hw}(h:w≠.ft 4):Rl m s.fuel (w,s) (w,NO m s):=⟨λe=>absurd e h,λ_=>rfl,ack _⟩
theorem Rl.val{m:Nat}{s:Mc}{v:Vl}(U:∀e,v=.f e->e≠4){F F':Int->Rr}(M:∀n,Rl m s.fuel (F n) (F' n)):Rl m s.fuel (vR v s F) (vR v (NO m s) F'):=by
 cases v with
 |f e=>exact .ret (by simpa using U e rfl)
 |v n t=>exact M n
theorem Rl.step{m:Nat}{s:Mc}{F F':Mc->Rr}(M:∀f,s.fuel=f+1->Rl m f (F ⟨s.cells,f⟩) (F' (NO m ⟨s.cells,f⟩))):Rl m s.fuel (Yx F s) (Yx F' (NO m s)):=by
 unfold Yx NO;by_cases O:s.fuel=0
 ·rw[acs O];exact⟨λ_=>O,λh=>absurd rfl h,ack _⟩
 ·have h:=M (s.fuel-1) (by omega);rw[ach O,ach (by simp only;omega)];simp only at h⊢;rw[show s.fuel+m-1=s.fuel-1+m by omega];exact⟨h.out,h.more,by have:=h.le;omega⟩
theorem Rl.left{m f:Nat}{q D:Rr}(h:Rl m f q D):Rl m f (Hn q) (Hn D):=by
 unfold Hn;by_cases H:q.1=.lv
 ·have e:=h.more (by rw[H];simp);rw[acs H,e,acs (by simpa using H)];exact⟨λhh=>by simp at hh,λ_=>rfl,h.le⟩
 ·rw[ach H];refine⟨h.out,λJ=>?_,h.le⟩;rw[h.more J,ach (by simpa using H)]
end
inductive MC(vs:List Vr)(lp:Bool):Sm->Prop
 |asg {to val:Ex} {line:Int} {v:Vr} (D:cq to=3\/cq to=4) (T:bq vs (ew to)=some v) (V:¬v.sec=1) (ft:bC to=true) (AG:(aK vs to).e=0) (A3:bC val=true) (AH:(aK vs val).e=0) (h:(aK vs val).t=(aK vs to).t):MC vs lp (.mk 1 [] to val [] [] [] [] line)
 |cnd {to val:Ex} {conds:List Ex} {blocks:List (List Sm)} {line:Int} (D:eG to=true) (E:eG val=true) (A6:bO conds=true) (O:1<=conds.length) (I:conds.length<=blocks.length) (H:blocks.length<=conds.length+1) (A1:da blocks=true) (h:(fW vs lp conds blocks).1=0):MC vs lp (.mk 2 [] to val conds [] [] blocks line)
 |cas {to val:Ex} {A0:List (List Int)} {blocks:List (List Sm)} {line:Int} (D:eG to=true) (A3:bC val=true) (A5:(dZ vs val 1).1=0) (I:A0.length<=blocks.length) (H:blocks.length<=A0.length+1) (AI:A0.all sE=true) (A1:da blocks=true) (h:(fW vs lp [] blocks).1=0):MC vs lp (.mk 3 [] to val [] A0 [] blocks line)
 |cnt {name:Tx} {to val x y z:Ex} {b:List Sm} {line:Int} {v:Vr} (A7:dK name=true) (D:eG to=true) (E:eG val=true) (T:bq vs name=some v) (V:¬v.sec=1) (Z:v.arr=false) (A2:v.ty=1) (AJ:bC x=true) (AK:(dZ vs x 1).1=0) (AL:bC y=true) (AM:(dZ vs y 1).1=0) (AN:bC z=true) (AO:(dZ vs z 1).1=0) (A1:eP b=true) (h:(fg vs true b).1=0):MC vs lp (.mk 4 name to val [x,y,z] [] [] [b] line)
 |whl {to val:Ex} {b:List Sm} {line:Int} (D:eG to=true) (A3:bC val=true) (A5:(dZ vs val 2).1=0) (A1:eP b=true) (h:(fg vs true b).1=0):MC vs lp (.mk 5 [] to val [] [] [] [b] line)
 |rep {to val:Ex} {b:List Sm} {line:Int} (D:eG to=true) (A3:bC val=true) (A5:(dZ vs val 2).1=0) (A1:eP b=true) (h:(fg vs true b).1=0):MC vs lp (.mk 6 [] to val [] [] [] [b] line)
 |ext {to val:Ex} {line:Int} (D:eG to=true) (E:eG val=true) (h:lp=true):MC vs lp (.mk 7 [] to val [] [] [] [] line)
 |ret {to val:Ex} {line:Int} (D:eG to=true) (E:eG val=true):MC vs lp (.mk 8 [] to val [] [] [] [] line)
 |cal {name:Tx} {to val:Ex} {conds:List Ex} {fields:List Tx} {line:Int} {v:Vr} (A7:dK name=true) (D:eG to=true) (E:eG val=true) (T:bq vs name=some v) (A2:2<v.ty) (A6:bO conds=true) (AP:conds.length=fields.length) (A4:fields.all dK=true) (h:(jZ vs v.ty line fields conds []).1=0):MC vs lp (.mk 9 name to val conds [] fields [] line)
theorem wG{α:Type}{l:List α}(h:l.length=0):l=[]:=acL h
theorem Ix{α:Type}{l:List α}(h:l.length=1):∃a,l=[a]:=by
 match l,h with
 |[a],_=>exact⟨a,rfl⟩
theorem auS{α:Type}{l:List α}(h:l.length=3):∃a b c,l=[a,b,c]:=by
 match l,h with
 |[a,b,c],_=>exact⟨a,b,c,rfl⟩
theorem UO{vs:List Vr}{b:List Sm}(h:(xC vs [b]).1=0):(fg vs true b).1=0:=by simpa [xC]using h
theorem Iy{vs:List Vr}{lp:Bool}{x:Sm}(A4:j7 x=true)(h:(kZ vs lp x).1=0):MC vs lp x:=by
 obtain⟨op,name,to,val,conds,A0,fields,blocks,line⟩:=x;simp only[j7,Ds]at A4;obtain⟨A8,J,D,E,A',M,A9,AA,Y⟩:=A4;simp only[acn]at A8;unfold kZ at h;have AB:op=1\/op=2\/op=3\/op=4\/op=5\/op=6\/op=7\/op=8\/op=9:=by omega
 rcases AB with rfl|rfl|rfl|rfl|rfl|rfl|rfl|rfl|rfl
 ·simp[cR]at J D E M h;obtain⟨rfl,rfl,rfl,rfl⟩:=M;subst J;unfold GW at h;cases T:bq vs (ew to)with
  |none=>rw[T]at h;simp at h
  |some v=>
   rw[T]at h;simp only at h;by_cases V:v.sec=1
   ·simp[V]at h
   ·rw[ach V]at h;obtain⟨O,I⟩:=cg.1 h;obtain⟨I,H⟩:=cg.1 I;refine .asg D.1 T V D.2 O E.2 I ?_;apply ao8;intro hh;rw[acs hh]at H;simp at H
 ·simp[cR]at J D E M h;obtain⟨O,I,H,U,AC⟩:=M;subst J I H;exact .cnd D E A' (by omega) (by omega) (by omega) Y h
 ·simp[cR]at J D E M h;obtain⟨O,H,U,AC⟩:=M;subst J O H;obtain⟨g1,g2⟩:=cg.1 h;exact .cas D E.2 g1 (by omega) (by omega) AA Y g2
 ·simp[cR]at J D E M h;obtain⟨O,I,H,U⟩:=M;obtain⟨x,y,z,rfl⟩:=auS O;obtain⟨b,rfl⟩:=Ix U;subst I H;cases T:bq vs name with
  |none=>rw[T]at h;simp at h
  |some v=>
   rw[T]at h;simp only at h;by_cases V:v.sec=1
   ·simp[V]at h
   ·rw[ach V]at h;by_cases Z:v.arr=true\/¬v.ty=1
    ·rw[acs Z]at h;simp at h
    ·rw[ach Z]at h;simp only[akN,Bool.not_eq_true,akg]at Z;obtain⟨g1,g2⟩:=cg.1 h;simp only[mK]at g1;obtain⟨AD,g1⟩:=cg.1 g1;obtain⟨AE,g1⟩:=cg.1 g1;obtain⟨AF,g1⟩:=cg.1 g1;simp only[bO,Ds]at A';simp only[da,Ds]at Y;exact .cnt J D E T V Z.1 Z.2 A'.1 AD A'.2.1 AE A'.2.2.1 AF Y.1 (UO g2)
 ·simp[cR]at J D E M h;obtain⟨O,I,H,U⟩:=M;obtain⟨b,rfl⟩:=Ix U;subst J O I H;obtain⟨g1,g2⟩:=cg.1 h;simp only[da,Ds]at Y;exact .whl D E.2 g1 Y.1 (UO g2)
 ·simp[cR]at J D E M h;obtain⟨O,I,H,U⟩:=M;obtain⟨b,rfl⟩:=Ix U;subst J O I H;obtain⟨g1,g2⟩:=cg.1 h;simp only[da,Ds]at Y;exact .rep D E.2 g2 Y.1 (UO g1)
 ·simp[cR]at J D E M h;obtain⟨O,I,H,U⟩:=M;subst J O I H U;refine .ext D E ?_;cases lp with
  |true=>rfl
  |false=>simp at h
 ·simp[cR]at J D E M h;obtain⟨O,I,H,U⟩:=M;subst J O I H U;exact .ret D E
 ·simp[cR]at J D E M h;obtain⟨O,I,H⟩:=M;subst I H;cases T:bq vs name with
  |none=>rw[T]at h;simp at h
  |some v=>
   rw[T]at h;simp only at h;by_cases A2:v.ty<=2
   ·rw[acs A2]at h;simp at h
   ·rw[ach A2]at h;exact .cal J D E T (by omega) A' O (acI.2 (by simpa using A9)) h
section
variable {vs:List Vr}
def Qh(lp:Bool)(q:Rr):Prop:=q.1≠.rt/\(lp=false->q.1≠.lv)/\q.1≠.ft 0
theorem Qh.on{lp:Bool}{s:Mc}:Qh lp (.on,s):=⟨by simp,λ_=>by simp,by simp⟩
theorem Qh.ft{lp:Bool}{e:Int}{s:Mc}(h:e≠0):Qh lp (.ft e,s):=⟨by simp,λ_=>by simp,by simpa using h⟩
theorem Qh.bind{lp:Bool}{q:Rr}(h:Qh lp q){G:Mc->Rr}(I:∀s,Qh lp (G s)):Qh lp (bR q G):=by
 by_cases H:q.1=.on
 ·rw[UM G H];exact I _
 ·rw[UN G H];exact h
theorem Qh.val{lp:Bool}{v:Vl}{s:Mc}{F:Int->Rr}(J:∀e,v=.f e->e≠0)(D:∀n,Qh lp (F n)):Qh lp (vR v s F):=by
 cases v with
 |f e=>exact .ft (J e rfl)
 |v n t=>exact D n
theorem Qh.step{lp:Bool}{s:Mc}{F:Mc->Rr}(D:∀s,Qh lp (F s)):Qh lp (Yx F s):=by
 unfold Yx;split
 ·exact .ft (by decide)
 ·exact D _
theorem Qh.left{lp M:Bool}{q:Rr}(h:Qh lp q):Qh M (Hn q):=by
 unfold Hn;by_cases E:q.1=.lv
 ·rw[acs E];exact .on
 ·rw[ach E];exact⟨h.1,λ_=>E,h.2.2⟩
end
inductive XC(vs:List Vr):Ex->Prop
 |num {n:Int} {line:Int} (h:0<=n):XC vs (.mk 1 n [] [] [] line)
 |r5 {n:Int} {line:Int} (h:n=0\/n=1):XC vs (.mk 2 n [] [] [] line)
 |var {name:Tx} {line:Int} {v:Vr} (E:bq vs name=some v) (A5:v.arr=false) (M:v.ty<=2):XC vs (.mk 3 0 name [] [] line)
 |idx {name:Tx} {line:Int} {v:Vr} {y:Ex} (E:bq vs name=some v) (A5:v.arr=true) (M:v.ty<=2) (A':bC y=true) (A0:(aK vs y).e=0) (ty:(aK vs y).t=1):XC vs (.mk 4 0 name [] [y] line)
 |Ry {name field:Tx} {line:Int} {v:Vr} {q:Pn} (E:bq vs name=some v) (M:2<v.ty) (V:nh v.ty field=some q) (Y:dK field=true):XC vs (.mk 5 0 name field [] line)
 |one {op line:Int} {y:Ex} (A6:op=6\/op=7) (A':bC y=true) (A0:(aK vs y).e=0) (ty:(aK vs y).t=im op (aK vs y).t):XC vs (.mk op 0 [] [] [y] line)
 |two {op line:Int} {y z:Ex} (A6:8<=op/\op<=21) (A':bC y=true) (A0:(aK vs y).e=0) (AE:bC z=true) (AF:(aK vs z).e=0) (ty:(aK vs y).t=im op (aK vs y).t) (AG:(aK vs z).t=im op (aK vs y).t):XC vs (.mk op 0 [] [] [y,z] line)
theorem zv{vs:List Vr}{x:Ex}(Y:bC x=true)(he:(aK vs x).e=0):XC vs x:=by
 obtain⟨op,n,name,field,sub,line⟩:=x;simp only[bC,Ds,acn,agD,afY]at Y;obtain⟨A1,J,H,D,I⟩:=Y;simp only[akN,not_and]at A1;obtain⟨A7,A8,A9,AH,AI⟩:=A1;unfold aK at he;by_cases Z:op=1\/op=2
 ·rw[ach (by omega)]at H D;simp only[acn]at H D;subst H D;have O:sub=[]:=wG (by rw[J];unfold eF;rcases Z with h|h<;>subst h<;>decide);subst O;rcases Z with h|h
  ·subst h;exact .num (by have:=A7 rfl;omega)
  ·subst h;have:=A8 rfl;exact .r5 (by omega)
 ·rw[ach Z]at he;have AA:n=0:=by
   have:=A9 (by omega);simpa using this
  subst AA;by_cases c:op=3\/op=4\/op=5
  ·rw[acs c]at he;rw[acs c]at H;cases E:bq vs name with
   |none=>rw[E]at he;simp[db]at he
   |some v=>
    rw[E]at he;simp only at he;by_cases A2:op=5
    ·subst A2;rw[acs rfl]at he D;by_cases M:v.ty<=2
     ·rw[acs M]at he;simp[db]at he
     ·rw[ach M]at he;have O:sub=[]:=wG (by rw[J];decide);subst O;cases V:nh v.ty field with
      |none=>rw[V]at he;simp[db]at he
      |some q=>exact .Ry E (by omega) V D
    ·rw[ach A2]at he D;simp only[acn]at D;subst D;by_cases T:v.arr≠decide (op=4)\/2<v.ty
     ·rw[acs T]at he;simp[db]at he
     ·rw[ach T]at he;simp only[akN,ne_eq,akg]at T;by_cases AB:op=4
      ·subst AB;rw[acs rfl]at he;obtain⟨y,rfl⟩:=Ix (l:=sub) (by rw[J];decide);simp only[bO,Ds]at I;simp only[za]at he;by_cases U:(aK vs y).e=0
       ·rw[ach (by simpa using U)]at he;by_cases A3:(aK vs y).t=1
        ·exact .idx E (by simpa using T.1) (by omega) I.1 U A3
        ·rw[acs A3]at he;simp[db]at he
       ·rw[acs U]at he;exact absurd he U
      ·have AC:op=3:=by omega
       subst AC;have O:sub=[]:=wG (by rw[J];decide);subst O;exact .var E (by simpa using T.1) (by omega)
  ·rw[ach c]at he H;rw[ach (by omega)]at D;simp only[acn]at H D;subst H D;by_cases A4:op=6\/op=7
   ·obtain⟨y,rfl⟩:=Ix (l:=sub) (by rw[J];unfold eF;rcases A4 with h|h<;>subst h<;>decide);simp only[bO,Ds]at I;simp only[uL]at he;obtain⟨g1,g2,g3,g4,g5⟩:=jy he;exact .one A4 I.1 g1 g3
   ·have AD:sub.length=2:=by rw[J];unfold eF;rw[ach (by omega),acs (by omega)]
    match sub,AD with
    |[y,z],_=>
     simp only[bO,Ds]at I;simp only[uL]at he;obtain⟨g1,g2,g3,g4,g5⟩:=jy he;exact .two (by omega) I.1 g1 I.2.1 g2 g3 g4
theorem ma(vs:List Vr)(x:Ex):1<=(au vs x).1.length:=by
 obtain⟨op,n,name,field,sub,line⟩:=x;unfold au;split
 ·simp
 ·split
  ·simp
  ·split
   ·simp
   ·split
    ·simp
    ·simp
def mf(n:Nat)(x:ak):ak:=if x.op=9\/x.op=10 then {x with a:=if 0<=x.a then x.a+n else 0} else x
def dj(n:Nat)(l:List ak):List ak:=l.map (mf n)
theorem KJ{n:Nat}{a:Int}(h:0<=a):mf n (ins 9 a 0 0 0)=ins 9 (a+n) 0 0 0:=by simp[mf,ins,h]
theorem CU{n:Nat}{a:Int}(h:0<=a):mf n (ins 10 a 0 0 0)=ins 10 (a+n) 0 0 0:=by simp[mf,ins,h]
@[simp] theorem pg(n:Nat)(l:List ak):(dj n l).length=l.length:=by simp[dj]
theorem sJ(n:Nat)(a b:List ak):dj n (a++b)=dj n a++dj n b:=by simp[dj]
@[simp] theorem zw(n:Nat):dj n []=[]:=rfl
theorem qg(n:Nat)(x:ak)(l:List ak):dj n (x::l)=mf n x::dj n l:=rfl
theorem akh(n k:Nat)(x:ak):mf n (mM k x)=mf (n+k) x:=by
 obtain⟨op,a,b,c,d⟩:=x;unfold mf mM;by_cases h:op=9\/op=10
 ·by_cases U:0<=a
  ·simp only[h,U,and_self,adZ,ak.mk.injEq,akC,apg];rw[acs (by omega)];omega
  ·simp only[h,U,and_false,adY,adZ]
 ·simp only[h,false_and,adY]
theorem CV(n k:Nat)(l:List ak):dj n (jg k l)=dj (n+k) l:=by
 unfold dj jg;rw[List.map_map];congr 1;funext x;exact akh n k x
theorem NP(n:Nat)(a b:List ak):dj n (jn a b)=dj n a++dj (n+a.length) b:=by rw[jn,sJ,CV]
def Flat(l:List ak):Prop:=∀x∈l,x.op≠9/\x.op≠10
theorem Flat.dj{l:List ak}(h:Flat l)(n:Nat):Am.dj n l=l:=by
 unfold Am.dj;conv=>rhs;rw[<-List.map_id l]
 refine ao9 λx D=>?_;have:=h x D;simp[mf,this.1,this.2]
theorem Flat.app{a b:List ak}(Z:Flat a)(A':Flat b):Flat (a++b):=λx D=>(acC.1 D).elim (Z x) (A' x)
theorem Flat.nil:Flat []:=λ_ h=>by simp at h
theorem Flat.one{x:ak}(h:x.op≠9/\x.op≠10):Flat [x]:=λy H=>by simp at H;subst H;exact h
theorem Flat.cons{x:ak}{l:List ak}(h:x.op≠9/\x.op≠10)(A0:Flat l):Flat (x::l):=λy H=>by
 rcases aco.1 H with rfl|H
 ·exact h
 ·exact A0 y H
def df(k:Int):Nat->List ak->List Int
 |_,[]=>[]
 |n,x::r=>if x.op=9/\x.a=k then (n:Int)::df k (n+1) r else df k (n+1) r
theorem kT(k:Int):∀(a b:List ak)(n:Nat),df k n (a++b)=df k n a++df k (n+a.length) b
 |[],b,n=>by simp[df]
 |x::a,b,n=>by
  simp only[agx,df,kT k a b (n+1),acq];rw[show n+1+a.length=n+(a.length+1) by omega];split<;>simp
theorem sK{k:Int}{l:List ak}(h:Flat l)(n:Nat):df k n l=[]:=by
 induction l generalizing n with
 |nil=>rfl
 |cons x r ih=>
  simp only[df];rw[ach (λhh=>(h x (by simp)).1 hh.1)];exact ih (λy H=>h y (by simp[H])) _
theorem NQ{k:Int}{f:ak->ak}(h:∀x,((f x).op=9/\(f x).a=k)↔(x.op=9/\x.a=k)):∀(l:List ak)(n:Nat),df k n (l.map f)=df k n l
 |[],n=>rfl
 |x::r,n=>by
  simp only[adM,df,NQ h r];by_cases D:x.op=9/\x.a=k
  ·rw[acs D,acs ((h x).2 D)]
  ·rw[ach D,ach (λhh=>D ((h x).1 hh))]
theorem KK{k:Int}(J:k<0)(j:Nat)(l:List ak)(n:Nat):df k n (jg j l)=df k n l:=by
 refine NQ (λx=>?_) l n;unfold mM;split
 ·rename_i h;simp only;omega
 ·exact apj
theorem KL{k:Int}(J:k<0)(a b:List ak)(n:Nat):df k n (jn a b)=df k n a++df k (n+a.length) b:=by rw[jn,kT,KK J]
def kI(k to:Int)(x:ak):ak:=if x.op=9/\x.a=k then {x with a:=to} else x
theorem aki{k to:Int}(h:to≠k):∀(l:List ak)(n:Nat),df k n (l.map (kI k to))=[]
 |[],n=>rfl
 |x::r,n=>by
  simp only[adM,df,aki h r];rw[ach];unfold kI;split
  ·rintro ⟨_,hh⟩;exact h hh
  ·assumption
theorem UP{k T to:Int}(A1:to≠T)(A2:k≠T)(l:List ak)(n:Nat):df T n (l.map (kI k to))=df T n l:=by
 refine NQ (λx=>?_) l n;unfold kI;split
 ·rename_i h;simp only
  constructor
  ·rintro ⟨_,hh⟩;exact absurd hh A1
  ·rintro ⟨_,hh⟩;exact absurd (h.2.symm.trans hh) A2
 ·exact apj
def setAt(l:List ak)(i:Int)(v:Int):List ak:=l.modify i.toNat λx=>{x with a:=v}
def kU(l:List ak)(ps:List Int)(v:Int):List ak:=ps.foldl (λl i=>setAt l i v) l
@[simp] theorem Yy(l:List ak)(i v:Int):(setAt l i v).length=l.length:=by simp[setAt]
@[simp] theorem Ho:∀(ps:List Int)(l:List ak)(v:Int),(kU l ps v).length=l.length
 |[],l,v=>rfl
 |i::r,l,v=>by
  show (kU (setAt l i v) r v).length=_;rw[Ho r];simp
theorem uj(pre:List ak)(x:ak)(post:List ak)(v:Int):setAt (pre++x::post) pre.length v=pre++{x with a:=v}::post:=by
 unfold setAt;rw[Int.toNat_natCast];induction pre with
 |nil=>rfl
 |cons y r ih=>simp only[agx,acq,List.modify_succ_cons,ih]
theorem th(l:List ak)(i:Int)(r:List Int)(v:Int):kU l (i::r) v=kU (setAt l i v) r v:=rfl
theorem aos{n:Nat}{k to:Int}{x:ak}(h:x.op=9/\x.a=k)(M:0<=to)(J:k<0):({mf n x with a:=to+n}:ak)=mf n (kI k to x):=by
 obtain⟨op,a,b,c,d⟩:=x;obtain⟨rfl,rfl⟩:=h;simp[mf,kI,M]
theorem uk{k to:Int}(J:k<0)(M:0<=to)(base:Nat):∀(l pre post:List ak)(n:Nat),pre.length=n->kU (pre++dj base l++post) (df k n l) (to+base)=pre++dj base (l.map (kI k to))++post
 |[],pre,post,n,h=>by simp[df,kU]
 |x::r,pre,post,n,h=>by
  have ih:=uk J M base r;simp only[df,adM,qg];split
  ·rename_i D;rw[th];have e:pre++mf base x::dj base r++post=pre++mf base x::(dj base r++post):=by simp
   rw[e,<-h,uj,aos D M J];have:=ih (pre++[mf base (kI k to x)]) post (pre.length+1) (by simp);simpa using this
  ·rename_i D;have O:kI k to x=x:=by unfold kI;rw[ach D]
   rw[O];have:=ih (pre++[mf base x]) post (n+1) (by simp[h]);simpa using this
def lO(E:Int):Nat->List (List ak)->List (List ak)->List ak
 |_,_,[]=>[]
 |n,[],b::r=>if r=[]then dj n b else dj n b++ins 9 E 0 0 0::lO E (n+b.length+1) [] r
 |n,t::ts,b::r=>
  if r=[]then t++ins 10 (n+t.length+1+b.length) 0 0 0::dj (n+t.length+1) b
  else t++ins 10 (n+t.length+2+b.length) 0 0 0::(dj (n+t.length+1) b++ins 9 E 0 0 0::lO E (n+t.length+2+b.length) ts r)
theorem zx(E:Int):∀(n:Nat)(ts bs:List (List ak)),(lO E n ts bs).length=(cI ts bs).length
 |_,_,[]=>by simp[lO,cI]
 |n,[],b::r=>by
  simp only[lO,cI];split
  ·simp
  ·simp[zx E _ [] r,eO];omega
 |n,t::ts,b::r=>by
  simp only[lO,cI];split
  ·rename_i h;subst h;simp[eO,cI]
  ·simp[zx E _ ts r,eO];omega
theorem NR:∀(n:Nat)(ts bs:List (List ak)),(∀t∈ts,Flat t)->∀E:Int,E=n+(cI ts bs).length->lO E n ts bs=dj n (cI ts bs)
 |n,_,[],_,_,_=>by simp[lO,cI]
 |n,[],b::r,_,E,I=>by
  simp only[lO,cI]at I⊢;split
  ·rfl
  ·rename_i h;rw[ach h]at I;rw[NP,sJ];have e:E=((n+b.length+1:Nat):Int)+(cI [] r).length:=by rw[I];simp[eO];omega
   rw[NR (n+b.length+1) [] r (by simp) E e];have A3:mf n (ins 9 (b.length+1+(cI [] r).length) 0 0 0)=ins 9 E 0 0 0:=by
    rw[KJ (by omega)];congr 1;omega
   have O:dj n [ins 9 (b.length+1+(cI [] r).length) 0 0 0]=[ins 9 E 0 0 0]:=by rw[qg,A3];rfl
   rw[O];simp[adO]
 |n,t::ts,b::r,V,E,I=>by
  have Y:Flat t:=V t (by simp);simp only[lO,cI]at I⊢;rw[NP];by_cases h:r=[]
  ·subst h;simp only[adZ,sJ,CV,Y.dj,cI,zw,ad9,qg];have e:mf n (ins 10 (t.length+1+b.length) 0 0 0)=ins 10 (n+t.length+1+b.length) 0 0 0:=by
    rw[CU (by omega)];congr 1;omega
   rw[e];simp[adO]
  ·simp only[ach h]at I⊢;have e:E=((n+t.length+2+b.length:Nat):Int)+(cI ts r).length:=by rw[I];simp[eO];omega
   rw[NR (n+t.length+2+b.length) ts r (λt M=>V t (by simp[M])) E e];simp only[sJ,CV,Y.dj,qg,zw,acm,acq,acw,nG];have A4:mf n (ins 10 (t.length+1+(b.length+(0+1):Nat)) 0 0 0)=ins 10 (n+t.length+2+b.length) 0 0 0:=by
    rw[CU (by omega)];congr 1;omega
   have O:mf (n+(t.length+1)) (ins 9 (b.length+1+(cI ts r).length) 0 0 0)=ins 9 E 0 0 0:=by
    rw[KJ (by omega)];congr 1;omega
   rw[A4,O,show n+(t.length+(0+1)+(b.length+(0+1)))=n+t.length+2+b.length by omega];simp[adO]
theorem auT{k to:Int}(I:k<0)(D:0<=to)(j:Nat)(x:ak):kI k (to+j) (mM j x)=mM j (kI k to x):=by
 obtain⟨op,a,b,c,d⟩:=x;unfold kI mM;by_cases h:op=9/\a=k
 ·obtain⟨rfl,rfl⟩:=h;have A1:¬0<=a:=by omega
  simp[A1,D]
 ·by_cases A':(op=9\/op=10)/\0<=a
  ·have:¬(op=9/\a+(j:Int)=k):=by omega
   simp[h,A',this]
  ·simp[h,A']
theorem ad3{k to:Int}(I:k<0)(D:0<=to)(j:Nat)(l:List ak):(jg j l).map (kI k (to+j))=jg j (l.map (kI k to)):=by
 unfold jg;rw[List.map_map,List.map_map];congr 1;funext x;exact auT I D j x
theorem Yz{l:List ak}(h:Flat l)(k to:Int):l.map (kI k to)=l:=by
 conv=>rhs;rw[<-List.map_id l]
 refine ao9 λx A2=>?_;have:=h x A2;simp[kI,this.1]
theorem xR{k to:Int}{x:ak}(h:x.op=9->x.a≠k):kI k to x=x:=by
 unfold kI;rw[ach];exact λhh=>h hh.1 hh.2
theorem vy(l:List ak):oO l=l.map (kI (-1) l.length):=rfl
theorem Fm{n:Nat}{x:ak}(h:x.op≠9/\x.op≠10):mf n x=x:=by simp[mf,h.1,h.2]
theorem UQ{out t b:List ak}(D:Flat t){n:Nat}(M:out.length=n){H:Int}(Y:H=n+t.length+3+b.length):
 kU (out++(ins 11 0 0 0 0::t++(ins 10 H 0 0 0::dj (n+t.length+2) b++[ins 9 n 0 0 0]))) (df (-1) (n+t.length+2) b) H=out++dj n (iy t b):=by
 have T:=uk (k:= -1) (to:=b.length+1) (by decide) (by omega) (n+t.length+2) b (out++(ins 11 0 0 0 0::t++[ins 10 H 0 0 0])) [ins 9 n 0 0 0] (n+t.length+2) (by simp;omega);have O:((b.length:Int)+1)+((n+t.length+2:Nat):Int)=H:=by rw[Y];omega
 rw[O]at T;have U:out++(ins 11 0 0 0 0::t++(ins 10 H 0 0 0::dj (n+t.length+2) b++[ins 9 n 0 0 0]))=out++(ins 11 0 0 0 0::t++[ins 10 H 0 0 0])++dj (n+t.length+2) b++[ins 9 n 0 0 0]:=by simp
 rw[U,T];unfold iy;rw[vy];have Z:((ins 11 0 0 0 0::t++[ins 10 (t.length+3+b.length) 0 0 0]++jg (t.length+2) b++[ins 9 0 0 0 0]).length:Int)=((b.length:Int)+1)+((t.length+2:Nat):Int):=by simp;omega
 rw[Z];simp only[apc,adM,api,Yz D,ad3 (show (-1:Int)<0 by decide) (show 0<=(b.length:Int)+1 by omega),sJ,qg,zw,D.dj,CV];rw[xR (by simp[ins]),xR (by simp[ins]),xR (by simp[ins]),Fm (by simp[ins]),CU (by omega),KJ (by omega)];have J:ins 10 (t.length+3+b.length+n) 0 0 0=ins 10 H 0 0 0:=by congr 1;omega
 rw[J,show n+(t.length+2)=n+t.length+2 by omega];simp
theorem YA{k:Int}(I:k<0)(A0:k≠ -1){t b:List ak}(D:Flat t)(n:Nat):df k n (iy t b)=df k (n+t.length+2) b:=by
 unfold iy;rw[vy,UP (by omega) (by omega)];have O:ins 11 0 0 0 0::t++[ins 10 (t.length+3+b.length) 0 0 0]++jg (t.length+2) b++[ins 9 0 0 0 0]=[ins 11 0 0 0 0]++(t++([ins 10 (t.length+3+b.length) 0 0 0]++(jg (t.length+2) b++[ins 9 0 0 0 0]))):=by simp
 rw[O,kT];rw[sK (Flat.one (by simp[ins])),kT,sK D,kT,kT,KK I];have e:∀m,df k m [ins 10 (t.length+3+b.length) 0 0 0]=[]:=λm=>by simp[df,ins]
 have J:∀m,df k m [ins 9 0 0 0 0]=[]:=λm=>by simp[df,ins];omega
 rw[e,J];simp only[ad8,ad9,acq,acw];congr 1;omega
theorem NT(l:List ak)(n:Nat):df (-1) n (oO l)=[]:=aki (by omega) l n
theorem abJ{out t b:List ak}(D:Flat t){n:Nat}(M:out.length=n){H:Int}(Y:H=n+b.length+t.length+2):
 kU (out++(dj n b++(ins 11 0 0 0 0::t++[ins 10 n 0 0 0]))) (df (-1) n b) H=out++dj n (mO t b):=by
 have T:=uk (k:= -1) (to:=b.length+t.length+2) (by decide) (by omega) n b out (ins 11 0 0 0 0::t++[ins 10 n 0 0 0]) n M;have O:((b.length:Int)+t.length+2)+(n:Int)=H:=by rw[Y];omega
 rw[O]at T;rw[<-aea,T];unfold mO;rw[vy];have Z:((b++ins 11 0 0 0 0::t++[ins 10 0 0 0 0]).length:Int)=(b.length:Int)+t.length+2:=by simp;omega
 rw[Z];simp only[apc,adM,api,Yz D,sJ,qg,zw,D.dj];rw[xR (by simp[ins]),xR (by simp[ins]),Fm (by simp[ins]),CU (by omega)];simp
theorem ae9{k:Int}(I:k<0)(A0:k≠ -1){t b:List ak}(D:Flat t)(n:Nat):df k n (mO t b)=df k n b:=by
 unfold mO;rw[vy,UP (by omega) (by omega)];have O:b++ins 11 0 0 0 0::t++[ins 10 0 0 0 0]=b++([ins 11 0 0 0 0]++(t++[ins 10 0 0 0 0])):=by simp
 rw[O,kT,kT];rw[sK (Flat.one (by simp[ins])),kT,sK D];have e:∀m,df k m [ins 10 0 0 0 0]=[]:=λm=>by simp[df,ins]
 rw[e];simp
theorem abK{out b:List ak}{at_ cell:Int}{n:Nat}(M:out.length=n){H:Int}(Y:H=n+b.length+8):
 kU (out++(ins 11 0 0 0 0::ins 13 at_ cell 0 0::ins 10 H 0 0 0::dj (n+3) b++[ins 2 at_ 0 0 0,ins 2 (cell+1) 0 0 0,ins 8 0 8 0 0,ins 6 at_ 0 0 0,ins 9 n 0 0 0])) (df (-1) (n+3) b) H=out++dj n (lj at_ cell b):=by
 have T:=uk (k:= -1) (to:=b.length+5) (by decide) (by omega) (n+3) b (out++[ins 11 0 0 0 0,ins 13 at_ cell 0 0,ins 10 H 0 0 0]) [ins 2 at_ 0 0 0,ins 2 (cell+1) 0 0 0,ins 8 0 8 0 0,ins 6 at_ 0 0 0,ins 9 n 0 0 0] (n+3) (by simp[M]);have O:((b.length:Int)+5)+((n+3:Nat):Int)=H:=by rw[Y];omega
 rw[O]at T;have U:out++(ins 11 0 0 0 0::ins 13 at_ cell 0 0::ins 10 H 0 0 0::dj (n+3) b++[ins 2 at_ 0 0 0,ins 2 (cell+1) 0 0 0,ins 8 0 8 0 0,ins 6 at_ 0 0 0,ins 9 n 0 0 0])=out++[ins 11 0 0 0 0,ins 13 at_ cell 0 0,ins 10 H 0 0 0]++dj (n+3) b++[ins 2 at_ 0 0 0,ins 2 (cell+1) 0 0 0,ins 8 0 8 0 0,ins 6 at_ 0 0 0,ins 9 n 0 0 0]:=by simp
 rw[U,T];unfold lj;rw[vy];have Z:(([ins 11 0 0 0 0,ins 13 at_ cell 0 0,ins 10 (b.length+8) 0 0 0]++jg 3 b++[ins 2 at_ 0 0 0,ins 2 (cell+1) 0 0 0,ins 8 0 8 0 0,ins 6 at_ 0 0 0,ins 9 0 0 0 0]).length:Int)=((b.length:Int)+5)+((3:Nat):Int):=by simp;omega
 rw[Z];simp only[apc,adM,api,ad3 (show (-1:Int)<0 by decide) (show 0<=(b.length:Int)+5 by omega),sJ,qg,zw,CV];have V:∀x:ak,(x.op≠9/\x.op≠10)->∀to,mf n (kI (-1) to x)=x:=λx h to=>by rw[xR (λhh=>absurd hh h.1),Fm h]
 have A3:kI (-1) (b.length+5+((3:Nat):Int)) (ins 10 (b.length+8) 0 0 0)=ins 10 (b.length+8) 0 0 0:=xR (by simp[ins]);have A4:kI (-1) (b.length+5+((3:Nat):Int)) (ins 9 0 0 0 0)=ins 9 0 0 0 0:=xR (by simp[ins]);rw[A3,A4,V _ (by simp[ins]),V (ins 13 at_ cell 0 0) (by simp[ins]),V (ins 2 at_ 0 0 0) (by simp[ins]),V (ins 2 (cell+1) 0 0 0) (by simp[ins]),V (ins 8 0 8 0 0) (by simp[ins]),V (ins 6 at_ 0 0 0) (by simp[ins]),CU (by omega),KJ (by omega)];have J:ins 10 (b.length+8+n) 0 0 0=ins 10 H 0 0 0:=by congr 1;omega
 rw[J];simp
theorem afa{k:Int}(I:k<0)(A0:k≠ -1){b:List ak}{at_ cell:Int}(n:Nat):df k n (lj at_ cell b)=df k (n+3) b:=by
 unfold lj;rw[vy,UP (by omega) (by omega)];rw[kT,kT,KK I];have e:∀m,df k m [ins 11 0 0 0 0,ins 13 at_ cell 0 0,ins 10 (b.length+8) 0 0 0]=[]:=λm=>by simp[df,ins]
 have J:∀m,df k m [ins 2 at_ 0 0 0,ins 2 (cell+1) 0 0 0,ins 8 0 8 0 0,ins 6 at_ 0 0 0,ins 9 0 0 0 0]=[]:=λm=>by simp[df,ins];omega
 rw[e,J];simp
def gN:Nat->List (List ak)->List (List ak)->List Int
 |_,_,[]=>[]
 |n,[],b::r=>if r=[]then []else ((n+b.length:Nat):Int)::gN (n+b.length+1) [] r
 |n,t::ts,b::r=>if r=[]then []else ((n+t.length+1+b.length:Nat):Int)::gN (n+t.length+2+b.length) ts r
def xS(k:Int):Nat->List (List ak)->List (List ak)->List Int
 |_,_,[]=>[]
 |n,[],b::r=>df k n b++(if r=[]then []else xS k (n+b.length+1) [] r)
 |n,t::ts,b::r=>df k (n+t.length+1) b++(if r=[]then []else xS k (n+t.length+2+b.length) ts r)
theorem Iz(E:Int):∀(n:Nat)(ts bs:List (List ak))(pre:List ak),pre.length=n->kU (pre++lO 0 n ts bs) (gN n ts bs) E=pre++lO E n ts bs
 |n,_,[],pre,M=>by simp[lO,gN,kU]
 |n,[],b::r,pre,M=>by
  simp only[lO,gN];split
  ·rfl
  ·rw[th];have U:pre++(dj n b++ins 9 0 0 0 0::lO 0 (n+b.length+1) [] r)=(pre++dj n b)++ins 9 0 0 0 0::lO 0 (n+b.length+1) [] r:=by simp
   have J:((n+b.length:Nat):Int)=((pre++dj n b).length:Int):=by simp;omega
   rw[U,J,uj];have ih:=Iz E (n+b.length+1) [] r (pre++dj n b++[ins 9 E 0 0 0]) (by simp;omega);simp only[aea,List.singleton_append]at ih⊢;exact ih
 |n,t::ts,b::r,pre,M=>by
  simp only[lO,gN];split
  ·rfl
  ·rw[th];have U:pre++(t++ins 10 (n+t.length+2+b.length) 0 0 0::(dj (n+t.length+1) b++ins 9 0 0 0 0::lO 0 (n+t.length+2+b.length) ts r))=(pre++(t++ins 10 (n+t.length+2+b.length) 0 0 0::dj (n+t.length+1) b))++ins 9 0 0 0 0::lO 0 (n+t.length+2+b.length) ts r:=by simp
   have J:((n+t.length+1+b.length:Nat):Int)=((pre++(t++ins 10 (n+t.length+2+b.length) 0 0 0::dj (n+t.length+1) b)).length:Int):=by simp;omega
   rw[U,J,uj];have ih:=Iz E (n+t.length+2+b.length) ts r (pre++(t++ins 10 (n+t.length+2+b.length) 0 0 0::dj (n+t.length+1) b)++[ins 9 E 0 0 0]) (by simp;omega);simp only[aea,agx,List.singleton_append]at ih⊢;exact ih
theorem Hp{k:Int}(I:k<0):∀(n:Nat)(ts bs:List (List ak)),(∀t∈ts,Flat t)->df k n (cI ts bs)=xS k n ts bs
 |n,_,[],_=>by simp[cI,xS,df]
 |n,[],b::r,y=>by
  simp only[cI,xS];split
  ·simp
  ·rw[KL I,kT,Hp I _ [] r (by simp)];have e:∀m,df k m [ins 9 (b.length+1+(cI [] r).length) 0 0 0]=[]:=λm=>by simp[df,ins];omega
   rw[e];simp[adO]
 |n,t::ts,b::r,y=>by
  have A5:Flat t:=y t (by simp);simp only[cI,xS];rw[KL I,kT,kT,sK A5,KK I,Hp I _ ts r (λt D=>y t (by simp[D]))];have e:∀m a,df k m [ins 10 a 0 0 0]=[]:=λm a=>by simp[df,ins]
  rw[e];by_cases h:r=[]
  ·subst h;simp[xS,adO]
  ·simp only[ach h,kT];have J:∀m,df k m [ins 9 (b.length+1+(cI ts r).length) 0 0 0]=[]:=λm=>by simp[df,ins];omega
   rw[J];simp only[ad8,ad9,acm,acq,acw,nG];rw[show n+(t.length+(0+1))=n+t.length+1 by omega,show n+(t.length+(0+1)+(b.length+(0+1)))=n+t.length+2+b.length by omega]
theorem afb{pre:List ak}{n:Nat}(M:pre.length=n){ts bs:List (List ak)}(y:∀t∈ts,Flat t):kU (pre++lO 0 n ts bs) (gN n ts bs) (n+(cI ts bs).length)=pre++dj n (cI ts bs):=by
 rw[Iz _ n ts bs pre M,NR n ts bs y _ rfl]
theorem wH{op a b n m:Int}(h:op<9\/10<op):Flat [ins op a b n m]:=Flat.one (by simp[ins];omega)
section
variable {vs:List Vr}
mutual
theorem n9:∀x:Ex,bC x=true->(aK vs x).e=0->Flat (au vs x).1
 | .mk op n name field sub line,D,h=>by
  have AA:=ND D;simp only[bC,Ds,acn]at D;obtain⟨_,A3,_,_,Y⟩:=D;unfold aK at h;unfold au;by_cases Z:op=1\/op=2
  ·simp only[acs Z];exact wH (by omega)
  ·rw[ach Z]at h⊢;by_cases A':op=3\/op=4\/op=5
   ·rw[acs A']at h;cases J:bq vs name with
    |none=>rw[J]at h;simp[db]at h
    |some v=>
     rw[J]at h;simp only at h;have A0:(cm vs name).2=v:=iV J;by_cases M:op=5
     ·rw[acs M]at h;rw[ach (by omega),acs M];split at h
      ·simp[db]at h
      ·rename_i AB;cases O:nh v.ty field with
       |none=>rw[O]at h;simp[db]at h
       |some p=>
        obtain⟨_,hm,j,AC,_⟩:=NA (i:=0) O;have A4:=vt J (by omega) O;have AD:=Nz hm;have:(jz vs name field).2=p:=by
         obtain⟨_,_,_,_⟩:=A4;simp_all
        simp only[this];exact wH (by omega)
     ·rw[ach M]at h;split at h
      ·simp[db]at h
      ·rename_i A5;simp only[akN,Int.not_lt]at A5;by_cases A1:op=4
       ·rw[acs A1]at h;rw[ach (by omega),ach M,acs A1];simp only[A0];refine Flat.app (aot sub v.ty Y h) (wH (by omega))
       ·rw[acs (by omega)];simp only[A0];exact wH (by omega)
   ·rw[ach A']at h;rw[ach (by omega),ach (by omega),ach (by omega)];exact Flat.app (aou sub op line Y h (by rw[A3];unfold eF;split<;>(try split)<;>omega)) (wH (by omega))
theorem aot:∀(l:List Ex)(t:Int),bO l=true->(za vs t l).e=0->Flat (nj vs l)
 |[],t,_,_=>by unfold nj;exact Flat.nil
 |x::r,t,D,h=>by
  simp only[bO,Ds]at D;unfold nj;unfold za at h;split at h
  ·rename_i he;exact absurd h he
  ·rename_i he;exact n9 x D.1 (by simpa using he)
theorem aou:∀(l:List Ex)(op line:Int),bO l=true->(uL vs op line l).e=0->l.length<=2->Flat (gd vs l).1
 |[],_,_,_,_,_=>by unfold gd;exact Flat.nil
 |[x],op,line,D,h,_=>by
  simp only[bO,apa]at D;unfold uL at h;unfold gd;exact n9 x D (jy h).1
 |[x,y],op,line,D,h,_=>by
  simp only[bO,apa,Ds]at D;unfold uL at h;obtain⟨A6,A7,_⟩:=jy h;unfold gd gd;exact Flat.app (n9 x D.1 A6) (n9 y D.2 A7)
 |x::y::z::r,_,_,_,_,A8=>by simp at A8
end
theorem ib{x:Ex}{t:Int}(h:(dZ vs x t).1=0):(aK vs x).e=0/\(aK vs x).t=t:=by
 unfold dZ at h;split at h
 ·rename_i he;exact absurd h he
 ·rename_i he;split at h
  ·simp at h
  ·rename_i A9;exact⟨by simpa using he,by simpa using A9⟩
theorem ad4(c:Int):∀l:List Int,Flat (dX c l)
 |[]=>by unfold dX;exact Flat.nil
 |[_]=>by unfold dX;exact Flat.nil
 |a::b::r=>by
  unfold dX;exact Flat.cons (by simp[ins]) (Flat.cons (by simp[ins]) (ad4 c r))
end
def jf(ex:Bool)(x:ak):Prop:=(x.op=10->0<=x.a)/\(x.op=9->0<=x.a\/x.a= -2\/(ex=true/\x.a= -1))
def Jf(ex:Bool)(l:List ak):Prop:=∀x∈l,jf ex x
section
variable {ex:Bool}
theorem Flat.jf{l:List ak}(h:Flat l):Jf ex l:=λx E=>⟨λI=>absurd I (h x E).2,λI=>absurd I (h x E).1⟩
theorem Jf.app{a b:List ak}(T:Jf ex a)(U:Jf ex b):Jf ex (a++b):=λx E=>(acC.1 E).elim (T x) (U x)
theorem Jf.nil:Jf ex []:=λ_ h=>by simp at h
theorem Jf.one{x:ak}(h:Am.jf ex x):Jf ex [x]:=λy H=>by simp at H;subst H;exact h
theorem Jf.mv{l:List ak}(h:Jf ex l)(k:Nat):Jf ex (jg k l):=by
 intro x E;obtain⟨y,H,rfl⟩:=acF.1 E;have:=h y H;unfold Am.jf mM at*;split
 ·rename_i A2;exact⟨λ_=>by simp only;omega,λ_=>.inl (by simp only;omega)⟩
 ·exact this
theorem Jf.jn{a b:List ak}(T:Jf ex a)(U:Jf ex b):Jf ex (jn a b):=T.app (U.mv _)
theorem Jf.out{l:List ak}(h:Jf true l):Jf ex (oO l):=by
 intro x E;obtain⟨y,H,rfl⟩:=acF.1 E;have:=h y H;unfold Am.jf qF at*;split
 ·exact⟨λ_=>by simp only;omega,λ_=>.inl (by simp only;omega)⟩
 ·rename_i A2;refine⟨this.1,λI=>?_⟩;rcases this.2 I with h|h|h
  ·exact .inl h
  ·exact .inr (.inl h)
  ·exact absurd ⟨I,h.2⟩ A2
end
theorem NU{vs:List Vr}{name:Tx}:∀(V:List Tx)(xs:List Ex),bO xs=true->(∀x∈xs,(aK vs x).e=0)->Flat (dE vs name V xs)
 |[],xs,_,_=>by cases xs<;>simp only[dE]<;>exact Flat.nil
 |_::_,[],_,_=>by simp only[dE];exact Flat.nil
 |f::V,x::xs,D,h=>by
  simp only[bO,Ds]at D;simp only[dE];exact Flat.app (n9 x D.1 (h x (by simp))) (Flat.cons (by simp[ins]) (NU V xs D.2 (λy H=>h y (by simp[H]))))
theorem aov(b:Int):Bf b=kV b:=by
 unfold Bf;by_cases H:b∈ia
 ·simp only[ia,aco,adQ,akp]at H;rcases H with rfl|rfl|rfl|rfl|rfl|rfl|rfl|rfl|rfl|rfl|rfl|rfl|rfl|rfl|rfl|rfl|rfl|rfl|rfl|rfl|rfl<;>decide
 ·rw[pc H];simp[ia]at H;unfold kV;simp[H]
inductive rK(L:List ak):Ms->Ms->Prop
 |refl (s:Ms):rK L s s
 |step (s:Ms) (x:ak) (t:Ms) (M:s.fault=0) (D:L[s.at_.toNat]?=some x) (h:x.op≠15) (A3:rK L (Tq x s) t):rK L s t
section
variable {L:List ak}
theorem rK.trans{a b c:Ms}(O:rK L a b)(E:rK L b c):rK L a c:=by
 induction O with
 |refl=>exact E
 |step s x t M D h _ ih=>exact .step _ _ _ M D h (ih E)
end
def mS(K S:List Int)(p f:Nat):Ms:=⟨K,S,p,f,0⟩
theorem rK.one{L:List ak}{K S:List Int}{p f:Nat}{x:ak}{t:Ms}(D:L[p]?=some x)(h:x.op≠15)(A1:Tq x (mS K S p f)=t):rK L (mS K S p f) t:=
 .step _ x _ rfl (by simpa [mS]using D) h (A1▸.refl _)
section
variable {K S:List Int} {p f:Nat}
end
def xT(n X R:Nat)(x:ak):ak:=if x.op=9\/x.op=10 then {x with a:=if 0<=x.a then x.a+n else if x.op=9/\x.a= -1 then X else R} else x
def iX(L:List ak)(n X R:Nat)(l:List ak):Prop:=∀(i:Nat)(x:ak),l[i]?=some x->L[n+i]?=some (xT n X R x)
theorem Hq{n X R:Nat}{x:ak}(h:x.op≠9/\x.op≠10):xT n X R x=x:=by unfold xT;rw[ach (by omega)]
theorem akj(n X R k:Nat)(x:ak):xT n X R (mM k x)=xT (n+k) X R x:=by
 obtain⟨op,a,b,c,d⟩:=x;unfold xT mM;by_cases h:op=9\/op=10
 ·by_cases M:0<=a
  ·simp only[h,M,and_self,adZ,ak.mk.injEq,akC,apg];rw[acs (by omega)];omega
  ·simp only[h,M,and_false,adY,adZ]
 ·simp only[h,false_and,adY]
theorem afc(n X R k:Nat)(x:ak):xT n X R (qF k x)=xT n (n+k) R x:=by
 obtain⟨op,a,b,c,d⟩:=x;unfold xT qF;by_cases h:op=9/\a= -1
 ·obtain⟨rfl,rfl⟩:=h;simp;omega
 ·rw[ach h];by_cases E:op=9\/op=10
  ·simp only[E,adZ,h,adY]
  ·simp only[E,adY]
section
variable {L:List ak} {n X R:Nat}
theorem iX.left{a b:List ak}(h:iX L n X R (a++b)):iX L n X R a:=λi x D=>h i x (by
 rw[acB (ace.1 D).1];exact D)
theorem iX.right{a b:List ak}(h:iX L n X R (a++b))(i:Nat)(x:ak)(D:b[i]?=some x):L[n+a.length+i]?=some (xT n X R x):=by
 have:=h (a.length+i) x (by rw[acG (by omega)];rw[show a.length+i-a.length=i by omega];exact D);rw[show n+a.length+i=n+(a.length+i) by omega];exact this
theorem iX.flat{a b:List ak}(h:iX L n X R (a++b))(H:Flat b):iX L (n+a.length) X R b:=λi x D=>by
 have hm:=H x (acu D);rw[h.right i x D,Hq hm,Hq hm]
theorem iX.jn1{a b:List ak}(h:iX L n X R (jn a b)):iX L n X R a:=iX.left h
theorem iX.jn2{a b:List ak}(h:iX L n X R (jn a b)):iX L (n+a.length) X R b:=λi x D=>by
 have:=iX.right h i (mM a.length x) (by unfold jg;rw[adD,D];rfl);rw[this,akj]
theorem iX.out{l:List ak}(h:iX L n X R (oO l)):iX L n (n+l.length) R l:=λi x D=>by
 have:=h i (qF l.length x) (by unfold oO;rw[adD,D];rfl);rw[this,afc]
theorem iX.tail{x:ak}{l:List ak}(h:iX L n X R (x::l))(A2:Flat l):iX L (n+1) X R l:=λi y V=>by
 have hm:=A2 y (acu V);have:=h (i+1) y (by simpa using V);rw[Hq hm]at this⊢;rw[show n+1+i=n+(i+1) by omega];exact this
theorem iX.last{a:List ak}{x:ak}(h:iX L n X R (a++[x]))(D:x.op≠9/\x.op≠10):L[n+a.length]?=some x:=by
 have:=h.right 0 x rfl;rw[Hq D]at this;exact this
theorem aow{a:Int}{k:Nat}(h:a=k):xT n X R (ins 9 a 0 0 0)=ins 9 ((n+k:Nat)) 0 0 0:=by
 subst h;simp[xT,ins];omega
theorem akk{a:Int}{k:Nat}(h:a=k):xT n X R (ins 10 a 0 0 0)=ins 10 ((n+k:Nat)) 0 0 0:=by
 subst h;simp[xT,ins];omega
theorem iX.ch{t b:List ak}{ts r:List (List ak)}{pl:Nat}(U:pl=if r=[]then b.length else b.length+1)(h:iX L n X R (cI (t::ts) (b::r))):
 iX L n X R t/\L[n+t.length]?=some (ins 10 ((n+(t.length+1+pl):Nat)) 0 0 0)/\iX L (n+(t.length+1)) X R b/\
 (r≠[]->L[n+(t.length+1+b.length)]?=some (ins 9 ((n+(t.length+1+pl+(cI ts r).length):Nat)) 0 0 0))/\iX L (n+(t.length+1+pl)) X R (cI ts r)/\
 (cI (t::ts) (b::r)).length=t.length+1+pl+(cI ts r).length:=by
 have e:cI (t::ts) (b::r)=jn (jn (t++[ins 10 ((t.length:Int)+1+(if r=[]then b else b++[ins 9 ((b.length:Int)+1+(cI ts r).length) 0 0 0]).length) 0 0 0]) (if r=[]then b else b++[ins 9 ((b.length:Int)+1+(cI ts r).length) 0 0 0])) (cI ts r):=by
  rw[cI];simp[jn]
 rw[e]at h⊢;have Y:(if r=[]then b else b++[ins 9 ((b.length:Int)+1+(cI ts r).length) 0 0 0]).length=pl:=by
  rw[U];split<;>simp
 generalize I:(if r=[]then b else b++[ins 9 ((b.length:Int)+1+(cI ts r).length) 0 0 0])=q at h Y⊢;have O:=h.jn1;have E:=h.jn2;have Z:=O.jn1;have J:=O.jn2;have A':=Z.right 0 _ rfl;rw[akk (k:=t.length+1+pl) (by omega)]at A';simp only[eO,acm,acq,acw,Y]at E J⊢;refine⟨Z.left,A',?_,λT=>?_,?_,?_⟩;rotate_right
 ·first|trivial|omega
 ·by_cases T:r=[]
  ·rw[acs T]at I;rw[I];exact J
  ·rw[ach T]at I;rw[<-I]at J;exact J.left
 ·rw[ach T]at I U;rw[<-I]at J;have A0:=J.right 0 _ rfl;rw[aow (k:=b.length+1+(cI ts r).length) (by omega)]at A0;rw[show n+(t.length+1+b.length)=n+(t.length+(0+1))+b.length+0 by omega,A0,U];congr 3;omega
 ·rw[show n+(t.length+1+pl)=n+(t.length+(0+1)+pl) by omega];exact E
end
@[simp] theorem auU{C:List Int}{k n:Int}:(akf C k n).length=C.length:=by simp[akf]
def Got(L:List ak)(K S:List Int)(p f:Nat)(q:Vl)(e:Nat):Prop:=
 match q with
 | .v k _=>rK L (mS K S p f) (mS K (S++[k]) e f)
 | .f D=>∃t,rK L (mS K S p f) t/\t.cells=K/\t.fuel=f/\t.fault=D
section
variable {vs:List Vr}
theorem Rz{op n:Int}{name field:Tx}{sub:List Ex}{line:Int}(I:6<=op):au vs (.mk op n name field sub line)=((gd vs sub).1++[ins 8 (if (gd vs sub).2=true then 1 else 0) op 0 0],decide (op=7\/12<op)):=by
 rw[au,ach (by omega),ach (by omega),ach (by omega),ach (by omega)]
end
theorem Got.fault{L:List ak}{K S:List Int}{p f:Nat}{D:Int}{e e':Nat}(h:Got L K S p f (.f D) e):Got L K S p f (.f D) e':=h
section
variable {vs:List Vr} {L:List ak} {v:Nat} (E:∀w∈vs,dQ w=true) (H:(v:Int)=cJ vs)
include E H
end
def auV(lp:Bool)(X R e:Nat)(h:Hw)(t:Ms):Prop:=
 match h with
 | .on=>t.fault=0/\t.GU=[]/\t.at_=e
 | .lv=>lp=true/\t.fault=0/\t.GU=[]/\t.at_=X
 | .rt=>t.fault=0/\t.GU=[]/\t.at_=R
 | .ft H=>t.fault=H/\H≠0
def auW(v:Nat)(lp:Bool)(X R e:Nat)(c:Int)(E:List Int)(q:Rr)(t:Ms):Prop:=
 ∃D,t.cells=q.2.cells++D/\q.2.cells.length=v/\D.length=E.length/\(∀j:Nat,(v:Int)+j<c->D[j]?=E[j]?)/\t.fuel=q.2.fuel/\auV lp X R e q.1 t
def rL(L:List ak)(v:Nat)(lp:Bool)(X R e:Nat)(c:Int)(E:List Int)(I:Ms)(q:Rr):Prop:=∃t,rK L I t/\auW v lp X R e c E q t
section
variable {L:List ak} {v:Nat} {lp:Bool} {X R e:Nat} {c:Int} {E:List Int} {I:Ms} {q:Rr}
theorem rL.pre{s1:Ms}(h:rK L I s1)(Z:rL L v lp X R e c E s1 q):rL L v lp X R e c E I q:=by
 obtain⟨t,a,b⟩:=Z;exact⟨t,h.trans a,b⟩
theorem rL.done{C D:List Int}{f:Nat}(V:C.length=v)(A4:D.length=E.length)(A0:∀j:Nat,(v:Int)+j<c->D[j]?=E[j]?):rL L v lp X R e c E (mS (C++D) [] e f) (.on,⟨C,f⟩):=
 ⟨_,.refl _,D,rfl,V,A4,A0,rfl,rfl,rfl,rfl⟩
theorem rL.kept{A1:List Int}(h:rL L v lp X R e c A1 I q)(A4:A1.length=E.length)(A0:∀j:Nat,(v:Int)+j<c->A1[j]?=E[j]?):rL L v lp X R e c E I q:=by
 obtain⟨t,a,D,M,O,T,J,U⟩:=h;exact⟨t,a,D,M,O,by omega,λj A5=>(J j A5).trans (A0 j A5),U⟩
theorem Ms.eqS{t:Ms}{K:List Int}{p f:Nat}(A6:t.cells=K)(Z:t.fuel=f)(y:t.fault=0/\t.GU=[]/\t.at_=p):t=mS K [] p f:=by
 obtain⟨a,b,d,g,i⟩:=t;simp only at A6 Z y;obtain⟨y,A7,A8⟩:=y;subst A6 Z y A7 A8;rfl
theorem rL.bind{Y:Nat}{F:Mc->Rr}(h:rL L v lp X R Y c E I q)
 (A2:∀(s:Mc)(D:List Int),s.cells.length=v->D.length=E.length->(∀j:Nat,(v:Int)+j<c->D[j]?=E[j]?)->rL L v lp X R e c D (mS (s.cells++D) [] Y s.fuel) (F s)):rL L v lp X R e c E I (bR q F):=by
 obtain⟨t,a,D,M,O,T,J,U,A'⟩:=h;obtain⟨h,s⟩:=q;cases h with
 |on=>
  have A9:=Ms.eqS M U A';subst A9;exact rL.pre a ((A2 s D O T J).kept T J)
 |lv=>exact⟨t,a,D,M,O,T,J,U,A'⟩
 |rt=>exact⟨t,a,D,M,O,T,J,U,A'⟩
 |ft H=>exact⟨t,a,D,M,O,T,J,U,A'⟩
theorem rL.ft{C:List Int}{f:Nat}{H:Int}{p:Int}{S:List Int}(V:C.length=v)(A3:H≠0)(h:rK L I ⟨C++E,S,p,f,H⟩):rL L v lp X R e c E I (.ft H,⟨C,f⟩):=
 ⟨_,h,E,rfl,V,rfl,λ_ _=>rfl,rfl,rfl,A3⟩
theorem rL.val{C S:List Int}{p f Y:Nat}{w:Vl}{F:Int->Rr}(V:C.length=v)(h:Got L (C++E) S p f w Y)(A3:∀H,w=.f H->H≠0)
 (A2:∀k t,w=.v k t->rL L v lp X R e c E (mS (C++E) (S++[k]) Y f) (F k)):rL L v lp X R e c E (mS (C++E) S p f) (vR w ⟨C,f⟩ F):=by
 cases w with
 |f H=>
  obtain⟨t,g1,g2,g3,g4⟩:=h;exact⟨t,g1,E,g2,V,rfl,λ_ _=>rfl,g3,g4,A3 H rfl⟩
 |v k t=>exact rL.pre h (A2 k t rfl)
end
section
variable {vs:List Vr}
theorem afd{x:Ex}{t:Int}(h:(dZ vs x t).1=0):(aK vs x).e=0/\(aK vs x).t=t:=by
 unfold dZ at h;split at h
 ·exact absurd h (by assumption)
 ·rename_i J;split at h
  ·simp at h
  ·rename_i E;exact⟨by simpa using J,by simpa using E⟩
theorem DG{k line:Int}:∀(D:List Tx)(xs:List Ex)(p:List Tx),xs.length=D.length->(jZ vs k line D xs p).1=0->∀x∈xs,(aK vs x).e=0
 |[],[],_,_,_,x,M=>by simp at M
 |f::D,x::xs,p,O,h,y,H=>by
  simp only[jZ]at h;cases I:nh k f with
  |none=>rw[I]at h;simp at h
  |some q=>
   rw[I]at h;simp only at h;split at h
   ·simp at h
   ·split at h
    ·simp at h
    ·obtain⟨E,T⟩:=cg.1 h;rcases aco.1 H with rfl|H
     ·exact (afd E).1
     ·exact DG D xs _ (by simpa using O) T y H
 |[],_::_,_,h,_,_,_=>by simp at h
 |_::_,[],_,h,_,_,_=>by simp at h
end
theorem CW:∀(l p:List Vr)(n:Int),n<=1024->(Jx l p n).1=0->n+cJ l<=1024
 |[],_,n,D,_=>by simp[cJ];exact D
 |v::r,p,n,D,h=>by
  unfold Jx at h;split at h
  ·simp at h
  ·split at h
   ·simp at h
   ·have:=CW r _ _ (by omega) h;simp only[cJ];omega
theorem AH:∀(l:List Vr),(∀v∈l,0<=bX v)->0<=cJ l
 |[],_=>by simp[cJ]
 |y::l,h=>by
  have:=AH l (λv H=>h v (by simp[H]));have:=h y (by simp);simp only[cJ];omega
theorem JY{p:Pg}(E:nN p=true)(I:iT p.body=true)(J:(oH p).1=0)(T:bu (eE p.body)<=64):
 Fg (ah p.vars (eE p.body) (cJ p.vars)).2 false (ah p.vars (eE p.body) (cJ p.vars)).1/\0<=cJ p.vars/\cJ p.vars<=1024/\cJ p.vars<=(ah p.vars (eE p.body) (cJ p.vars)).2/\
 (ah p.vars (eE p.body) (cJ p.vars)).2<=cJ p.vars+(ah p.vars (eE p.body) (cJ p.vars)).1.length:=by
 simp only[nN,Ds,acI]at E;obtain⟨_,_,M,U⟩:=E;obtain⟨V,Y⟩:=cg.1 J;obtain⟨Z,a2,a3⟩:=qH false p.body U I Y;have A1:=CW p.vars [] 0 (by omega) V;have O:=AH p.vars (λv H=>qI (M v H));have hm:=iW (vs:=p.vars) (eE p.body) (cJ p.vars);have A':=pQ (vs:=p.vars) (eE p.body) (cJ p.vars);exact⟨wF M hm false (eE p.body) (cJ p.vars) Z a3 T O (ao7 _),O,by omega,hm,A'⟩
theorem YB{p:Pg}(E:nN p=true)(I:iT p.body=true)(J:(oH p).1=0){l:List ak}{v c:Int}(h:oP p=some (l,v,c)):kO Bf l v c=true:=by
 unfold oP at h;simp only at h;split at h
 ·cases h
 ·rename_i D;simp only[akN,Nat.not_lt,Int.not_lt]at D;cases h;obtain⟨g1,g2,g3,g4,g5⟩:=JY E I J D.2;obtain⟨r,st,A0⟩:=ae4 g1 D.1;exact aop ⟨by omega,by omega,by omega,by omega⟩ A0
theorem cell_of{cells a:Int}(h:fQ cells a 1=true):0<=a/\a<cells:=by
 unfold fQ at h;simp only[Ds,acn]at h;omega
end Go.Am
end
section
namespace Go.Am
open Go Go.Proofs
variable [Inhabited b9]
set_option maxRecDepth 20000
def fK(l:List ak):Prop:=∀x∈l,dA x=true
theorem fK.nil:fK []:=λ_ h=>by simp at h
theorem fK.app{a b:List ak}(Y:fK a)(D:fK b):fK (a++b):=λx I=>(acC.1 I).elim (Y x) (D x)
theorem fK.cons{x:ak}{l:List ak}(I:dA x=true)(A2:fK l):fK (x::l):=λy O=>by
 rcases aco.1 O with rfl|O
 ·exact I
 ·exact A2 y O
theorem fK.one{x:ak}(I:dA x=true):fK [x]:=.cons I .nil
theorem akl{x:ak}{a:Int}(A0:x.op=9\/x.op=10)(h:dA x=true):dA {x with a:=a}=true:=by
 obtain⟨op,a0,b,n,m⟩:=x;simp only at A0;unfold dA at h⊢;have A9:jP op=true:=by unfold jP;exact agf (by omega)
 simp only[A9,Bool.true_or]at h⊢;exact h
theorem fK.map{f:ak->ak}(E:∀x,f x=x\/((x.op=9\/x.op=10)/\∃a,f x={x with a:=a})){l:List ak}(h:fK l):fK (l.map f):=λy O=>by
 obtain⟨x,I,rfl⟩:=acF.1 O;rcases E x with e|⟨A0,a,e⟩
 ·rw[e];exact h x I
 ·rw[e];exact akl A0 (h x I)
theorem fK.mv{l:List ak}(h:fK l)(k:Nat):fK (jg k l):=fK.map (λx=>by
 unfold mM;split
 ·rename_i Z;exact .inr ⟨Z.1,_,rfl⟩
 ·exact .inl rfl) h
theorem fK.out{l:List ak}(h:fK l):fK (oO l):=fK.map (λx=>by
 unfold qF;split
 ·rename_i Z;exact .inr ⟨.inl Z.1,_,rfl⟩
 ·exact .inl rfl) h
theorem fK.rt{l:List ak}(h:fK l)(k:Int):fK (l.map (ny k)):=fK.map (λx=>by
 unfold ny;split
 ·rename_i Z;exact .inr ⟨.inl Z.1,_,rfl⟩
 ·exact .inl rfl) h
theorem fK.jn{a b:List ak}(Y:fK a)(D:fK b):fK (jn a b):=Y.app (D.mv _)
theorem abM{n:Int}:dA (ins 1 0 0 n 0)=true:=by simp[dA,lg,jP,hasB,kQ,kR,ins]
theorem xU{op a:Int}(h:op=2\/op=3\/op=6):dA (ins op a 0 0 0)=true:=by rcases h with rfl|rfl|rfl<;>simp[dA,lg,jP,hasB,kQ,kR,ins]
theorem UR{op a lo hi:Int}(h:op=4\/op=5\/op=7\/op=14):dA (ins op a 0 lo hi)=true:=by rcases h with rfl|rfl|rfl|rfl<;>simp[dA,lg,jP,hasB,kQ,kR,ins]
theorem IA{op a b:Int}(h:op=8\/op=12\/op=13):dA (ins op a b 0 0)=true:=by rcases h with rfl|rfl|rfl<;>simp[dA,lg,jP,hasB,kQ,kR,ins]
theorem yA{op a:Int}(h:op=9\/op=10):dA (ins op a 0 0 0)=true:=by rcases h with rfl|rfl<;>simp[dA,lg,jP,hasB,kQ,kR,ins]
theorem KM:dA (ins 11 0 0 0 0)=true:=by simp[dA,lg,jP,hasB,kQ,kR,ins]
theorem aoy:dA (ins 15 0 0 0 0)=true:=by simp[dA,lg,jP,hasB,kQ,kR,ins]
theorem fK.ch:∀(ts bs:List (List ak)),(∀t∈ts,fK t)->(∀b∈bs,fK b)->fK (cI ts bs)
 |[],[],_,_=>by unfold cI;exact .nil
 |_::_,[],_,_=>by unfold cI;exact .nil
 |[],b::r,J,D=>by
  have ih:=fK.ch [] r J (λx I=>D x (by simp[I]));rw[zu];split
  ·exact D b (by simp)
  ·exact .jn ((D b (by simp)).app (.one (yA (.inl rfl)))) ih
 |t::ts,b::r,J,D=>by
  have ih:=fK.ch ts r (λx I=>J x (by simp[I])) (λx I=>D x (by simp[I]));rw[cI];refine .jn (((J t (by simp)).app (.one (yA (.inr rfl)))).app (.mv ?_ _)) ih;split
  ·exact D b (by simp)
  ·exact (D b (by simp)).app (.one (yA (.inl rfl)))
section
variable {vs:List Vr} (T:∀w∈vs,dQ w=true)
include T
theorem auX{x:Ex}(I:XC vs x)(ih:∀y∈dq x,fK (au vs y).1):fK (au vs x).1:=by
 have NV:∀{name:Tx}{w:Vr},bq vs name=some w->w.ty<=2->w.ty=1\/w.ty=2:=λhw J=>by
  rcases Ij (T _ (ub hw).1)with h|h
  ·exact h
  ·omega
 cases I with
 |num h=>simp[au];exact .one abM
 |r5 h=>simp[au];exact .one abM
 |@var name line w hw Y J=>
  have e:(au vs (.mk 3 0 name [] [] line)).1=[ins (1+w.ty) (cm vs name).1 0 0 0]:=by simp[au,iV hw]
  rw[e];exact .one (xU (by have:=NV hw J;omega))
 |@idx name line w y hw Y J A3 AA ty=>
  have e:(au vs (.mk 4 0 name [] [y] line)).1=(au vs y).1++[ins (3+w.ty) (cm vs name).1 0 w.lo w.hi]:=by simp[au,nj,iV hw]
  rw[e];exact (ih y (by simp)).app (.one (UR (by have:=NV hw J;omega)))
 |@Ry name field line w q hw J AZ E=>
  obtain⟨q1,q2,_⟩:=vt hw J AZ;have e:(au vs (.mk 5 0 name field [] line)).1=[ins (1+q.ty) (jz vs name field).1 0 0 0]:=by simp[au,q1]
  rw[e];exact .one (xU (by have:=Nz q2;omega))
 |@one op line y A0 A3 AA ty=>
  rw[Rz (by omega)];simp only[gd];exact (ih y (by simp)).app (.one (IA (.inl rfl)))
 |@two op line y z A0 A3 AA AM Ap ty Aq=>
  rw[Rz (by omega)];simp only[gd];exact ((ih y (by simp)).app (ih z (by simp))).app (.one (IA (.inl rfl)))
mutual
theorem CX:∀x:Ex,bC x=true->(aK vs x).e=0->fK (au vs x).1
 | .mk op n name field sub line,E,he=>by
  have AD:=DD E he;exact auX T (zv E he) (akm sub (zn E).2 AD)
theorem akm:∀l:List Ex,bO l=true->(∀y∈l,(aK vs y).e=0)->∀y∈l,fK (au vs y).1
 |[],_,_,y,O=>absurd O (adQ)
 |x::r,E,he,y,O=>by
  simp only[bO,Ds]at E;rcases aco.1 O with A5|O
  ·rw[A5];exact CX x E.1 (he x (by simp))
  ·exact akm r E.2 (λz A_=>he z (by simp[A_])) y O
end
omit T in
theorem ad6(c:Int):∀(m:Nat)(l:List Int),l.length<=m->fK (dX c l)
 |_,[],_=>by unfold dX;exact .nil
 |_,[_],_=>by unfold dX;exact .nil
 |0,_::_::_,hm=>by simp at hm
 |m+1,a::b::r,hm=>by
  unfold dX;exact .cons (UR (by omega)) (.cons (IA (.inl rfl)) (ad6 c m r (by simp at hm;omega)))
theorem YC(name:Tx):∀(AE:List Tx)(xs:List Ex),bO xs=true->(∀x∈xs,(aK vs x).e=0)->fK (dE vs name AE xs)
 |[],xs,_,_=>by cases xs<;>(unfold dE;exact .nil)
 |_::_,[],_,_=>by unfold dE;exact .nil
 |f::AE,x::xs,E,h=>by
  simp only[bO,Ds]at E;unfold dE;exact (CX T x E.1 (h x (by simp))).app (.cons (xU (by omega)) (YC name AE xs E.2 (λy O=>h y (by simp[O]))))
def FB(vs:List Vr)(b:List Sm):Prop:=∀c,fK (ah vs b c).1
omit T in
theorem US:∀(l:List (List Sm))(c:Int),(∀b∈l,FB vs b)->∀b∈(aC vs l c).1,fK b
 |[],c,_,b,D=>by simp[aC]at D
 |x::r,c,h,b,D=>by
  unfold aC at D;rcases aco.1 D with rfl|D
  ·exact h x (by simp) c
  ·exact US r _ (λy O=>h y (by simp[O])) b D
theorem auY{x:Sm}{lp:Bool}(E:j7 x=true)(h:(kZ vs lp x).1=0)(A6:∀(lp:Bool) (cs:List Ex),da (bG x)=true->(fW vs lp cs (bG x)).1=0->∀b∈bG x,FB vs b):∀c,fK (cB vs x c).1:=by
 have hm:=Iy E h;have AF:∀b,bG x=[b]->eP b=true->(fg vs true b).1=0->FB vs b:=λb AG Aa Ab=>A6 true [] (by rw[AG];simp[da,Aa]) (by rw[AG];simp[fW,gj,Ab]) b (by rw[AG];simp);intro c;cases hm with
 |@asg to val line w U hw AD ft Ac A1 Ad J=>
  have Ae:=zv ft Ac;have AN:=CX T val A1 Ad;cases Ae with
  |num=>simp at U
  |r5=>simp at U
  |Ry=>simp at U
  |one A0=>simp at U;omega
  |two A0=>simp at U;omega
  |@var name AO Af Ag Y J=>
   simp[cB];exact AN.app (.one (xU (by omega)))
  |@idx name AO Af y Ag Y J A3 AA ty=>
   have e:(cB vs (.mk 1 [] (.mk 4 0 name [] [y] AO) val [] [] [] [] line) c).1=((au vs y).1++(au vs val).1)++[ins 7 (cm vs name).1 0 (cm vs name).2.lo (cm vs name).2.hi]:=by simp[cB,nj]
   rw[e];exact ((CX T y A3 AA).app AN).app (.one (UR (by omega)))
 |@cnd to val conds blocks line U AB AH V M AC A' hh=>
  have AI:∀y∈conds,(aK vs y).e=0:=λy O=>(ib (ui M hh y O)).1;have e:(cB vs (.mk 2 [] to val conds [] [] blocks line) c).1=cI (conds.map λx=>(au vs x).1) (aC vs blocks c).1:=by simp[cB]
  rw[e];refine .ch _ _ (λt J=>?_) (US blocks c (A6 lp conds A' hh));obtain⟨x,I,rfl⟩:=acF.1 J;exact CX T x ((jN _).1 AH x I) (AI x I)
 |@cas to val AJ blocks line U A1 A7 M AC Ar A' hh=>
  have e:(cB vs (.mk 3 [] to val [] AJ [] blocks line) c).1=jn ((au vs val).1++[ins 6 c 0 0 0]) (cI (AJ.map λl=>ins 1 0 0 0 0::dX c l) (aC vs blocks (c+1)).1):=by simp[cB]
  rw[e];refine .jn ((CX T val A1 (ib A7).1).app (.one (xU (by omega)))) (.ch _ _ (λt J=>?_) (US blocks _ (A6 lp [] A' hh)));obtain⟨l,A2,rfl⟩:=acF.1 J;exact .cons abM (ad6 c l.length l (ack _))
 |@cnt name to val x y z b line w A4 U AB hw AD Y J Ah Ai A3 Aj AM Ak A' hh=>
  have e:(cB vs (.mk 4 name to val [x,y,z] [] [] [b] line) c).1=jn ((((au vs x).1++(au vs y).1)++(au vs z).1)++[ins 6 (c+1) 0 0 0,ins 6 c 0 0 0,ins 6 (cm vs name).1 0 0 0]) (lj (cm vs name).1 c (ah vs b (c+2)).1):=by simp[cB,kq,gd]
  rw[e];have f6:∀a,dA (ins 6 a 0 0 0)=true:=λa=>xU (by omega);refine .jn ((((CX T x Ah (ib Ai).1).app (CX T y A3 (ib Aj).1)).app (CX T z AM (ib Ak).1)).app (.cons (f6 _) (.cons (f6 _) (.one (f6 _))))) ?_;unfold lj;exact fK.out (((fK.cons KM (.cons (IA (by omega)) (.one (yA (.inr rfl))))).app ((AF b (by simp[bG]) A' hh _).mv _)).app (.cons (xU (by omega)) (.cons (xU (by omega)) (.cons (IA (by omega)) (.cons (f6 _) (.one (yA (.inl rfl))))))))
 |@whl to val b line U A1 A7 A' hh=>
  have e:(cB vs (.mk 5 [] to val [] [] [] [b] line) c).1=iy (au vs val).1 (ah vs b c).1:=by simp[cB,kq]
  rw[e];unfold iy;exact fK.out ((((fK.cons KM (CX T val A1 (ib A7).1)).app (.one (yA (.inr rfl)))).app ((AF b (by simp[bG]) A' hh _).mv _)).app (.one (yA (.inl rfl))))
 |@rep to val b line U A1 A7 A' hh=>
  have e:(cB vs (.mk 6 [] to val [] [] [] [b] line) c).1=mO (au vs val).1 (ah vs b c).1:=by simp[cB,kq]
  rw[e];unfold mO;exact fK.out (((AF b (by simp[bG]) A' hh _).app (fK.cons KM (CX T val A1 (ib A7).1))).app (.one (yA (.inr rfl))))
 |@ext to val line U AB As=>
  simp[cB];exact .one (yA (.inl rfl))
 |@ret to val line U AB=>
  simp[cB];exact .one (yA (.inl rfl))
 |@cal name to val conds fields line w A4 U AB hw J AH AK At hh=>
  have AI:=DG fields conds [] AK hh;have e:(cB vs (.mk 9 name to val conds [] fields [] line) c).1=dE vs name fields conds++[ins 12 (cm vs name).1 (cm vs name).2.ty 0 0]:=by simp[cB]
  rw[e];exact (YC T name fields conds AH AI).app (.one (IA (by omega)))
mutual
theorem ftM:∀(x:Sm)(lp:Bool),j7 x=true->(kZ vs lp x).1=0->∀c,fK (cB vs x c).1
 | .mk op name to val conds AJ fields blocks line,lp,E,h=>auY T E h (λlp cs V M=>abN blocks lp cs V M)
theorem UT:∀(l:List Sm)(lp:Bool),eP l=true->(fg vs lp l).1=0->FB vs l
 |[],_,_,_,c=>by unfold ah;exact .nil
 |y::r,lp,E,h,c=>by
  simp only[eP,Ds]at E;simp only[fg]at h;obtain⟨V,M⟩:=cg.1 h;unfold ah;exact .jn (.jn (.one KM) (ftM y lp E.1 V c)) (UT r lp E.2 M _)
theorem abN:∀(l:List (List Sm))(lp:Bool)(cs:List Ex),da l=true->(fW vs lp cs l).1=0->∀b∈l,FB vs b
 |[],_,_,_,_,b,D=>absurd D (adQ)
 |y::r,lp,[],E,h,b,D=>by
  simp only[da,Ds]at E;simp only[fW]at h;obtain⟨V,M⟩:=cg.1 h;rcases aco.1 D with A5|D
  ·rw[A5];exact UT y lp E.1 V
  ·exact abN r lp [] E.2 M b D
 |y::r,lp,c::cs,E,h,b,D=>by
  simp only[da,Ds]at E;simp only[fW]at h;obtain⟨V,M⟩:=cg.1 h;obtain⟨M,AC⟩:=cg.1 M;rcases aco.1 D with A5|D
  ·rw[A5];exact UT y lp E.1 M
  ·exact abN r lp cs E.2 AC b D
end
end
theorem afe{p:Pg}(E:nN p=true)(A2:iT p.body=true)(Z:(oH p).1=0){l:List ak}{v c:Int}(h:oP p=some (l,v,c)):
 kO kV l v c=true/\l.length<=4096/\(0<=v/\v<65536)/\(0<=c/\c<65536)/\∀x∈l,dA x=true/\Hi x:=by
 have AP:=YB E A2 Z h;have Al:=ae8 E A2 Z h;have AQ:=AP;rw[show Bf=kV from funext aov]at AQ;obtain⟨⟨Au,Av,Aw,Ax⟩,r,st,AR⟩:=aeZ AP;have AK:=AR.len;have AS:fK l:=by
  unfold oP at h;simp only at h;split at h
  ·cases h
  ·cases h;simp only[nN,Ds,acI]at E;have D:=qH false p.body E.2.2.2 A2 (cg.1 Z).2;exact ((UT E.2.2.1 _ false D.1 D.2.2 _).rt _).app (.one aoy)
 refine⟨AQ,AK.2,by omega,by omega,λx I=>⟨AS x I,?_⟩⟩;obtain⟨i,hi⟩:=List.mem_iff_getElem?.1 I;have H:=AR.form i x hi;have AL:=Ek (AS x I);have Ay:=Ra AL.1;have A4:=Al x I;unfold JW wA at A4;simp only[acn]at A4;have AT:(0<=x.a/\x.a<65536)/\(0<=x.b/\x.b<65536):=by
  have A9:jP x.op=false->x.a=0:=AL.2.1;have A6:hasB x.op=false->x.b=0:=AL.2.2.1;have A8:x.op≠8->x.op≠12->x.op≠13->x.b=0:=λV M AC=>A6 (by unfold hasB;exact apb (by omega));unfold du at H;by_cases An:x.op=1\/x.op=11
  ·have Y:=A9 (by unfold jP;exact apb (by omega));have D:=A8 (by omega) (by omega) (by omega);omega
  rw[ach An]at H;by_cases AU:x.op=2\/x.op=3\/x.op=6\/x.op=14
  ·rw[acs AU]at H;have D:=A8 (by omega) (by omega) (by omega);have:=cell_of H;omega
  rw[ach AU]at H;by_cases AV:x.op=13
  ·rw[acs AV,Ds]at H;have V:=cell_of H.1;have M:=H.2;unfold fQ at M;simp only[Ds,acn]at M;omega
  rw[ach AV]at H;by_cases AW:x.op=4\/x.op=5\/x.op=7
  ·rw[acs AW]at H;have D:=A8 (by omega) (by omega) (by omega);unfold Ct fQ at H;simp only[Ds,acn]at H;omega
  rw[ach AW]at H;by_cases AX:x.op=8
  ·rw[acs AX]at H;unfold s9 at H;split at H
   ·simp only[agv,Ds,acn]at H;omega
   ·split at H
    ·simp only[agv,Ds,acn]at H;omega
    ·cases H
  rw[ach AX]at H;by_cases AY:x.op=9\/x.op=10
  ·rw[acs AY]at H;have D:=A8 (by omega) (by omega) (by omega);simp only[Ds,acn]at H;omega
  rw[ach AY]at H;by_cases Ao:x.op=12
  ·rw[acs Ao,Ds,acn]at H;have M:=H.2;unfold fQ at M;simp only[Ds,acn]at M;have D:x.b∈ia:=by
    apply ao8;intro A4;have V:=H.1;unfold Bf at V;rw[pc A4]at V;simp at V
   simp only[ia,aco,adQ,akp]at D;omega
  ·have Y:=A9 (by unfold jP;exact apb (by omega));have D:=A8 (by omega) (by omega) (by omega);omega
 exact⟨AT.1,AT.2,by unfold aY;omega,by unfold aY;omega⟩
end Go.Am
end
section
namespace Go.Am
open Go Go.Proofs Go.Proofs.Tryz
variable [Inhabited b9]
set_option maxRecDepth 20000
theorem Hr(a b:List UInt8)(M:a.length<=1000000)(D:a.length=b.length)(k:Kt)(R1 R2:b7)
 (I:k .ret ⟨26,aD,[(4,true,.d (.bool false))],[]⟩=R1) (J:∀Y:Env,k (.exit 0) ⟨26,aD,Y,[]⟩=R2):∀(H E:List UInt8)(i:Nat),a.drop i=H->b.drop i=E->i+H.length=a.length->
 aO ctx 25 (.loop (Code.at (bg f25) [1,1,0,1,0,0])) ⟨26,aD,[(0,true,.d (.list (a.map eh))),(1,true,.d (.list (b.map eh))),(5,true,.d (.int .i64 i))],[]⟩ k=if H=E then R2 else R1
 |[],E,i,O,T,hi=>by
  have hi:i=a.length:=by simpa using hi
  subst hi;have:E=[]:=by rw[<-T,D];simp
  subst this;rw[ag];simp[f25,J]
 |x::H,E,i,O,T,hi=>by
  have U:i<a.length:=by simp at hi;omega
  have A0:(i:Int)<a.length:=by omega
  have V:i<b.length:=by omega
  have A1:a[i]=x:=by
   have:=aga (·[0]?) O;simp at this;simpa [U]using this
  obtain⟨y,Z⟩:∃y,y=b[i]:=⟨_,rfl⟩;have A2:E=y::b.drop (i+1):=by rw[<-T,Z];exact ajw V
  have ih:=Hr a b M D k R1 R2 I J H (b.drop (i+1)) (i+1) (by rw[<-akq,O];rfl) rfl (by simp at hi;omega);have A3:IntKind.i64.wrap ((i:Int)+1)=(i:Int)+1:=aA (by unfold aY;omega);rw[A2,ag];simp[f25]at ih;simp[f25];by_cases c:x=y
  ·subst c;simp[U,A0,V,A1,<-Z,A3,ih,ay]
  ·have A':¬((x.toNat:Int)=y.toNat):=λh=>c (UInt8.toNat_inj.1 (by omega));simp[U,A0,V,A1,<-Z,A',c,I,ay]
theorem YD(a b:List UInt8)(M:a.length<=1000000):ai ctx 25 [.d (.list (a.map eh)),.d (.list (b.map eh))] []=some (.ret (.d (.bool (decide (a=b)))),[]):=by
 rw[anw (by simp)];by_cases D:a.length=b.length
 ·have h:=λk R1 R2 I J=>Hr a b M D k R1 R2 I J a b 0 rfl rfl (by simp);simp[f25]at h;simp[f25,D];rw[h _ (some (.ret (.d (.bool false)),[])) (some (.ret (.d (.bool true)),[])) (by simp) (by simp)];by_cases e:a=b<;>simp[e]
 ·have A4:¬((a.length:Int)=b.length):=by omega
  have A':a≠b:=λh=>D (by rw[h]);simp[f25,A4,A',D]
structure Mk where
 out:List ak
 cells:Int
 most:Int
 ex:List (List Int)
 lv:List Int
@[simp] def eo(n:Int):D:=.int .i64 n
@[simp] def gV(l:List Int):List D:=l.map eo
@[simp] def mkB(p:Pg)(m:Mk)(h:Int):aJ:=.box [.d (.str p.name),.d (.list (p.vars.map b8)),.d (.list (p.body.map dc)),.vec 1 0 0 m.out.length,.d (.int .i64 m.cells),.d (.int .i64 h),.d (.int .i64 m.most),.vec 2 0 0 m.ex.length,.vec 3 0 0 m.lv.length]
@[simp] def gW(p:Pg)(m:Mk)(h:Int):List aJ:=[mkB p m h,.vec 5 (m.out.map cA),.vv (m.ex.map gV) none,.vec 1 (m.lv.map eo)]
@[simp] def RA(p:Pg)(m:Mk)(h:Int)(v1 v2 v3:Nat):List (Nat×aJ):=[(0,.box [.d (.str p.name),.d (.list (p.vars.map b8)),.d (.list (p.body.map dc)),.vec 1 v1 0 m.out.length,.d (.int .i64 m.cells),.d (.int .i64 h),.d (.int .i64 m.most),.vec 2 v2 0 m.ex.length,.vec 3 v3 0 m.lv.length]),(v1,.vec 5 (m.out.map cA)),(v2,.vv (m.ex.map gV) none),(v3,.vec 1 (m.lv.map eo))]
@[simp] def iY(p:Pg)(m:Mk)(h:Int)(a b c O T U:Nat):aJ:=.box [.d (.str p.name),.d (.list (p.vars.map b8)),.d (.list (p.body.map dc)),.vec a O 0 m.out.length,.d (.int .i64 m.cells),.d (.int .i64 h),.d (.int .i64 m.most),.vec b T 0 m.ex.length,.vec c U 0 m.lv.length]
def gX(p:Pg)(m:Mk)(h:Int)(o:Out)(r:b7):Prop:=∃v1 v2 v3,r=some (o,RA p m h v1 v2 v3)
def Mk.put(m:Mk)(x:ak)(t:Int):Mk:={m with out:=m.out++[x],most:=max m.most t}
theorem mxI(a b:Int):(if a<b then b else a)=max a b:=by
 rw[Int.max_def];by_cases h:a<b
 ·rw[acs h,acs (by omega)]
 ·by_cases V:a=b
  ·subst V;simp
  ·rw[ach h,ach (by omega)]
theorem Hs(p:Pg)(m:Mk)(h:Int):ai ctx 143 [.ptr 0 0 0] (gW p m h)=some (.ret (.d (.int .i64 m.out.length)),RA p m h 0 0 0):=by
 rw[aih (by simp)];simp[f143]
theorem kX(p:Pg)(m:Mk)(h I:Int)(x:ak)(H:m.out.length<100000000)(hw:IntKind.i64.wrap (h+I)=h+I):gX p (m.put x (h+I)) (h+I) (.ret (.d (.int .i64 m.out.length))) (ai ctx 53 [.ptr 0 0 0,.d (cA x),.d (.int .i64 I)] (gW p m h)):=by
 have w0:IntKind.i64.wrap (m.out.length:Int)=m.out.length:=aA (by unfold aY;omega);have Y:m.out.length<=4611686018427387903:=by omega
 have Z:(m.out.length+1)*40<=140737488355328:=by omega
 rw[Ur (by simp)];simp[f53,ay,hw,w0,Y,Z,mxI];exact⟨1,0,0,by simp[Mk.put]⟩
theorem YE(p:Pg)(m:Mk)(h n:Int)(hw:IntKind.i64.wrap (m.cells+n)=m.cells+n):gX p {m with cells:=m.cells+n} h (.ret (.d (.int .i64 m.cells))) (ai ctx 207 [.ptr 0 0 0,.d (.int .i64 n)] (gW p m h)):=by
 rw[aiy (by simp)];simp[f207,hw];exact⟨_,_,_,rfl⟩
theorem sL(p:Pg)(m:Mk)(h at_:Int)(H:m.out.length<100000000)(hw:IntKind.i64.wrap (h+ -1)=h+ -1):gX p (m.put (ins 6 at_ 0 0 0) (h+ -1)) (h+ -1) (.ret (.bh [])) (ai ctx 203 [.ptr 0 0 0,.d (.int .i64 at_)] (gW p m h)):=by
 obtain⟨v1,v2,v3,E⟩:=kX p m h (-1) (ins 6 at_ 0 0 0) H hw;generalize m.put (ins 6 at_ 0 0 0) (h+ -1)=M at*;rw[aiu (by simp)];simp[ins]at E;simp[f203,E];exact⟨_,_,_,rfl⟩
theorem oR(p:Pg)(m:Mk)(h:Int)(H:m.out.length<100000000)(hw:IntKind.i64.wrap h=h):gX p (m.put (ins 11 0 0 0 0) h) h (.ret (.bh [])) (ai ctx 133 [.ptr 0 0 0] (gW p m h)):=by
 obtain⟨v1,v2,v3,E⟩:=kX p m h 0 (ins 11 0 0 0 0) H (by simpa using hw);rw[show h+0=h by omega]at E;generalize m.put (ins 11 0 0 0 0) h=M at*;rw[aib (by simp)];simp[ins]at E;simp[f133,E];exact⟨_,_,_,rfl⟩
theorem AI(p:Pg)(m:Mk)(h to:Int)(H:m.out.length<100000000)(hw:IntKind.i64.wrap (h+ -1)=h+ -1):gX p (m.put (ins 10 to 0 0 0) (h+ -1)) (h+ -1) (.ret (.d (.int .i64 m.out.length))) (ai ctx 204 [.ptr 0 0 0,.d (.int .i64 to)] (gW p m h)):=by
 obtain⟨v1,v2,v3,E⟩:=kX p m h (-1) (ins 10 to 0 0 0) H hw;generalize m.put (ins 10 to 0 0 0) (h+ -1)=M at*;rw[aiv (by simp)];simp[ins]at E;simp[f204,E];exact⟨_,_,_,rfl⟩
theorem Ht(p:Pg)(m:Mk)(h to:Int)(H:m.out.length<100000000)(hw:IntKind.i64.wrap h=h):gX p (m.put (ins 9 to 0 0 0) h) h (.ret (.d (.int .i64 m.out.length))) (ai ctx 141 [.ptr 0 0 0,.d (.int .i64 to)] (gW p m h)):=by
 obtain⟨v1,v2,v3,E⟩:=kX p m h 0 (ins 9 to 0 0 0) H (by simpa using hw);rw[show h+0=h by omega]at E;generalize m.put (ins 9 to 0 0 0) h=M at*;rw[ME (by simp)];simp[ins]at E;simp[f141,E];exact⟨_,_,_,rfl⟩
theorem Hu(p:Pg)(m:Mk)(h at_ t:Int)(H:m.out.length<100000000)(hw:IntKind.i64.wrap (h+1)=h+1):gX p (m.put (ins (if t=2 then 3 else 2) at_ 0 0 0) (h+1)) (h+1) (.ret (.bh [])) (ai ctx 205 [.ptr 0 0 0,.d (.int .i64 at_),.d (.int .i64 t)] (gW p m h)):=by
 obtain⟨v1,v2,v3,E⟩:=kX p m h 1 (ins (if t=2 then 3 else 2) at_ 0 0 0) H hw;generalize m.put (ins (if t=2 then 3 else 2) at_ 0 0 0) (h+1)=M at*;rw[aiw (by simp)];by_cases J:t=2
 ·simp[ins,J]at E;simp[f205,J,E];exact⟨_,_,_,rfl⟩
 ·simp[ins,J]at E;simp[f205,J,E];exact⟨_,_,_,rfl⟩
def Mk.lead(m:Mk)(at_:Int):Mk:={m with out:=setAt m.out at_ m.out.length}
theorem YF:∀(l:List ak)(i:Nat)(v:Int)(hi:i<l.length),(l.map cA).set i (.agg [.int .i64 l[i].op,.int .i64 v,.int .i64 l[i].b,.int .i64 l[i].n,.int .i64 l[i].m])=(setAt l i v).map cA
 |x::l,0,v,hi=>by simp[setAt]
 |x::l,i+1,v,hi=>by
  have ih:=YF l i v (by simpa using hi);simp only[setAt,Int.toNat_natCast]at ih⊢;have e:((i+1:Nat):Int).toNat=i+1:=by omega
  try rw[e]
  simp only[adM,List.set_cons_succ,List.getElem_cons_succ,List.modify_succ_cons];rw[ih]
theorem um(p:Pg)(m:Mk)(h:Int)(i:Nat)(hi:i<m.out.length)(E:m.out.length<100000000):ai ctx 92 [.ptr 0 0 0,.d (.int .i64 i)] (gW p m h)=some (.ret (.bh []),RA p (m.lead i) h 0 0 0):=by
 have A1:=Hs p m h;have A2:=YF m.out i m.out.length hi;rw[an2 (by simp)];simp at A1 A2;simp[f92,A1,hi,Ie,Kx,Kw,Ar,Cr,Dp,oz,pY,rl,u0,Gn,Gp,Gq,Gr,gv,uZ,yk,H3,xk,EN,Px,VO,LQ,eZ,fO,nf,s5,bf.app];simp[A2,Mk.lead]
def Mk.cW(m:Mk)(ps:List Int):Mk:={m with out:=kU m.out ps m.out.length}
theorem wI(m:Mk)(i:Int)(ps:List Int):m.cW (i::ps)=(m.lead i).cW ps:=by
 unfold Mk.cW Mk.lead;simp only[th,Yy]
@[simp] theorem Fp(m:Mk)(i:Int):(m.lead i).out.length=m.out.length:=by simp[Mk.lead]
def Pl(n:Nat)(ps:List Int):Prop:=∀i∈ps,∃k:Nat,i=k/\k<n
theorem CY(p:Pg)(h:Int)(l:List Int)(J:l.length<100000000)(k:Kt)(R:b7):∀(rest pre:List Int)(m:Mk),l=pre++rest->m.out.length<100000000->Pl m.out.length rest->
 (∀Y:Env,k (.exit 0) ⟨16,aD,Y,[⟨0,0,iY p (m.cW rest) h 2 3 4 0 0 0⟩,⟨1,0,.vec 1 (l.map eo)⟩,⟨2,0,.vec 5 ((m.cW rest).out.map cA)⟩,⟨3,0,.vv (m.ex.map gV) none⟩,⟨4,0,.vec 1 (m.lv.map eo)⟩]⟩=R)->
 aO ctx 52 (.loop (Code.at (bg f52) [1,0,0])) ⟨16,aD,[(0,true,.ptr 0 0 0),(6,true,.vec 1 0 0 l.length),(7,true,.d (.int .i64 l.length)),(8,true,.d (.int .i64 pre.length))],[⟨0,0,iY p m h 2 3 4 0 0 0⟩,⟨1,0,.vec 1 (l.map eo)⟩,⟨2,0,.vec 5 (m.out.map cA)⟩,⟨3,0,.vv (m.ex.map gV) none⟩,⟨4,0,.vec 1 (m.lv.map eo)⟩]⟩ k=R
 |[],pre,m,H,E,I,D=>by
  have V:pre.length=l.length:=by rw[H];simp
  have e:m.cW []=m:=rfl;rw[e]at D;simp at D;rw[V,ag];simp[f52,D]
 |i::rest,pre,m,H,E,I,D=>by
  obtain⟨j,rfl,Z⟩:=I i (by simp);have c:pre.length<l.length:=by rw[H];simp
  have y:l[pre.length]=(j:Int):=by simp[H]
  have hle:=um p m h j Z E;have A':IntKind.i64.wrap ((pre.length:Int)+1)=(pre.length:Int)+1:=aA (by unfold aY;omega);have ih:=CY p h l J k R rest (pre++[(j:Int)]) (m.lead j) (by simp[H]) (by simpa using E) (λi hi=>by simpa using I i (by simp[hi])) (λY=>by have:=D Y;rw[wI]at this;exact this);clear D;generalize m.lead j=M at*;rw[ag];simp[f52]at ih hle⊢;simp[c,y,hle,A',ih]
theorem xV(p:Pg)(m:Mk)(h:Int)(l:List Int)(J:l.length<100000000)(E:m.out.length<100000000)(I:Pl m.out.length l):ai ctx 52 [.ptr 0 0 0,.vec 1 0 0 l.length] [iY p m h 2 3 4 0 0 0,.vec 1 (l.map eo),.vec 5 (m.out.map cA),.vv (m.ex.map gV) none,.vec 1 (m.lv.map eo)]=
 some (.ret (.bh []),[(0,iY p (m.cW l) h 2 3 4 0 0 0),(0,.vec 1 (l.map eo)),(0,.vec 5 ((m.cW l).out.map cA)),(0,.vv (m.ex.map gV) none),(0,.vec 1 (m.lv.map eo))]):=by
 have O:=λk R D=>CY p h l J k R l [] m rfl E I D;rw[adw (by simp)];simp[f52]at O⊢;have A0:(m.cW l).ex=m.ex:=rfl;have T:(m.cW l).lv=m.lv:=rfl;rw[O _ (some (.ret (.bh []),[(0,iY p (m.cW l) h 2 3 4 0 0 0),(0,.vec 1 (l.map eo)),(0,.vec 5 ((m.cW l).out.map cA)),(0,.vv (m.ex.map gV) none),(0,.vec 1 (m.lv.map eo))])) (λY=>by simp[A0,T])];simp
theorem Em(p:Pg)(h:Int)(l:List Int)(J:l.length<100000000)(k:Kt)(R:b7):∀(rest pre:List Int)(m:Mk),l=m.lv->l=pre++rest->m.out.length<100000000->Pl m.out.length rest->
 (∀Y:Env,k (.exit 0) ⟨16,aD,Y,[⟨0,0,iY p (m.cW rest) h 2 3 1 0 0 0⟩,⟨1,0,.vec 1 (m.lv.map eo)⟩,⟨2,0,.vec 5 ((m.cW rest).out.map cA)⟩,⟨3,0,.vv (m.ex.map gV) none⟩]⟩=R)->
 aO ctx 52 (.loop (Code.at (bg f52) [1,0,0])) ⟨16,aD,[(0,true,.ptr 0 0 0),(6,true,.vec 1 0 0 l.length),(7,true,.d (.int .i64 l.length)),(8,true,.d (.int .i64 pre.length))],[⟨0,0,iY p m h 2 3 1 0 0 0⟩,⟨1,0,.vec 1 (m.lv.map eo)⟩,⟨2,0,.vec 5 (m.out.map cA)⟩,⟨3,0,.vv (m.ex.map gV) none⟩]⟩ k=R
 |[],pre,m,U,H,E,I,D=>by
  have V:pre.length=l.length:=by rw[H];simp
  have e:m.cW []=m:=rfl;rw[e]at D;simp at D;rw[V,ag];simp[f52,D]
 |i::rest,pre,m,U,H,E,I,D=>by
  obtain⟨j,rfl,Z⟩:=I i (by simp);have c:pre.length<m.lv.length:=by rw[<-U,H];simp
  have y:m.lv[pre.length]=(j:Int):=by
   have:l[pre.length]?=some (j:Int):=by rw[H];simp
   rw[U]at this;exact (ace.1 this).2
  have A3:l.length=m.lv.length:=by rw[U]
  have hle:=um p m h j Z E;have A':IntKind.i64.wrap ((pre.length:Int)+1)=(pre.length:Int)+1:=aA (by unfold aY;omega);have ih:=Em p h l J k R rest (pre++[(j:Int)]) (m.lead j) U (by simp[H]) (by simpa using E) (λi hi=>by simpa using I i (by simp[hi])) (λY=>by have:=D Y;rw[wI]at this;exact this);have T:(m.lead j).lv=m.lv:=rfl;clear D;generalize m.lead j=M at*;rw[ag];simp[f52]at ih hle⊢;rw[T]at ih hle;simp[c,y,A3,hle,A',ih];simp[A3]at ih;exact ih
theorem abP(p:Pg)(m:Mk)(h:Int)(J:m.lv.length<100000000)(E:m.out.length<100000000)(I:Pl m.out.length m.lv):ai ctx 52 [.ptr 0 0 0,.vec 1 0 0 m.lv.length] [iY p m h 2 3 1 0 0 0,.vec 1 (m.lv.map eo),.vec 5 (m.out.map cA),.vv (m.ex.map gV) none]=
 some (.ret (.bh []),[(0,iY p (m.cW m.lv) h 2 3 1 0 0 0),(0,.vec 1 (m.lv.map eo)),(0,.vec 5 ((m.cW m.lv).out.map cA)),(0,.vv (m.ex.map gV) none)]):=by
 have O:=λk R D=>Em p h m.lv J k R m.lv [] m rfl rfl E I D;rw[adw (by simp)];simp[f52]at O⊢;have A0:(m.cW m.lv).ex=m.ex:=rfl;have T:(m.cW m.lv).lv=m.lv:=rfl;rw[O _ (some (.ret (.bh []),[(0,iY p (m.cW m.lv) h 2 3 1 0 0 0),(0,.vec 1 (m.lv.map eo)),(0,.vec 5 ((m.cW m.lv).out.map cA)),(0,.vv (m.ex.map gV) none)])) (λY=>by simp[A0,T])];simp
theorem RB(l:List Vr)(Z:l.length<=1000)(M:∀v∈l,dQ v=true)(s:Tx)(E:dk)(O:E.key=200)(k:Kt)(R:b7)(T:Int->Vr->b7)
 (V:∀(n:Int)(w:Vr) v1 v2 H,k .ret ⟨29,aD,[(4,true,.d (.int .i64 n)),(5,true,.ptr 350 v1 0),(6,true,.d (.bool true))],[E,⟨350,v1,jH w⟩,⟨550,v2,H⟩]⟩=T n w)
 (U:∀(Y:Env) v1 v2 H,k (.exit 0) ⟨29,aD,(1,true,.d (.str s))::(5,true,.ptr 350 v1 0)::Y,[E,⟨350,v1,jH CL⟩,⟨550,v2,H⟩]⟩=R):∀(rest pre:List Vr)(n:Int)(v1 v2:Nat)(H:aJ),l=pre++rest->0<=n->n<=1000*pre.length->
 aO ctx 202 (.loop (Code.at (bg f202) [1,1,0,1,0,0])) ⟨29,aD,[(1,true,.d (.str s)),(5,true,.ptr 350 v1 0),(7,true,.d (.int .i64 n)),(11,true,.d (.list (l.map b8))),(12,true,.d (.int .i64 l.length)),(13,true,.d (.int .i64 pre.length))],[E,⟨350,v1,jH CL⟩,⟨550,v2,H⟩]⟩ k=if (bq rest s).isSome=true then T (pP rest s n).1 (pP rest s n).2 else R
 |[],pre,n,v1,v2,H,I,c,J=>by
  have A3:pre.length=l.length:=by rw[I];simp
  simp[jH,CL]at U;rw[A3,ag];simp[f202,jH,CL,bq];exact U _ _ _ _
 |w::rest,pre,n,v1,v2,H,I,c,J=>by
  have A':pre.length<l.length:=by rw[I];simp
  have A0:l[pre.length]=w:=by simp[I]
  have A1:=MF (M w (by rw[I];simp));have A7:=tc (M w (by rw[I];simp));have ih:=λv2 H=>RB l Z M s E O k R T V U rest (pre++[w]) (n+bX w) v1 v2 H (by simp[I]) (by omega) (by simp;omega);have A4:IntKind.i64.wrap ((pre.length:Int)+1)=(pre.length:Int)+1:=aA (by unfold aY;omega);have A5:IntKind.i64.wrap (n+bX w)=n+bX w:=aA (by unfold aY;omega);rw[ag];simp only[bq,pP];by_cases y:w.name=s
  ·simp[f202];have:=V n w v1 (v2+1);simp[jH,y]at this;simp[A',A0,O,b8,fB,y,ay,this]
  ·simp[f202,b8,fB]at ih A1⊢;simp[A',A0,O,b8,fB,y,A1,A4,A5,ih]
abbrev uo(p:Pg):D:=.agg [.str p.name,.list (p.vars.map b8),.list (p.body.map dc)]
theorem sM(p:Pg)(Z:p.vars.length<=1000)(M:∀v∈p.vars,dQ v=true)(s:Tx):ai ctx 202 [.d (uo p),.d (.str s)] []=some (.ret (.bh [.d (.int .i64 (cm p.vars s).1),.d (b8 (cm p.vars s).2),.d (.bool (bq p.vars s).isSome)]),[]):=by
 have A2:=λE O k R T V U v1 v2 H=>RB p.vars Z M s E O k R T V U p.vars [] 0 v1 v2 H rfl (by omega) (by simp);have key:(if (bq p.vars s).isSome=true then some (.ret (.bh [.d (.int .i64 (pP p.vars s 0).1),.d (b8 (pP p.vars s 0).2),.d (.bool true)]),([]:List (Nat×aJ)))else some (.ret (.bh [.d (.int .i64 0),.d (b8 CL),.d (.bool false)]),[]))=some (Out.ret (.bh [.d (.int .i64 (cm p.vars s).1),.d (b8 (cm p.vars s).2),.d (.bool (bq p.vars s).isSome)]),([]:List (Nat×aJ))):=by
  unfold cm;cases h:(bq p.vars s).isSome with
  |true=>simp
  |false=>
   have c:∀(l:List Vr) n,(bq l s).isSome=false->pP l s n=(0,CL):=by
    intro l;induction l with
    |nil=>intro n _;rfl
    |cons v r ih=>
     intro n J;simp only[bq,pP]at J⊢;split at J
     ·cases J
     ·rename_i A6;rw[ach A6];exact ih _ J
   simp[c _ _ h]
 rw[ait (by simp)];simp[f202,jH,CL]at A2⊢;rw[A2 _ rfl _ (some (.ret (.bh [.d (.int .i64 0),.d (b8 CL),.d (.bool false)]),[])) (λn w=>some (.ret (.bh [.d (.int .i64 n),.d (b8 w),.d (.bool true)]),[]))]
 ·exact key
 ·intro n w v1 v2 H;simp[b8,fB]
 ·intro Y v1 v2 H;simp[b8,fB,CL,ay]
theorem aff(s:Tx)(q:Pn):ai ctx 263 [.d (dH q),.ptr 0 0 0] [.box [.d (.str s)]]=some (.ret (.d (.bool (decide (q.name=s)))),[(0,.box [.d (.str s)])]):=by
 rw[aiG (by simp)];simp[f263,dH]
theorem JZ(s:Tx):∀(rest pre:List Pn),(pre++rest).length<1000000->∀k:Kt,
 aO ctx 262 (.loop (Code.at (bg f262) [1,0,1,0,0])) ⟨19,aD,[(0,true,.d (.list ((pre++rest).map dH))),(1,true,.fn 263 [.ptr 0 0 0]),(7,true,.d (.int .i64 (pre++rest).length)),(8,true,.d (.int .i64 pre.length))],[⟨0,0,.box [.d (.str s)]⟩]⟩ k=
  if rD (λq:Pn=>decide (q.name=s)) rest pre.length<0 then k (.exit 0) ⟨19,aD,[(0,true,.d (.list ((pre++rest).map dH))),(1,true,.fn 263 [.ptr 0 0 0]),(7,true,.d (.int .i64 (pre++rest).length)),(8,true,.d (.int .i64 (pre++rest).length)),(9,true,.d (.bool false))],[⟨0,0,.box [.d (.str s)]⟩]⟩
  else k .ret ⟨19,aD,[(4,true,.d (.int .i64 (rD (λq:Pn=>decide (q.name=s)) rest pre.length)))],[⟨0,0,.box [.d (.str s)]⟩]⟩
 |[],pre,H,k=>by
  rw[ag];simp[f262,rD]
 |x::rest,pre,H,k=>by
  obtain⟨b,U⟩:∃b,b=(λq:Pn=>decide (q.name=s)) x:=⟨_,rfl⟩;have V:ai ctx 263 [.d (dH x),.ptr 0 0 0] [.box [.d (.str s)]]=some (.ret (.d (.bool b)),[(0,.box [.d (.str s)])]):=by rw[U];exact aff s x
  have key:rD (λq:Pn=>decide (q.name=s)) (x::rest) pre.length=if b=true then (pre.length:Int)else rD (λq:Pn=>decide (q.name=s)) rest (pre.length+1):=by rw[U];rfl
  have ih:=JZ s rest (pre++[x]) (by simpa using H) k;have D:(pre.length:Int)<pre.length+(rest.length+1):=by omega
  have Y:IntKind.i64.wrap ((pre.length:Int)+1)=pre.length+1:=aA (by unfold aY;simp at H;omega);have Z:¬((pre.length:Int)<0):=by omega
  try simp[dH]at V
  rw[ag,key];clear U key;cases b with
  |true=>simp[f262,D,Y,Z,V,dH]
  |false=>
   simp[f262,dH]at ih⊢;simp[D,Y,V,ih,dH]
theorem afg(s:Tx)(l:List Pn)(H:l.length<1000000):ai ctx 262 [.d (.list (l.map dH)),.fn 263 [.ptr 0 0 0]] [.box [.d (.str s)]]=some (.ret (.d (.int .i64 (rD (λq:Pn=>decide (q.name=s)) l 0))),[(0,.box [.d (.str s)])]):=by
 have h:=λk=>JZ s l [] (by simpa using H) k;rw[aiF (by simp)];simp[f262]at h⊢;simp[h];intro h;rcases GX (λq:Pn=>decide (q.name=s)) l 0 with D|D
 ·exact D.symm
 ·omega
theorem NY(s:Tx):∀(l:List Pn)(n:Nat),(match CM l s n with
 |some (i,q)=>rD (λq:Pn=>decide (q.name=s)) l n=i/\n<=i/\l[i-n]?=some q
 |none=>rD (λq:Pn=>decide (q.name=s)) l n= -1)
 |[],n=>rfl
 |q::l,n=>by
  have ih:=NY s l (n+1);simp only[CM,rD];by_cases h:q.name=s
  ·rw[acs h];simp[h]
  ·rw[ach h];simp only[h,decide_false,agF,adY];cases I:CM l s (n+1)with
   |none=>rw[I]at ih;exact ih
   |some x=>
    obtain⟨i,w⟩:=x;rw[I]at ih;obtain⟨D,Y,Z⟩:=ih;refine⟨D,by omega,?_⟩;rw[show i-n=(i-(n+1))+1 by omega];simpa using Z
theorem NZ(p:Pg)(A0:p.vars.length<=1000)(y:∀v∈p.vars,dQ v=true)(s f:Tx):∃b,ai ctx 206 [.d (uo p),.d (.str s),.d (.str f)] []=some (.ret (.bh [.d (.int .i64 (jz p.vars s f).1),.d (dH (jz p.vars s f).2),.d (.bool b)]),[]):=by
 have E:=sM p A0 y s;have A5:0<=(cm p.vars s).1/\(cm p.vars s).1<=1000*1000:=by
  have key:∀(l:List Vr)(n:Int),(∀v∈l,dQ v=true)->0<=n->(pP l s n).1=0\/(n<=(pP l s n).1/\(pP l s n).1<=n+1000*l.length):=by
   intro l;induction l with
   |nil=>intro n _ _;exact .inl rfl
   |cons v r ih=>
    intro n J A6;have A7:=tc (J v (by simp));simp only[pP];split
    ·exact .inr ⟨by omega,by simp;omega⟩
    ·rcases ih (n+bX v) (λw hw=>J w (by simp[hw])) (by omega)with h|h
     ·exact .inl h
     ·exact .inr ⟨by omega,by simp;omega⟩
  unfold cm;rcases key p.vars 0 y (by omega)with h|h<;>omega
 have A':=QT (cm p.vars s).2.ty;have A8:=Cw (cm p.vars s).2.ty;have O:=afg f (bI (cm p.vars s).2.ty) (by omega);have M:=NY f (bI (cm p.vars s).2.ty) 0;unfold jz;generalize (cm p.vars s)=A at*;obtain⟨n,w⟩:=A;simp only at*;rw[aix (by simp)];cases J:bq p.vars s with
 |none=>
  rw[J]at E;exact⟨_,by simp[f206,E,b8,fB,Ir,dH];rfl⟩
 |some v=>
  rw[J]at E;by_cases T:2<w.ty
  ·by_cases c:f=[]
   ·exact⟨_,by simp[f206,E,b8,fB,Ir,dH,T,c];rfl⟩
   ·cases I:CM (bI w.ty) f 0 with
    |none=>
     rw[I]at M;simp only at M;rw[M]at O;refine⟨false,?_⟩;simp[f206,E,b8,fB,Ir,dH,T,c,A',O]
    |some x=>
     obtain⟨i,q⟩:=x;rw[I]at M;obtain⟨g1,g2,g3⟩:=M;refine⟨true,?_⟩;rw[g1]at O;have hi:i<(bI w.ty).length:=by
      have:=(ace.1 g3).1;simpa using this
     have A1:(bI w.ty)[i]=q:=by
      have:=(ace.1 g3).2;simpa using this
     have A2:IntKind.i64.wrap (n+i)=n+i:=aA (by unfold aY;omega);have A3:¬((i:Int)<0):=by omega
     simp[f206,E,b8,fB,T,c,A',O,ay,A2,A3,hi,A1,dH]
  ·have A4:w.ty<=2:=by omega
   exact⟨_,by simp[f206,E,b8,fB,Ir,dH,T,A4];rfl⟩
def Mk.aE(m:Mk)(l:List ak)(t:Int):Mk:={m with out:=m.out++l,most:=max m.most t}
def KE(p:Pg)(x:Ex):Prop:=∀(m:Mk)(h:Int),0<=h->h<=m.out.length->0<=m.most->m.out.length+(au p.vars x).1.length<100000000->
 gX p (m.aE (au p.vars x).1 (aR h x)) (h+1) (.ret (.d (.bool (au p.vars x).2))) (ai ctx 137 [.ptr 0 0 0,.d (.agg [.int .i64 (cq x),.int .i64 (jG x),.str (ew x),.str (gK x),.list ((dq x).map cj),.int .i64 (lJ x)])] (gW p m h))
theorem afh{k:Int}{q:Pn}(h:q∈bI k):q.ty=1\/q.ty=2:=by
 by_cases c:k∈ia
 ·have all:∀q∈bI k,q.ty=1\/q.ty=2:=by
   simp only[ia,aco,adQ,akp]at c;rcases c with rfl|rfl|rfl|rfl|rfl|rfl|rfl|rfl|rfl|rfl|rfl|rfl|rfl|rfl|rfl|rfl|rfl|rfl|rfl|rfl|rfl<;>decide
  exact all q h
 ·rw[pc c]at h;simp at h
section
variable {p:Pg} (V:p.vars.length<=1000) (T:∀v∈p.vars,dQ v=true)
theorem aks{n line:Int}:KE p (.mk 1 n [] [] [] line):=by
 intro m h Y hh hm I;simp[au]at I;obtain⟨v1,v2,v3,D⟩:=kX p m h 1 (ins 1 0 0 n 0) (by omega) (aA (by unfold aY;omega));have e:m.aE (au p.vars (.mk 1 n [] [] [] line)).1 (aR h (.mk 1 n [] [] [] line))=m.put (ins 1 0 0 n 0) (h+1):=by simp[au,aR,Mk.aE,Mk.put]
 rw[e];generalize m.put (ins 1 0 0 n 0) (h+1)=M at*;simp[ins]at D;rw[wq (by simp)];simp[f137,D,au];exact⟨_,_,_,rfl⟩
theorem akt{n line:Int}:KE p (.mk 2 n [] [] [] line):=by
 intro m h Y hh hm I;simp[au]at I;obtain⟨v1,v2,v3,D⟩:=kX p m h 1 (ins 1 0 0 n 0) (by omega) (aA (by unfold aY;omega));have e:m.aE (au p.vars (.mk 2 n [] [] [] line)).1 (aR h (.mk 2 n [] [] [] line))=m.put (ins 1 0 0 n 0) (h+1):=by simp[au,aR,Mk.aE,Mk.put]
 rw[e];generalize m.put (ins 1 0 0 n 0) (h+1)=M at*;simp[ins]at D;rw[wq (by simp)];simp[f137,D,au];exact⟨_,_,_,rfl⟩
include V T
theorem NV{s:Tx}{v:Vr}(E:bq p.vars s=some v)(U:v.ty<=2):v.ty=1\/v.ty=2:=by
 have hm:v∈p.vars:=by
  have key:∀l:List Vr,bq l s=some v->v∈l:=by
   intro l;induction l with
   |nil=>intro h;simp[bq]at h
   |cons w r ih=>
    intro h;simp only[bq]at h;split at h
    ·cases h;simp
    ·exact afX _ (ih h)
  exact key _ E
 have:=T v hm;simp only[dQ,Ds,agv,acn]at this;rcases this.2.1.2 with h|h
 ·exact h
 ·have:v.ty∉ia\/v.ty∈ia:=by by_cases h:v.ty∈ia<;>simp[h]
  rcases this with O|O
  ·unfold rC at h;rw[pc O]at h;simp at h
  ·simp only[ia,aco,adQ,akp]at O;omega
theorem aku{name:Tx}{line:Int}{v:Vr}(E:bq p.vars name=some v)(U:v.ty<=2):KE p (.mk 3 0 name [] [] line):=by
 intro m h Y hh hm I;simp[au]at I;have H:=sM p V T name;have J:=iV E;rw[E]at H;have Z:=NV V T E U;obtain⟨v1,v2,v3,D⟩:=Hu p m h (cm p.vars name).1 v.ty (by omega) (aA (by unfold aY;omega));have A':(if v.ty=2 then (3:Int)else 2)=1+v.ty:=by rcases Z with h|h<;>rw[h]<;>rfl
 rw[A']at D;have e:m.aE (au p.vars (.mk 3 0 name [] [] line)).1 (aR h (.mk 3 0 name [] [] line))=m.put (ins (1+v.ty) (cm p.vars name).1 0 0 0) (h+1):=by simp[au,aR,Mk.aE,Mk.put,J]
 have A0:(au p.vars (.mk 3 0 name [] [] line)).2=decide (v.ty=2):=by simp[au,J]
 rw[e,A0];rw[J]at H;generalize m.put (ins (1+v.ty) (cm p.vars name).1 0 0 0) (h+1)=M at*;simp at D;rw[wq (by simp)];simp[f137,H,b8,fB,D,ay];exact⟨_,_,_,rfl⟩
theorem akv{name field:Tx}{line:Int}{v:Vr}{q:Pn}(E:bq p.vars name=some v)(U:2<v.ty)(A3:nh v.ty field=some q)(A5:dK field=true):KE p (.mk 5 0 name field [] line):=by
 intro m h Y hh hm I;simp[au]at I;obtain⟨b,H⟩:=NZ p V T name field;have J:(jz p.vars name field).2=q:=(vt E U A3).1;have Z:q.ty=1\/q.ty=2:=afh (vt E U A3).2.1;obtain⟨v1,v2,v3,D⟩:=Hu p m h (jz p.vars name field).1 q.ty (by omega) (aA (by unfold aY;omega));have A':(if q.ty=2 then (3:Int)else 2)=1+q.ty:=by rcases Z with h|h<;>rw[h]<;>rfl
 rw[A']at D;have e:m.aE (au p.vars (.mk 5 0 name field [] line)).1 (aR h (.mk 5 0 name field [] line))=m.put (ins (1+q.ty) (jz p.vars name field).1 0 0 0) (h+1):=by simp[au,aR,Mk.aE,Mk.put,J]
 have A0:(au p.vars (.mk 5 0 name field [] line)).2=decide (q.ty=2):=by simp[au,J]
 rw[e,A0];rw[J]at H;generalize m.put (ins (1+q.ty) (jz p.vars name field).1 0 0 0) (h+1)=M at*;simp at D;simp[dH]at H;rw[wq (by simp)];simp[f137,H,D,ay];exact⟨_,_,_,rfl⟩
theorem akw{name:Tx}{line:Int}{v:Vr}{y:Ex}(E:bq p.vars name=some v)(U:v.ty<=2)(A4:KE p y):KE p (.mk 4 0 name [] [y] line):=by
 intro m h Y hh hm I;have J:=iV E;have A1:(au p.vars (.mk 4 0 name [] [y] line))=((au p.vars y).1++[ins (3+v.ty) (cm p.vars name).1 0 v.lo v.hi],decide (v.ty=2)):=by simp[au,nj,J]
 rw[A1]at I;simp at I;have H:=sM p V T name;rw[E,J]at H;have Z:=NV V T E U;obtain⟨v1,v2,v3,A2⟩:=A4 m h Y hh hm (by omega);have A6:=ma p.vars y;obtain⟨A7,A8,A9,D⟩:=kX p (m.aE (au p.vars y).1 (aR h y)) (h+1) 0 (ins (3+v.ty) (cm p.vars name).1 0 v.lo v.hi) (by simp[Mk.aE];omega) (aA (by unfold aY;omega));have e:m.aE (au p.vars (.mk 4 0 name [] [y] line)).1 (aR h (.mk 4 0 name [] [y] line))=(m.aE (au p.vars y).1 (aR h y)).put (ins (3+v.ty) (cm p.vars name).1 0 v.lo v.hi) (h+1+0):=by
  rw[A1];simp[aR,gQ,Mk.aE,Mk.put];omega
 rw[e,A1];generalize (m.aE (au p.vars y).1 (aR h y)).put (ins (3+v.ty) (cm p.vars name).1 0 v.lo v.hi) (h+1+0)=M at*;generalize m.aE (au p.vars y).1 (aR h y)=N at*;simp[ins]at D A2;rw[wq (by simp)];rcases Z with O|O
 ·simp[O]at D;simp[f137,H,b8,fB,aI,A2,D,ay,O];exact⟨_,_,_,rfl⟩
 ·simp[O]at D;simp[f137,H,b8,fB,aI,A2,D,ay,O];exact⟨_,_,_,rfl⟩
end
section
variable {p:Pg}
theorem akx{op line:Int}{y:Ex}(U:op=6\/op=7)(V:KE p y):KE p (.mk op 0 [] [] [y] line):=by
 intro m h A8 hh hm Y;have A9:¬(op=1\/op=2):=by omega
 have I:¬op=3:=by omega
 have J:¬op=4:=by omega
 have O:¬op=5:=by omega
 have Z:¬op=1:=by omega
 have c:¬op=2:=by omega
 have T:(au p.vars (.mk op 0 [] [] [y] line))=((au p.vars y).1++[ins 8 (if (au p.vars y).2=true then 1 else 0) op 0 0],decide (op=7\/12<op)):=by simp[au,gd,A9,I,J,O];rfl
 rw[T]at Y;simp at Y;obtain⟨v1,v2,v3,H⟩:=V m h A8 hh hm (by omega);have AC:=ma p.vars y;obtain⟨AD,AE,AF,D⟩:=kX p (m.aE (au p.vars y).1 (aR h y)) (h+1) 0 (ins 8 (if (au p.vars y).2=true then 1 else 0) op 0 0) (by simp[Mk.aE];omega) (aA (by unfold aY;omega));have e:m.aE (au p.vars (.mk op 0 [] [] [y] line)).1 (aR h (.mk op 0 [] [] [y] line))=(m.aE (au p.vars y).1 (aR h y)).put (ins 8 (if (au p.vars y).2=true then 1 else 0) op 0 0) (h+1+0):=by
  rw[T];have AA:¬(op=1\/op=2\/op=3\/op=5):=by omega
  simp[aR,gQ,Mk.aE,Mk.put,AA];omega
 rw[e,T];generalize (m.aE (au p.vars y).1 (aR h y)).put (ins 8 (if (au p.vars y).2=true then 1 else 0) op 0 0) (h+1+0)=M at*;generalize m.aE (au p.vars y).1 (aR h y)=N at*;generalize (au p.vars y).2=B at*;have E:IntKind.i64.wrap 1=1:=rfl;have w0:IntKind.i64.wrap 0=0:=rfl;simp[ins]at D H;rw[wq (by simp)];have A':decide (13<=op)=decide (12<op):=by rw[agS];omega
 cases B with
 |true=>
  simp at D;simp[f137,Z,c,I,J,O,aI];rw[ag];simp[f137,aI,H,E,w0];rw[ag];simp[f137,H,D,E,w0,A'];exact⟨_,_,_,rfl⟩
 |false=>
  simp at D;simp[f137,Z,c,I,J,O,aI];rw[ag];simp[f137,aI,H,E,w0];rw[ag];simp[f137,H,D,E,w0,A'];exact⟨_,_,_,rfl⟩
theorem akz{op line:Int}{y z:Ex}(U:8<=op)(V:KE p y)(AG:KE p z):KE p (.mk op 0 [] [] [y,z] line):=by
 intro m h A8 hh hm Y;have A9:¬(op=1\/op=2):=by omega
 have I:¬op=3:=by omega
 have J:¬op=4:=by omega
 have O:¬op=5:=by omega
 have Z:¬op=1:=by omega
 have c:¬op=2:=by omega
 have T:(au p.vars (.mk op 0 [] [] [y,z] line))=((au p.vars y).1++((au p.vars z).1++[ins 8 (if (au p.vars z).2=true then 1 else 0) op 0 0]),decide (op=7\/12<op)):=by simp[au,gd,A9,I,J,O];rfl
 rw[T]at Y;simp at Y;have AC:=ma p.vars y;have AN:=ma p.vars z;obtain⟨v1,v2,v3,H⟩:=V m h A8 hh hm (by omega);obtain⟨t1,t2,t3,A0⟩:=AG (m.aE (au p.vars y).1 (aR h y)) (h+1) (by omega) (by simp[Mk.aE];omega) (by simp[Mk.aE];omega) (by simp[Mk.aE];omega);obtain⟨AD,AE,AF,D⟩:=kX p ((m.aE (au p.vars y).1 (aR h y)).aE (au p.vars z).1 (aR (h+1) z)) (h+1+1) (-1) (ins 8 (if (au p.vars z).2=true then 1 else 0) op 0 0) (by simp[Mk.aE];omega) (aA (by unfold aY;omega));rw[show h+1+1+ -1=h+1 by omega]at D;have e:m.aE (au p.vars (.mk op 0 [] [] [y,z] line)).1 (aR h (.mk op 0 [] [] [y,z] line))=((m.aE (au p.vars y).1 (aR h y)).aE (au p.vars z).1 (aR (h+1) z)).put (ins 8 (if (au p.vars z).2=true then 1 else 0) op 0 0) (h+1):=by
  rw[T];have AA:¬(op=1\/op=2\/op=3\/op=5):=by omega
  simp[aR,gQ,Mk.aE,Mk.put,AA];omega
 rw[e,T];generalize ((m.aE (au p.vars y).1 (aR h y)).aE (au p.vars z).1 (aR (h+1) z)).put (ins 8 (if (au p.vars z).2=true then 1 else 0) op 0 0) (h+1)=M at*;generalize (m.aE (au p.vars y).1 (aR h y)).aE (au p.vars z).1 (aR (h+1) z)=AO at*;generalize m.aE (au p.vars y).1 (aR h y)=N at*;generalize (au p.vars z).2=B at*;generalize (au p.vars y).2=AP at*;have E:IntKind.i64.wrap 1=1:=rfl;have w0:IntKind.i64.wrap 0=0:=rfl;have A5:IntKind.i64.wrap 2=2:=rfl;have AB:IntKind.i64.wrap (-1)= -1:=rfl;have A':decide (13<=op)=decide (12<op):=by rw[agS];omega
 simp[ins]at D H A0;rw[wq (by simp)];cases B with
 |true=>
  simp at D A0;simp[f137,Z,c,I,J,O,aI];rw[ag];simp[f137,aI,H,E,w0];rw[ag];simp[f137,aI,A0,E,w0,A5];rw[ag];simp[f137,D,E,w0,A5,AB,A'];exact⟨_,_,_,rfl⟩
 |false=>
  simp at D A0;simp[f137,Z,c,I,J,O,aI];rw[ag];simp[f137,aI,H,E,w0];rw[ag];simp[f137,aI,A0,E,w0,A5];rw[ag];simp[f137,D,E,w0,A5,AB,A'];exact⟨_,_,_,rfl⟩
end
theorem nz{p:Pg}(A6:p.vars.length<=1000)(A7:∀v∈p.vars,dQ v=true):∀x:Ex,bC x=true->(aK p.vars x).e=0->KE p x
 | .mk op n name field sub line,AH,ex=>by
  have ih:∀y∈sub,bC y=true->(aK p.vars y).e=0->KE p y:=λy V=>nz A6 A7 y;have AI:=zv AH ex;cases AI with
  |num h=>exact aks
  |r5 h=>exact akt
  |var A1 D A2=>exact aku A6 A7 A1 A2
  |idx A1 D A2 A3 A4 ty=>exact akw A6 A7 A1 A2 (ih _ (by simp) A3 A4)
  |Ry A1 A2 AJ AK=>exact akv A6 A7 A1 A2 AJ AK
  |one U A3 A4 ty=>exact akx U (ih _ (by simp) A3 A4)
  |two U A3 A4 AL AM ty AQ=>exact akz U.1 (ih _ (by simp) A3 A4) (ih _ (by simp) AL AM)
termination_by x=>SizeOf.sizeOf x
decreasing_by all_goals (simp_wf;have:=List.sizeOf_lt_of_mem V;omega)
end Go.Am
end
section
namespace Go.Am
open Go
def iZ(ex:List (List Int))(a:List Int):List (List Int):=
 match ex.getLast? with
 |some r=>ex.dropLast++[r++a]
 |none=>[]
theorem kA(ex:List (List Int))(r a:List Int):iZ (ex++[r]) a=ex++[r++a]:=by simp[iZ]
theorem oS(ex:List (List Int)):iZ ex []=ex:=by
 rcases ajs ex with h|⟨l,r,h⟩
 ·subst h;rfl
 ·rw[h,alg,kA,ad9]
theorem J0(ex:List (List Int))(a b:List Int):iZ (iZ ex a) b=iZ ex (a++b):=by
 rcases ajs ex with h|⟨l,r,h⟩
 ·subst h;rfl
 ·rw[h,alg,kA,kA,kA,aea]
@[simp] theorem YI(ex:List (List Int))(a:List Int):(iZ ex a).length=ex.length:=by
 rcases ajs ex with h|⟨l,r,h⟩
 ·subst h;rfl
 ·rw[h,alg,kA];simp
def Mk.aU(m:Mk)(l:List ak)(c t:Int):Mk:=
 ⟨m.out++dj m.out.length l,c,max m.most t,iZ m.ex (df (-1) m.out.length l),m.lv++df (-2) m.out.length l⟩
theorem DH(m:Mk)(a b:List ak)(c H t I:Int):(m.aU a c t).aU b H I=m.aU (jn a b) H (max t I):=by
 unfold Mk.aU;simp only[Mk.mk.injEq,acm,pg];rw[NP,KL (by decide),KL (by decide),J0];simp[aea,Int.max_assoc]
theorem abQ(m:Mk)(h:0<=m.most):m.aU [] m.cells 0=m:=by
 unfold Mk.aU;simp[df,oS];cases m;simp at h⊢;omega
theorem qL{m:Mk}{l:List ak}(h:Flat l)(t:Int):m.aU l m.cells t=m.aE l t:=by
 unfold Mk.aU Mk.aE;rw[h.dj,sK h,sK h,oS];simp
theorem AJ{m:Mk}{l:List ak}{x:ak}{t u:Int}:(m.aE l t).put x u=m.aE (l++[x]) (max t u):=by
 unfold Mk.aE Mk.put;simp[aea,Int.max_assoc]
theorem J1{m:Mk}{l r:List ak}{t u:Int}:(m.aE l t).aE r u=m.aE (l++r) (max t u):=by
 unfold Mk.aE;simp[aea,Int.max_assoc]
theorem abR{m:Mk}{x:ak}{u:Int}:m.put x u=m.aE [x] u:=rfl
theorem xX{m:Mk}{l:List ak}{t u:Int}(h:max m.most t=max m.most u):m.aE l t=m.aE l u:=by
 unfold Mk.aE;rw[h]
theorem oT{m:Mk}{l:List ak}{c t u:Int}(h:max m.most t=max m.most u):m.aU l c t=m.aU l c u:=by
 unfold Mk.aU;rw[h]
theorem nH(h:Int)(x:Ex):h+1<=aR h x:=by
 obtain⟨op,n,name,field,sub,line⟩:=x;unfold aR;split
 ·exact ao7 _
 ·omega
theorem CZ(k:Int):∀(l:List ak)(n:Nat),∀i∈df k n l,∃j:Nat,i=j/\j<n+l.length
 |[],n,i,h=>by simp[df]at h
 |x::r,n,i,h=>by
  simp only[df]at h;have key:i∈df k (n+1) r->∃j:Nat,i=j/\j<n+(x::r).length:=λh=>by
   obtain⟨j,e,M⟩:=CZ k r (n+1) i h;exact⟨j,e,by simp;omega⟩
  split at h
  ·rcases aco.1 h with rfl|h
   ·exact⟨n,rfl,by simp⟩
   ·exact key h
  ·exact key h
theorem sN(k:Int):∀(l:List ak)(n:Nat),(df k n l).length<=l.length
 |[],n=>by simp[df]
 |x::r,n=>by
  have:=sN k r (n+1);simp only[df];split<;>simp<;>omega
def jR(m:Mk):Prop:=m.lv.length<=m.out.length/\∀r∈m.ex,r.length<=m.out.length
theorem YJ{ex:List (List Int)}{a r:List Int}(h:r∈iZ ex a):∃E∈ex,r.length<=E.length+a.length:=by
 rcases ajs ex with e|⟨l,q,e⟩
 ·subst e;simp[iZ]at h
 ·rw[e,alg]at h⊢;rw[kA]at h;rcases acC.1 h with h|h
  ·exact⟨r,by simp[h],by omega⟩
  ·simp at h;subst h;exact⟨q,by simp,by simp⟩
theorem jR.put{m:Mk}(h:jR m)(x:ak)(t:Int):jR (m.put x t):=
 ⟨by have:=h.1;simp[Mk.put];omega,λr D=>by have:=h.2 r D;simp[Mk.put];omega⟩
theorem jR.aE{m:Mk}(h:jR m)(l:List ak)(t:Int):jR (m.aE l t):=
 ⟨by have:=h.1;simp[Mk.aE];omega,λr D=>by have:=h.2 r D;simp[Mk.aE];omega⟩
theorem jR.aU{m:Mk}(h:jR m)(l:List ak)(c t:Int):jR (m.aU l c t):=by
 refine⟨?_,λr D=>?_⟩
 ·have:=h.1;have:=sN (-2) l m.out.length;simp[Mk.aU];omega
 ·obtain⟨E,J,D⟩:=YJ D;have:=h.2 E J;have:=sN (-1) l m.out.length;simp[Mk.aU];omega
theorem jR.lead{m:Mk}(h:jR m)(i:Int):jR (m.lead i):=by
 have e:(m.lead i).out.length=m.out.length:=by simp[Mk.lead]
 exact⟨by rw[e];exact h.1,λr D=>by rw[e];exact h.2 r D⟩
end Go.Am
end
section
namespace Go.Am
open Go Go.Proofs Go.Proofs.Tryz
variable [Inhabited b9]
set_option maxRecDepth 20000
section
variable {p:Pg} (D:p.vars.length<=1000) (E:∀v∈p.vars,dQ v=true)
include D E
theorem YK{name:Tx}{T U:Int}{v:Vr}{val:Ex}(O:bq p.vars name=some v)(V:bC val=true)(Y:(aK p.vars val).e=0)(m:Mk)(hm:0<=m.most)(c:m.out.length+(au p.vars val).1.length<99999999):
 gX p (m.aE ((au p.vars val).1++[ins 6 (cm p.vars name).1 0 0 0]) (aR 0 val)) 0 (.ret (.bh [])) (ai ctx 134 [.ptr 0 0 0,.d (dc (.mk 1 [] (.mk 3 0 name [] [] T) val [] [] [] [] U))] (gW p m 0)):=by
 have H:=sM p D E name;rw[O]at H;obtain⟨v1,v2,v3,I⟩:=nz D E val V Y m 0 (by omega) (by omega) hm (by omega);obtain⟨A',A0,A1,J⟩:=sL p (m.aE (au p.vars val).1 (aR 0 val)) 1 (cm p.vars name).1 (by simp[Mk.aE];omega) (by decide);have e:m.aE ((au p.vars val).1++[ins 6 (cm p.vars name).1 0 0 0]) (aR 0 val)=(m.aE (au p.vars val).1 (aR 0 val)).put (ins 6 (cm p.vars name).1 0 0 0) (1+ -1):=by
  rw[AJ];exact xX (by have:=nH 0 val;omega)
 rw[e];generalize (m.aE (au p.vars val).1 (aR 0 val)).put (ins 6 (cm p.vars name).1 0 0 0) (1+ -1)=M at*;generalize m.aE (au p.vars val).1 (aR 0 val)=N at*;simp at I J;rw[XH (by simp)];simp[f134,fR,H,b8,fB,I,J,ay];exact⟨_,_,_,rfl⟩
theorem YL{name:Tx}{T U:Int}{v:Vr}{y val:Ex}(O:bq p.vars name=some v)(A2:bC y=true)(A3:(aK p.vars y).e=0)(V:bC val=true)(Y:(aK p.vars val).e=0)(m:Mk)(hm:0<=m.most)(c:m.out.length+(au p.vars y).1.length+(au p.vars val).1.length<99999999):
 gX p (m.aE ((au p.vars y).1++((au p.vars val).1++[ins 7 (cm p.vars name).1 0 v.lo v.hi])) (max (aR 0 y) (aR 1 val))) 0 (.ret (.bh [])) (ai ctx 134 [.ptr 0 0 0,.d (dc (.mk 1 [] (.mk 4 0 name [] [y] T) val [] [] [] [] U))] (gW p m 0)):=by
 have H:=sM p D E name;rw[O,iV O]at H;obtain⟨v1,v2,v3,I⟩:=nz D E y A2 A3 m 0 (by omega) (by omega) hm (by omega);have A4:=ma p.vars y;obtain⟨t1,t2,t3,Z⟩:=nz D E val V Y (m.aE (au p.vars y).1 (aR 0 y)) 1 (by omega) (by simp[Mk.aE];omega) (by simp[Mk.aE];omega) (by simp[Mk.aE];omega);obtain⟨A',A0,A1,J⟩:=kX p ((m.aE (au p.vars y).1 (aR 0 y)).aE (au p.vars val).1 (aR 1 val)) 2 (-2) (ins 7 (cm p.vars name).1 0 v.lo v.hi) (by simp[Mk.aE];omega) (by decide);have e:m.aE ((au p.vars y).1++((au p.vars val).1++[ins 7 (cm p.vars name).1 0 v.lo v.hi])) (max (aR 0 y) (aR 1 val))=((m.aE (au p.vars y).1 (aR 0 y)).aE (au p.vars val).1 (aR 1 val)).put (ins 7 (cm p.vars name).1 0 v.lo v.hi) (2+ -2):=by
  rw[J1,AJ,aea];exact xX (by have:=nH 0 y;omega)
 rw[e];generalize ((m.aE (au p.vars y).1 (aR 0 y)).aE (au p.vars val).1 (aR 1 val)).put (ins 7 (cm p.vars name).1 0 v.lo v.hi) (2+ -2)=M at*;generalize (m.aE (au p.vars y).1 (aR 0 y)).aE (au p.vars val).1 (aR 1 val)=A5 at*;generalize m.aE (au p.vars y).1 (aR 0 y)=N at*;simp[ins]at I Z J;rw[XH (by simp)];simp[f134,fR,H,b8,fB,aI,I,Z,J,ay];exact⟨_,_,_,rfl⟩
end
@[simp] def mqM(p:Pg)(m:Mk)(h:Int)(v1 v2 v3:Nat):List dk:=[⟨0,0,.box [.d (.str p.name),.d (.list (p.vars.map b8)),.d (.list (p.body.map dc)),.vec 1 v1 0 m.out.length,.d (.int .i64 m.cells),.d (.int .i64 h),.d (.int .i64 m.most),.vec 2 v2 0 m.ex.length,.vec 3 v3 0 m.lv.length]⟩,⟨1,v1,.vec 5 (m.out.map cA)⟩,⟨2,v2,.vv (m.ex.map gV) none⟩,⟨3,v3,.vec 1 (m.lv.map eo)⟩]
section
variable {p:Pg} (H:p.vars.length<=1000) (I:∀v∈p.vars,dQ v=true)
include H I
theorem Hv(x:Sm)(A':(eS x).length<100000000)(at_:AV)(v:Vr)(k:Kt)(Q:Mk->b7->Prop)
 (J:∀(Y:Env) M v1 v2 v3 v6 X6,Q M (k (.exit 0) ⟨60,aD,(0,true,.ptr 0 0 0)::(3,true,.ptr 250 1 0)::(4,true,at_)::(5,true,.ptr 350 1 0)::Y,mqM p M 0 v1 v2 v3++[⟨250,1,bx x⟩,⟨350,1,jH v⟩,⟨600,v6,X6⟩]⟩)):
 ∀(fr fp:List Tx)(D O:List Ex)(m:Mk)(v1 v2 v3 v6:Nat)(X6:aJ),eS x=fp++fr->cV x=O++D->fp.length=O.length->fr.length=D.length->(∀c∈D,bC c=true/\(aK p.vars c).e=0)->0<=m.most->m.out.length+(dE p.vars (jt x) fr D).length<99999999->
 Q (m.aE (dE p.vars (jt x) fr D) (lZ D)) (aO ctx 142 (.loop (Code.at (bg f142) [1,1,0,1,0,0])) ⟨60,aD,[(0,true,.ptr 0 0 0),(3,true,.ptr 250 1 0),(4,true,at_),(5,true,.ptr 350 1 0),(24,true,.d (.list ((eS x).map .str))),(25,true,.d (.int .i64 (eS x).length)),(26,true,.d (.int .i64 fp.length))],mqM p m 0 v1 v2 v3++[⟨250,1,bx x⟩,⟨350,1,jH v⟩,⟨600,v6,X6⟩]⟩ k)
 |[],fp,D,O,m,v1,v2,v3,v6,X6,T,U,V,Z,E,hm,y=>by
  have A0:D=[]:=wG (by simpa using Z.symm);subst A0;have e:m.aE (dE p.vars (jt x) [] []) (lZ [])=m:=by
   simp[dE,lZ,Mk.aE];cases m;simp at hm⊢;omega
  rw[e];have A7:fp.length=(eS x).length:=by rw[T];simp
  have:=J [(24,true,.d (.list ((eS x).map .str))),(25,true,.d (.int .i64 (eS x).length)),(26,true,.d (.int .i64 (eS x).length)),(27,true,.d (.bool false))] m v1 v2 v3 v6 X6;simp at this;rw[A7,ag];simp[f142,this]
 |f::fr,fp,D,O,m,v1,v2,v3,v6,X6,T,U,V,Z,E,hm,y=>by
  obtain⟨c,D,rfl⟩:∃c r,D=c::r:=by
   cases D with
   |nil=>simp at Z
   |cons c r=>exact⟨c,r,rfl⟩
  have AP:=ma p.vars c;have A8:dE p.vars (jt x) (f::fr) (c::D)=((au p.vars c).1++[ins 6 (jz p.vars (jt x) f).1 0 0 0])++dE p.vars (jt x) fr D:=by simp[dE]
  rw[A8]at y⊢;simp at y;obtain⟨A9,AA⟩:=E c (by simp);obtain⟨b,A2⟩:=NZ p H I (jt x) f;obtain⟨s1,s2,AQ,A3⟩:=nz H I c A9 AA m 0 (by omega) (by omega) hm (by omega);obtain⟨AB,AC,AD,A4⟩:=sL p (m.aE (au p.vars c).1 (aR 0 c)) 1 (jz p.vars (jt x) f).1 (by simp[Mk.aE];omega) (by decide);have e:m.aE (((au p.vars c).1++[ins 6 (jz p.vars (jt x) f).1 0 0 0])++dE p.vars (jt x) fr D) (lZ (c::D))=((m.aE (au p.vars c).1 (aR 0 c)).put (ins 6 (jz p.vars (jt x) f).1 0 0 0) (1+ -1)).aE (dE p.vars (jt x) fr D) (lZ D):=by
   rw[AJ,J1];exact xX (by have:=nH 0 c;simp only[lZ];omega)
  rw[e];have AE:0<=((m.aE (au p.vars c).1 (aR 0 c)).put (ins 6 (jz p.vars (jt x) f).1 0 0 0) (1+ -1)).most:=by simp[Mk.put,Mk.aE];omega
  have AF:((m.aE (au p.vars c).1 (aR 0 c)).put (ins 6 (jz p.vars (jt x) f).1 0 0 0) (1+ -1)).out.length=m.out.length+(au p.vars c).1.length+1:=by simp[Mk.put,Mk.aE];omega
  have ih:=λv1 v2 v3 v6 X6=>Hv x A' at_ v k Q J fr (fp++[f]) D (O++[c]) ((m.aE (au p.vars c).1 (aR 0 c)).put (ins 6 (jz p.vars (jt x) f).1 0 0 0) (1+ -1)) v1 v2 v3 v6 X6 (by simp[T]) (by simp[U]) (by simp[V]) (by simpa using Z) (λc A0=>E c (by simp[A0])) AE (by rw[AF];omega);clear J E e;generalize (m.aE (au p.vars c).1 (aR 0 c)).put (ins 6 (jz p.vars (jt x) f).1 0 0 0) (1+ -1)=M at*;generalize m.aE (au p.vars c).1 (aR 0 c)=N at*;have AG:fp.length<(eS x).length:=by rw[T];simp
  have AH:(eS x)[fp.length]=f:=by simp[T]
  have AI:fp.length<(cV x).length:=by rw[U,V];simp
  have AK:(cV x)[fp.length]=c:=by simp[U,V]
  have AL:IntKind.i64.wrap ((fp.length:Int)+1)=(fp.length:Int)+1:=aA (by unfold aY;omega);rw[ag];simp at A3 A4 A2;simp[f142]at ih⊢;simp[AG,AH,AI,AK,aI,dH,A2,A3,A4,ay,AL,ih]
theorem afi{name:Tx}{to val:Ex}{conds:List Ex}{fields:List Tx}{line:Int}{v:Vr}(A5:bq p.vars name=some v)(AM:conds.length=fields.length)(A':fields.length<100000000)(E:∀c∈conds,bC c=true/\(aK p.vars c).e=0)(m:Mk)(hm:0<=m.most)(y:m.out.length+(dE p.vars name fields conds).length<99999998):
 gX p (m.aE (dE p.vars name fields conds++[ins 12 (cm p.vars name).1 v.ty 0 0]) (lZ conds)) 0 (.ret (.bh [])) (ai ctx 142 [.ptr 0 0 0,.d (dc (.mk 9 name to val conds [] fields [] line))] (gW p m 0)):=by
 have A6:=sM p H I name;rw[A5,iV A5]at A6;have AN:=λ(N:Mk) (h:N.out.length<100000000)=>kX p N 0 0 (ins 12 (cm p.vars name).1 v.ty 0 0) h (by decide);have e:m.aE (dE p.vars name fields conds++[ins 12 (cm p.vars name).1 v.ty 0 0]) (lZ conds)=(m.aE (dE p.vars name fields conds) (lZ conds)).put (ins 12 (cm p.vars name).1 v.ty 0 0) (0+0):=by
  rw[AJ];exact xX (by omega)
 rw[e];obtain⟨AB,AC,AD,hu⟩:=AN (m.aE (dE p.vars name fields conds) (lZ conds)) (by simp[Mk.aE];omega);have A1:=λ(at_:AV) (k:Kt) (Q:Mk->b7->Prop) J v6 X6=>Hv H I (.mk 9 name to val conds [] fields [] line) A' at_ v k Q J fields [] conds [] m 0 0 0 v6 X6 rfl rfl rfl AM.symm E hm (by simpa using (by omega:m.out.length+(dE p.vars name fields conds).length<99999999));rw[aif (by simp)];generalize (m.aE (dE p.vars name fields conds) (lZ conds)).put (ins 12 (cm p.vars name).1 v.ty 0 0) (0+0)=M at*;simp only[ahe,WG,WE]at A1;generalize m.aE (dE p.vars name fields conds) (lZ conds)=N at*;simp[ins]at hu;simp[f142]at A1⊢;simp[fR,A6,b8,fB,ay];refine A1 _ _ (λX r=>X=N->gX p M 0 (.ret (.bh [])) r) (λY X v1 v2 v3 v6 X6 AO=>?_) _ _ rfl;subst AO;simp[f142,hu];exact⟨_,_,_,rfl⟩
end
end Go.Am
end
section
namespace Go.Am
open Go
def ek:List (List ak×Int)->Int
 |[]=>0
 |t::r=>max t.2 (ek r)
def ea(ts:List (List ak×Int)):List (List ak):=ts.map (·.1)
def Mk.dS(m:Mk)(ts:List (List ak×Int))(bs:List (List ak))(c t:Int):Mk:=
 ⟨m.out++lO 0 m.out.length (ea ts) bs,c,max m.most t,iZ m.ex (xS (-1) m.out.length (ea ts) bs),m.lv++xS (-2) m.out.length (ea ts) bs⟩
theorem N0(m:Mk)(ts:List (List ak×Int))(h:0<=m.most):m.dS ts [] m.cells 0=m:=by
 unfold Mk.dS;have O:lO 0 m.out.length (ea ts) []=[]:=by unfold lO;rfl
 have E:∀k,xS k m.out.length (ea ts) []=[]:=λk=>by unfold xS;rfl
 rw[O,E,E,oS];cases m;simp at h⊢;omega
def Mk.gY(m:Mk)(t:List ak×Int):Mk:=(m.aE t.1 t.2).put (ins 10 0 0 0 0) 0
theorem AK(a b c:List ak)(x:ak)(v:Int)(k:Int)(T:k=((a.length+b.length:Nat):Int)):setAt (a++b++x::c) k v=a++b++{x with a:=v}::c:=by
 have:=uj (a++b) x c v;simp only[acm]at this;rw[T];exact this
theorem RC(m:Mk)(t:List ak×Int)(ts:List (List ak×Int))(b:List ak)(c u:Int)(U:0<=m.most):
 ((m.gY t).aU b c u).lead (m.out.length+t.1.length:Nat)=m.dS (t::ts) [b] c (max t.2 u):=by
 unfold Mk.gY Mk.aE Mk.put Mk.aU Mk.lead Mk.dS ea;simp only[adM,lO,xS,adZ,ad9,Mk.mk.injEq,akC];have D:(m.out++t.1++[ins 10 0 0 0 0]).length=m.out.length+t.1.length+1:=by simp;omega
 rw[D];refine⟨?_,by omega,rfl,rfl⟩;have:=AK m.out t.1 (dj (m.out.length+t.1.length+1) b) (ins 10 0 0 0 0) ((m.out.length+t.1.length+1+b.length:Nat):Int) ((m.out.length+t.1.length:Nat):Int) rfl;simp only[ins]at this⊢;have E:((m.out++t.1++[({op:=10,a:=0,b:=0,n:=0,m:=0}:ak)]++dj (m.out.length+t.1.length+1) b).length:Int)=((m.out.length+t.1.length+1+b.length:Nat):Int):=by simp;omega
 rw[E];have H:m.out++t.1++[({op:=10,a:=0,b:=0,n:=0,m:=0}:ak)]++dj (m.out.length+t.1.length+1) b=m.out++t.1++({op:=10,a:=0,b:=0,n:=0,m:=0}:ak)::dj (m.out.length+t.1.length+1) b:=by simp
 rw[H,this];simp
theorem RD(m:Mk)(t:List ak×Int)(ts:List (List ak×Int))(b:List ak)(bs:List (List ak))(c I u J:Int)(U:0<=m.most)(V:bs≠[]):
 ((((m.gY t).aU b c u).put (ins 9 0 0 0 0) 0).lead (m.out.length+t.1.length:Nat)).dS ts bs I J=m.dS (t::ts) (b::bs) I (max t.2 (max u J)):=by
 have Y:((((m.gY t).aU b c u).put (ins 9 0 0 0 0) 0).lead (m.out.length+t.1.length:Nat)).out.length=m.out.length+t.1.length+2+b.length:=by
  simp[Mk.gY,Mk.aE,Mk.put,Mk.aU,Mk.lead];omega
 have Z:((((m.gY t).aU b c u).put (ins 9 0 0 0 0) 0).lead (m.out.length+t.1.length:Nat)).out=m.out++(t.1++ins 10 (m.out.length+t.1.length+2+b.length) 0 0 0::(dj (m.out.length+t.1.length+1) b++[ins 9 0 0 0 0])):=by
  unfold Mk.gY Mk.aE Mk.put Mk.aU Mk.lead;simp only
  have D:(m.out++t.1++[ins 10 0 0 0 0]).length=m.out.length+t.1.length+1:=by simp;omega
  rw[D];have:=AK m.out t.1 (dj (m.out.length+t.1.length+1) b++[ins 9 0 0 0 0]) (ins 10 0 0 0 0) ((m.out.length+t.1.length+2+b.length:Nat):Int) ((m.out.length+t.1.length:Nat):Int) rfl;have E:((m.out++t.1++[ins 10 0 0 0 0]++dj (m.out.length+t.1.length+1) b++[ins 9 0 0 0 0]).length:Int)=((m.out.length+t.1.length+2+b.length:Nat):Int):=by simp;omega
  rw[E];have H:m.out++t.1++[ins 10 0 0 0 0]++dj (m.out.length+t.1.length+1) b++[ins 9 0 0 0 0]=m.out++t.1++ins 10 0 0 0 0::(dj (m.out.length+t.1.length+1) b++[ins 9 0 0 0 0]):=by simp
  rw[H,this];simp[ins]
 have hex:((((m.gY t).aU b c u).put (ins 9 0 0 0 0) 0).lead (m.out.length+t.1.length:Nat)).ex=iZ m.ex (df (-1) (m.out.length+t.1.length+1) b):=by
  unfold Mk.gY Mk.aE Mk.put Mk.aU Mk.lead;simp only
  have D:(m.out++t.1++[ins 10 0 0 0 0]).length=m.out.length+t.1.length+1:=by simp;omega
  rw[D]
 have y:((((m.gY t).aU b c u).put (ins 9 0 0 0 0) 0).lead (m.out.length+t.1.length:Nat)).lv=m.lv++df (-2) (m.out.length+t.1.length+1) b:=by
  unfold Mk.gY Mk.aE Mk.put Mk.aU Mk.lead;simp only
  have D:(m.out++t.1++[ins 10 0 0 0 0]).length=m.out.length+t.1.length+1:=by simp;omega
  rw[D]
 have A':((((m.gY t).aU b c u).put (ins 9 0 0 0 0) 0).lead (m.out.length+t.1.length:Nat)).most=max m.most (max t.2 u):=by
  simp[Mk.gY,Mk.aE,Mk.put,Mk.aU,Mk.lead];omega
 generalize (((m.gY t).aU b c u).put (ins 9 0 0 0 0) 0).lead (m.out.length+t.1.length:Nat)=M at*;unfold Mk.dS;rw[Y,Z,hex,y,A'];simp only[ea,adM,lO,xS,ach V,Mk.mk.injEq,akC,J0,aea];exact⟨by simp,by omega,trivial⟩
theorem RE(m:Mk)(b:List ak)(c u:Int):m.aU b c u=m.dS [] [b] c u:=by
 unfold Mk.aU Mk.dS ea;simp[lO,xS]
end Go.Am
end
section
namespace Go.Am
open Go Go.Proofs Go.Proofs.Tryz
variable [Inhabited b9]
set_option maxRecDepth 20000
def J2(p:Pg)(m:Mk)(h:Int)(s:Sm)(o:Out)(r:b7):Prop:=∃v1 v2 v3,r=some (o,[(0,.box [.ptr 2 0 0]),(0,bx s),(0,iY p m h 3 4 5 v1 v2 v3),(v1,.vec 5 (m.out.map cA)),(v2,.vv (m.ex.map gV) none),(v3,.vec 1 (m.lv.map eo))])
section
variable {p:Pg} (D:p.vars.length<=1000) (H:∀v∈p.vars,dQ v=true)
include D H
theorem afj(s:Sm)(i:Nat)(c:Ex)(I:(cV s)[i]?=some c)(O:bC c=true)(T:(aK p.vars c).e=0)(m:Mk)(hm:0<=m.most)(Z:m.out.length+(au p.vars c).1.length<99999999):
 J2 p (m.aE (au p.vars c).1 (aR 0 c)) 1 s (.ret (.bh [])) (ai ctx 136 [.d (.int .i64 i),.ptr 0 0 0,.ptr 1 0 0] [.box [.ptr 2 0 0],bx s,iY p m 0 3 4 5 0 0 0,.vec 5 (m.out.map cA),.vv (m.ex.map gV) none,.vec 1 (m.lv.map eo)]):=by
 obtain⟨v1,v2,v3,J⟩:=nz D H c O T m 0 (by omega) (by omega) hm (by omega);have U:i<(cV s).length:=(ace.1 I).1;have V:(cV s)[i]=c:=(ace.1 I).2;generalize m.aE (au p.vars c).1 (aR 0 c)=M at*;simp at J;rw[aic (by simp)];simp[f136,ay,U,V,aI,J];exact⟨_,_,_,rfl⟩
end
mutual
def zy:Sm->Nat
 | .mk _ _ _ _ _ _ _ blocks _=>yB blocks+1
def jS:List Sm->Nat
 |[]=>0
 |x::r=>max (zy x) (jS r)
def yB:List (List Sm)->Nat
 |[]=>0
 |b::r=>max (jS b) (yB r)
end
theorem Fq:∀{l:List (List Sm)}{b:List Sm},b∈l->jS b<=yB l
 |c::r,b,h=>by
  simp only[yB];rcases aco.1 h with rfl|h
  ·omega
  ·have:=Fq h;omega
def wJ(p:Pg)(lp:Bool)(b:List Sm):Prop:=∀(m:Mk),0<=m.most->0<=m.cells->jR m->(lp=true->m.ex≠[])->m.out.length+(ah p.vars b m.cells).1.length<99999990->(ah p.vars b m.cells).2<99999990->m.ex.length+jS b<99999990->
 gX p (m.aU (ah p.vars b m.cells).1 (ah p.vars b m.cells).2 (bu b)) 0 (.ret (.bh [])) (ai ctx 51 [.ptr 0 0 0,.d (.list (b.map dc))] (gW p m 0))
@[simp] def En(p:Pg)(m:Mk)(s:Sm)(E:List Int)(v1 v2 v3 Y:Nat):List dk:=[⟨0,0,iY p m 0 3 4 5 v1 v2 v3⟩,⟨1,0,.box [.ptr 0 0 0]⟩,⟨2,0,bx s⟩,⟨3,v1,.vec 5 (m.out.map cA)⟩,⟨4,v2,.vv (m.ex.map gV) none⟩,⟨5,v3,.vec 1 (m.lv.map eo)⟩,⟨500,Y,.vec 1 (E.map eo)⟩]
theorem afk{p:Pg}{s:Sm}{blocks:List (List Sm)}{n i:Nat}{b:List Sm}(U:i<blocks.length)(V:blocks[i]=b)(Z:i<n)(A2:n<99999990)(A3:i+1<blocks.length)(A4:blocks.length<99999990)
 {m H I:Mk} (O:J2 p H 1 s (.ret (.bh [])) (ai ctx 136 [.d (.int .i64 i),.ptr 0 0 0,.ptr 1 0 0] [.box [.ptr 2 0 0],bx s,iY p m 0 3 4 5 0 0 0,.vec 5 (m.out.map cA),.vv (m.ex.map gV) none,.vec 1 (m.lv.map eo)]))
 (A7:H.out.length<99999990)
 (J:gX p I 0 (.ret (.bh [])) (ai ctx 51 [.ptr 0 0 0,.d (.list (b.map dc))] (gW p (H.put (ins 10 0 0 0 0) 0) 0)))
 (A8:H.out.length<I.out.length/\I.out.length<99999990) (E:List Int) (A9:E.length<99999990) (k:Kt) (Q:b7->Prop)
 (M:∀v1 v2 v3 D,Q (aO ctx 135 (.loop (Code.at (bg f135) [1,0,1,0,0])) ⟨49,aD,[(0,true,.ptr 0 0 0),(1,true,.d (.list (blocks.map dR))),(2,true,.d (.int .i64 n)),(3,true,.fn 136 [.ptr 1 0 0,.ptr 2 0 0]),(8,true,.vec 500 D 0 (E.length+1)),(12,true,.d (.list (blocks.map dR))),(13,true,.d (.int .i64 blocks.length)),(14,true,.d (.int .i64 (i+1)))],En p ((I.put (ins 9 0 0 0 0) 0).lead H.out.length) s (E++[(I.out.length:Int)]) v1 v2 v3 D⟩ k))
 (v1 v2 v3 D:Nat):
 Q (aO ctx 135 (.loop (Code.at (bg f135) [1,0,1,0,0])) ⟨49,aD,[(0,true,.ptr 0 0 0),(1,true,.d (.list (blocks.map dR))),(2,true,.d (.int .i64 n)),(3,true,.fn 136 [.ptr 1 0 0,.ptr 2 0 0]),(8,true,.vec 500 D 0 E.length),(12,true,.d (.list (blocks.map dR))),(13,true,.d (.int .i64 blocks.length)),(14,true,.d (.int .i64 i))],En p m s E v1 v2 v3 D⟩ k):=by
 obtain⟨AA,a2,a3,O⟩:=O;obtain⟨AB,AC,AD,T⟩:=AI p H 1 0 (by omega) (by decide);rw[show (1:Int)+ -1=0 by omega]at T;obtain⟨d1,d2,d3,J⟩:=J;obtain⟨AH,AJ,AK,A5⟩:=Ht p I 0 0 (by omega) (by decide);have A6:(I.put (ins 9 0 0 0 0) 0).out.length=I.out.length+1:=by simp[Mk.put]
 have c:=um p (I.put (ins 9 0 0 0 0) 0) 0 H.out.length (by rw[A6];omega) (by rw[A6];omega);have y:IntKind.i64.wrap ((i:Int)+1)=(i:Int)+1:=aA (by unfold aY;omega);have A':IntKind.i64.wrap ((blocks.length:Int)-1)=(blocks.length:Int)-1:=aA (by unfold aY;omega);have A0:(i:Int)<(blocks.length:Int)-1:=by omega
 have AE:E.length<=4611686018427387903:=by omega
 have AF:(E.length+1)*8<=140737488355328:=by omega
 have A1:(0:Int)<=H.out.length:=by omega
 generalize (I.put (ins 9 0 0 0 0) 0).lead H.out.length=AG at*;generalize I.put (ins 9 0 0 0 0) 0=AL at*;generalize H.put (ins 10 0 0 0 0) 0=M2 at*;rw[ag];simp at O T J A5 c;simp[f135]at M⊢;simp[U,V,dR,Z,O,T,J,A5,c,y,A',A0,AE,AF,A1,M]
theorem afl{p:Pg}{s:Sm}{blocks:List (List Sm)}{n i:Nat}{b:List Sm}(U:i<blocks.length)(V:blocks[i]=b)(Z:i<n)(A2:n<99999990)(A3:¬i+1<blocks.length)(A4:blocks.length<99999990)
 {m H I:Mk} (O:J2 p H 1 s (.ret (.bh [])) (ai ctx 136 [.d (.int .i64 i),.ptr 0 0 0,.ptr 1 0 0] [.box [.ptr 2 0 0],bx s,iY p m 0 3 4 5 0 0 0,.vec 5 (m.out.map cA),.vv (m.ex.map gV) none,.vec 1 (m.lv.map eo)]))
 (A7:H.out.length<99999990)
 (J:gX p I 0 (.ret (.bh [])) (ai ctx 51 [.ptr 0 0 0,.d (.list (b.map dc))] (gW p (H.put (ins 10 0 0 0 0) 0) 0)))
 (A8:H.out.length<I.out.length/\I.out.length<99999990) (E:List Int) (A9:E.length<99999990) (k:Kt) (Q:b7->Prop)
 (M:∀v1 v2 v3 D,Q (aO ctx 135 (.loop (Code.at (bg f135) [1,0,1,0,0])) ⟨49,aD,[(0,true,.ptr 0 0 0),(1,true,.d (.list (blocks.map dR))),(2,true,.d (.int .i64 n)),(3,true,.fn 136 [.ptr 1 0 0,.ptr 2 0 0]),(8,true,.vec 500 D 0 E.length),(12,true,.d (.list (blocks.map dR))),(13,true,.d (.int .i64 blocks.length)),(14,true,.d (.int .i64 (i+1)))],En p (I.lead H.out.length) s E v1 v2 v3 D⟩ k))
 (v1 v2 v3 D:Nat):
 Q (aO ctx 135 (.loop (Code.at (bg f135) [1,0,1,0,0])) ⟨49,aD,[(0,true,.ptr 0 0 0),(1,true,.d (.list (blocks.map dR))),(2,true,.d (.int .i64 n)),(3,true,.fn 136 [.ptr 1 0 0,.ptr 2 0 0]),(8,true,.vec 500 D 0 E.length),(12,true,.d (.list (blocks.map dR))),(13,true,.d (.int .i64 blocks.length)),(14,true,.d (.int .i64 i))],En p m s E v1 v2 v3 D⟩ k):=by
 obtain⟨AA,a2,a3,O⟩:=O;obtain⟨AB,AC,AD,T⟩:=AI p H 1 0 (by omega) (by decide);rw[show (1:Int)+ -1=0 by omega]at T;obtain⟨d1,d2,d3,J⟩:=J;have c:=um p I 0 H.out.length (by omega) (by omega);have y:IntKind.i64.wrap ((i:Int)+1)=(i:Int)+1:=aA (by unfold aY;omega);have A':IntKind.i64.wrap ((blocks.length:Int)-1)=(blocks.length:Int)-1:=aA (by unfold aY;omega);have A0:¬(i:Int)<(blocks.length:Int)-1:=by omega
 have A1:(0:Int)<=H.out.length:=by omega
 generalize I.lead H.out.length=AG at*;generalize H.put (ins 10 0 0 0 0) 0=M2 at*;rw[ag];simp at O T J c;simp[f135]at M⊢;simp[U,V,dR,Z,O,T,J,c,y,A',A0,A1,M]
theorem afm{p:Pg}{s:Sm}{blocks:List (List Sm)}{n i:Nat}{b:List Sm}(U:i<blocks.length)(V:blocks[i]=b)(Z:¬i<n)(A2:n<99999990)(A3:¬i+1<blocks.length)(A4:blocks.length<99999990)
 {m I:Mk}
 (J:gX p I 0 (.ret (.bh [])) (ai ctx 51 [.ptr 0 0 0,.d (.list (b.map dc))] (gW p m 0)))
 (E:List Int) (k:Kt) (Q:b7->Prop)
 (M:∀v1 v2 v3 D,Q (aO ctx 135 (.loop (Code.at (bg f135) [1,0,1,0,0])) ⟨49,aD,[(0,true,.ptr 0 0 0),(1,true,.d (.list (blocks.map dR))),(2,true,.d (.int .i64 n)),(3,true,.fn 136 [.ptr 1 0 0,.ptr 2 0 0]),(8,true,.vec 500 D 0 E.length),(12,true,.d (.list (blocks.map dR))),(13,true,.d (.int .i64 blocks.length)),(14,true,.d (.int .i64 (i+1)))],En p I s E v1 v2 v3 D⟩ k))
 (v1 v2 v3 D:Nat):
 Q (aO ctx 135 (.loop (Code.at (bg f135) [1,0,1,0,0])) ⟨49,aD,[(0,true,.ptr 0 0 0),(1,true,.d (.list (blocks.map dR))),(2,true,.d (.int .i64 n)),(3,true,.fn 136 [.ptr 1 0 0,.ptr 2 0 0]),(8,true,.vec 500 D 0 E.length),(12,true,.d (.list (blocks.map dR))),(13,true,.d (.int .i64 blocks.length)),(14,true,.d (.int .i64 i))],En p m s E v1 v2 v3 D⟩ k):=by
 obtain⟨d1,d2,d3,J⟩:=J;have y:IntKind.i64.wrap ((i:Int)+1)=(i:Int)+1:=aA (by unfold aY;omega);have A':IntKind.i64.wrap ((blocks.length:Int)-1)=(blocks.length:Int)-1:=aA (by unfold aY;omega);have A0:¬(i:Int)<(blocks.length:Int)-1:=by omega
 rw[ag];simp at J;simp[f135]at M⊢;simp[U,V,dR,Z,J,y,A',A0,M]
theorem Fs{p:Pg}{s:Sm}{blocks:List (List Sm)}{n:Nat}{m:Mk}(E:List Int)(k:Kt)(Q:b7->Prop)
 (M:∀(Y:Env) v1 v2 v3 D,Q (k (.exit 0) ⟨49,aD,(0,true,.ptr 0 0 0)::(1,true,.d (.list (blocks.map dR)))::(2,true,.d (.int .i64 n))::(3,true,.fn 136 [.ptr 1 0 0,.ptr 2 0 0])::(8,true,.vec 500 D 0 E.length)::Y,En p m s E v1 v2 v3 D⟩))
 (v1 v2 v3 D:Nat) {i:Nat} (hi:i=blocks.length):
 Q (aO ctx 135 (.loop (Code.at (bg f135) [1,0,1,0,0])) ⟨49,aD,[(0,true,.ptr 0 0 0),(1,true,.d (.list (blocks.map dR))),(2,true,.d (.int .i64 n)),(3,true,.fn 136 [.ptr 1 0 0,.ptr 2 0 0]),(8,true,.vec 500 D 0 E.length),(12,true,.d (.list (blocks.map dR))),(13,true,.d (.int .i64 blocks.length)),(14,true,.d (.int .i64 i))],En p m s E v1 v2 v3 D⟩ k):=by
 subst hi;rw[ag];simp[f135]at M⊢;exact M _ _ _ _ _
def RG(p:Pg)(m:Mk)(h:Int)(s:Sm)(q:Int)(o:Out)(r:b7):Prop:=∃v1 v2 v3,r=some (o,[(0,.box [.ptr 3 0 0]),(0,bx s),(0,.box [.d (.int .i64 q)]),(0,iY p m h 4 5 6 v1 v2 v3),(v1,.vec 5 (m.out.map cA)),(v2,.vv (m.ex.map gV) none),(v3,.vec 1 (m.lv.map eo))])
@[simp] def Eo(p:Pg)(m:Mk)(s:Sm)(q:Int)(E:List Int)(v1 v2 v3 D:Nat):List dk:=[⟨0,0,iY p m 0 4 5 6 v1 v2 v3⟩,⟨1,0,.box [.ptr 0 0 0]⟩,⟨2,0,bx s⟩,⟨3,0,.box [.d (.int .i64 q)]⟩,⟨4,v1,.vec 5 (m.out.map cA)⟩,⟨5,v2,.vv (m.ex.map gV) none⟩,⟨6,v3,.vec 1 (m.lv.map eo)⟩,⟨500,D,.vec 1 (E.map eo)⟩]
theorem afn{p:Pg}{s:Sm}{q:Int}{blocks:List (List Sm)}{n i:Nat}{b:List Sm}(U:i<blocks.length)(V:blocks[i]=b)(Z:i<n)(A2:n<99999990)(A3:i+1<blocks.length)(A4:blocks.length<99999990)
 {m H I:Mk} (O:RG p H 1 s q (.ret (.bh [])) (ai ctx 208 [.d (.int .i64 i),.ptr 0 0 0,.ptr 1 0 0,.ptr 2 0 0] [.box [.ptr 3 0 0],bx s,.box [.d (.int .i64 q)],iY p m 0 4 5 6 0 0 0,.vec 5 (m.out.map cA),.vv (m.ex.map gV) none,.vec 1 (m.lv.map eo)]))
 (A7:H.out.length<99999990)
 (J:gX p I 0 (.ret (.bh [])) (ai ctx 51 [.ptr 0 0 0,.d (.list (b.map dc))] (gW p (H.put (ins 10 0 0 0 0) 0) 0)))
 (A8:H.out.length<I.out.length/\I.out.length<99999990) (E:List Int) (A9:E.length<99999990) (k:Kt) (Q:b7->Prop)
 (M:∀v1 v2 v3 D,Q (aO ctx 135 (.loop (Code.at (bg f135) [1,0,1,0,0])) ⟨49,aD,[(0,true,.ptr 0 0 0),(1,true,.d (.list (blocks.map dR))),(2,true,.d (.int .i64 n)),(3,true,.fn 208 [.ptr 1 0 0,.ptr 2 0 0,.ptr 3 0 0]),(8,true,.vec 500 D 0 (E.length+1)),(12,true,.d (.list (blocks.map dR))),(13,true,.d (.int .i64 blocks.length)),(14,true,.d (.int .i64 (i+1)))],Eo p ((I.put (ins 9 0 0 0 0) 0).lead H.out.length) s q (E++[(I.out.length:Int)]) v1 v2 v3 D⟩ k))
 (v1 v2 v3 D:Nat):
 Q (aO ctx 135 (.loop (Code.at (bg f135) [1,0,1,0,0])) ⟨49,aD,[(0,true,.ptr 0 0 0),(1,true,.d (.list (blocks.map dR))),(2,true,.d (.int .i64 n)),(3,true,.fn 208 [.ptr 1 0 0,.ptr 2 0 0,.ptr 3 0 0]),(8,true,.vec 500 D 0 E.length),(12,true,.d (.list (blocks.map dR))),(13,true,.d (.int .i64 blocks.length)),(14,true,.d (.int .i64 i))],Eo p m s q E v1 v2 v3 D⟩ k):=by
 obtain⟨AA,a2,a3,O⟩:=O;obtain⟨AB,AC,AD,T⟩:=AI p H 1 0 (by omega) (by decide);rw[show (1:Int)+ -1=0 by omega]at T;obtain⟨d1,d2,d3,J⟩:=J;obtain⟨AH,AJ,AK,A5⟩:=Ht p I 0 0 (by omega) (by decide);have A6:(I.put (ins 9 0 0 0 0) 0).out.length=I.out.length+1:=by simp[Mk.put]
 have c:=um p (I.put (ins 9 0 0 0 0) 0) 0 H.out.length (by rw[A6];omega) (by rw[A6];omega);have y:IntKind.i64.wrap ((i:Int)+1)=(i:Int)+1:=aA (by unfold aY;omega);have A':IntKind.i64.wrap ((blocks.length:Int)-1)=(blocks.length:Int)-1:=aA (by unfold aY;omega);have A0:(i:Int)<(blocks.length:Int)-1:=by omega
 have AE:E.length<=4611686018427387903:=by omega
 have AF:(E.length+1)*8<=140737488355328:=by omega
 have A1:(0:Int)<=H.out.length:=by omega
 generalize (I.put (ins 9 0 0 0 0) 0).lead H.out.length=AG at*;generalize I.put (ins 9 0 0 0 0) 0=AL at*;generalize H.put (ins 10 0 0 0 0) 0=M2 at*;rw[ag];simp at O T J A5 c;simp[f135]at M⊢;simp[U,V,dR,Z,O,T,J,A5,c,y,A',A0,AE,AF,A1,M]
theorem afo{p:Pg}{s:Sm}{q:Int}{blocks:List (List Sm)}{n i:Nat}{b:List Sm}(U:i<blocks.length)(V:blocks[i]=b)(Z:i<n)(A2:n<99999990)(A3:¬i+1<blocks.length)(A4:blocks.length<99999990)
 {m H I:Mk} (O:RG p H 1 s q (.ret (.bh [])) (ai ctx 208 [.d (.int .i64 i),.ptr 0 0 0,.ptr 1 0 0,.ptr 2 0 0] [.box [.ptr 3 0 0],bx s,.box [.d (.int .i64 q)],iY p m 0 4 5 6 0 0 0,.vec 5 (m.out.map cA),.vv (m.ex.map gV) none,.vec 1 (m.lv.map eo)]))
 (A7:H.out.length<99999990)
 (J:gX p I 0 (.ret (.bh [])) (ai ctx 51 [.ptr 0 0 0,.d (.list (b.map dc))] (gW p (H.put (ins 10 0 0 0 0) 0) 0)))
 (A8:H.out.length<I.out.length/\I.out.length<99999990) (E:List Int) (A9:E.length<99999990) (k:Kt) (Q:b7->Prop)
 (M:∀v1 v2 v3 D,Q (aO ctx 135 (.loop (Code.at (bg f135) [1,0,1,0,0])) ⟨49,aD,[(0,true,.ptr 0 0 0),(1,true,.d (.list (blocks.map dR))),(2,true,.d (.int .i64 n)),(3,true,.fn 208 [.ptr 1 0 0,.ptr 2 0 0,.ptr 3 0 0]),(8,true,.vec 500 D 0 E.length),(12,true,.d (.list (blocks.map dR))),(13,true,.d (.int .i64 blocks.length)),(14,true,.d (.int .i64 (i+1)))],Eo p (I.lead H.out.length) s q E v1 v2 v3 D⟩ k))
 (v1 v2 v3 D:Nat):
 Q (aO ctx 135 (.loop (Code.at (bg f135) [1,0,1,0,0])) ⟨49,aD,[(0,true,.ptr 0 0 0),(1,true,.d (.list (blocks.map dR))),(2,true,.d (.int .i64 n)),(3,true,.fn 208 [.ptr 1 0 0,.ptr 2 0 0,.ptr 3 0 0]),(8,true,.vec 500 D 0 E.length),(12,true,.d (.list (blocks.map dR))),(13,true,.d (.int .i64 blocks.length)),(14,true,.d (.int .i64 i))],Eo p m s q E v1 v2 v3 D⟩ k):=by
 obtain⟨AA,a2,a3,O⟩:=O;obtain⟨AB,AC,AD,T⟩:=AI p H 1 0 (by omega) (by decide);rw[show (1:Int)+ -1=0 by omega]at T;obtain⟨d1,d2,d3,J⟩:=J;have c:=um p I 0 H.out.length (by omega) (by omega);have y:IntKind.i64.wrap ((i:Int)+1)=(i:Int)+1:=aA (by unfold aY;omega);have A':IntKind.i64.wrap ((blocks.length:Int)-1)=(blocks.length:Int)-1:=aA (by unfold aY;omega);have A0:¬(i:Int)<(blocks.length:Int)-1:=by omega
 have A1:(0:Int)<=H.out.length:=by omega
 generalize I.lead H.out.length=AG at*;generalize H.put (ins 10 0 0 0 0) 0=M2 at*;rw[ag];simp at O T J c;simp[f135]at M⊢;simp[U,V,dR,Z,O,T,J,c,y,A',A0,A1,M]
theorem afp{p:Pg}{s:Sm}{q:Int}{blocks:List (List Sm)}{n i:Nat}{b:List Sm}(U:i<blocks.length)(V:blocks[i]=b)(Z:¬i<n)(A2:n<99999990)(A3:¬i+1<blocks.length)(A4:blocks.length<99999990)
 {m I:Mk}
 (J:gX p I 0 (.ret (.bh [])) (ai ctx 51 [.ptr 0 0 0,.d (.list (b.map dc))] (gW p m 0)))
 (E:List Int) (k:Kt) (Q:b7->Prop)
 (M:∀v1 v2 v3 D,Q (aO ctx 135 (.loop (Code.at (bg f135) [1,0,1,0,0])) ⟨49,aD,[(0,true,.ptr 0 0 0),(1,true,.d (.list (blocks.map dR))),(2,true,.d (.int .i64 n)),(3,true,.fn 208 [.ptr 1 0 0,.ptr 2 0 0,.ptr 3 0 0]),(8,true,.vec 500 D 0 E.length),(12,true,.d (.list (blocks.map dR))),(13,true,.d (.int .i64 blocks.length)),(14,true,.d (.int .i64 (i+1)))],Eo p I s q E v1 v2 v3 D⟩ k))
 (v1 v2 v3 D:Nat):
 Q (aO ctx 135 (.loop (Code.at (bg f135) [1,0,1,0,0])) ⟨49,aD,[(0,true,.ptr 0 0 0),(1,true,.d (.list (blocks.map dR))),(2,true,.d (.int .i64 n)),(3,true,.fn 208 [.ptr 1 0 0,.ptr 2 0 0,.ptr 3 0 0]),(8,true,.vec 500 D 0 E.length),(12,true,.d (.list (blocks.map dR))),(13,true,.d (.int .i64 blocks.length)),(14,true,.d (.int .i64 i))],Eo p m s q E v1 v2 v3 D⟩ k):=by
 obtain⟨d1,d2,d3,J⟩:=J;have y:IntKind.i64.wrap ((i:Int)+1)=(i:Int)+1:=aA (by unfold aY;omega);have A':IntKind.i64.wrap ((blocks.length:Int)-1)=(blocks.length:Int)-1:=aA (by unfold aY;omega);have A0:¬(i:Int)<(blocks.length:Int)-1:=by omega
 rw[ag];simp at J;simp[f135]at M⊢;simp[U,V,dR,Z,J,y,A',A0,M]
theorem Ft{p:Pg}{s:Sm}{q:Int}{blocks:List (List Sm)}{n:Nat}{m:Mk}(E:List Int)(k:Kt)(Q:b7->Prop)
 (M:∀(Y:Env) v1 v2 v3 D,Q (k (.exit 0) ⟨49,aD,(0,true,.ptr 0 0 0)::(1,true,.d (.list (blocks.map dR)))::(2,true,.d (.int .i64 n))::(3,true,.fn 208 [.ptr 1 0 0,.ptr 2 0 0,.ptr 3 0 0])::(8,true,.vec 500 D 0 E.length)::Y,Eo p m s q E v1 v2 v3 D⟩))
 (v1 v2 v3 D:Nat) {i:Nat} (hi:i=blocks.length):
 Q (aO ctx 135 (.loop (Code.at (bg f135) [1,0,1,0,0])) ⟨49,aD,[(0,true,.ptr 0 0 0),(1,true,.d (.list (blocks.map dR))),(2,true,.d (.int .i64 n)),(3,true,.fn 208 [.ptr 1 0 0,.ptr 2 0 0,.ptr 3 0 0]),(8,true,.vec 500 D 0 E.length),(12,true,.d (.list (blocks.map dR))),(13,true,.d (.int .i64 blocks.length)),(14,true,.d (.int .i64 i))],Eo p m s q E v1 v2 v3 D⟩ k):=by
 subst hi;rw[ag];simp[f135]at M⊢;exact M _ _ _ _ _
@[simp] theorem awU:List.range 7=[0,1,2,3,4,5,6]:=rfl
@[simp] theorem awV:List.range 8=[0,1,2,3,4,5,6,7]:=rfl
@[simp] def mqL(p:Pg)(m:Mk)(h:Int)(s:Sm)(q:Int)(v1 v2 v3:Nat):List dk:=[⟨0,0,.box [.ptr 3 0 0]⟩,⟨1,0,bx s⟩,⟨2,0,.box [.d (.int .i64 q)]⟩,⟨3,0,iY p m h 4 5 6 v1 v2 v3⟩,⟨4,v1,.vec 5 (m.out.map cA)⟩,⟨5,v2,.vv (m.ex.map gV) none⟩,⟨6,v3,.vec 1 (m.lv.map eo)⟩]
theorem J3{p:Pg}{s:Sm}{q:Int}(l:List Int)(I:l.length<99999990)(k:Kt)(Q:Mk->b7->Prop)
 (E:∀(Y:Env) M v1 v2 v3,Q M (k (.exit 0) ⟨38,aD,Y,mqL p M 1 s q v1 v2 v3⟩)):
 ∀(rest pre:List Int)(m:Mk)(v1 v2 v3:Nat),l=pre++rest->rest.length%2=0->0<=m.most->m.out.length+rest.length<99999990->2<=m.most\/rest≠[]->
 Q (m.aE (dX q rest) 2) (aO ctx 208 (.loop (Code.at (bg f208) [1,1,1,0,0])) ⟨38,aD,[(1,true,.ptr 0 0 0),(3,true,.ptr 2 0 0),(5,true,.d (.list (l.map λn=>.int .i64 n))),(6,true,.d (.int .i64 pre.length))],mqL p m 1 s q v1 v2 v3⟩ k)
 |[],pre,m,v1,v2,v3,D,he,hm,H,J=>by
  have y:pre.length=l.length:=by rw[D];simp
  have e:m.aE (dX q []) 2=m:=by
   simp[dX,Mk.aE];cases m;simp at hm J⊢;omega
  rw[e];have O:IntKind.i64.wrap ((l.length:Int)+1)=(l.length:Int)+1:=aA (by unfold aY;omega);have T:¬(l.length:Int)+1<l.length:=by omega
  rw[y,ag];simp at E;simp[f208,O,T,E]
 |[a],pre,m,v1,v2,v3,D,he,hm,H,J=>by simp at he
 |a::b::rest,pre,m,v1,v2,v3,D,he,hm,H,J=>by
  simp only[acq]at H he;obtain⟨A',A0,A1,g1⟩:=kX p m 1 1 (ins 14 q 0 a b) (by omega) (by decide);obtain⟨d1,d2,d3,g2⟩:=kX p (m.put (ins 14 q 0 a b) (1+1)) (1+1) (-1) (ins 8 1 21 0 0) (by simp[Mk.put];omega) (by decide);have e:m.aE (dX q (a::b::rest)) 2=((m.put (ins 14 q 0 a b) (1+1)).put (ins 8 1 21 0 0) (1+1+ -1)).aE (dX q rest) 2:=by
   simp only[dX,Mk.put,Mk.aE,Mk.mk.injEq];simp;omega
  rw[e];have ih:=λv1 v2 v3=>J3 (p:=p) (s:=s) (q:=q) l I k Q E rest (pre++[a,b]) ((m.put (ins 14 q 0 a b) (1+1)).put (ins 8 1 21 0 0) (1+1+ -1)) v1 v2 v3 (by simp[D]) (by omega) (by simp[Mk.put];omega) (by simp[Mk.put];omega) (by simp[Mk.put];omega);clear E e;generalize (m.put (ins 14 q 0 a b) (1+1)).put (ins 8 1 21 0 0) (1+1+ -1)=M at*;generalize m.put (ins 14 q 0 a b) (1+1)=N at*;have A7:l.length=pre.length+(rest.length+2):=by rw[D];simp
  have O:IntKind.i64.wrap ((pre.length:Int)+1)=(pre.length:Int)+1:=aA (by unfold aY;omega);have T:(pre.length:Int)+1<l.length:=by omega
  have A2:IntKind.i64.wrap ((pre.length:Int)+2)=(pre.length:Int)+2:=aA (by unfold aY;omega);have i1:pre.length<l.length:=by omega
  have i2:l[pre.length]=a:=by simp[D]
  have i3:pre.length+1<l.length:=by omega
  have i4:l[pre.length+1]=b:=by simp[D]
  have i5:((pre.length:Int)+1).toNat=pre.length+1:=by omega
  have i6:(0:Int)<=(pre.length:Int)+1:=by omega
  rw[ag];simp[ins]at g1 g2;simp[f208]at ih⊢;simp[O,T,A2,i1,i2,i3,i4,i5,i6,g1,g2,ay,ih]
theorem abS{p:Pg}(s:Sm)(q:Int)(i:Nat)(l:List Int)(U:(ff s)[i]?=some l)(V:sE l=true)(m:Mk)(hm:0<=m.most)(H:m.out.length+l.length+1<99999990):
 RG p (m.aE (ins 1 0 0 0 0::dX q l) 2) 1 s q (.ret (.bh [])) (ai ctx 208 [.d (.int .i64 i),.ptr 0 0 0,.ptr 1 0 0,.ptr 2 0 0] [.box [.ptr 3 0 0],bx s,.box [.d (.int .i64 q)],iY p m 0 4 5 6 0 0 0,.vec 5 (m.out.map cA),.vv (m.ex.map gV) none,.vec 1 (m.lv.map eo)]):=by
 have I:l.length<99999990:=by omega
 simp only[sE,Ds,agD,acn,afY]at V;obtain⟨A3,Z,_⟩:=V;obtain⟨A',A0,A1,g1⟩:=kX p m 0 1 (ins 1 0 0 0 0) (by omega) (by decide);have e:m.aE (ins 1 0 0 0 0::dX q l) 2=(m.put (ins 1 0 0 0 0) (0+1)).aE (dX q l) 2:=by
  simp only[Mk.put,Mk.aE,Mk.mk.injEq];simp;omega
 rw[e];have c:=λk Q E v1 v2 v3=>J3 (p:=p) (s:=s) (q:=q) l I k Q E l [] (m.put (ins 1 0 0 0 0) (0+1)) v1 v2 v3 rfl (by omega) (by simp[Mk.put];omega) (by simp[Mk.put];omega) (.inr (by intro h;simp[h]at A3));generalize (m.put (ins 1 0 0 0 0) (0+1)).aE (dX q l) 2=M at*;generalize m.put (ins 1 0 0 0 0) (0+1)=N at*;have A4:i<(ff s).length:=(ace.1 U).1;have Z:(ff s)[i]=l:=(ace.1 U).2;rw[aiz (by simp)];simp[ins]at g1;simp[f208]at c⊢;simp[g1,A4,Z,pt];refine c _ (λX r=>X=M->RG p M 1 s q (.ret (.bh [])) r) (λY X v1 v2 v3 A5=>?_) _ _ _ rfl;subst A5;have A6:List.range 7=[0,1,2,3,4,5,6]:=rfl;simp[A6];exact⟨_,_,_,rfl⟩
theorem xY(vs:List Vr):∀(l:List (List Sm))(c:Int),(aC vs l c).1.length=l.length
 |[],c=>by simp[aC]
 |b::r,c=>by simp[aC,xY vs r]
theorem N1{vs:List Vr}{l:List (List Sm)}{c:Int}:(aC vs l c).1=[]↔l=[]:=by
 constructor
 ·intro h;have:=xY vs l c;rw[h]at this;exact wG this.symm
 ·rintro rfl;simp[aC]
theorem YM(t:List ak)(ts:List (List ak))(b:List ak)(r:List (List ak)):t.length+1+b.length+(if r=[]then 0 else 1+(cI ts r).length)<=(cI (t::ts) (b::r)).length:=by
 simp only[cI];by_cases h:r=[]
 ·subst h;simp[eO];omega
 ·simp[h,eO];omega
theorem DI(m:Mk)(t:List ak×Int):(m.gY t).out.length=m.out.length+t.1.length+1:=by simp[Mk.gY,Mk.aE,Mk.put];omega
theorem xZ{m:Mk}{ts:List (List ak×Int)}{bs:List (List ak)}{c t u:Int}(h:max m.most t=max m.most u):m.dS ts bs c t=m.dS ts bs c u:=by
 unfold Mk.dS;rw[h]
theorem AL{vs:List Vr}:∀(l:List (List Sm))(c:Int),0<=c->(∀b∈l,∀c,0<=c->c<=(ah vs b c).2)->c<=(aC vs l c).2
 |[],c,_,_=>by simp[aC]
 |b::r,c,AD,h=>by
  have T:=h b (by simp) c AD;have V:=AL r (ah vs b c).2 (by omega) (λb A2=>h b (by simp[A2]));simp only[aC];omega
section
variable {p:Pg} {lp:Bool}
theorem N3{s:Sm}{blocks:List (List Sm)}{ts:List (List ak×Int)}(A9:blocks.length<99999990)(AS:ts.length<=blocks.length)(AT:blocks.length<=ts.length+1)
 (AK:∀(i:Nat)(t:List ak×Int),ts[i]?=some t->∀m:Mk,0<=m.most->m.out.length+t.1.length<99999990->J2 p (m.aE t.1 t.2) 1 s (.ret (.bh [])) (ai ctx 136 [.d (.int .i64 i),.ptr 0 0 0,.ptr 1 0 0] [.box [.ptr 2 0 0],bx s,iY p m 0 3 4 5 0 0 0,.vec 5 (m.out.map cA),.vv (m.ex.map gV) none,.vec 1 (m.lv.map eo)]))
 (AE:∀b∈blocks,wJ p lp b) (AF:∀b∈blocks,∀c,0<=c->c<=(ah p.vars b c).2) (k:Kt) (Q:Mk->List Int->b7->Prop)
 (AA:∀(Y:Env) M E v1 v2 v3 I,Q M E (k (.exit 0) ⟨49,aD,(0,true,.ptr 0 0 0)::(1,true,.d (.list (blocks.map dR)))::(2,true,.d (.int .i64 ts.length))::(3,true,.fn 136 [.ptr 1 0 0,.ptr 2 0 0])::(8,true,.vec 500 I 0 E.length)::Y,En p M s E v1 v2 v3 I⟩)):
 ∀(D O:List (List Sm))(H U:List (List ak×Int))(m:Mk)(E:List Int)(v1 v2 v3 I:Nat),blocks=O++D->ts=U++H->(O.length=U.length\/(H=[]/\D=[]))->0<=m.most->0<=m.cells->jR m->(lp=true->m.ex≠[])->
 m.out.length+(cI (ea H) (aC p.vars D m.cells).1).length<99999990->(aC p.vars D m.cells).2<99999990->(∀b∈blocks,m.ex.length+jS b<99999990)->E.length+D.length<99999980->
 Q (m.dS H (aC p.vars D m.cells).1 (aC p.vars D m.cells).2 (max (ek H) (cC D))) (E++gN m.out.length (ea H) (aC p.vars D m.cells).1)
  (aO ctx 135 (.loop (Code.at (bg f135) [1,0,1,0,0])) ⟨49,aD,[(0,true,.ptr 0 0 0),(1,true,.d (.list (blocks.map dR))),(2,true,.d (.int .i64 ts.length)),(3,true,.fn 136 [.ptr 1 0 0,.ptr 2 0 0]),(8,true,.vec 500 I 0 E.length),(12,true,.d (.list (blocks.map dR))),(13,true,.d (.int .i64 blocks.length)),(14,true,.d (.int .i64 O.length))],En p m s E v1 v2 v3 I⟩ k)
 |[],O,H,U,m,E,v1,v2,v3,I,T,V,J,hm,A3,A4,hex,Z,A0,A5,AG=>by
  have AH:H=[]:=by
   rcases J with J|J
   ·have A6:blocks.length=O.length:=by rw[T];simp
    have a2:ts.length=U.length+H.length:=by rw[V];simp
    exact wG (by omega)
   ·exact J.1
  subst AH;have AM:(aC p.vars [] m.cells)=([],m.cells):=by simp[aC]
  have y:m.dS [] (aC p.vars [] m.cells).1 (aC p.vars [] m.cells).2 (max (ek []) (cC []))=m:=by
   rw[AM];have:=N0 m [] hm;simpa [ek,cC]using this
  have A':E++gN m.out.length (ea []) (aC p.vars [] m.cells).1=E:=by rw[AM];simp[gN]
  rw[y,A'];exact Fs E k (Q m E) (λY v1 v2 v3 I=>AA Y m E v1 v2 v3 I) v1 v2 v3 I (by rw[T];simp)
 |b::D,O,[],U,m,E,v1,v2,v3,I,T,V,J,hm,A3,A4,hex,Z,A0,A5,AG=>by
  have J:O.length=U.length:=by
   rcases J with J|J
   ·exact J
   ·cases J.2
  have A6:blocks.length=O.length+(D.length+1):=by rw[T];simp
  have a2:ts.length=U.length:=by rw[V];simp
  have A7:D=[]:=wG (by omega);subst A7;have AI:aC p.vars [b] m.cells=([(ah p.vars b m.cells).1],(ah p.vars b m.cells).2):=by simp[aC]
  rw[AI]at Z A0⊢;have Ab:m.out.length+(ah p.vars b m.cells).1.length<99999990:=by simpa [ea,cI]using Z
  have A1:=AE b (by rw[T];simp) m hm A3 A4 hex (by omega) A0 (A5 b (by rw[T];simp));have y:m.dS [] [(ah p.vars b m.cells).1] (ah p.vars b m.cells).2 (max (ek []) (cC [b]))=m.aU (ah p.vars b m.cells).1 (ah p.vars b m.cells).2 (bu b):=by
   rw[<-RE];exact oT (by simp only[ek,cC];omega)
  have A':E++gN m.out.length (ea []) [(ah p.vars b m.cells).1]=E:=by simp[ea,gN]
  simp only
  rw[y,A'];refine afm (i:=O.length) (b:=b) (by omega) (by simp[T]) (by omega) (by omega) (by omega) A9 A1 E k (Q _ E) (λv1 v2 v3 I=>?_) v1 v2 v3 I;exact Fs E k (Q _ E) (λY v1 v2 v3 I=>AA Y _ E v1 v2 v3 I) v1 v2 v3 I (i:=O.length+1) (by omega)
 |b::D,O,t::H,U,m,E,v1,v2,v3,I,T,V,J,hm,A3,A4,hex,Z,A0,A5,AG=>by
  have J:O.length=U.length:=by
   rcases J with J|J
   ·exact J
   ·cases J.2
  have A6:blocks.length=O.length+(D.length+1):=by rw[T];simp
  have a2:ts.length=U.length+(H.length+1):=by rw[V];simp
  have AI:aC p.vars (b::D) m.cells=((ah p.vars b m.cells).1::(aC p.vars D (ah p.vars b m.cells).2).1,(aC p.vars D (ah p.vars b m.cells).2).2):=by simp[aC]
  rw[AI]at Z A0⊢;have AU:=YM t.1 (ea H) (ah p.vars b m.cells).1 (aC p.vars D (ah p.vars b m.cells).2).1;have Ac:=AF b (by rw[T];simp) m.cells A3;have Ad:=AL D (ah p.vars b m.cells).2 (by omega) (λb A2=>AF b (by rw[T];simp[A2]));have AV:ea (t::H)=t.1::ea H:=rfl;rw[AV]at Z⊢;simp only at A0 Z;have AN:=AK O.length t (by rw[V,J];simp) m hm (by omega);have AW:0<=(m.gY t).most:=by simp[Mk.gY,Mk.aE,Mk.put];omega
  have A1:=AE b (by rw[T];simp) (m.gY t) AW A3 ((A4.aE _ _).put _ _) hex (by rw[DI];show _+(ah p.vars b m.cells).1.length<_;omega) (by show (ah p.vars b m.cells).2<_;omega) (A5 b (by rw[T];simp));have A1:gX p ((m.gY t).aU (ah p.vars b m.cells).1 (ah p.vars b m.cells).2 (bu b)) 0 (.ret (.bh [])) (ai ctx 51 [.ptr 0 0 0,.d (.list (b.map dc))] (gW p ((m.aE t.1 t.2).put (ins 10 0 0 0 0) 0) 0)):=A1;have A8:(m.aE t.1 t.2).out.length=m.out.length+t.1.length:=by simp[Mk.aE]
  have AB:((m.gY t).aU (ah p.vars b m.cells).1 (ah p.vars b m.cells).2 (bu b)).out.length=m.out.length+t.1.length+1+(ah p.vars b m.cells).1.length:=by
   show ((m.gY t).out++dj _ _).length=_;rw[acm,pg,DI]
  have AO:((m.aE t.1 t.2).out.length:Int)=((m.out.length+t.1.length:Nat):Int):=by rw[A8]
  by_cases A7:D=[]
  ·subst A7;have AH:H=[]:=wG (by simp at A6;omega);subst AH;have AX:aC p.vars [] (ah p.vars b m.cells).2=([],(ah p.vars b m.cells).2):=by simp[aC]
   rw[AX];have y:m.dS [t] [(ah p.vars b m.cells).1] (ah p.vars b m.cells).2 (max (ek [t]) (cC [b]))=((m.gY t).aU (ah p.vars b m.cells).1 (ah p.vars b m.cells).2 (bu b)).lead (m.aE t.1 t.2).out.length:=by
    rw[AO,RC m t [] _ _ _ hm];exact xZ (by simp only[ek,cC];omega)
   have A':E++gN m.out.length (t.1::ea []) [(ah p.vars b m.cells).1]=E:=by simp[ea,gN]
   simp only
   rw[y,A'];refine afl (i:=O.length) (b:=b) (by omega) (by simp[T]) (by omega) (by omega) (by simp at A6;omega) A9 AN (by rw[A8];omega) A1 (by rw[A8,AB];omega) E (by omega) k (Q _ E) (λv1 v2 v3 I=>?_) v1 v2 v3 I;exact Fs E k (Q _ E) (λY v1 v2 v3 I=>AA Y _ E v1 v2 v3 I) v1 v2 v3 I (i:=O.length+1) (by simp at A6;omega)
  ·have Ae:0<D.length:=by
    cases D with
    |nil=>exact absurd rfl A7
    |cons _ _=>simp
   have AJ:(aC p.vars D (ah p.vars b m.cells).2).1≠[]:=λh=>A7 (N1.1 h);rw[ach AJ]at AU;refine afk (i:=O.length) (b:=b) (by omega) (by simp[T]) (by omega) (by omega) (by omega) A9 AN (by rw[A8];omega) A1 (by rw[A8,AB];omega) E (by omega) k (Q _ _) (λv1 v2 v3 I=>?_) v1 v2 v3 I;have y:=RD m t H (ah p.vars b m.cells).1 (aC p.vars D (ah p.vars b m.cells).2).1 (ah p.vars b m.cells).2 (aC p.vars D (ah p.vars b m.cells).2).2 (bu b) (max (ek H) (cC D)) hm AJ;have A':gN m.out.length (t.1::ea H) ((ah p.vars b m.cells).1::(aC p.vars D (ah p.vars b m.cells).2).1)=((m.out.length+t.1.length+1+(ah p.vars b m.cells).1.length:Nat):Int)::gN (m.out.length+t.1.length+2+(ah p.vars b m.cells).1.length) (ea H) (aC p.vars D (ah p.vars b m.cells).2).1:=by
    simp only[gN,ach AJ]
   have AP:((((m.gY t).aU (ah p.vars b m.cells).1 (ah p.vars b m.cells).2 (bu b)).put (ins 9 0 0 0 0) 0).lead (m.out.length+t.1.length:Nat)).out.length=m.out.length+t.1.length+2+(ah p.vars b m.cells).1.length:=by
    rw[Fp];show (((m.gY t).aU _ _ _).out++_).length=_;rw[acm,AB];simp;omega
   have AC:((((m.gY t).aU (ah p.vars b m.cells).1 (ah p.vars b m.cells).2 (bu b)).put (ins 9 0 0 0 0) 0).lead (m.out.length+t.1.length:Nat)).cells=(ah p.vars b m.cells).2:=rfl;have AQ:((((m.gY t).aU (ah p.vars b m.cells).1 (ah p.vars b m.cells).2 (bu b)).put (ins 9 0 0 0 0) 0).lead (m.out.length+t.1.length:Nat)).ex.length=m.ex.length:=by
    show (iZ m.ex _).length=_;simp
   have AY:0<=((((m.gY t).aU (ah p.vars b m.cells).1 (ah p.vars b m.cells).2 (bu b)).put (ins 9 0 0 0 0) 0).lead (m.out.length+t.1.length:Nat)).most:=by
    simp[Mk.lead,Mk.put,Mk.aU];omega
   have AZ:m.dS (t::H) ((ah p.vars b m.cells).1::(aC p.vars D (ah p.vars b m.cells).2).1) (aC p.vars D (ah p.vars b m.cells).2).2 (max (ek (t::H)) (cC (b::D)))=((((m.gY t).aU (ah p.vars b m.cells).1 (ah p.vars b m.cells).2 (bu b)).put (ins 9 0 0 0 0) 0).lead (m.out.length+t.1.length:Nat)).dS H (aC p.vars D (ah p.vars b m.cells).2).1 (aC p.vars D (ah p.vars b m.cells).2).2 (max (ek H) (cC D)):=by
    rw[y];exact xZ (by simp only[ek,cC];omega)
   have ih:=N3 A9 AS AT AK AE AF k Q AA D (O++[b]) H (U++[t]) ((((m.gY t).aU (ah p.vars b m.cells).1 (ah p.vars b m.cells).2 (bu b)).put (ins 9 0 0 0 0) 0).lead (m.out.length+t.1.length:Nat)) (E++[((m.out.length+t.1.length+1+(ah p.vars b m.cells).1.length:Nat):Int)]) v1 v2 v3 I (by simp[T]) (by simp[V]) (.inl (by simp[J])) AY (by rw[AC];omega) ((((((A4.aE _ _).put _ _).aU _ _ _).put _ _).lead _)) (λh=>by
    intro AD;have:=AQ;rw[AD]at this;have A_:=hex h;cases AR:m.ex with
    |nil=>exact A_ AR
    |cons _ _=>rw[AR]at this;simp at this) (by rw[AP,AC];omega) (by rw[AC];omega) (λb A2=>by rw[AQ];exact A5 b A2) (by simp at AG⊢;omega)
   rw[AP,AC]at ih;simp only
   rw[AZ,A',AO,AB];have Aa:E++((m.out.length+t.1.length+1+(ah p.vars b m.cells).1.length:Nat):Int)::gN (m.out.length+t.1.length+2+(ah p.vars b m.cells).1.length) (ea H) (aC p.vars D (ah p.vars b m.cells).2).1=E++[((m.out.length+t.1.length+1+(ah p.vars b m.cells).1.length:Nat):Int)]++gN (m.out.length+t.1.length+2+(ah p.vars b m.cells).1.length) (ea H) (aC p.vars D (ah p.vars b m.cells).2).1:=by simp
   rw[Aa];simpa using ih
end
section
variable {p:Pg} {lp:Bool}
theorem N5{s:Sm}{q:Int}{blocks:List (List Sm)}{ts:List (List ak×Int)}(A8:blocks.length<99999990)(AR:ts.length<=blocks.length)(AS:blocks.length<=ts.length+1)
 (AJ:∀(i:Nat)(t:List ak×Int),ts[i]?=some t->∀m:Mk,0<=m.most->m.out.length+t.1.length<99999990->RG p (m.aE t.1 t.2) 1 s q (.ret (.bh [])) (ai ctx 208 [.d (.int .i64 i),.ptr 0 0 0,.ptr 1 0 0,.ptr 2 0 0] [.box [.ptr 3 0 0],bx s,.box [.d (.int .i64 q)],iY p m 0 4 5 6 0 0 0,.vec 5 (m.out.map cA),.vv (m.ex.map gV) none,.vec 1 (m.lv.map eo)]))
 (AC:∀b∈blocks,wJ p lp b) (AD:∀b∈blocks,∀c,0<=c->c<=(ah p.vars b c).2) (k:Kt) (Q:Mk->List Int->b7->Prop)
 (A9:∀(Y:Env) M E v1 v2 v3 I,Q M E (k (.exit 0) ⟨49,aD,(0,true,.ptr 0 0 0)::(1,true,.d (.list (blocks.map dR)))::(2,true,.d (.int .i64 ts.length))::(3,true,.fn 208 [.ptr 1 0 0,.ptr 2 0 0,.ptr 3 0 0])::(8,true,.vec 500 I 0 E.length)::Y,Eo p M s q E v1 v2 v3 I⟩)):
 ∀(D O:List (List Sm))(H U:List (List ak×Int))(m:Mk)(E:List Int)(v1 v2 v3 I:Nat),blocks=O++D->ts=U++H->(O.length=U.length\/(H=[]/\D=[]))->0<=m.most->0<=m.cells->jR m->(lp=true->m.ex≠[])->
 m.out.length+(cI (ea H) (aC p.vars D m.cells).1).length<99999990->(aC p.vars D m.cells).2<99999990->(∀b∈blocks,m.ex.length+jS b<99999990)->E.length+D.length<99999980->
 Q (m.dS H (aC p.vars D m.cells).1 (aC p.vars D m.cells).2 (max (ek H) (cC D))) (E++gN m.out.length (ea H) (aC p.vars D m.cells).1)
  (aO ctx 135 (.loop (Code.at (bg f135) [1,0,1,0,0])) ⟨49,aD,[(0,true,.ptr 0 0 0),(1,true,.d (.list (blocks.map dR))),(2,true,.d (.int .i64 ts.length)),(3,true,.fn 208 [.ptr 1 0 0,.ptr 2 0 0,.ptr 3 0 0]),(8,true,.vec 500 I 0 E.length),(12,true,.d (.list (blocks.map dR))),(13,true,.d (.int .i64 blocks.length)),(14,true,.d (.int .i64 O.length))],Eo p m s q E v1 v2 v3 I⟩ k)
 |[],O,H,U,m,E,v1,v2,v3,I,T,V,J,hm,A2,A3,hex,Z,A0,A4,AE=>by
  have AF:H=[]:=by
   rcases J with J|J
   ·have A5:blocks.length=O.length:=by rw[T];simp
    have a2:ts.length=U.length+H.length:=by rw[V];simp
    exact wG (by omega)
   ·exact J.1
  subst AF;have AK:(aC p.vars [] m.cells)=([],m.cells):=by simp[aC]
  have y:m.dS [] (aC p.vars [] m.cells).1 (aC p.vars [] m.cells).2 (max (ek []) (cC []))=m:=by
   rw[AK];have:=N0 m [] hm;simpa [ek,cC]using this
  have A':E++gN m.out.length (ea []) (aC p.vars [] m.cells).1=E:=by rw[AK];simp[gN]
  rw[y,A'];exact Ft E k (Q m E) (λY v1 v2 v3 I=>A9 Y m E v1 v2 v3 I) v1 v2 v3 I (by rw[T];simp)
 |b::D,O,[],U,m,E,v1,v2,v3,I,T,V,J,hm,A2,A3,hex,Z,A0,A4,AE=>by
  have J:O.length=U.length:=by
   rcases J with J|J
   ·exact J
   ·cases J.2
  have A5:blocks.length=O.length+(D.length+1):=by rw[T];simp
  have a2:ts.length=U.length:=by rw[V];simp
  have A6:D=[]:=wG (by omega);subst A6;have AG:aC p.vars [b] m.cells=([(ah p.vars b m.cells).1],(ah p.vars b m.cells).2):=by simp[aC]
  rw[AG]at Z A0⊢;have Ab:m.out.length+(ah p.vars b m.cells).1.length<99999990:=by simpa [ea,cI]using Z
  have A1:=AC b (by rw[T];simp) m hm A2 A3 hex (by omega) A0 (A4 b (by rw[T];simp));have y:m.dS [] [(ah p.vars b m.cells).1] (ah p.vars b m.cells).2 (max (ek []) (cC [b]))=m.aU (ah p.vars b m.cells).1 (ah p.vars b m.cells).2 (bu b):=by
   rw[<-RE];exact oT (by simp only[ek,cC];omega)
  have A':E++gN m.out.length (ea []) [(ah p.vars b m.cells).1]=E:=by simp[ea,gN]
  simp only
  rw[y,A'];refine afp (i:=O.length) (b:=b) (by omega) (by simp[T]) (by omega) (by omega) (by omega) A8 A1 E k (Q _ E) (λv1 v2 v3 I=>?_) v1 v2 v3 I;exact Ft E k (Q _ E) (λY v1 v2 v3 I=>A9 Y _ E v1 v2 v3 I) v1 v2 v3 I (i:=O.length+1) (by omega)
 |b::D,O,t::H,U,m,E,v1,v2,v3,I,T,V,J,hm,A2,A3,hex,Z,A0,A4,AE=>by
  have J:O.length=U.length:=by
   rcases J with J|J
   ·exact J
   ·cases J.2
  have A5:blocks.length=O.length+(D.length+1):=by rw[T];simp
  have a2:ts.length=U.length+(H.length+1):=by rw[V];simp
  have AG:aC p.vars (b::D) m.cells=((ah p.vars b m.cells).1::(aC p.vars D (ah p.vars b m.cells).2).1,(aC p.vars D (ah p.vars b m.cells).2).2):=by simp[aC]
  rw[AG]at Z A0⊢;have AT:=YM t.1 (ea H) (ah p.vars b m.cells).1 (aC p.vars D (ah p.vars b m.cells).2).1;have Ac:=AD b (by rw[T];simp) m.cells A2;have Ad:=AL D (ah p.vars b m.cells).2 (by omega) (λb AH=>AD b (by rw[T];simp[AH]));have AU:ea (t::H)=t.1::ea H:=rfl;rw[AU]at Z⊢;simp only at A0 Z;have AM:=AJ O.length t (by rw[V,J];simp) m hm (by omega);have AV:0<=(m.gY t).most:=by simp[Mk.gY,Mk.aE,Mk.put];omega
  have A1:=AC b (by rw[T];simp) (m.gY t) AV A2 ((A3.aE _ _).put _ _) hex (by rw[DI];show _+(ah p.vars b m.cells).1.length<_;omega) (by show (ah p.vars b m.cells).2<_;omega) (A4 b (by rw[T];simp));have A1:gX p ((m.gY t).aU (ah p.vars b m.cells).1 (ah p.vars b m.cells).2 (bu b)) 0 (.ret (.bh [])) (ai ctx 51 [.ptr 0 0 0,.d (.list (b.map dc))] (gW p ((m.aE t.1 t.2).put (ins 10 0 0 0 0) 0) 0)):=A1;have A7:(m.aE t.1 t.2).out.length=m.out.length+t.1.length:=by simp[Mk.aE]
  have AA:((m.gY t).aU (ah p.vars b m.cells).1 (ah p.vars b m.cells).2 (bu b)).out.length=m.out.length+t.1.length+1+(ah p.vars b m.cells).1.length:=by
   show ((m.gY t).out++dj _ _).length=_;rw[acm,pg,DI]
  have AN:((m.aE t.1 t.2).out.length:Int)=((m.out.length+t.1.length:Nat):Int):=by rw[A7]
  by_cases A6:D=[]
  ·subst A6;have AF:H=[]:=wG (by simp at A5;omega);subst AF;have AW:aC p.vars [] (ah p.vars b m.cells).2=([],(ah p.vars b m.cells).2):=by simp[aC]
   rw[AW];have y:m.dS [t] [(ah p.vars b m.cells).1] (ah p.vars b m.cells).2 (max (ek [t]) (cC [b]))=((m.gY t).aU (ah p.vars b m.cells).1 (ah p.vars b m.cells).2 (bu b)).lead (m.aE t.1 t.2).out.length:=by
    rw[AN,RC m t [] _ _ _ hm];exact xZ (by simp only[ek,cC];omega)
   have A':E++gN m.out.length (t.1::ea []) [(ah p.vars b m.cells).1]=E:=by simp[ea,gN]
   simp only
   rw[y,A'];refine afo (i:=O.length) (b:=b) (by omega) (by simp[T]) (by omega) (by omega) (by simp at A5;omega) A8 AM (by rw[A7];omega) A1 (by rw[A7,AA];omega) E (by omega) k (Q _ E) (λv1 v2 v3 I=>?_) v1 v2 v3 I;exact Ft E k (Q _ E) (λY v1 v2 v3 I=>A9 Y _ E v1 v2 v3 I) v1 v2 v3 I (i:=O.length+1) (by simp at A5;omega)
  ·have Ae:0<D.length:=by
    cases D with
    |nil=>exact absurd rfl A6
    |cons _ _=>simp
   have AI:(aC p.vars D (ah p.vars b m.cells).2).1≠[]:=λh=>A6 (N1.1 h);rw[ach AI]at AT;refine afn (i:=O.length) (b:=b) (by omega) (by simp[T]) (by omega) (by omega) (by omega) A8 AM (by rw[A7];omega) A1 (by rw[A7,AA];omega) E (by omega) k (Q _ _) (λv1 v2 v3 I=>?_) v1 v2 v3 I;have y:=RD m t H (ah p.vars b m.cells).1 (aC p.vars D (ah p.vars b m.cells).2).1 (ah p.vars b m.cells).2 (aC p.vars D (ah p.vars b m.cells).2).2 (bu b) (max (ek H) (cC D)) hm AI;have A':gN m.out.length (t.1::ea H) ((ah p.vars b m.cells).1::(aC p.vars D (ah p.vars b m.cells).2).1)=((m.out.length+t.1.length+1+(ah p.vars b m.cells).1.length:Nat):Int)::gN (m.out.length+t.1.length+2+(ah p.vars b m.cells).1.length) (ea H) (aC p.vars D (ah p.vars b m.cells).2).1:=by
    simp only[gN,ach AI]
   have AO:((((m.gY t).aU (ah p.vars b m.cells).1 (ah p.vars b m.cells).2 (bu b)).put (ins 9 0 0 0 0) 0).lead (m.out.length+t.1.length:Nat)).out.length=m.out.length+t.1.length+2+(ah p.vars b m.cells).1.length:=by
    rw[Fp];show (((m.gY t).aU _ _ _).out++_).length=_;rw[acm,AA];simp;omega
   have AB:((((m.gY t).aU (ah p.vars b m.cells).1 (ah p.vars b m.cells).2 (bu b)).put (ins 9 0 0 0 0) 0).lead (m.out.length+t.1.length:Nat)).cells=(ah p.vars b m.cells).2:=rfl;have AP:((((m.gY t).aU (ah p.vars b m.cells).1 (ah p.vars b m.cells).2 (bu b)).put (ins 9 0 0 0 0) 0).lead (m.out.length+t.1.length:Nat)).ex.length=m.ex.length:=by
    show (iZ m.ex _).length=_;simp
   have AX:0<=((((m.gY t).aU (ah p.vars b m.cells).1 (ah p.vars b m.cells).2 (bu b)).put (ins 9 0 0 0 0) 0).lead (m.out.length+t.1.length:Nat)).most:=by
    simp[Mk.lead,Mk.put,Mk.aU];omega
   have AY:m.dS (t::H) ((ah p.vars b m.cells).1::(aC p.vars D (ah p.vars b m.cells).2).1) (aC p.vars D (ah p.vars b m.cells).2).2 (max (ek (t::H)) (cC (b::D)))=((((m.gY t).aU (ah p.vars b m.cells).1 (ah p.vars b m.cells).2 (bu b)).put (ins 9 0 0 0 0) 0).lead (m.out.length+t.1.length:Nat)).dS H (aC p.vars D (ah p.vars b m.cells).2).1 (aC p.vars D (ah p.vars b m.cells).2).2 (max (ek H) (cC D)):=by
    rw[y];exact xZ (by simp only[ek,cC];omega)
   have ih:=N5 A8 AR AS AJ AC AD k Q A9 D (O++[b]) H (U++[t]) ((((m.gY t).aU (ah p.vars b m.cells).1 (ah p.vars b m.cells).2 (bu b)).put (ins 9 0 0 0 0) 0).lead (m.out.length+t.1.length:Nat)) (E++[((m.out.length+t.1.length+1+(ah p.vars b m.cells).1.length:Nat):Int)]) v1 v2 v3 I (by simp[T]) (by simp[V]) (.inl (by simp[J])) AX (by rw[AB];omega) ((((((A3.aE _ _).put _ _).aU _ _ _).put _ _).lead _)) (λh=>by
    intro AZ;have:=AP;rw[AZ]at this;have A_:=hex h;cases AQ:m.ex with
    |nil=>exact A_ AQ
    |cons _ _=>rw[AQ]at this;simp at this) (by rw[AO,AB];omega) (by rw[AB];omega) (λb AH=>by rw[AP];exact A4 b AH) (by simp at AE⊢;omega)
   rw[AO,AB]at ih;simp only
   rw[AY,A',AN,AA];have Aa:E++((m.out.length+t.1.length+1+(ah p.vars b m.cells).1.length:Nat):Int)::gN (m.out.length+t.1.length+2+(ah p.vars b m.cells).1.length) (ea H) (aC p.vars D (ah p.vars b m.cells).2).1=E++[((m.out.length+t.1.length+1+(ah p.vars b m.cells).1.length:Nat):Int)]++gN (m.out.length+t.1.length+2+(ah p.vars b m.cells).1.length) (ea H) (aC p.vars D (ah p.vars b m.cells).2).1:=by simp
   rw[Aa];simpa using ih
end
theorem HA:∀(n:Nat)(ts bs:List (List ak)),∀i∈gN n ts bs,∃k:Nat,i=k/\k<n+(lO 0 n ts bs).length
 |_,_,[],i,h=>by simp[gN]at h
 |n,[],b::r,i,h=>by
  simp only[gN,lO]at h⊢;by_cases I:r=[]
  ·rw[acs I]at h;simp at h
  ·rw[ach I]at h⊢;rcases aco.1 h with rfl|h
   ·exact⟨_,rfl,by simp⟩
   ·obtain⟨k,e,J⟩:=HA (n+b.length+1) [] r i h;exact⟨k,e,by simp;omega⟩
 |n,t::ts,b::r,i,h=>by
  simp only[gN,lO]at h⊢;by_cases I:r=[]
  ·rw[acs I]at h;simp at h
  ·rw[ach I]at h⊢;rcases aco.1 h with rfl|h
   ·exact⟨_,rfl,by simp;omega⟩
   ·obtain⟨k,e,J⟩:=HA (n+t.length+2+b.length) ts r i h;exact⟨k,e,by simp;omega⟩
theorem qM{m:Mk}{ts:List (List ak×Int)}{bs:List (List ak)}{c t:Int}(Z:∀x∈ea ts,Flat x):(m.dS ts bs c t).cW (gN m.out.length (ea ts) bs)=m.aU (cI (ea ts) bs) c t:=by
 unfold Mk.cW Mk.dS Mk.aU;simp only[Mk.mk.injEq,akC,apg];refine⟨?_,by rw[Hp (by decide) _ _ _ Z],by rw[Hp (by decide) _ _ _ Z]⟩;have:=afb (pre:=m.out) rfl (ts:=ea ts) (bs:=bs) Z;rw[<-this];congr 1;simp[zx]
theorem DJ:∀(n:Nat)(ts bs:List (List ak)),(gN n ts bs).length<=bs.length
 |_,_,[]=>by simp[gN]
 |n,[],b::r=>by
  simp only[gN];split
  ·simp
  ·have:=DJ (n+b.length+1) [] r;simp;omega
 |n,t::ts,b::r=>by
  simp only[gN];split
  ·simp
  ·have:=DJ (n+t.length+2+b.length) ts r;simp;omega
def MkJ(p:Pg)(m:Mk)(s:Sm)(r:b7):Prop:=∃v1 v2 v3,r=some (.ret (.bh []),[(0,iY p m 0 3 4 5 v1 v2 v3),(0,.box [.ptr 0 0 0]),(0,bx s),(v1,.vec 5 (m.out.map cA)),(v2,.vv (m.ex.map gV) none),(v3,.vec 1 (m.lv.map eo))])
def MkK(p:Pg)(m:Mk)(s:Sm)(q:Int)(r:b7):Prop:=∃v1 v2 v3,r=some (.ret (.bh []),[(0,iY p m 0 4 5 6 v1 v2 v3),(0,.box [.ptr 0 0 0]),(0,bx s),(0,.box [.d (.int .i64 q)]),(v1,.vec 5 (m.out.map cA)),(v2,.vv (m.ex.map gV) none),(v3,.vec 1 (m.lv.map eo))])
section
variable {p:Pg} {lp:Bool}
theorem UU{s:Sm}{blocks:List (List Sm)}{ts:List (List ak×Int)}(AE:blocks.length<99999980)(y:ts.length<=blocks.length)(A':blocks.length<=ts.length+1)(D:∀x∈ea ts,Flat x)
 (A0:∀(i:Nat)(t:List ak×Int),ts[i]?=some t->∀m:Mk,0<=m.most->m.out.length+t.1.length<99999990->J2 p (m.aE t.1 t.2) 1 s (.ret (.bh [])) (ai ctx 136 [.d (.int .i64 i),.ptr 0 0 0,.ptr 1 0 0] [.box [.ptr 2 0 0],bx s,iY p m 0 3 4 5 0 0 0,.vec 5 (m.out.map cA),.vv (m.ex.map gV) none,.vec 1 (m.lv.map eo)]))
 (A1:∀b∈blocks,wJ p lp b) (A2:∀b∈blocks,∀c,0<=c->c<=(ah p.vars b c).2) (m:Mk) (hm:0<=m.most) (A3:0<=m.cells) (A4:jR m) (hex:lp=true->m.ex≠[])
 (A5:m.out.length+(cI (ea ts) (aC p.vars blocks m.cells).1).length<99999990) (A6:(aC p.vars blocks m.cells).2<99999990) (A7:∀b∈blocks,m.ex.length+jS b<99999990):
 MkJ p (m.aU (cI (ea ts) (aC p.vars blocks m.cells).1) (aC p.vars blocks m.cells).2 (max (ek ts) (cC blocks))) s
  (ai ctx 135 [.ptr 0 0 0,.d (.list (blocks.map dR)),.d (.int .i64 ts.length),.fn 136 [.ptr 1 0 0,.ptr 2 0 0]] [iY p m 0 3 4 5 0 0 0,.box [.ptr 0 0 0],bx s,.vec 5 (m.out.map cA),.vv (m.ex.map gV) none,.vec 1 (m.lv.map eo)]):=by
 have O:=λk Q A8 v1 v2 v3 T=>N3 (by omega) y A' A0 A1 A2 k Q A8 blocks [] ts [] m [] v1 v2 v3 T rfl rfl (.inl rfl) hm A3 A4 hex A5 A6 A7 (by simp;omega);have A9:(gN m.out.length (ea ts) (aC p.vars blocks m.cells).1).length<100000000:=by
  have:=DJ m.out.length (ea ts) (aC p.vars blocks m.cells).1;rw[xY]at this;omega
 have AA:(m.dS ts (aC p.vars blocks m.cells).1 (aC p.vars blocks m.cells).2 (max (ek ts) (cC blocks))).out.length<100000000:=by
  simp only[Mk.dS,acm,zx];omega
 have AB:Pl (m.dS ts (aC p.vars blocks m.cells).1 (aC p.vars blocks m.cells).2 (max (ek ts) (cC blocks))).out.length (gN m.out.length (ea ts) (aC p.vars blocks m.cells).1):=by
  intro i hi;obtain⟨k,e,J⟩:=HA _ _ _ i hi;exact⟨k,e,by simpa [Mk.dS]using J⟩
 have H:=xV p (m.dS ts (aC p.vars blocks m.cells).1 (aC p.vars blocks m.cells).2 (max (ek ts) (cC blocks))) 0 _ A9 AA AB;have U:(m.dS ts (aC p.vars blocks m.cells).1 (aC p.vars blocks m.cells).2 (max (ek ts) (cC blocks))).ex=(m.aU (cI (ea ts) (aC p.vars blocks m.cells).1) (aC p.vars blocks m.cells).2 (max (ek ts) (cC blocks))).ex:=by rw[<-qM D];rfl
 have V:(m.dS ts (aC p.vars blocks m.cells).1 (aC p.vars blocks m.cells).2 (max (ek ts) (cC blocks))).lv=(m.aU (cI (ea ts) (aC p.vars blocks m.cells).1) (aC p.vars blocks m.cells).2 (max (ek ts) (cC blocks))).lv:=by rw[<-qM D];rfl
 rw[qM D]at H;generalize m.aU (cI (ea ts) (aC p.vars blocks m.cells).1) (aC p.vars blocks m.cells).2 (max (ek ts) (cC blocks))=M at*;generalize m.dS ts (aC p.vars blocks m.cells).1 (aC p.vars blocks m.cells).2 (max (ek ts) (cC blocks))=N at*;generalize gN m.out.length (ea ts) (aC p.vars blocks m.cells).1=E at*;rw[XI (by simp)];simp[U,V]at H;simp[f135]at O⊢;refine O _ (λX F r=>X=N->F=E->MkJ p M s r) (λY X F v1 v2 v3 T AC AD=>?_) _ _ _ _ rfl rfl;subst AC AD;simp[f135,H,U,V];exact⟨_,_,_,rfl⟩
theorem UW{s:Sm}{q:Int}{blocks:List (List Sm)}{ts:List (List ak×Int)}(AE:blocks.length<99999980)(y:ts.length<=blocks.length)(A':blocks.length<=ts.length+1)(D:∀x∈ea ts,Flat x)
 (A0:∀(i:Nat)(t:List ak×Int),ts[i]?=some t->∀m:Mk,0<=m.most->m.out.length+t.1.length<99999990->RG p (m.aE t.1 t.2) 1 s q (.ret (.bh [])) (ai ctx 208 [.d (.int .i64 i),.ptr 0 0 0,.ptr 1 0 0,.ptr 2 0 0] [.box [.ptr 3 0 0],bx s,.box [.d (.int .i64 q)],iY p m 0 4 5 6 0 0 0,.vec 5 (m.out.map cA),.vv (m.ex.map gV) none,.vec 1 (m.lv.map eo)]))
 (A1:∀b∈blocks,wJ p lp b) (A2:∀b∈blocks,∀c,0<=c->c<=(ah p.vars b c).2) (m:Mk) (hm:0<=m.most) (A3:0<=m.cells) (A4:jR m) (hex:lp=true->m.ex≠[])
 (A5:m.out.length+(cI (ea ts) (aC p.vars blocks m.cells).1).length<99999990) (A6:(aC p.vars blocks m.cells).2<99999990) (A7:∀b∈blocks,m.ex.length+jS b<99999990):
 MkK p (m.aU (cI (ea ts) (aC p.vars blocks m.cells).1) (aC p.vars blocks m.cells).2 (max (ek ts) (cC blocks))) s q
  (ai ctx 135 [.ptr 0 0 0,.d (.list (blocks.map dR)),.d (.int .i64 ts.length),.fn 208 [.ptr 1 0 0,.ptr 2 0 0,.ptr 3 0 0]] [iY p m 0 4 5 6 0 0 0,.box [.ptr 0 0 0],bx s,.box [.d (.int .i64 q)],.vec 5 (m.out.map cA),.vv (m.ex.map gV) none,.vec 1 (m.lv.map eo)]):=by
 have O:=λk Q A8 v1 v2 v3 T=>N5 (by omega) y A' A0 A1 A2 k Q A8 blocks [] ts [] m [] v1 v2 v3 T rfl rfl (.inl rfl) hm A3 A4 hex A5 A6 A7 (by simp;omega);have A9:(gN m.out.length (ea ts) (aC p.vars blocks m.cells).1).length<100000000:=by
  have:=DJ m.out.length (ea ts) (aC p.vars blocks m.cells).1;rw[xY]at this;omega
 have AA:(m.dS ts (aC p.vars blocks m.cells).1 (aC p.vars blocks m.cells).2 (max (ek ts) (cC blocks))).out.length<100000000:=by
  simp only[Mk.dS,acm,zx];omega
 have AB:Pl (m.dS ts (aC p.vars blocks m.cells).1 (aC p.vars blocks m.cells).2 (max (ek ts) (cC blocks))).out.length (gN m.out.length (ea ts) (aC p.vars blocks m.cells).1):=by
  intro i hi;obtain⟨k,e,J⟩:=HA _ _ _ i hi;exact⟨k,e,by simpa [Mk.dS]using J⟩
 have H:=xV p (m.dS ts (aC p.vars blocks m.cells).1 (aC p.vars blocks m.cells).2 (max (ek ts) (cC blocks))) 0 _ A9 AA AB;have U:(m.dS ts (aC p.vars blocks m.cells).1 (aC p.vars blocks m.cells).2 (max (ek ts) (cC blocks))).ex=(m.aU (cI (ea ts) (aC p.vars blocks m.cells).1) (aC p.vars blocks m.cells).2 (max (ek ts) (cC blocks))).ex:=by rw[<-qM D];rfl
 have V:(m.dS ts (aC p.vars blocks m.cells).1 (aC p.vars blocks m.cells).2 (max (ek ts) (cC blocks))).lv=(m.aU (cI (ea ts) (aC p.vars blocks m.cells).1) (aC p.vars blocks m.cells).2 (max (ek ts) (cC blocks))).lv:=by rw[<-qM D];rfl
 rw[qM D]at H;generalize m.aU (cI (ea ts) (aC p.vars blocks m.cells).1) (aC p.vars blocks m.cells).2 (max (ek ts) (cC blocks))=M at*;generalize m.dS ts (aC p.vars blocks m.cells).1 (aC p.vars blocks m.cells).2 (max (ek ts) (cC blocks))=N at*;generalize gN m.out.length (ea ts) (aC p.vars blocks m.cells).1=E at*;rw[XI (by simp)];simp[U,V]at H;simp[f135]at O⊢;refine O _ (λX F r=>X=N->F=E->MkK p M s q r) (λY X F v1 v2 v3 T AC AD=>?_) _ _ _ _ rfl rfl;subst AC AD;simp[f135,H,U,V];exact⟨_,_,_,rfl⟩
end
def Mk.HD(m:Mk)(t b:List ak)(c u:Int):Mk:=
 ⟨m.out++(ins 11 0 0 0 0::t++(ins 10 (m.out.length+t.length+3+b.length) 0 0 0::dj (m.out.length+t.length+2) b++[ins 9 m.out.length 0 0 0])),c,max m.most u,iZ m.ex (df (-1) (m.out.length+t.length+2) b),m.lv++df (-2) (m.out.length+t.length+2) b⟩
def Mk.HE(m:Mk)(t b:List ak)(c u:Int):Mk:=
 ⟨m.out++(dj m.out.length b++(ins 11 0 0 0 0::t++[ins 10 m.out.length 0 0 0])),c,max m.most u,iZ m.ex (df (-1) m.out.length b),m.lv++df (-2) m.out.length b⟩
section
variable {p:Pg} (J:p.vars.length<=1000) (M:∀v∈p.vars,dQ v=true)
include J M
theorem akD{to val:Ex}{b:List Sm}{line:Int}(O:bC val=true)(T:(aK p.vars val).e=0)(U:wJ p true b)(m:Mk)(hm:0<=m.most)(V:0<=m.cells)(Y:jR m)(hex:m.ex≠[])
 (A0:m.out.length+(au p.vars val).1.length+(ah p.vars b m.cells).1.length+3<99999990) (A1:(ah p.vars b m.cells).2<99999990) (A2:m.ex.length+jS b<99999990):
 J2 p (m.HD (au p.vars val).1 (ah p.vars b m.cells).1 (ah p.vars b m.cells).2 (max (aR 0 val) (bu b))) 0 (.mk 5 [] to val [] [] [] [b] line) (.ret (.bh [])) (ai ctx 211 [.ptr 0 0 0,.ptr 1 0 0] [.box [.ptr 2 0 0],bx (.mk 5 [] to val [] [] [] [b] line),iY p m 0 3 4 5 0 0 0,.vec 5 (m.out.map cA),.vv (m.ex.map gV) none,.vec 1 (m.lv.map eo)]):=by
 have g0:=Hs p m 0;obtain⟨A3,a2,a3,g1⟩:=oR p m 0 (by omega) (by decide);have E:(m.put (ins 11 0 0 0 0) 0).out.length=m.out.length+1:=by simp[Mk.put]
 obtain⟨A4,A5,A6,g2⟩:=nz J M val O T (m.put (ins 11 0 0 0 0) 0) 0 (by omega) (by omega) (by simp[Mk.put];omega) (by rw[E];omega);have D:((m.put (ins 11 0 0 0 0) 0).aE (au p.vars val).1 (aR 0 val)).out.length=m.out.length+1+(au p.vars val).1.length:=by
  show ((m.put (ins 11 0 0 0 0) 0).out++_).length=_;rw[acm,E]
 obtain⟨A7,A8,A9,g3⟩:=AI p ((m.put (ins 11 0 0 0 0) 0).aE (au p.vars val).1 (aR 0 val)) 1 0 (by rw[D];omega) (by decide);rw[show (1:Int)+ -1=0 by omega]at g3;have H:(((m.put (ins 11 0 0 0 0) 0).aE (au p.vars val).1 (aR 0 val)).put (ins 10 0 0 0 0) 0).out.length=m.out.length+(au p.vars val).1.length+2:=by
  show (((m.put (ins 11 0 0 0 0) 0).aE (au p.vars val).1 (aR 0 val)).out++_).length=_;rw[acm,D];simp;omega
 obtain⟨d1,d2,d3,g4⟩:=U (((m.put (ins 11 0 0 0 0) 0).aE (au p.vars val).1 (aR 0 val)).put (ins 10 0 0 0 0) 0) (by simp[Mk.put,Mk.aE];omega) V (((Y.put _ _).aE _ _).put _ _) (λ_=>hex) (by rw[H];show _+(ah p.vars b m.cells).1.length<_;omega) (by show (ah p.vars b m.cells).2<_;omega) (by show m.ex.length+_<_;omega);have y:((((m.put (ins 11 0 0 0 0) 0).aE (au p.vars val).1 (aR 0 val)).put (ins 10 0 0 0 0) 0).aU (ah p.vars b m.cells).1 (ah p.vars b m.cells).2 (bu b)).out.length=m.out.length+(au p.vars val).1.length+2+(ah p.vars b m.cells).1.length:=by
  show ((((m.put (ins 11 0 0 0 0) 0).aE (au p.vars val).1 (aR 0 val)).put (ins 10 0 0 0 0) 0).out++dj _ _).length=_;rw[acm,H,pg]
 obtain⟨AD,AE,A',g5⟩:=Ht p ((((m.put (ins 11 0 0 0 0) 0).aE (au p.vars val).1 (aR 0 val)).put (ins 10 0 0 0 0) 0).aU (ah p.vars b m.cells).1 (ah p.vars b m.cells).2 (bu b)) 0 m.out.length (by rw[y];omega) (by decide);have Z:(((((m.put (ins 11 0 0 0 0) 0).aE (au p.vars val).1 (aR 0 val)).put (ins 10 0 0 0 0) 0).aU (ah p.vars b m.cells).1 (ah p.vars b m.cells).2 (bu b)).put (ins 9 m.out.length 0 0 0) 0).out.length=m.out.length+(au p.vars val).1.length+3+(ah p.vars b m.cells).1.length:=by
  show (((((m.put (ins 11 0 0 0 0) 0).aE (au p.vars val).1 (aR 0 val)).put (ins 10 0 0 0 0) 0).aU (ah p.vars b m.cells).1 (ah p.vars b m.cells).2 (bu b)).out++_).length=_;rw[acm,y];simp;omega
 have g6:=um p (((((m.put (ins 11 0 0 0 0) 0).aE (au p.vars val).1 (aR 0 val)).put (ins 10 0 0 0 0) 0).aU (ah p.vars b m.cells).1 (ah p.vars b m.cells).2 (bu b)).put (ins 9 m.out.length 0 0 0) 0) 0 (m.out.length+1+(au p.vars val).1.length) (by rw[Z];omega) (by rw[Z];omega);have I:(((((m.put (ins 11 0 0 0 0) 0).aE (au p.vars val).1 (aR 0 val)).put (ins 10 0 0 0 0) 0).aU (ah p.vars b m.cells).1 (ah p.vars b m.cells).2 (bu b)).put (ins 9 m.out.length 0 0 0) 0).lead (m.out.length+1+(au p.vars val).1.length:Nat)=m.HD (au p.vars val).1 (ah p.vars b m.cells).1 (ah p.vars b m.cells).2 (max (aR 0 val) (bu b)):=by
  unfold Mk.lead;rw[Z];unfold Mk.HD Mk.aU;rw[H];simp only[Mk.put,Mk.aE,Mk.mk.injEq,akC,apg];refine⟨?_,by have:=nH 0 val;omega⟩;have:=AK m.out (ins 11 0 0 0 0::(au p.vars val).1) (dj (m.out.length+(au p.vars val).1.length+2) (ah p.vars b m.cells).1++[ins 9 m.out.length 0 0 0]) (ins 10 0 0 0 0) ((m.out.length+(au p.vars val).1.length+3+(ah p.vars b m.cells).1.length:Nat):Int) ((m.out.length+1+(au p.vars val).1.length:Nat):Int) (by simp;omega);have A':m.out++[ins 11 0 0 0 0]++(au p.vars val).1++[ins 10 0 0 0 0]++dj (m.out.length+(au p.vars val).1.length+2) (ah p.vars b m.cells).1++[ins 9 m.out.length 0 0 0]=m.out++(ins 11 0 0 0 0::(au p.vars val).1)++ins 10 0 0 0 0::(dj (m.out.length+(au p.vars val).1.length+2) (ah p.vars b m.cells).1++[ins 9 m.out.length 0 0 0]):=by simp
  rw[A',this];simp[ins]
 rw[D]at g3;rw[I]at g6;generalize m.HD (au p.vars val).1 (ah p.vars b m.cells).1 (ah p.vars b m.cells).2 (max (aR 0 val) (bu b))=AF at*;generalize ((((m.put (ins 11 0 0 0 0) 0).aE (au p.vars val).1 (aR 0 val)).put (ins 10 0 0 0 0) 0).aU (ah p.vars b m.cells).1 (ah p.vars b m.cells).2 (bu b)).put (ins 9 m.out.length 0 0 0) 0=AG at*;have g4:ai ctx 51 [.ptr 0 0 0,.d (.list (b.map dc))] (gW p (((m.put (ins 11 0 0 0 0) 0).aE (au p.vars val).1 (aR 0 val)).put (ins 10 0 0 0 0) 0) 0)=some (.ret (.bh []),RA p ((((m.put (ins 11 0 0 0 0) 0).aE (au p.vars val).1 (aR 0 val)).put (ins 10 0 0 0 0) 0).aU (ah p.vars b m.cells).1 (ah p.vars b m.cells).2 (bu b)) 0 d1 d2 d3):=g4;generalize (((m.put (ins 11 0 0 0 0) 0).aE (au p.vars val).1 (aR 0 val)).put (ins 10 0 0 0 0) 0).aU (ah p.vars b m.cells).1 (ah p.vars b m.cells).2 (bu b)=AA at*;generalize ((m.put (ins 11 0 0 0 0) 0).aE (au p.vars val).1 (aR 0 val)).put (ins 10 0 0 0 0) 0=AB at*;generalize (m.put (ins 11 0 0 0 0) 0).aE (au p.vars val).1 (aR 0 val)=M2 at*;generalize m.put (ins 11 0 0 0 0) 0=AC at*;rw[XO (by simp)];simp at g0 g1 g2 g3 g4 g5 g6;simp[f211,ay,dR,g0,g1,g2,g3,g4,g5,g6];exact⟨_,_,_,rfl⟩
theorem akE{to val:Ex}{b:List Sm}{line:Int}(O:bC val=true)(T:(aK p.vars val).e=0)(U:wJ p true b)(m:Mk)(hm:0<=m.most)(V:0<=m.cells)(Y:jR m)(hex:m.ex≠[])
 (A0:m.out.length+(au p.vars val).1.length+(ah p.vars b m.cells).1.length+2<99999990) (A1:(ah p.vars b m.cells).2<99999990) (A2:m.ex.length+jS b<99999990):
 J2 p (m.HE (au p.vars val).1 (ah p.vars b m.cells).1 (ah p.vars b m.cells).2 (max (aR 0 val) (bu b))) 0 (.mk 6 [] to val [] [] [] [b] line) (.ret (.bh [])) (ai ctx 211 [.ptr 0 0 0,.ptr 1 0 0] [.box [.ptr 2 0 0],bx (.mk 6 [] to val [] [] [] [b] line),iY p m 0 3 4 5 0 0 0,.vec 5 (m.out.map cA),.vv (m.ex.map gV) none,.vec 1 (m.lv.map eo)]):=by
 have g0:=Hs p m 0;obtain⟨d1,d2,d3,g1⟩:=U m hm V Y (λ_=>hex) (by omega) (by omega) (by omega);have E:(m.aU (ah p.vars b m.cells).1 (ah p.vars b m.cells).2 (bu b)).out.length=m.out.length+(ah p.vars b m.cells).1.length:=by
  show (m.out++dj _ _).length=_;rw[acm,pg]
 obtain⟨A3,a2,a3,g2⟩:=oR p (m.aU (ah p.vars b m.cells).1 (ah p.vars b m.cells).2 (bu b)) 0 (by rw[E];omega) (by decide);have D:((m.aU (ah p.vars b m.cells).1 (ah p.vars b m.cells).2 (bu b)).put (ins 11 0 0 0 0) 0).out.length=m.out.length+(ah p.vars b m.cells).1.length+1:=by
  show ((m.aU (ah p.vars b m.cells).1 (ah p.vars b m.cells).2 (bu b)).out++_).length=_;rw[acm,E];rfl
 obtain⟨A4,A5,A6,g3⟩:=nz J M val O T ((m.aU (ah p.vars b m.cells).1 (ah p.vars b m.cells).2 (bu b)).put (ins 11 0 0 0 0) 0) 0 (by omega) (by omega) (by simp[Mk.put,Mk.aU];omega) (by rw[D];omega);have H:(((m.aU (ah p.vars b m.cells).1 (ah p.vars b m.cells).2 (bu b)).put (ins 11 0 0 0 0) 0).aE (au p.vars val).1 (aR 0 val)).out.length=m.out.length+(ah p.vars b m.cells).1.length+1+(au p.vars val).1.length:=by
  show (((m.aU (ah p.vars b m.cells).1 (ah p.vars b m.cells).2 (bu b)).put (ins 11 0 0 0 0) 0).out++_).length=_;rw[acm,D]
 obtain⟨A7,A8,A9,g4⟩:=AI p (((m.aU (ah p.vars b m.cells).1 (ah p.vars b m.cells).2 (bu b)).put (ins 11 0 0 0 0) 0).aE (au p.vars val).1 (aR 0 val)) 1 m.out.length (by rw[H];omega) (by decide);rw[show (1:Int)+ -1=0 by omega]at g4;have I:(((m.aU (ah p.vars b m.cells).1 (ah p.vars b m.cells).2 (bu b)).put (ins 11 0 0 0 0) 0).aE (au p.vars val).1 (aR 0 val)).put (ins 10 m.out.length 0 0 0) 0=m.HE (au p.vars val).1 (ah p.vars b m.cells).1 (ah p.vars b m.cells).2 (max (aR 0 val) (bu b)):=by
  unfold Mk.HE Mk.aU;simp only[Mk.put,Mk.aE,Mk.mk.injEq,akC,apg];exact⟨by simp,by have:=nH 0 val;omega⟩
 rw[I]at g4;generalize m.HE (au p.vars val).1 (ah p.vars b m.cells).1 (ah p.vars b m.cells).2 (max (aR 0 val) (bu b))=AA at*;clear I;generalize ((m.aU (ah p.vars b m.cells).1 (ah p.vars b m.cells).2 (bu b)).put (ins 11 0 0 0 0) 0).aE (au p.vars val).1 (aR 0 val)=AB at*;generalize (m.aU (ah p.vars b m.cells).1 (ah p.vars b m.cells).2 (bu b)).put (ins 11 0 0 0 0) 0=M2 at*;generalize m.aU (ah p.vars b m.cells).1 (ah p.vars b m.cells).2 (bu b)=AC at*;rw[XO (by simp)];simp at g0 g1 g2 g3 g4;simp[f211,ay,dR,g0,g1,g2,g3,g4];exact⟨_,_,_,rfl⟩
end
def Mk.HF(m:Mk)(at_ cell:Int)(b:List ak)(c u:Int):Mk:=
 ⟨m.out++(ins 11 0 0 0 0::ins 13 at_ cell 0 0::ins 10 (m.out.length+b.length+8) 0 0 0::dj (m.out.length+3) b++[ins 2 at_ 0 0 0,ins 2 (cell+1) 0 0 0,ins 8 0 8 0 0,ins 6 at_ 0 0 0,ins 9 m.out.length 0 0 0]),c,max m.most u,iZ m.ex (df (-1) (m.out.length+3) b),m.lv++df (-2) (m.out.length+3) b⟩
def MkF(p:Pg)(m:Mk)(s:Sm)(at_ cell:Int)(r:b7):Prop:=∃v1 v2 v3,r=some (.ret (.bh []),[(0,.box [.ptr 4 0 0]),(0,.box [.d (.int .i64 at_)]),(0,.box [.d (.int .i64 cell)]),(0,bx s),(0,iY p m 0 5 6 7 v1 v2 v3),(v1,.vec 5 (m.out.map cA)),(v2,.vv (m.ex.map gV) none),(v3,.vec 1 (m.lv.map eo))])
section
variable {p:Pg}
theorem akF{name:Tx}{to val:Ex}{conds:List Ex}{b:List Sm}{line at_ cell:Int}(A8:wJ p true b)(m:Mk)(hm:0<=m.most)(A9:0<=m.cells)(AA:jR m)(hex:m.ex≠[])(AB:aY (cell+1))
 (AN:m.out.length+(ah p.vars b m.cells).1.length+8<99999990) (AO:(ah p.vars b m.cells).2<99999990) (AP:m.ex.length+jS b<99999990):
 MkF p (m.HF at_ cell (ah p.vars b m.cells).1 (ah p.vars b m.cells).2 (max 2 (bu b))) (.mk 4 name to val conds [] [] [b] line) at_ cell (ai ctx 210 [.ptr 0 0 0,.ptr 1 0 0,.ptr 2 0 0,.ptr 3 0 0] [.box [.ptr 4 0 0],.box [.d (.int .i64 at_)],.box [.d (.int .i64 cell)],bx (.mk 4 name to val conds [] [] [b] line),iY p m 0 5 6 7 0 0 0,.vec 5 (m.out.map cA),.vv (m.ex.map gV) none,.vec 1 (m.lv.map eo)]):=by
 have g0:=Hs p m 0;obtain⟨AQ,a2,a3,g1⟩:=oR p m 0 (by omega) (by decide);have AC:(m.put (ins 11 0 0 0 0) 0).out.length=m.out.length+1:=by simp[Mk.put]
 generalize I:m.put (ins 11 0 0 0 0) 0=J at g1 AC;obtain⟨AR,AS,AT,g2⟩:=kX p J 0 1 (ins 13 at_ cell 0 0) (by omega) (by decide);have A4:(J.put (ins 13 at_ cell 0 0) (0+1)).out.length=m.out.length+2:=by simp[Mk.put];omega
 generalize M:J.put (ins 13 at_ cell 0 0) (0+1)=M2 at g2 A4;obtain⟨AU,AV,AW,g3⟩:=AI p M2 (0+1) 0 (by omega) (by decide);rw[show (0:Int)+1+ -1=0 by omega]at g3;have H:(M2.put (ins 10 0 0 0 0) 0).out.length=m.out.length+3:=by simp[Mk.put];omega
 generalize O:M2.put (ins 10 0 0 0 0) 0=D at g3 H;have f3:D.cells=m.cells/\D.ex=m.ex/\D.lv=m.lv/\0<=D.most/\D.most=max m.most 1/\D.out=m.out++[ins 11 0 0 0 0,ins 13 at_ cell 0 0,ins 10 0 0 0 0]:=by
  subst O M I;simp[Mk.put];omega
 have q3:jR D:=by
  subst O M I;exact ((AA.put _ _).put _ _).put _ _
 obtain⟨d1,d2,d3,g4⟩:=A8 D f3.2.2.2.1 (by rw[f3.1];exact A9) q3 (λ_=>by rw[f3.2.1];exact hex) (by rw[f3.1];omega) (by rw[f3.1];omega) (by rw[f3.2.1];omega);rw[f3.1]at g4;have AD:(D.aU (ah p.vars b m.cells).1 (ah p.vars b m.cells).2 (bu b)).out.length=m.out.length+3+(ah p.vars b m.cells).1.length:=by
  show (D.out++dj _ _).length=_;rw[acm,pg,H]
 generalize T:D.aU (ah p.vars b m.cells).1 (ah p.vars b m.cells).2 (bu b)=U at g4 AD;obtain⟨AX,A5,AY,g5⟩:=Hu p U 0 at_ 1 (by omega) (by decide);rw[ach (by decide)]at g5;have AE:(U.put (ins 2 at_ 0 0 0) (0+1)).out.length=m.out.length+4+(ah p.vars b m.cells).1.length:=by simp[Mk.put];omega
 generalize V:U.put (ins 2 at_ 0 0 0) (0+1)=Y at g5 AE;obtain⟨AZ,A_,Aa,g6⟩:=Hu p Y (0+1) (cell+1) 1 (by omega) (by decide);rw[ach (by decide)]at g6;have AF:(Y.put (ins 2 (cell+1) 0 0 0) (0+1+1)).out.length=m.out.length+5+(ah p.vars b m.cells).1.length:=by simp[Mk.put];omega
 generalize Z:Y.put (ins 2 (cell+1) 0 0 0) (0+1+1)=y at g6 AF;obtain⟨i1,i2,i3,g7⟩:=kX p y (0+1+1) (-1) (ins 8 0 8 0 0) (by omega) (by decide);have AG:(y.put (ins 8 0 8 0 0) (0+1+1+ -1)).out.length=m.out.length+6+(ah p.vars b m.cells).1.length:=by simp[Mk.put];omega
 generalize A':y.put (ins 8 0 8 0 0) (0+1+1+ -1)=A0 at g7 AG;obtain⟨Ab,Ac,Ad,g8⟩:=sL p A0 (0+1+1+ -1) at_ (by omega) (by decide);rw[show (0:Int)+1+1+ -1+ -1=0 by omega]at g8;have AH:(A0.put (ins 6 at_ 0 0 0) 0).out.length=m.out.length+7+(ah p.vars b m.cells).1.length:=by simp[Mk.put];omega
 generalize A1:A0.put (ins 6 at_ 0 0 0) 0=A2 at g8 AH;obtain⟨Ae,Af,Ag,g9⟩:=Ht p A2 0 m.out.length (by omega) (by decide);have A6:(A2.put (ins 9 m.out.length 0 0 0) 0).out.length=m.out.length+8+(ah p.vars b m.cells).1.length:=by simp[Mk.put];omega
 generalize A3:A2.put (ins 9 m.out.length 0 0 0) 0=E at g9 A6;have g10:=um p E 0 (m.out.length+2) (by omega) (by omega);have A7:E.lead (m.out.length+2:Nat)=m.HF at_ cell (ah p.vars b m.cells).1 (ah p.vars b m.cells).2 (max 2 (bu b)):=by
  have AJ:E.out=(m.out++[ins 11 0 0 0 0,ins 13 at_ cell 0 0])++ins 10 0 0 0 0::(dj (m.out.length+3) (ah p.vars b m.cells).1++[ins 2 at_ 0 0 0,ins 2 (cell+1) 0 0 0,ins 8 0 8 0 0,ins 6 at_ 0 0 0,ins 9 m.out.length 0 0 0]):=by
   subst A3 A1 A' Z V T;simp[Mk.put,Mk.aU,H,f3]
  have AK:E.ex=iZ m.ex (df (-1) (m.out.length+3) (ah p.vars b m.cells).1)/\E.lv=m.lv++df (-2) (m.out.length+3) (ah p.vars b m.cells).1/\E.cells=(ah p.vars b m.cells).2/\E.most=max m.most (max 2 (bu b)):=by
   subst A3 A1 A' Z V T;simp[Mk.put,Mk.aU,H,f3];omega
  unfold Mk.lead Mk.HF;rw[A6];simp only[AK,Mk.mk.injEq,apg];rw[AJ];have:=uj (m.out++[ins 11 0 0 0 0,ins 13 at_ cell 0 0]) (ins 10 0 0 0 0) (dj (m.out.length+3) (ah p.vars b m.cells).1++[ins 2 at_ 0 0 0,ins 2 (cell+1) 0 0 0,ins 8 0 8 0 0,ins 6 at_ 0 0 0,ins 9 m.out.length 0 0 0]) ((m.out.length+8+(ah p.vars b m.cells).1.length:Nat):Int);have A5:((m.out++[ins 11 0 0 0 0,ins 13 at_ cell 0 0]).length:Int)=((m.out.length+2:Nat):Int):=by simp
  rw[A5]at this;rw[this];simp[ins];omega
 rw[A7]at g10;generalize m.HF at_ cell (ah p.vars b m.cells).1 (ah p.vars b m.cells).2 (max 2 (bu b))=Ah at*;have AL:IntKind.i64.wrap (cell+1)=cell+1:=aA AB;rw[A4]at g3;clear I M O T V Z A' A1 A3 A7 f3;have AM:List.range 8=[0,1,2,3,4,5,6,7]:=rfl;rw[aiA (by simp)];simp[ins]at g0 g1 g2 g3 g4 g5 g6 g7 g8 g9 g10;simp[f210,ay,dR,AL,AM,g0,g1,g2,g3,g4,g5,g6,g7,g8,g9,g10];exact⟨_,_,_,rfl⟩
end
def Mk.fS(m:Mk):Mk:={m with ex:=m.ex++[[]]}
theorem jR.fS{m:Mk}(h:jR m):jR m.fS:=
 ⟨h.1,λr H=>by
  rcases acC.1 H with H|H
  ·exact h.2 r H
  ·simp at H;subst H;simp⟩
def Mk.uR(m:Mk)(ex:List (List Int))(row:List Int):Mk:={m with out:=kU m.out row m.out.length,ex:=ex}
theorem N8{p:Pg}{s:Sm}{m M:Mk}{row:List Int}(O:M.ex=m.ex++[row])(D:J2 p M 0 s (.ret (.bh [])) (ai ctx 211 [.ptr 0 0 0,.ptr 1 0 0] [.box [.ptr 2 0 0],bx s,iY p m.fS 0 3 4 5 0 0 0,.vec 5 (m.out.map cA),.vv (m.fS.ex.map gV) none,.vec 1 (m.lv.map eo)]))
 (c:row.length<99999990) (y:M.out.length<99999990) (T:Pl M.out.length row) (A':m.ex.length<99999990):
 MkJ p (M.uR m.ex row) s (ai ctx 209 [.ptr 0 0 0,.fn 211 [.ptr 1 0 0,.ptr 2 0 0]] [iY p m 0 3 4 5 0 0 0,.box [.ptr 0 0 0],bx s,.vec 5 (m.out.map cA),.vv (m.ex.map gV) none,.vec 1 (m.lv.map eo)]):=by
 obtain⟨v1,v2,v3,D⟩:=D;have E:=xV p {M with ex:=m.ex} 0 row (by omega) (by simpa using (by omega:M.out.length<100000000)) T;have e:({M with ex:=m.ex}:Mk).cW row=M.uR m.ex row:=rfl;rw[e]at E;have I:(M.uR m.ex row).ex=m.ex:=rfl;have J:(M.uR m.ex row).lv=M.lv:=rfl;generalize M.uR m.ex row=N at*;simp[O,Mk.fS]at D;simp[I,J]at E;have U:m.ex.length<=4611686018427387903:=by omega
 have V:(m.ex.length+1)*24<=140737488355328:=by omega
 have Y:IntKind.i64.wrap ((m.ex.length:Int)+1-1)=m.ex.length:=by rw[show (m.ex.length:Int)+1-1=m.ex.length by omega];exact aA (by unfold aY;omega)
 have Z:IntKind.i64.wrap (m.ex.length:Int)=m.ex.length:=aA (by unfold aY;omega);rw[XN (by simp)];simp[f209,D,U,V,Y,Z,E];rw[<-I,<-J];exact⟨_,_,_,rfl⟩
def MkG(p:Pg)(m:Mk)(s:Sm)(at_ cell:Int)(r:b7):Prop:=∃v1 v2 v3,r=some (.ret (.bh []),[(0,iY p m 0 5 6 7 v1 v2 v3),(0,.box [.ptr 0 0 0]),(0,.box [.d (.int .i64 at_)]),(0,.box [.d (.int .i64 cell)]),(0,bx s),(v1,.vec 5 (m.out.map cA)),(v2,.vv (m.ex.map gV) none),(v3,.vec 1 (m.lv.map eo))])
theorem abT{p:Pg}{s:Sm}{at_ cell:Int}{m M:Mk}{row:List Int}(O:M.ex=m.ex++[row])(D:MkF p M s at_ cell (ai ctx 210 [.ptr 0 0 0,.ptr 1 0 0,.ptr 2 0 0,.ptr 3 0 0] [.box [.ptr 4 0 0],.box [.d (.int .i64 at_)],.box [.d (.int .i64 cell)],bx s,iY p m.fS 0 5 6 7 0 0 0,.vec 5 (m.out.map cA),.vv (m.fS.ex.map gV) none,.vec 1 (m.lv.map eo)]))
 (c:row.length<99999990) (y:M.out.length<99999990) (T:Pl M.out.length row) (A':m.ex.length<99999990):
 MkG p (M.uR m.ex row) s at_ cell (ai ctx 209 [.ptr 0 0 0,.fn 210 [.ptr 1 0 0,.ptr 2 0 0,.ptr 3 0 0,.ptr 4 0 0]] [iY p m 0 5 6 7 0 0 0,.box [.ptr 0 0 0],.box [.d (.int .i64 at_)],.box [.d (.int .i64 cell)],bx s,.vec 5 (m.out.map cA),.vv (m.ex.map gV) none,.vec 1 (m.lv.map eo)]):=by
 obtain⟨v1,v2,v3,D⟩:=D;have E:=xV p {M with ex:=m.ex} 0 row (by omega) (by simpa using (by omega:M.out.length<100000000)) T;have e:({M with ex:=m.ex}:Mk).cW row=M.uR m.ex row:=rfl;rw[e]at E;have I:(M.uR m.ex row).ex=m.ex:=rfl;have J:(M.uR m.ex row).lv=M.lv:=rfl;generalize M.uR m.ex row=N at*;simp[O,Mk.fS]at D;simp[I,J]at E;have U:m.ex.length<=4611686018427387903:=by omega
 have V:(m.ex.length+1)*24<=140737488355328:=by omega
 have Y:IntKind.i64.wrap ((m.ex.length:Int)+1-1)=m.ex.length:=by rw[show (m.ex.length:Int)+1-1=m.ex.length by omega];exact aA (by unfold aY;omega)
 have Z:IntKind.i64.wrap (m.ex.length:Int)=m.ex.length:=aA (by unfold aY;omega);rw[XN (by simp)];simp[f209,D,U,V,Y,Z,E];rw[<-I,<-J];exact⟨_,_,_,rfl⟩
end Go.Am
end
