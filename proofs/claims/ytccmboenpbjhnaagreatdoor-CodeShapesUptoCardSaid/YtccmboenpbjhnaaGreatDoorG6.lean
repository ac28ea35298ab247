/-
  Texts of one proof, one behind the other.
-/
import Derived.Test.YtccmboenpbjhnaaGreatDoorG5
set_option linter.all false
section
namespace Go.Am
open Go
def II(k:Int):Nat:=(bJ k).length
def wE(cells:Int)(x:au):Prop:=1<=x.op/\x.op<=8/\dx II cells 0 0 x=true
theorem jY{cells a n:Int}(Ac:0<=a)(A0:0<=n)(A1:a+n<=cells):gu cells a n=true:=by
 unfold gu;simp only[Ds,aa8];omega
theorem Mn{op n:Int}{name field:Tx}{sub:List Ex}{line:Int}(h:bz (.mk op n name field sub line)=true):1<=op/\op<=21:=by
 simp only[bz,Ds,ago,afM]at h;have:=h.1;omega
section
variable {vs:List Vr} {cells:Int} (A4:∀v∈vs,dM v=true) (AP:cx vs<=cells)
include A4 AP
theorem pI:∀(x:Ex)(S:List Bool),bz x=true->(aL vs x).e=0->aR S.length x<=64->
 (∃f,cf (ar vs x).1 S=some (S++[f])/\((aL vs x).t=2->f=true))/\(ar vs x).2=decide ((aL vs x).t=2)/\((aL vs x).t=1\/(aL vs x).t=2)/\∀y∈(ar vs x).1,wE cells y
 | .mk op n name field sub line,S,A2,he,H=>by
  obtain⟨E,AQ⟩:=CF A2;have Ad:=Mn A2;have AB:=Hi A2 he;have AR:∀v∈vs,0<=bV v:=λv I=>pH (A4 v I);have ih:∀y∈sub,∀S:List Bool,aR S.length y<=64->_:=λy D S H=>pI y S ((jH sub).1 AQ y D) (AB y D) H;unfold aR at H;unfold ar;have Z:aL vs (.mk op n name field sub line)=aL vs (.mk op n name field sub line):=rfl;conv at Z=>rhs;unfold aL
  rw[Z]at he⊢;clear Z;by_cases A5:op=1\/op=2
  ·have hh:S.length<64:=by
    rw[abf (by omega)]at H;omega
   simp only[abf A5];refine⟨⟨decide (n=0)||decide (n=1),?_,?_⟩,rfl,by simp[fm];exact A5,?_⟩
   ·simp[cf,cK,ins,lO hh];rfl
   ·intro A0;have A0:op=2:=A0;subst A0;simp[bz]at A2;simp only[agr,aa8];omega
   ·intro y D;simp at D;subst D;simp[wE,ins,dx]
  ·simp only[aa4 A5]at he⊢;by_cases A':op=3\/op=4\/op=5
   ·simp only[abf A']at he⊢;cases I:bq vs name with
    |none=>rw[I]at he;simp[cL]at he
    |some v=>
     rw[I]at he;simp only at he⊢;have AC:=jr I;have AD:=A4 v (wo I).1;have Ae:=wB AR I;have A6:=AD;simp only[dM,Ds]at A6;by_cases A3:op=5
     ·subst A3;have hh:S.length<64:=by
       rw[abf (by omega)]at H;omega
      simp only[abf]at he⊢;by_cases AE:v.ty<=2
      ·rw[abf AE]at he;simp[cL]at he
      ·rw[aa4 AE]at he⊢;cases AF:mi v.ty field with
       |none=>rw[AF]at he;simp[cL]at he
       |some p=>
        obtain⟨q1,q2,j,q3,A7⟩:=yt I (by omega) AF;have AS:=XL q2;have AG:bV v=(bJ v.ty).length:=by
         unfold bV;have U:¬v.arr=true:=by
          intro AT;have M:=A6.2.2.1;rw[abf AT]at M;have:=adL M;omega
         rw[aa4 U,abf (by omega)]
        simp only[show ¬((5:Int)=3) by decide,adW,q1];have J:gu cells (iW vs name field).1 1=true:=jY (by rw[q3];omega) (by omega) (by rw[q3];omega);rcases AS with e|e
        ·refine⟨⟨false,?_,λh=>by simp[fm,e]at h⟩,agx.2 an1,.inl e,?_⟩
         ·simp[cf,cK,ins,e,lO hh]
         ·intro y D;simp at D;subst D;simp[wE,ins,dx,e,J]
        ·refine⟨⟨true,?_,λ_=>rfl⟩,agx.2 an1,.inr e,?_⟩
         ·simp[cf,cK,ins,e,lO hh]
         ·intro y D;simp at D;subst D;simp[wE,ins,dx,e,J]
     ·simp only[aa4 A3]at he⊢;by_cases A8:v.arr≠decide (op=4)\/2<v.ty
      ·rw[abf A8]at he;simp[cL]at he
      ·simp only[aa4 A8]at he⊢;have AH:v.arr=decide (op=4):=by
        cases Af:v.arr<;>cases Ag:decide (op=4)<;>simp_all
       have Ah:¬2<v.ty:=λh=>A8 (.inr h);have AI:v.ty=1\/v.ty=2:=by
        rcases QG AD with h|h
        ·exact h
        ·omega
       by_cases M:op=4
       ·subst M;simp only[abf,show ¬((4:Int)=3) by decide,adW]at he⊢;obtain⟨z,rfl⟩:∃z,sub=[z]:=by
         match sub,E with
         |[z],_=>exact⟨z,rfl⟩
         |[],h=>simp[dY]at h
         |_::_::_,h=>simp[dY]at h
        rw[aa4 (by omega)]at H;simp only[gn]at H;obtain⟨⟨f,i1,_⟩,_,_,i4⟩:=ih z (by simp) S (by omega);have AU:=AB z (by simp);have Z:yi vs v.ty [z]=fm v.ty:=by
         simp only[yi]at he⊢;rw[aa4 (by simpa using AU)]at he⊢;split at he
         ·simp[cL]at he
         ·rename_i AV;rw[aa4 AV]
        rw[Z];have U:v.arr=true:=by simpa using AH
        have O:=A6.2.2.1;rw[abf U]at O;have O:=adL O;have AG:bV v=v.hi-v.lo+1:=by unfold bV;rw[abf U]
        have J:gu cells (cw vs name).1 (v.hi-v.lo+1)=true:=jY (by omega) (by omega) (by omega);have hh:S.length<64:=by omega
        simp only[qp,AC];rcases AI with e|e
        ·refine⟨⟨false,?_,λh=>by simp[fm,e]at h⟩,agx.2 an1,.inl e,?_⟩
         ·rw[dr,i1];simp[cf,cK,ins,e,BW,lO hh]
         ·intro y D;rcases abo.1 D with D|D
          ·exact i4 y D
          ·simp at D;subst D;simp[wE,ins,dx,Ld,e,J];omega
        ·refine⟨⟨true,?_,λ_=>rfl⟩,agx.2 an1,.inr e,?_⟩
         ·rw[dr,i1];simp[cf,cK,ins,e,BW,lO hh]
         ·intro y D;rcases abo.1 D with D|D
          ·exact i4 y D
          ·simp at D;subst D;simp[wE,ins,dx,Ld,e,J];omega
       ·have A1:op=3:=by omega
        subst A1;have hh:S.length<64:=by
         rw[abf (by omega)]at H;omega
        simp only[abf,aa4 M,AC]at he⊢;have U:¬v.arr=true:=by simp[AH]
        have AG:bV v=1:=by unfold bV;rw[aa4 U,aa4 (by omega)]
        have J:gu cells (cw vs name).1 1=true:=jY (by omega) (by omega) (by omega);rcases AI with e|e
        ·refine⟨⟨false,?_,λh=>by simp[fm,e]at h⟩,agx.2 an1,.inl e,?_⟩
         ·simp[cf,cK,ins,e,lO hh]
         ·intro y D;simp at D;subst D;simp[wE,ins,dx,e,J]
        ·refine⟨⟨true,?_,λ_=>rfl⟩,agx.2 an1,.inr e,?_⟩
         ·simp[cf,cK,ins,e,lO hh]
         ·intro y D;simp at D;subst D;simp[wE,ins,dx,e,J]
   ·have A1:¬op=3:=λh=>A' (.inl h);have M:¬op=4:=λh=>A' (.inr (.inl h));have A3:¬op=5:=λh=>A' (.inr (.inr h));simp only[aa4 A',aa4 A1,aa4 M,aa4 A3]at he⊢;rw[aa4 (by omega)]at H;have hh:S.length<64:=by omega
    match sub,E,ih,he,H with
    |[a],E,ih,he,H=>
     have AW:op=6\/op=7:=by
      simp only[dY]at E;split at E
      ·omega
      ·split at E<;>simp at E
     simp only[gn]at H;obtain⟨⟨f,i1,i2⟩,i3,i4,i5⟩:=ih a (by simp) S (by omega);obtain⟨_,_,q3,_,A9⟩:=iE he;simp only[tw]at he⊢;simp only[A9,iO];rcases AW with e|e
     ·subst e;have V:(aL vs a).t=1:=by rw[q3];rfl
      have T:(ar vs a).2=false:=by rw[i3,V];rfl
      simp only[T,agb,adW,afz];refine⟨⟨false,?_,λh=>by simp[fm,ie]at h⟩,rfl,.inl rfl,?_⟩
      ·rw[dr,i1];simp[cf,cK,ins,BW,lO hh]
      ·intro y D;rcases abo.1 D with D|D
       ·exact i5 y D
       ·simp at D;subst D;simp[wE,ins,dx,zD]
     ·subst e;have V:(aL vs a).t=2:=by rw[q3];rfl
      have T:(ar vs a).2=true:=by rw[i3,V];rfl
      obtain rfl:=i2 V;simp only[T,agb,adW,afz];refine⟨⟨true,?_,λ_=>rfl⟩,rfl,.inr rfl,?_⟩
      ·rw[dr,i1];simp[cf,cK,ins,Gi,lO hh]
      ·intro y D;rcases abo.1 D with D|D
       ·exact i5 y D
       ·simp at D;subst D;simp[wE,ins,dx,zD]
    |[a,b],E,ih,he,H=>
     have Ai:8<=op:=by
      simp only[dY]at E;split at E
      ·simp at E
      ·split at E
       ·omega
       ·simp at E
     simp only[gn]at H;obtain⟨⟨f,i1,i2⟩,i3,i4,i5⟩:=ih a (by simp) S (by omega);have AX:((S++[f]).length:Int)=S.length+1:=by simp
     obtain⟨⟨g,AY,AZ⟩,AJ,A_,Aa⟩:=ih b (by simp) (S++[f]) (by rw[AX];omega);obtain⟨_,_,q3,A7,A9⟩:=iE he;simp only[tw]at he⊢;simp only[A9,iO];have AK:∀y∈(ar vs a).1++(ar vs b).1,wE cells y:=by
      intro y D;rcases abo.1 D with D|D
      ·exact i5 y D
      ·exact Aa y D
     have AL:cf ((ar vs a).1++(ar vs b).1) S=some (S++[f]++[g]):=by rw[dr,i1];exact AY
     have AA:(fm (ie op)).t=if op<=12 then 1 else 2:=by
      simp only[fm,ie];by_cases h:op<=12
      ·rw[abf (by omega),abf h]
      ·rw[aa4 (by omega),aa4 h]
     have AM:decide (op=7\/12<op)=decide ((fm (ie op)).t=2):=by
      rw[AA];by_cases h:op<=12
      ·rw[abf h];simp;omega
      ·rw[aa4 h];simp;omega
     have AN:(fm (ie op)).t=1\/(fm (ie op)).t=2:=by
      rw[AA];split<;>simp
     have AO:(fm (ie op)).t=2->(decide (op=7)||decide (13<=op))=true:=by
      rw[AA];split
      ·simp
      ·intro _;simp;omega
     rcases A_ with e|e
     ·have T:(ar vs b).2=false:=by rw[AJ,e];rfl
      have Y:gL op (aL vs a).t=1:=by rw[<-A7];exact e
      have Aj:op<=18:=by
       by_cases h:op<=18
       ·exact h
       ·exfalso;unfold gL at Y;rw[aa4 (by omega),aa4 (by omega)]at Y;omega
      simp only[T,agb,adW,afz];refine⟨⟨decide (op=7)||decide (13<=op),?_,AO⟩,AM,AN,?_⟩
      ·rw[dr,AL];have O:¬(op=6\/op=7):=by omega
       simp only[adV,cf,cK,ins,agb,adW];simp only[show ¬((8:Int)=1) by decide,show ¬((8:Int)=2) by decide,show ¬((8:Int)=3\/(8:Int)=13\/(8:Int)=14) by decide,show ¬((8:Int)=4) by decide,show ¬((8:Int)=5) by decide,show ¬((8:Int)=6) by decide,show ¬((8:Int)=7) by decide,adW,afz,O,show decide ((0:Int)=1)=false by decide];change (((oq 2 false (S++[f]++[g])).bind _).bind _)=_
       rw[aaq];simp only[adV,lO hh];rfl
      ·intro y D;rcases abo.1 D with D|D
       ·exact AK y D
       ·simp at D;subst D;simp[wE,ins,dx,zD];exact .inr ⟨af7 (by omega),af7 (by omega)⟩
     ·have T:(ar vs b).2=true:=by rw[AJ,e];rfl
      have Y:gL op (aL vs a).t=2:=by rw[<-A7];exact e
      have V:(aL vs a).t=2:=by rw[q3];exact Y
      obtain rfl:=i2 V;obtain rfl:=AZ e;have Ab:op=13\/op=14\/19<=op:=by
       unfold gL at Y;split at Y
       ·omega
       ·omega
      simp only[T,agb,adW,afz];refine⟨⟨decide (op=7)||decide (13<=op),?_,AO⟩,AM,AN,?_⟩
      ·rw[dr,AL];have O:¬(op=6\/op=7):=by omega
       simp only[adV,cf,cK,ins,afz];simp only[show ¬((8:Int)=1) by decide,show ¬((8:Int)=2) by decide,show ¬((8:Int)=3\/(8:Int)=13\/(8:Int)=14) by decide,show ¬((8:Int)=4) by decide,show ¬((8:Int)=5) by decide,show ¬((8:Int)=6) by decide,show ¬((8:Int)=7) by decide,adW,afz,O,show decide ((1:Int)=1)=true by decide];change (((oq 2 true (S++[true]++[true])).bind _).bind _)=_
       rw[adE];simp only[adV,lO hh];rfl
      ·intro y D;rcases abo.1 D with D|D
       ·exact AK y D
       ·simp at D;subst D;simp[wE,ins,dx,zD];rcases Ab with h|h|h
        ·exact .inl (.inl (.inr (af7 h)))
        ·exact .inl (.inr (af7 h))
        ·exact .inr ⟨af7 h,af7 (by omega)⟩
    |[],E,_,_,_=>
     exfalso;simp only[dY,abn]at E;split at E
     ·simp at E
     ·split at E
      ·simp at E
      ·omega
    |a::b::c::d,E,_,_,_=>
     exfalso;simp only[dY]at E;split at E
     ·simp at E
     ·split at E<;>simp at E
termination_by x=>SizeOf.sizeOf x
decreasing_by all_goals (simp_wf;have:=List.sizeOf_lt_of_mem D;omega)
end
def yx(cells:Int)(x:au):Prop:=fq x\/(dx II cells 0 0 x=true/\x.op≠15)
structure gP(cells:Int)(ex:Bool)(e:Nat)(l:List au):Prop where
 le:l.length<=e
 run:cf l []=some []
 ok:∀x∈l,yx cells x
 jmp:∀(i:Nat) x,l[i]?=some x->fq x->0<=x.a->x.a.toNat=e\/(x.a.toNat<=l.length/\cf (l.take x.a.toNat) []=some []/\(i<x.a.toNat\/∃y,l[x.a.toNat]?=some y/\y.op=11))
 out:∀x∈l,fq x->x.a<0->x.op=9/\(x.a= -2\/(ex=true/\x.a= -1))
def Fg(cells:Int)(ex:Bool)(l:List au):Prop:=gP cells ex l.length l
section
variable {cells:Int} {ex:Bool}
theorem Mo{k:Nat}{x:au}:fq (n9 k x)↔fq x:=by unfold fq;rw[L4]
theorem ajx{k:Nat}{x:au}(h:yx cells x):yx cells (n9 k x):=by
 rcases XN k x with e|⟨e,_⟩
 ·rw[e];exact h
 ·exact .inl (Mo.2 e)
theorem XR{k:Nat}{x:au}(E:fq x)(h:0<=x.a):(n9 k x).a=x.a+k:=by
 unfold n9;rw[abf ⟨E,h⟩]
theorem XS{k:Nat}{x:au}(h:x.a<0):(n9 k x).a=x.a:=by
 unfold n9;rw[aa4 (by rintro ⟨_,U⟩;omega)]
theorem aau(k j:Nat)(l:List au):(iX k l).take j=iX k (l.take j):=by simp[iX]
theorem Q6(k i:Nat)(l:List au):(iX k l)[i]?=(l[i]?).map (n9 k):=by simp[iX]
theorem gP.wk{e e':Nat}{l:List au}(h:gP cells ex e l)(he:e=l.length)(U:l.length<=e'):gP cells ex e' l:=by
 subst he;refine⟨U,h.run,h.ok,λi x D E J=>?_,h.out⟩;rcases h.jmp i x D E J with M|M
 ·right;have hi:=(aa1.1 D).1;exact⟨by omega,by rw[M,List.take_length];exact h.run,.inl (by omega)⟩
 ·exact .inr M
theorem gP.plain{l:List au}(V:cf l []=some [])(Y:∀x∈l,yx cells x)(E:∀x∈l,¬fq x){e:Nat}(he:l.length<=e):gP cells ex e l:=
 ⟨he,V,Y,λ_ x D A2=>absurd A2 (E x (abk D)),λx D A2=>absurd A2 (E x D)⟩
theorem gP.app{e e':Nat}{A B:List au}(Z:gP cells ex e' B)(he:e=A.length+e')(V:cf A []=some [])(Y:∀x∈A,yx cells x)
 (E:∀(i:Nat) x,A[i]?=some x->fq x->0<=x.a->x.a.toNat=e\/(x.a.toNat<=A.length+B.length/\cf ((A++iX A.length B).take x.a.toNat) []=some []/\(i<x.a.toNat\/∃y,(A++iX A.length B)[x.a.toNat]?=some y/\y.op=11)))
 (AB:∀x∈A,fq x->x.a<0->x.op=9/\(x.a= -2\/(ex=true/\x.a= -1))):gP cells ex e (A++iX A.length B):=by
 have hle:=Z.le;refine⟨by simp;omega,?_,?_,?_,?_⟩
 ·rw[dr,V];show cf (iX _ B) []=_;rw[Hl];exact Z.run
 ·intro x D;rcases abo.1 D with D|D
  ·exact Y x D
  ·obtain⟨y,H,rfl⟩:=abz.1 D;exact ajx (Z.ok y H)
 ·intro i x D A' J;by_cases hi:i<A.length
  ·rw[abl hi]at D;rcases E i x D A' J with h|h
   ·exact .inl h
   ·refine .inr ⟨by simp;omega,h.2⟩
  ·rw[abq (by omega),Q6]at D;obtain⟨y,H,rfl⟩:=aba.1 D;have A0:=Mo.1 A';have A1:0<=y.a:=by
    by_cases h:0<=y.a
    ·exact h
    ·rw[XS (by omega)]at J;exact J
   rw[XR A0 A1];have AC:(y.a+(A.length:Int)).toNat=A.length+y.a.toNat:=by omega
   rw[AC];rcases Z.jmp _ y H A0 A1 with h|⟨M,T,I⟩
   ·exact .inl (by omega)
   ·refine .inr ⟨by simp;omega,?_,?_⟩
    ·rw[List.take_append,aiC (by omega),dr,V];show cf ((iX _ B).take _) []=_;rw[aau,Hl,Nat.add_sub_cancel_left];exact T
    ·rcases I with I|⟨z,A3,A4⟩
     ·exact .inl (by omega)
     ·refine .inr ⟨n9 A.length z,?_,by rw[L4];exact A4⟩;rw[abq (by omega),Q6,Nat.add_sub_cancel_left,A3];rfl
 ·intro x D A' J;rcases abo.1 D with D|D
  ·exact AB x D A' J
  ·obtain⟨y,H,rfl⟩:=abz.1 D;have A0:=Mo.1 A';have A1:y.a<0:=by
    by_cases h:0<=y.a
    ·rw[XR A0 h]at J;omega
    ·omega
   rw[XS A1,L4];exact Z.out y H A0 A1
theorem gP.jn{e e':Nat}{a b:List au}(J:gP cells ex e a)(A5:gP cells ex e' b)(he:e=a.length+e'):gP cells ex e (jn a b):=by
 refine A5.app he J.run J.ok ?_ J.out;intro i x D E O;rcases J.jmp i x D E O with h|⟨M,T,I⟩
 ·exact .inl h
 ·refine .inr ⟨by omega,?_,?_⟩
  ·rw[ajC M];exact T
  ·rcases I with I|⟨y,H,A6⟩
   ·exact .inl I
   ·exact .inr ⟨y,by rw[abl (aa1.1 H).1];exact H,A6⟩
theorem Fg.jn{a b:List au}(J:Fg cells ex a)(A5:Fg cells ex b):Fg cells ex (jn a b):=by
 unfold Fg;rw[eG];exact gP.jn (J.wk rfl (by omega)) A5 rfl
theorem gP.tail{e A8:Nat}{l q:List au}(h:gP cells ex A8 l)(O:A8=e)(V:cf q []=some [])(Y:∀x∈q,yx cells x)(A9:∀x∈q,fq x->x.a=0)
 (AD:∃y,(l++q)[0]?=some y/\y.op=11) (AE:(l++q).length<=e):gP cells ex e (l++q):=by
 subst O;refine⟨AE,?_,?_,?_,?_⟩
 ·rw[dr,h.run];exact V
 ·intro x D;rcases abo.1 D with D|D
  ·exact h.ok x D
  ·exact Y x D
 ·intro i x D E O;by_cases hi:i<l.length
  ·rw[abl hi]at D;rcases h.jmp i x D E O with h|⟨M,T,I⟩
   ·exact .inl h
   ·refine .inr ⟨by simp;omega,by rw[ajC M];exact T,?_⟩;rcases I with I|⟨y,H,A6⟩
    ·exact .inl I
    ·exact .inr ⟨y,by rw[abl (aa1.1 H).1];exact H,A6⟩
  ·rw[abq (by omega)]at D;have:=A9 x (abk D) E;rw[this];exact .inr ⟨by simp,rfl,.inr AD⟩
 ·intro x D E O;rcases abo.1 D with D|D
  ·exact h.out x D E O
  ·have:=A9 x D E;omega
theorem ajy{k:Int}{x:au}(AF:0<=k):(vk k x).a<0->x.a<0/\¬(x.op=9/\x.a= -1)/\vk k x=x:=by
 unfold vk;split
 ·rename_i h;intro U;simp only at U;omega
 ·rename_i h;exact λU=>⟨U,h,rfl⟩
theorem Fg.UA{l:List au}(h:Fg cells true l):Fg cells ex (rA l):=by
 have A7:∀x,fq (vk l.length x)↔fq x:=λx=>by unfold fq;rw[XH]
 unfold Fg;rw[pf];refine⟨by simp,?_,?_,?_,?_⟩
 ·rw[rA,rB (Mg _)];exact h.run
 ·intro x D;obtain⟨y,H,rfl⟩:=abz.1 D;rcases Mg (l.length:Int) y with e|⟨e,_⟩
  ·rw[e];exact h.ok y H
  ·exact .inl ((A7 y).2 e)
 ·intro i x D E O;unfold rA at D;rw[adz]at D;obtain⟨y,H,rfl⟩:=aba.1 D;by_cases AA:y.op=9/\y.a= -1
  ·left;unfold vk;rw[abf AA];simp
  ·have e:vk l.length y=y:=by unfold vk;rw[aa4 AA]
   rw[e]at O⊢;rcases h.jmp i y H ((A7 y).1 E) O with M|⟨M,T,I⟩
   ·exact .inl M
   ·refine .inr ⟨by simpa using M,?_,?_⟩
    ·unfold rA;rw[<-List.map_take,rB (Mg _)];exact T
    ·rcases I with I|⟨z,A3,A4⟩
     ·exact .inl I
     ·refine .inr ⟨vk l.length z,?_,by rw[XH];exact A4⟩;unfold rA;rw[adz,A3];rfl
 ·intro x D E O;obtain⟨y,H,rfl⟩:=abz.1 D;obtain⟨M,T,I⟩:=ajy (by omega) O;rw[I]at O⊢;obtain⟨q1,q2⟩:=h.out y H ((A7 y).1 E) M;refine⟨q1,?_⟩;rcases q2 with q2|⟨_,q2⟩
  ·exact .inl q2
  ·exact absurd ⟨q1,q2⟩ T
end
section
variable {cells:Int} {ex:Bool}
theorem vp{x:au}(h:wE cells x):yx cells x/\¬fq x:=by
 obtain⟨I,T,V⟩:=h;exact⟨.inr ⟨V,by omega⟩,by unfold fq;omega⟩
def Mq(cells:Int)(t:List au):Prop:=cf t []=some [true]/\∀x∈t,yx cells x/\¬fq x
theorem Q7{e:Nat}(h:1<=e):gP cells ex e [ins 9 (e:Int) 0 0 0]:=by
 refine⟨by simpa using h,by simp[cf,cK,ins,ku],?_,?_,?_⟩
 ·intro x D;simp at D;subst D;exact .inl (.inl rfl)
 ·intro i x D E J;cases i with
  |zero=>simp at D;subst D;exact .inl (by simp[ins])
  |succ i=>simp at D
 ·intro x D E J;simp at D;subst D;simp only[ins]at J;omega
theorem Q8{e:Nat}{t p:List au}(H:Mq cells t)(A1:gP cells ex e p):gP cells ex (t.length+1+e) (t++[ins 10 ((t.length:Int)+1+p.length) 0 0 0]++iX (t.length+1) p):=by
 have U:cf (t++[ins 10 ((t.length:Int)+1+p.length) 0 0 0]) []=some []:=by
  rw[dr,H.1];have:=Gi [];simp only[afJ]at this;simp[cf,cK,ins,this,ku]
 have M:(t++[ins 10 ((t.length:Int)+1+p.length) 0 0 0]).length=t.length+1:=by simp
 have:=A1.app (e:=t.length+1+e) (A:=t++[ins 10 ((t.length:Int)+1+p.length) 0 0 0]) (by rw[M]) U ?_ ?_ ?_
 ·rw[M]at this;exact this
 ·intro x D;rcases abo.1 D with D|D
  ·exact (H.2 x D).1
  ·simp at D;subst D;exact .inl (.inr rfl)
 ·intro i x D E J;by_cases hi:i<t.length
  ·rw[abl hi]at D;exact absurd E (H.2 x (abk D)).2
  ·rw[abq (by omega)]at D;have:i-t.length=0:=by
    have:=(aa1.1 D).1;simp at this;omega
   rw[this]at D;simp at D;subst D;have A5:((ins 10 ((t.length:Int)+1+p.length) 0 0 0).a).toNat=t.length+1+p.length:=by simp only[ins];omega
   rw[A5];refine .inr ⟨by simp,?_,.inl (by omega)⟩;rw[aiC (by simp;omega)];rw[dr,U];show cf (iX _ p) []=_;rw[Hl];exact A1.run
 ·intro x D E J;rcases abo.1 D with D|D
  ·exact absurd E (H.2 x D).2
  ·simp at D;subst D;simp only[ins]at J;omega
theorem Ho(b:List au)(r:List (List au)):dh [] (b::r)=if r=[]then b else jn (b++[ins 9 ((b.length:Int)+1+(dh [] r).length) 0 0 0]) (dh [] r):=by rw[dh]
theorem Q9(b:List au)(n:Nat):b++[ins 9 ((b.length:Int)+1+n) 0 0 0]=jn b [ins 9 (((1+n:Nat)):Int) 0 0 0]:=by
 simp only[jn,iX,adC,List.map_nil];congr 2;unfold n9;rw[abf ⟨.inl rfl,by simp only[ins];omega⟩];simp only[ins,au.mk.injEq,anU,and_true];omega
theorem Jr:∀(ts bs:List (List au)),(∀t∈ts,Mq cells t)->(∀b∈bs,Fg cells ex b)->Fg cells ex (dh ts bs)
 |[],[],_,_=>by
  rw[dh];exact gP.plain rfl (by simp) (by simp) (by simp)
 |_::_,[],_,_=>by
  rw[dh];exact gP.plain rfl (by simp) (by simp) (by simp)
 |[],b::r,H,O=>by
  have Y:=O b (by simp);have ih:=Jr [] r H (λx D=>O x (by simp[D]));rw[Ho];split
  ·exact Y
  ·generalize dh [] r=out at ih⊢;rw[Q9];have I:gP cells ex (b.length+(1+out.length)) (jn b [ins 9 (((1+out.length:Nat)):Int) 0 0 0]):=gP.jn (Y.wk rfl (by omega)) (Q7 (by omega)) rfl;unfold Fg;rw[eG];have e:(jn b [ins 9 (((1+out.length:Nat)):Int) 0 0 0]).length=b.length+1:=by rw[eG];rfl
   rw[e];have:=gP.jn (e:=b.length+1+out.length) (b:=out) (e':=out.length) (by rw[show b.length+1+out.length=b.length+(1+out.length) by omega];exact I) ih (by rw[e]);exact this
 |t::ts,b::r,H,O=>by
  have Y:=O b (by simp);have A2:=H t (by simp);have ih:=Jr ts r (λx D=>H x (by simp[D])) (λx D=>O x (by simp[D]));rw[dh];generalize dh ts r=out at ih⊢;split
  ·have I:=Q8 A2 Y;have M:(t++[ins 10 ((t.length:Int)+1+b.length) 0 0 0]++iX (t.length+1) b).length=t.length+1+b.length:=by simp;omega
   unfold Fg;rw[eG,M];refine gP.jn (e':=out.length) ?_ ih (by rw[M]);exact (show gP cells ex (t.length+1+b.length) _ from I).wk M.symm (by rw[M];omega)
  ·rw[Q9];have I:gP cells ex (b.length+(1+out.length)) (jn b [ins 9 (((1+out.length:Nat)):Int) 0 0 0]):=gP.jn (Y.wk rfl (by omega)) (Q7 (by omega)) rfl;have T:=Q8 A2 I;have e:(jn b [ins 9 (((1+out.length:Nat)):Int) 0 0 0]).length=b.length+1:=by rw[eG];rfl
   generalize jn b [ins 9 (((1+out.length:Nat)):Int) 0 0 0]=part at T e⊢;have M:(t++[ins 10 ((t.length:Int)+1+part.length) 0 0 0]++iX (t.length+1) part).length=t.length+1+(b.length+1):=by simp[e];omega
   unfold Fg;rw[eG,M];refine gP.jn (e':=out.length) ?_ ih (by rw[M]);rw[show t.length+1+(b.length+1)+out.length=t.length+1+(b.length+(1+out.length)) by omega];exact T
theorem pJ:yx cells (ins 11 0 0 0 0)/\¬fq (ins 11 0 0 0 0):=⟨.inr ⟨by simp[dx,ins],by simp[ins]⟩,by simp[fq,ins]⟩
theorem Eh(S:List au):cf (ins 11 0 0 0 0::S) []=cf S []:=by simp[cf,cK,ins,ku]
theorem aav{t b:List au}(H:Mq cells t)(O:Fg cells true b):Fg cells ex (iY t b):=by
 unfold iY;refine Fg.UA ?_;have M:(ins 11 0 0 0 0::t).length=t.length+1:=by simp
 have Z:Mq cells (ins 11 0 0 0 0::t):=⟨by rw[Eh];exact H.1,λx D=>by
  rcases abd.1 D with rfl|D
  ·exact pJ
  ·exact H.2 x D⟩
 --A6 test leads behind A6 jump back
 have U:cf (ins 11 0 0 0 0::t++[ins 10 ((t.length:Int)+3+b.length) 0 0 0]) []=some []:=by
  rw[dr,Z.1];have:=Gi [];simp only[afJ]at this;simp[cf,cK,ins,this,ku]
 have A3:(ins 11 0 0 0 0::t++[ins 10 ((t.length:Int)+3+b.length) 0 0 0]).length=t.length+2:=by simp
 have A':gP cells true (b.length+1) b:=gP.wk O rfl (by omega);have I:=A'.app (e:=t.length+3+b.length) (A:=ins 11 0 0 0 0::t++[ins 10 ((t.length:Int)+3+b.length) 0 0 0]) (by rw[A3];omega) U ?_ ?_ ?_
 ·rw[A3]at I;unfold Fg;have e:(ins 11 0 0 0 0::t++[ins 10 ((t.length:Int)+3+b.length) 0 0 0]++iX (t.length+2) b++[ins 9 0 0 0 0]).length=t.length+3+b.length:=by simp;omega
  have V:=gP.tail I (e:=t.length+3+b.length) rfl (q:=[ins 9 0 0 0 0]) (by simp[cf,cK,ins,ku]) (by
   intro x D;simp at D;subst D;exact .inl (.inl rfl)) (by
   intro x D _;simp at D;subst D;rfl) ⟨ins 11 0 0 0 0,by simp,rfl⟩ (by rw[e];omega)
  rw[e];exact V
 ·intro x D;rcases abo.1 D with D|D
  ·exact (Z.2 x D).1
  ·simp at D;subst D;exact .inl (.inr rfl)
 ·intro i x D E J;by_cases hi:i<(ins 11 0 0 0 0::t).length
  ·rw[abl hi]at D;exact absurd E (Z.2 x (abk D)).2
  ·rw[abq (by omega)]at D;have:i-(ins 11 0 0 0 0::t).length=0:=by
    have:=(aa1.1 D).1;simp at this⊢;omega
   rw[this]at D;simp at D;subst D;left;simp only[ins];omega
 ·intro x D E J;rcases abo.1 D with D|D
  ·exact absurd E (Z.2 x D).2
  ·simp at D;subst D;simp only[ins]at J;omega
theorem ajA{t b:List au}(H:Mq cells t)(O:Fg cells true b)(hh:b=[]\/∃y,b[0]?=some y/\y.op=11):Fg cells ex (nC t b):=by
 unfold nC;refine Fg.UA ?_;unfold Fg;have e:b++ins 11 0 0 0 0::t++[ins 10 0 0 0 0]=b++(ins 11 0 0 0 0::t++[ins 10 0 0 0 0]):=by simp
 rw[e];refine gP.tail (gP.wk O rfl (by simp)) rfl ?_ ?_ ?_ ?_ (aa7 _)
 ·rw[dr,Eh,H.1];have:=Gi [];simp only[afJ]at this;simp[cf,cK,ins,this,ku]
 ·intro x D;rcases abo.1 D with D|D
  ·rcases abd.1 D with rfl|D
   ·exact (pJ (cells:=cells)).1
   ·exact (H.2 x D).1
  ·simp at D;subst D;exact .inl (.inr rfl)
 ·intro x D E;rcases abo.1 D with D|D
  ·rcases abd.1 D with rfl|D
   ·exact absurd E (pJ (cells:=cells)).2
   ·exact absurd E (H.2 x D).2
  ·simp at D;subst D;rfl
 ·rcases hh with rfl|⟨y,A4,A7⟩
  ·exact⟨ins 11 0 0 0 0,by simp,rfl⟩
  ·exact⟨y,by rw[abl (aa1.1 A4).1];exact A4,A7⟩
theorem ajB{a c:Int}{b:List au}(A0:gu cells a 1=true)(A8:gu cells c 2=true)(A9:gu cells (c+1) 1=true)(O:Fg cells true b):Fg cells ex (ml a c b):=by
 unfold ml;refine Fg.UA ?_;have U:cf [ins 11 0 0 0 0,ins 13 a c 0 0,ins 10 ((b.length:Int)+8) 0 0 0] []=some []:=by
  have:=Gi [];simp only[afJ]at this;simp[cf,cK,ins,this,ku,oY]
 have A':gP cells true (b.length+5) b:=gP.wk O rfl (by omega);have I:=A'.app (e:=b.length+8) (A:=[ins 11 0 0 0 0,ins 13 a c 0 0,ins 10 ((b.length:Int)+8) 0 0 0]) (by simp;omega) U ?_ ?_ ?_
 ·unfold Fg;have e:([ins 11 0 0 0 0,ins 13 a c 0 0,ins 10 ((b.length:Int)+8) 0 0 0]++iX 3 b++[ins 2 a 0 0 0,ins 2 (c+1) 0 0 0,ins 8 0 8 0 0,ins 6 a 0 0 0,ins 9 0 0 0 0]).length=b.length+8:=by simp
  have V:=gP.tail I (e:=b.length+8) rfl (q:=[ins 2 a 0 0 0,ins 2 (c+1) 0 0 0,ins 8 0 8 0 0,ins 6 a 0 0 0,ins 9 0 0 0 0]) (by
   have T:=aaq [] false false;have I:=BW [] false;simp only[afJ,agd]at I T;simp[cf,cK,ins,ku,oY,I,T]) (by
   intro x D;simp at D;rcases D with rfl|rfl|rfl|rfl|rfl
   ·exact .inr ⟨by simp[dx,ins,A0],by simp[ins]⟩
   ·exact .inr ⟨by simp[dx,ins,A9],by simp[ins]⟩
   ·exact .inr ⟨by simp[dx,ins,zD],by simp[ins]⟩
   ·exact .inr ⟨by simp[dx,ins,A0],by simp[ins]⟩
   ·exact .inl (.inl rfl)) (by
   intro x D E;simp at D;rcases D with rfl|rfl|rfl|rfl|rfl
   ·simp[fq,ins]at E
   ·simp[fq,ins]at E
   ·simp[fq,ins]at E
   ·simp[fq,ins]at E
   ·rfl) ⟨ins 11 0 0 0 0,rfl,rfl⟩ (by rw[<-e];exact aa7 _)
  rw[e];exact V
 ·intro x D;simp at D;rcases D with rfl|rfl|rfl
  ·exact (pJ (cells:=cells)).1
  ·exact .inr ⟨by simp[dx,ins,A0,A8],by simp[ins]⟩
  ·exact .inl (.inr rfl)
 ·intro i x D E J;match i,D with
  |0,D=>simp at D;subst D;exact absurd E (pJ (cells:=cells)).2
  |1,D=>simp at D;subst D;simp[fq,ins]at E
  |2,D=>
   simp at D;subst D;left;simp only[ins];omega
  |i+3,D=>simp at D
 ·intro x D E J;simp at D;rcases D with rfl|rfl|rfl
  ·exact absurd E (pJ (cells:=cells)).2
  ·simp[fq,ins]at E
  ·simp only[ins]at J;omega
end
section
variable {vs:List Vr}
mutual
theorem B0:∀(s:Sm)(c:Int),c<=(dn vs s c).2
 | .mk op name to val conds AP fields blocks line,c=>by
  have A':=qt blocks;have Y:=IK blocks;unfold dn;split
  ·exact anP _
  ·split
   ·exact A' c
   ·split
    ·have:=A' (c+1);simp only;omega
    ·split
     ·have:=Y (c+2);simp only;omega
     ·split
      ·exact Y c
      ·split
       ·exact Y c
       ·split
        ·exact anP _
        ·split<;>exact anP _
theorem ig:∀(l:List Sm)(c:Int),c<=(ag vs l c).2
 |[],c=>anP _
 |x::r,c=>by
  have A':=B0 x c;have Y:=ig r (dn vs x c).2;simp only[ag];omega
theorem qt:∀(l:List (List Sm))(c:Int),c<=(aA vs l c).2
 |[],c=>anP _
 |b::r,c=>by
  have A':=ig b c;have Y:=qt r (ag vs b c).2;simp only[aA];omega
theorem IK:∀(l:List (List Sm))(c:Int),c<=(mQ vs l c).2
 |[],c=>anP _
 |b::r,c=>ig b c
end
end
theorem UB(vs:List Vr):∀(l:List Sm)(c:Int),(ag vs l c).1=[]\/∃y,(ag vs l c).1[0]?=some y/\y.op=11
 |[],c=>.inl rfl
 |x::r,c=>.inr ⟨ins 11 0 0 0 0,by simp[ag,jn],rfl⟩
theorem Ra{h:Int}:∀{l:List Ex},kR l<=h->∀x∈l,aR 0 x<=h
 |y::r,E,x,I=>by
  simp only[kR]at E;rcases abd.1 I with rfl|I
  ·omega
  ·exact Ra (by omega) x I
section
variable {vs:List Vr} {cells:Int} (H:∀v∈vs,dM v=true) (M:cx vs<=cells)
include H M
theorem Mr{x:Ex}(Z:bz x=true)(hw:(dG vs x 2).1=0)(E:aR 0 x<=64):Mq cells (ar vs x).1:=by
 obtain⟨A',Y⟩:=pG.1 hw;obtain⟨⟨f,i1,i2⟩,_,_,i4⟩:=pI H M x [] Z A' (by simpa using E);obtain rfl:=i2 Y;exact⟨i1,λy D=>vp (i4 y D)⟩
theorem Mt{ex:Bool}{x:Ex}{a:Int}(Z:bz x=true)(he:(aL vs x).e=0)(E:aR 0 x<=64)(U:gu cells a 1=true):cf ((ar vs x).1++[ins 6 a 0 0 0]) []=some []/\∀y∈(ar vs x).1++[ins 6 a 0 0 0],yx cells y/\¬fq y:=by
 obtain⟨⟨f,i1,i2⟩,_,_,i4⟩:=pI H M x [] Z he (by simpa using E);constructor
 ·rw[dr,i1];have:=BW [] f;simp only[afJ]at this;simp[cf,cK,ins,this]
 ·intro y D;rcases abo.1 D with D|D
  ·exact vp (i4 y D)
  ·simp at D;subst D;exact⟨.inr ⟨by simp[dx,ins,U],by simp[ins]⟩,by simp[fq,ins]⟩
theorem vq{ex:Bool}{l:List au}(h:cf l []=some []/\∀y∈l,yx cells y/\¬fq y):Fg cells ex l:=
 gP.plain h.1 (λx I=>(h.2 x I).1) (λx I=>(h.2 x I).2) (aa7 _)
omit H in
theorem aeH{c:Int}(h:gu cells c 1=true)(l:List Int):Mq cells (ins 1 0 0 0 0::eH c l):=by
 have key:∀(n:Nat)(l:List Int),l.length<=n->cf (eH c l) [true]=some [true]/\∀x∈eH c l,yx cells x/\¬fq x:=by
  intro n;induction n with
  |zero=>
   intro l O;obtain rfl:l=[]:=abv (by omega);exact⟨rfl,by simp[eH]⟩
  |succ n ih=>
   intro l O;match l,O with
   |[],_=>exact⟨rfl,by simp[eH]⟩
   |[a],_=>exact⟨rfl,by simp[eH]⟩
   |a::b::r,O=>
    obtain⟨i1,i2⟩:=ih r (by simp at O;omega);constructor
    ·have:=adE [];simp only[afJ,agd]at this;simp[eH,cf,cK,ins,oY,this,i1]
    ·intro x I;simp only[eH,abd]at I;rcases I with rfl|rfl|I
     ·exact⟨.inr ⟨by simp[dx,ins,h],by simp[ins]⟩,by simp[fq,ins]⟩
     ·exact⟨.inr ⟨by simp[dx,ins,zD],by simp[ins]⟩,by simp[fq,ins]⟩
     ·exact i2 x I
 obtain⟨i1,i2⟩:=key l.length l (aa7 _);refine⟨by simp[cf,cK,ins,oY,i1],λx I=>?_⟩;rcases abd.1 I with rfl|I
 ·exact⟨.inr ⟨by simp[dx,ins],by simp[ins]⟩,by simp[fq,ins]⟩
 ·exact i2 x I
theorem Mu{s:Tx}{v:Vr}(h:bq vs s=some v)(U:¬v.arr=true)(E:v.ty<=2):gu cells (cw vs s).1 1=true:=by
 have A1:∀v∈vs,0<=bV v:=λv J=>pH (H v J);have A7:=wB A1 h;have A8:bV v=1:=by unfold bV;rw[aa4 U,aa4 (by omega)]
 exact jY (by omega) (by omega) (by omega)
theorem aeI{s:Tx}{v:Vr}(h:bq vs s=some v)(U:v.arr=true):Ld cells (ins 7 (cw vs s).1 0 v.lo v.hi)=true:=by
 have A1:∀v∈vs,0<=bV v:=λv J=>pH (H v J);have A7:=wB A1 h;have A0:=H v (wo h).1;simp only[dM,Ds]at A0;have T:=A0.2.2.1;rw[abf U]at T;have T:=adL T;have A8:bV v=v.hi-v.lo+1:=by unfold bV;rw[abf U]
 have A3:gu cells (cw vs s).1 (v.hi-v.lo+1)=true:=jY (by omega) (by omega) (by omega);unfold Ld;simp only[Ds];exact⟨⟨⟨af7 (show (0:Int)<=v.lo by omega),af7 (show v.lo<=v.hi by omega)⟩,af7 (show v.hi<=255 by omega)⟩,A3⟩
theorem IL{s:Tx}{v:Vr}(h:bq vs s=some v)(E:2<v.ty):0<=(cw vs s).1/\(cw vs s).1+(bJ v.ty).length<=cells/\0<(bJ v.ty).length:=by
 have A1:∀v∈vs,0<=bV v:=λv J=>pH (H v J);have A7:=wB A1 h;have A0:=H v (wo h).1;have A9:qh v.ty=true:=by
  rcases QG A0 with h|h
  ·omega
  ·exact h.2.2
 simp only[dM,Ds]at A0;have A2:¬v.arr=true:=by
  intro U;have T:=A0.2.2.1;rw[abf U]at T;have T:=adL T;omega
 have A8:bV v=(bJ v.ty).length:=by unfold bV;rw[aa4 A2,abf E]
 refine⟨by omega,by omega,?_⟩;unfold qh at A9;have:=adL A9;omega
theorem anc{ex:Bool}{to val:Ex}{line:Int}(A4:b6 to=3\/b6 to=4)(f1:bz to=true)(f2:bz val=true)(h:(F5 vs to val line).1=0)(E:(if b6 to=3 then aR 0 val else max (gn 0 (de to)) (aR 1 val))<=64):
 Fg cells ex (if b6 to=3 then (ar vs val).1++[ins 6 (cw vs (dU to)).1 0 0 0]else qp vs (de to)++((ar vs val).1++[ins 7 (cw vs (dU to)).1 0 (cw vs (dU to)).2.lo (cw vs (dU to)).2.hi])):=by
 obtain⟨op,n,name,field,sub,l⟩:=to;simp only[oM,BL,qg]at A4 E⊢;unfold F5 at h;simp only[BL]at h;cases J:bq vs name with
 |none=>rw[J]at h;simp at h
 |some v=>
  rw[J]at h;simp only at h;split at h
  ·simp at h
  ·obtain⟨q1,AC⟩:=cn.1 h;obtain⟨AD,_⟩:=cn.1 AC;have q1:(aL vs (.mk op n name field sub l)).e=0:=q1;have q2:(aL vs val).e=0:=AD;have AE:=Hi f1 q1;obtain⟨AF,AG⟩:=CF f1;have AH:=jr J;unfold aL at q1;rw[aa4 (by omega),abf (by omega),J]at q1;simp only at q1;rw[aa4 (by omega)]at q1;by_cases AA:v.arr≠decide (op=4)\/2<v.ty
   ·rw[abf AA]at q1;simp[cL]at q1
   ·have AB:v.arr=decide (op=4):=by
     cases AQ:v.arr<;>cases AR:decide (op=4)<;>simp_all
    have AS:¬2<v.ty:=λh=>AA (.inr h);by_cases AI:op=3
    ·subst AI;have E:aR 0 val<=64:=E;have A2:¬v.arr=true:=by rw[AB];decide
     exact vq (l:=(ar vs val).1++[ins 6 (cw vs name).1 0 0 0]) H M (Mt (ex:=ex) H M f2 q2 E (Mu H M J A2 (by omega)))
    ·have AJ:op=4:=by omega
     subst AJ;have E:max (gn 0 sub) (aR 1 val)<=64:=E;obtain⟨z,rfl⟩:∃z,sub=[z]:=by
      match sub,AF with
      |[z],_=>exact⟨z,rfl⟩
      |[],h=>simp[dY]at h
      |_::_::_,h=>simp[dY]at h
     simp only[gn]at E;have AK:=(jH _).1 AG z (by simp);obtain⟨⟨f,i1,_⟩,_,_,i4⟩:=pI H M z [] AK (AE z (by simp)) (by simp;omega);obtain⟨⟨g,A5,_⟩,_,_,AL⟩:=pI H M val [f] f2 q2 (by simp;omega);have A2:v.arr=true:=by rw[AB];decide
     have T:=aeI H M J A2;simp only[qp,AH];refine vq (l:=(ar vs z).1++((ar vs val).1++[ins 7 (cw vs name).1 0 v.lo v.hi])) H M ⟨?_,?_⟩
     ·rw[dr,i1];simp only[afJ,adV];rw[dr,A5];have:=aaq [] f g;simp only[afJ,agd]at this;simp[cf,cK,ins,this]
     ·intro y D;rcases abo.1 D with D|D
      ·exact vp (i4 y D)
      ·rcases abo.1 D with D|D
       ·exact vp (AL y D)
       ·simp at D;subst D;refine⟨.inr ⟨?_,by simp[ins]⟩,by simp[fq,ins]⟩;unfold dx;simp only[ins]at T⊢;simpa using T
theorem Rb{name:Tx}{v:Vr}{line:Int}(J:bq vs name=some v)(E:2<v.ty):∀(V:List Tx)(xs:List Ex)(p:List Tx),xs.length=V.length->bO xs=true->(jm vs v.ty line V xs p).1=0->kR xs<=64->
 cf (en vs name V xs) []=some []/\∀y∈en vs name V xs,yx cells y/\¬fq y
 |[],[],p,_,_,_,_=>⟨rfl,by simp[en]⟩
 |f::V,x::xs,p,O,Z,h,AM=>by
  simp only[bO,Ds]at Z;simp only[kR]at AM;unfold jm at h;cases A6:mi v.ty f with
  |none=>rw[A6]at h;simp at h
  |some q=>
   rw[A6]at h;simp only at h;split at h
   ·simp at h
   ·split at h
    ·simp at h
    ·obtain⟨A4,AN⟩:=cn.1 h;obtain⟨i1,i2⟩:=Rb J E V xs (p++[f]) (by simpa using O) Z.2 AN (by omega);obtain⟨_,q2,j,q3,AT⟩:=yt J E A6;obtain⟨AU,AV,AW⟩:=IL H M J E;have A3:gu cells (iW vs name f).1 1=true:=jY (by rw[q3];omega) (by omega) (by rw[q3];omega);obtain⟨A5,AO⟩:=Mt (ex:=false) H M Z.1 (pG.1 A4).1 (by omega) A3;have e:en vs name (f::V) (x::xs)=((ar vs x).1++[ins 6 (iW vs name f).1 0 0 0])++en vs name V xs:=by simp[en]
     rw[e];constructor
     ·rw[dr,A5];exact i1
     ·intro y D;rcases abo.1 D with D|D
      ·exact AO y D
      ·exact i2 y D
 |[],_::_,_,O,_,_,_=>by simp at O
 |_::_,[],_,O,_,_,_=>by simp at O
end
theorem wF{vs:List Vr}{I:Bool}:∀{cs:List Ex}{l:List (List Sm)},cs.length<=l.length->(gf vs I cs l).1=0->∀x∈cs,(dG vs x 2).1=0
 |c::cs,b::r,A0,h,x,D=>by
  obtain⟨V,Y⟩:=cn.1 h;obtain⟨_,A4⟩:=cn.1 Y;rcases abd.1 D with rfl|D
  ·exact V
  ·exact wF (by simpa using A0) A4 x D
 |_::_,[],A0,_,_,_=>by simp at A0
section
variable {vs:List Vr} {cells:Int} (O:∀v∈vs,dM v=true) (M:cx vs<=cells)
include O M
mutual
theorem aeJ(I:Bool):∀(s:Sm)(c:Int),jU s=true->(kU vs I s).1=0->gS s<=64->0<=c->(dn vs s c).2<=cells->Fg cells I (dn vs s c).1
 | .mk op name to val conds A5 fields blocks line,c,J,h,H,T,E=>by
  simp only[jU,Ds,aa8]at J;obtain⟨Af,Ag,A9,AB,A2,A6,Ah,Ai,A7⟩:=J;have AA:(op=1\/op=3\/op=5\/op=6)->bz val=true:=by
   intro V;rw[abf V]at AB;simp only[Ds]at AB;exact AB.2
  unfold kU at h;unfold gS at H;unfold dn at E⊢;by_cases V:op=1
  ·subst V;rw[abf rfl]at h;rw[abf rfl]at A9;simp only[Ds,aa8]at A9;simp only[afz]at H⊢;exact anc O M A9.1 A9.2 (AA (.inl rfl)) h H
  ·rw[aa4 V]at h H;simp only[aa4 V]at E⊢;by_cases Y:op=2
   ·subst Y;rw[abf rfl]at h H;simp only[afz]at E⊢;have U:cF 2 conds.length A5.length fields.length blocks.length=true:=A6;simp[cF]at U;refine Jr _ _ ?_ (zQ I conds blocks c A7 h (by omega) T E);intro t AC;obtain⟨x,D,rfl⟩:=abz.1 AC;exact Mr O M ((jH _).1 A2 x D) (wF (by omega) h x D) (Ra (by omega) x D)
   ·rw[aa4 Y]at h H;simp only[aa4 Y]at E⊢;by_cases A4:op=3
    ·subst A4;rw[abf rfl]at h H;simp only[afz]at E⊢;obtain⟨q1,q2⟩:=cn.1 h;have hm:=qt (vs:=vs) blocks (c+1);have AK:gu cells c 1=true:=jY T (by omega) (by omega);refine Fg.jn (vq O M (Mt (ex:=I) O M (AA (.inr (.inl rfl))) (pG.1 q1).1 (by omega) AK)) ?_;refine Jr _ _ ?_ (zQ I [] blocks (c+1) A7 q2 (by omega) (by omega) E);intro t AC;obtain⟨l,A0,rfl⟩:=abz.1 AC;exact aeH M AK l
    ·rw[aa4 A4]at h H;simp only[aa4 A4]at E⊢;by_cases AD:op=4
     ·subst AD;rw[abf rfl]at h H;simp only[afz]at E⊢;have U:cF 4 conds.length A5.length fields.length blocks.length=true:=A6;simp[cF]at U;obtain⟨AQ,_,_,AR⟩:=U;cases A':bq vs name with
      |none=>rw[A']at h;simp at h
      |some v=>
       rw[A']at h;simp only at h;split at h
       ·simp at h
       ·split at h
        ·simp at h
        ·rename_i g2;obtain⟨q1,q2⟩:=cn.1 h;have hm:=IK (vs:=vs) blocks (c+2);have AL:=Mu O M A' (λe=>g2 (.inl e)) (by omega);have AS:gu cells c 1=true:=jY T (by omega) (by omega);have AM:gu cells (c+1) 1=true:=jY (by omega) (by omega) (by omega);have AT:gu cells c 2=true:=jY T (by omega) (by omega);refine Fg.jn ?_ (ajB AL AT AM (Hp blocks (c+2) A7 q2 AR (by omega) (by omega) E));obtain⟨x,y,z,rfl⟩:∃x y z,conds=[x,y,z]:=by
          match conds,AQ with
          |[x,y,z],_=>exact⟨x,y,z,rfl⟩
         obtain⟨AU,AE⟩:=cn.1 q1;obtain⟨AE,AF⟩:=cn.1 AE;obtain⟨AF,_⟩:=cn.1 AF;simp only[bO,Ds]at A2;simp only[gn,Int.zero_add,Int.reduceAdd]at H;obtain⟨⟨f,i1,_⟩,_,_,i4⟩:=pI O M x [] A2.1 (pG.1 AU).1 (by simp;omega);obtain⟨⟨g,AV,_⟩,_,_,AW⟩:=pI O M y [f] A2.2.1 (pG.1 AE).1 (by simp;omega);obtain⟨⟨k,AX,_⟩,_,_,AY⟩:=pI O M z [f,g] A2.2.2.1 (pG.1 AF).1 (by simp;omega);refine vq O M ⟨?_,?_⟩
         ·simp only[iO];rw[dr,dr,i1];simp only[afJ,adV];rw[dr,AV];simp only[agd,afJ,adV];rw[AX];have t1:=BW [f,g] k;have t2:=BW [f] g;have t3:=BW [] f;simp only[agd,afJ]at t1 t2 t3;simp[cf,cK,ins,t1,t2,t3]
         ·intro a A1;simp only[iO,abo,abd,afI,an2]at A1;rcases A1 with (A1|A1|A1)|rfl|rfl|rfl
          ·exact vp (i4 a A1)
          ·exact vp (AW a A1)
          ·exact vp (AY a A1)
          ·exact⟨.inr ⟨by simp[dx,ins,AM],by simp[ins]⟩,by simp[fq,ins]⟩
          ·exact⟨.inr ⟨by simp[dx,ins,AS],by simp[ins]⟩,by simp[fq,ins]⟩
          ·exact⟨.inr ⟨by simp[dx,ins,AL],by simp[ins]⟩,by simp[fq,ins]⟩
     ·rw[aa4 AD]at h H;simp only[aa4 AD]at E⊢;by_cases AG:op=5
      ·subst AG;rw[abf rfl]at h;rw[abf (.inl rfl)]at H;simp only[afz]at E⊢;have U:cF 5 conds.length A5.length fields.length blocks.length=true:=A6;simp[cF]at U;obtain⟨q1,q2⟩:=cn.1 h;exact aav (Mr O M (AA (.inr (.inr (.inl rfl)))) q1 (by omega)) (Hp blocks c A7 q2 U.2.2.2 (by omega) T E)
      ·rw[aa4 AG]at h;simp only[aa4 AG]at E⊢;by_cases AH:op=6
       ·subst AH;rw[abf rfl]at h;rw[abf (.inr rfl)]at H;simp only[afz]at E⊢;have U:cF 6 conds.length A5.length fields.length blocks.length=true:=A6;simp[cF]at U;obtain⟨q1,q2⟩:=cn.1 h;refine ajA (Mr O M (AA (.inr (.inr (.inr rfl)))) q2 (by omega)) (Hp blocks c A7 q1 U.2.2.2 (by omega) T E) ?_;match blocks,U.2.2.2 with
        |[b],_=>exact UB vs b c
       ·rw[aa4 AH]at h;rw[aa4 (by omega)]at H;simp only[aa4 AH]at E⊢;by_cases AI:op=7
        ·subst AI;rw[abf rfl]at h;simp only[afz]at⊢;split at h
         ·rename_i AZ;subst AZ;refine⟨aa7 _,by simp[cf,cK,ins,ku],?_,?_,?_⟩
          ·intro x D;simp at D;subst D;exact .inl (.inl rfl)
          ·intro i x D AJ A8;cases i with
           |zero=>simp at D;subst D;simp[ins]at A8
           |succ i=>simp at D
          ·intro x D AJ A8;simp at D;subst D;exact⟨rfl,.inr ⟨rfl,rfl⟩⟩
         ·simp at h
        ·rw[aa4 AI]at h;simp only[aa4 AI]at⊢;by_cases AN:op=8
         ·subst AN;simp only[afz];refine⟨aa7 _,by simp[cf,cK,ins,ku],?_,?_,?_⟩
          ·intro x D;simp at D;subst D;exact .inl (.inl rfl)
          ·intro i x D AJ A8;cases i with
           |zero=>simp at D;subst D;simp[ins]at A8
           |succ i=>simp at D
          ·intro x D AJ A8;simp at D;subst D;exact⟨rfl,.inl rfl⟩
         ·have A_:op=9:=by omega
          subst A_;rw[abf rfl]at h;rw[aa4 (by omega)]at H;simp only[aa4 AN];have U:cF 9 conds.length A5.length fields.length blocks.length=true:=A6;simp[cF]at U;cases A':bq vs name with
          |none=>rw[A']at h;simp at h
          |some v=>
           rw[A']at h;simp only at h;split at h
           ·simp at h
           ·rename_i g1;have Aa:=jr A';obtain⟨i1,i2⟩:=Rb O M A' (by omega) fields conds [] U.1 A2 h H;obtain⟨Ab,Ac,Ad⟩:=IL O M A' (by omega);refine vq O M ⟨?_,?_⟩
            ·rw[dr,i1];simp[cf,cK,ins,ku]
            ·intro y A3;rcases abo.1 A3 with A3|A3
             ·exact i2 y A3
             ·simp at A3;subst A3;refine⟨.inr ⟨?_,by simp[ins]⟩,by simp[fq,ins]⟩;rw[Aa];have Ae:gu cells (cw vs name).1 (bJ v.ty).length=true:=jY Ab (by omega) Ac;simp[dx,ins,II,Ae];exact af7 Ad
theorem vr(I:Bool):∀(l:List Sm)(c:Int),eR l=true->(eX vs I l).1=0->bn l<=64->0<=c->(ag vs l c).2<=cells->Fg cells I (ag vs l c).1
 |[],c,_,_,_,_,_=>gP.plain rfl (by simp[ag]) (by simp[ag]) (aa7 _)
 |x::r,c,J,h,H,T,E=>by
  simp only[eR,Ds]at J;simp only[bn]at H;obtain⟨V,Y⟩:=cn.1 h;simp only[ag]at E⊢;have AO:=B0 (vs:=vs) x c;have AP:=ig (vs:=vs) r (dn vs x c).2;have i1:=aeJ I x c J.1 V (by omega) T (by omega);have i2:=vr I r (dn vs x c).2 J.2 Y (by omega) (by omega) E;have tk:Fg cells I [ins 11 0 0 0 0]:=gP.plain (by rw[Eh];rfl) (λx D=>by simp at D;subst D;exact pJ.1) (λx D=>by simp at D;subst D;exact (pJ (cells:=cells)).2) (aa7 _);exact Fg.jn (Fg.jn tk i1) i2
theorem zQ(I:Bool):∀(cs:List Ex)(l:List (List Sm))(c:Int),cW l=true->(gf vs I cs l).1=0->cd l<=64->0<=c->(aA vs l c).2<=cells->∀b∈(aA vs l c).1,Fg cells I b
 |_,[],c,_,_,_,_,_,b,Z=>by simp[aA]at Z
 |[],x::r,c,J,h,H,T,E,b,Z=>by
  simp only[cW,Ds]at J;simp only[cd]at H;obtain⟨V,Y⟩:=cn.1 h;simp only[aA]at E Z;have AO:=ig (vs:=vs) x c;have AP:=qt (vs:=vs) r (ag vs x c).2;have i1:=vr I x c J.1 V (by omega) T (by omega);have i2:=zQ I [] r (ag vs x c).2 J.2 Y (by omega) (by omega) E;rcases abd.1 Z with rfl|Z
  ·exact i1
  ·exact i2 b Z
 |_::cs,x::r,c,J,h,H,T,E,b,Z=>by
  simp only[cW,Ds]at J;simp only[cd]at H;obtain⟨_,h⟩:=cn.1 h;obtain⟨V,Y⟩:=cn.1 h;simp only[aA]at E Z;have AO:=ig (vs:=vs) x c;have AP:=qt (vs:=vs) r (ag vs x c).2;have i1:=vr I x c J.1 V (by omega) T (by omega);have i2:=zQ I cs r (ag vs x c).2 J.2 Y (by omega) (by omega) E;rcases abd.1 Z with rfl|Z
  ·exact i1
  ·exact i2 b Z
theorem Hp:∀(l:List (List Sm))(c:Int),cW l=true->(wj vs l).1=0->l.length=1->cd l<=64->0<=c->(mQ vs l c).2<=cells->Fg cells true (mQ vs l c).1
 |[b],c,J,h,_,H,T,E=>by
  simp only[cW,anV]at J;simp only[cd]at H;exact vr true b c J h (by omega) T E
 |[],_,_,_,A0,_,_,_=>by simp at A0
 |_::_::_,_,_,_,A0,_,_,_=>by simp at A0
end
end
theorem vt{op a b n m:Int}(h:op<9\/10<op):Flat [ins op a b n m]:=Flat.one (by simp[ins];omega)
section
variable {vs:List Vr}
mutual
theorem m5:∀x:Ex,bz x=true->(aL vs x).e=0->Flat (ar vs x).1
 | .mk op n name field sub line,D,h=>by
  have AA:=Mn D;simp only[bz,Ds,aa8]at D;obtain⟨_,A3,_,_,Y⟩:=D;unfold aL at h;unfold ar;by_cases Z:op=1\/op=2
  ·simp only[abf Z];exact vt (by omega)
  ·rw[aa4 Z]at h⊢;by_cases A':op=3\/op=4\/op=5
   ·rw[abf A']at h;cases J:bq vs name with
    |none=>rw[J]at h;simp[cL]at h
    |some v=>
     rw[J]at h;simp only at h;have A0:(cw vs name).2=v:=jr J;by_cases M:op=5
     ·rw[abf M]at h;rw[aa4 (by omega),abf M];split at h
      ·simp[cL]at h
      ·rename_i AB;cases O:mi v.ty field with
       |none=>rw[O]at h;simp[cL]at h
       |some p=>
        obtain⟨_,hm,j,AC,_⟩:=Mf (i:=0) O;have A4:=yt J (by omega) O;have AD:=XL hm;have:(iW vs name field).2=p:=by
         obtain⟨_,_,_,_⟩:=A4;simp_all
        simp only[this];exact vt (by omega)
     ·rw[aa4 M]at h;split at h
      ·simp[cL]at h
      ·rename_i A5;simp only[anS,Int.not_lt]at A5;by_cases A1:op=4
       ·rw[abf A1]at h;rw[aa4 (by omega),aa4 M,abf A1];simp only[A0];refine Flat.app (ane sub v.ty Y h) (vt (by omega))
       ·rw[abf (by omega)];simp only[A0];exact vt (by omega)
   ·rw[aa4 A']at h;rw[aa4 (by omega),aa4 (by omega),aa4 (by omega)];exact Flat.app (anf sub op line Y h (by rw[A3];unfold dY;split<;>(try split)<;>omega)) (vt (by omega))
theorem ane:∀(l:List Ex)(t:Int),bO l=true->(yi vs t l).e=0->Flat (qp vs l)
 |[],t,_,_=>by unfold qp;exact Flat.nil
 |x::r,t,D,h=>by
  simp only[bO,Ds]at D;unfold qp;unfold yi at h;split at h
  ·rename_i he;exact absurd h he
  ·rename_i he;exact m5 x D.1 (by simpa using he)
theorem anf:∀(l:List Ex)(op line:Int),bO l=true->(tw vs op line l).e=0->l.length<=2->Flat (iO vs l).1
 |[],_,_,_,_,_=>by unfold iO;exact Flat.nil
 |[x],op,line,D,h,_=>by
  simp only[bO,anV]at D;unfold tw at h;unfold iO;exact m5 x D (iE h).1
 |[x,y],op,line,D,h,_=>by
  simp only[bO,anV,Ds]at D;unfold tw at h;obtain⟨A6,A7,_⟩:=iE h;unfold iO iO;exact Flat.app (m5 x D.1 A6) (m5 y D.2 A7)
 |x::y::z::r,_,_,_,_,A8=>by simp at A8
end
theorem kD{x:Ex}{t:Int}(h:(dG vs x t).1=0):(aL vs x).e=0/\(aL vs x).t=t:=by
 unfold dG at h;split at h
 ·rename_i he;exact absurd h he
 ·rename_i he;split at h
  ·simp at h
  ·rename_i A9;exact⟨by simpa using he,by simpa using A9⟩
theorem adJ(c:Int):∀l:List Int,Flat (eH c l)
 |[]=>by unfold eH;exact Flat.nil
 |[_]=>by unfold eH;exact Flat.nil
 |a::b::r=>by
  unfold eH;exact Flat.cons (by simp[ins]) (Flat.cons (by simp[ins]) (adJ c r))
end
def jf(ex:Bool)(x:au):Prop:=(x.op=10->0<=x.a)/\(x.op=9->0<=x.a\/x.a= -2\/(ex=true/\x.a= -1))
def Jf(ex:Bool)(l:List au):Prop:=∀x∈l,jf ex x
section
variable {ex:Bool}
theorem Flat.jf{l:List au}(h:Flat l):Jf ex l:=λx E=>⟨λI=>absurd I (h x E).2,λI=>absurd I (h x E).1⟩
theorem Jf.app{a b:List au}(T:Jf ex a)(U:Jf ex b):Jf ex (a++b):=λx E=>(abo.1 E).elim (T x) (U x)
theorem Jf.nil:Jf ex []:=λ_ h=>by simp at h
theorem Jf.one{x:au}(h:Am.jf ex x):Jf ex [x]:=λy H=>by simp at H;subst H;exact h
theorem Jf.mv{l:List au}(h:Jf ex l)(k:Nat):Jf ex (iX k l):=by
 intro x E;obtain⟨y,H,rfl⟩:=abz.1 E;have:=h y H;unfold Am.jf n9 at*;split
 ·rename_i A2;exact⟨λ_=>by simp only;omega,λ_=>.inl (by simp only;omega)⟩
 ·exact this
theorem Jf.jn{a b:List au}(T:Jf ex a)(U:Jf ex b):Jf ex (jn a b):=T.app (U.mv _)
theorem Jf.out{l:List au}(h:Jf true l):Jf ex (rA l):=by
 intro x E;obtain⟨y,H,rfl⟩:=abz.1 E;have:=h y H;unfold Am.jf vk at*;split
 ·exact⟨λ_=>by simp only;omega,λ_=>.inl (by simp only;omega)⟩
 ·rename_i A2;refine⟨this.1,λI=>?_⟩;rcases this.2 I with h|h|h
  ·exact .inl h
  ·exact .inr (.inl h)
  ·exact absurd ⟨I,h.2⟩ A2
end
theorem Mv{vs:List Vr}{name:Tx}:∀(V:List Tx)(xs:List Ex),bO xs=true->(∀x∈xs,(aL vs x).e=0)->Flat (en vs name V xs)
 |[],xs,_,_=>by cases xs<;>simp only[en]<;>exact Flat.nil
 |_::_,[],_,_=>by simp only[en];exact Flat.nil
 |f::V,x::xs,D,h=>by
  simp only[bO,Ds]at D;simp only[en];exact Flat.app (m5 x D.1 (h x (by simp))) (Flat.cons (by simp[ins]) (Mv V xs D.2 (λy H=>h y (by simp[H]))))
end Go.Am
end
section
namespace Go.Am
open Go Go.Proofs
variable [Inhabited b7]
set_option maxRecDepth 20000
@[simp] def dy(x:au):D:=.agg [.int .i64 x.op,.int .i64 x.a,.int .i64 x.b,.int .i64 x.n,.int .i64 x.m]
@[simp] def aDe(ins:List au)(vars cells:Int)(x y:AV):aH:=.box [.d (.list (ins.map dy)),.d (.int .i64 vars),.d (.int .i64 cells),x,y]
@[simp] def bD(l:List Bool):List D:=l.map .bool
section
variable (ins:List au) (vars cells:Int) (s1 E H s2 I J:Nat) (S T:List D)
end
end Go.Am
end
section
namespace Go.Am
open Go Go.Proofs Go.Proofs.Tryz
variable [Inhabited b7]
set_option maxRecDepth 20000
structure Mk where
 out:List au
 cells:Int
 most:Int
 ex:List (List Int)
 lv:List Int
@[simp] def dP(n:Int):D:=.int .i64 n
@[simp] def gv(l:List Int):List D:=l.map dP
@[simp] def mkB(p:Pg)(m:Mk)(h:Int):aH:=.box [.d (.str p.name),.d (.list (p.vars.map bN)),.d (.list (p.body.map cq)),.vec 1 0 0 m.out.length,.d (.int .i64 m.cells),.d (.int .i64 h),.d (.int .i64 m.most),.vec 2 0 0 m.ex.length,.vec 3 0 0 m.lv.length]
@[simp] def gw(p:Pg)(m:Mk)(h:Int):List aH:=[mkB p m h,.vec 5 (m.out.map dy),.vv (m.ex.map gv) none,.vec 1 (m.lv.map dP)]
@[simp] def Rc(p:Pg)(m:Mk)(h:Int)(v1 v2 v3:Nat):List (Nat×aH):=[(0,.box [.d (.str p.name),.d (.list (p.vars.map bN)),.d (.list (p.body.map cq)),.vec 1 v1 0 m.out.length,.d (.int .i64 m.cells),.d (.int .i64 h),.d (.int .i64 m.most),.vec 2 v2 0 m.ex.length,.vec 3 v3 0 m.lv.length]),(v1,.vec 5 (m.out.map dy)),(v2,.vv (m.ex.map gv) none),(v3,.vec 1 (m.lv.map dP))]
@[simp] def ij(p:Pg)(m:Mk)(h:Int)(a b c O T U:Nat):aH:=.box [.d (.str p.name),.d (.list (p.vars.map bN)),.d (.list (p.body.map cq)),.vec a O 0 m.out.length,.d (.int .i64 m.cells),.d (.int .i64 h),.d (.int .i64 m.most),.vec b T 0 m.ex.length,.vec c U 0 m.lv.length]
def gx(p:Pg)(m:Mk)(h:Int)(o:Out)(r:bZ):Prop:=∃v1 v2 v3,r=some (o,Rc p m h v1 v2 v3)
def Mk.put(m:Mk)(x:au)(t:Int):Mk:={m with out:=m.out++[x],most:=max m.most t}
theorem mxI(a b:Int):(if a<b then b else a)=max a b:=by
 rw[Int.max_def];by_cases h:a<b
 ·rw[abf h,abf (by omega)]
 ·by_cases V:a=b
  ·subst V;simp
  ·rw[aa4 h,aa4 (by omega)]
theorem Gl(p:Pg)(m:Mk)(h:Int):ai ctx 122 [.ptr 0 0 0] (gw p m h)=some (.ret (.d (.int .i64 m.out.length)),Rc p m h 0 0 0):=by
 rw[ahH (by simp)];simp[f122]
theorem j0(p:Pg)(m:Mk)(h I:Int)(x:au)(H:m.out.length<100000000)(hw:IntKind.i64.wrap (h+I)=h+I):gx p (m.put x (h+I)) (h+I) (.ret (.d (.int .i64 m.out.length))) (ai ctx 44 [.ptr 0 0 0,.d (dy x),.d (.int .i64 I)] (gw p m h)):=by
 have w0:IntKind.i64.wrap (m.out.length:Int)=m.out.length:=az (by unfold bj;omega);have Y:m.out.length<=4611686018427387903:=by omega
 have Z:(m.out.length+1)*40<=140737488355328:=by omega
 rw[Uk (by simp)];simp[f44,aw,hw,w0,Y,Z,mxI];exact⟨1,0,0,by simp[Mk.put]⟩
theorem XU(p:Pg)(m:Mk)(h n:Int)(hw:IntKind.i64.wrap (m.cells+n)=m.cells+n):gx p {m with cells:=m.cells+n} h (.ret (.d (.int .i64 m.cells))) (ai ctx 186 [.ptr 0 0 0,.d (.int .i64 n)] (gw p m h)):=by
 rw[ahY (by simp)];simp[f186,hw];exact⟨_,_,_,rfl⟩
theorem rE(p:Pg)(m:Mk)(h at_:Int)(H:m.out.length<100000000)(hw:IntKind.i64.wrap (h+ -1)=h+ -1):gx p (m.put (ins 6 at_ 0 0 0) (h+ -1)) (h+ -1) (.ret (.bg [])) (ai ctx 182 [.ptr 0 0 0,.d (.int .i64 at_)] (gw p m h)):=by
 obtain⟨v1,v2,v3,E⟩:=j0 p m h (-1) (ins 6 at_ 0 0 0) H hw;generalize m.put (ins 6 at_ 0 0 0) (h+ -1)=M at*;rw[ahU (by simp)];simp[ins]at E;simp[f182,E];exact⟨_,_,_,rfl⟩
theorem nE(p:Pg)(m:Mk)(h:Int)(H:m.out.length<100000000)(hw:IntKind.i64.wrap h=h):gx p (m.put (ins 11 0 0 0 0) h) h (.ret (.bg [])) (ai ctx 112 [.ptr 0 0 0] (gw p m h)):=by
 obtain⟨v1,v2,v3,E⟩:=j0 p m h 0 (ins 11 0 0 0 0) H (by simpa using hw);rw[show h+0=h by omega]at E;generalize m.put (ins 11 0 0 0 0) h=M at*;rw[ahC (by simp)];simp[ins]at E;simp[f112,E];exact⟨_,_,_,rfl⟩
theorem zR(p:Pg)(m:Mk)(h to:Int)(H:m.out.length<100000000)(hw:IntKind.i64.wrap (h+ -1)=h+ -1):gx p (m.put (ins 10 to 0 0 0) (h+ -1)) (h+ -1) (.ret (.d (.int .i64 m.out.length))) (ai ctx 183 [.ptr 0 0 0,.d (.int .i64 to)] (gw p m h)):=by
 obtain⟨v1,v2,v3,E⟩:=j0 p m h (-1) (ins 10 to 0 0 0) H hw;generalize m.put (ins 10 to 0 0 0) (h+ -1)=M at*;rw[ahV (by simp)];simp[ins]at E;simp[f183,E];exact⟨_,_,_,rfl⟩
theorem Gm(p:Pg)(m:Mk)(h to:Int)(H:m.out.length<100000000)(hw:IntKind.i64.wrap h=h):gx p (m.put (ins 9 to 0 0 0) h) h (.ret (.d (.int .i64 m.out.length))) (ai ctx 120 [.ptr 0 0 0,.d (.int .i64 to)] (gw p m h)):=by
 obtain⟨v1,v2,v3,E⟩:=j0 p m h 0 (ins 9 to 0 0 0) H (by simpa using hw);rw[show h+0=h by omega]at E;generalize m.put (ins 9 to 0 0 0) h=M at*;rw[Ln (by simp)];simp[ins]at E;simp[f120,E];exact⟨_,_,_,rfl⟩
theorem Gn(p:Pg)(m:Mk)(h at_ t:Int)(H:m.out.length<100000000)(hw:IntKind.i64.wrap (h+1)=h+1):gx p (m.put (ins (if t=2 then 3 else 2) at_ 0 0 0) (h+1)) (h+1) (.ret (.bg [])) (ai ctx 184 [.ptr 0 0 0,.d (.int .i64 at_),.d (.int .i64 t)] (gw p m h)):=by
 obtain⟨v1,v2,v3,E⟩:=j0 p m h 1 (ins (if t=2 then 3 else 2) at_ 0 0 0) H hw;generalize m.put (ins (if t=2 then 3 else 2) at_ 0 0 0) (h+1)=M at*;rw[ahW (by simp)];by_cases J:t=2
 ·simp[ins,J]at E;simp[f184,J,E];exact⟨_,_,_,rfl⟩
 ·simp[ins,J]at E;simp[f184,J,E];exact⟨_,_,_,rfl⟩
def Mk.lead(m:Mk)(at_:Int):Mk:={m with out:=setAt m.out at_ m.out.length}
theorem XV:∀(l:List au)(i:Nat)(v:Int)(hi:i<l.length),(l.map dy).set i (.agg [.int .i64 l[i].op,.int .i64 v,.int .i64 l[i].b,.int .i64 l[i].n,.int .i64 l[i].m])=(setAt l i v).map dy
 |x::l,0,v,hi=>by simp[setAt]
 |x::l,i+1,v,hi=>by
  have ih:=XV l i v (by simpa using hi);simp only[setAt,Int.toNat_natCast]at ih⊢;have e:((i+1:Nat):Int).toNat=i+1:=by omega
  try rw[e]
  simp only[adC,List.set_cons_succ,List.getElem_cons_succ,List.modify_succ_cons];rw[ih]
theorem sP(p:Pg)(m:Mk)(h:Int)(i:Nat)(hi:i<m.out.length)(E:m.out.length<100000000):ai ctx 74 [.ptr 0 0 0,.d (.int .i64 i)] (gw p m h)=some (.ret (.bg []),Rc p (m.lead i) h 0 0 0):=by
 have A2:=Gl p m h;have A3:=XV m.out i m.out.length hi;rw[amQ (by simp)];simp at A2 A3;simp[f74,A2,hi,G4,Jh,Jg,zy,BC,Cp,nq,oW,p7,tN,Fj,Fk,Fl,Fm,fK,tM,wZ,GR,vT,DN,Oe,Vz,Kq,eE,fi,mf,rS,bf.app];simp[A3,Mk.lead]
def Mk.cI(m:Mk)(ps:List Int):Mk:={m with out:=jX m.out ps m.out.length}
theorem vu(m:Mk)(i:Int)(ps:List Int):m.cI (i::ps)=(m.lead i).cI ps:=by
 unfold Mk.cI Mk.lead;simp only[r6,XO]
@[simp] theorem Ei(m:Mk)(i:Int):(m.lead i).out.length=m.out.length:=by simp[Mk.lead]
def Pl(n:Nat)(ps:List Int):Prop:=∀i∈ps,∃k:Nat,i=k/\k<n
theorem B1(p:Pg)(h:Int)(l:List Int)(J:l.length<100000000)(k:Kt)(R:bZ):∀(rest pre:List Int)(m:Mk),l=pre++rest->m.out.length<100000000->Pl m.out.length rest->
 (∀Y:Env,k (.exit 0) ⟨16,aI,Y,[⟨0,0,ij p (m.cI rest) h 2 3 4 0 0 0⟩,⟨1,0,.vec 1 (l.map dP)⟩,⟨2,0,.vec 5 ((m.cI rest).out.map dy)⟩,⟨3,0,.vv (m.ex.map gv) none⟩,⟨4,0,.vec 1 (m.lv.map dP)⟩]⟩=R)->
 aO ctx 43 (.loop (Code.at (bk f43) [1,0,0])) ⟨16,aI,[(0,true,.ptr 0 0 0),(6,true,.vec 1 0 0 l.length),(7,true,.d (.int .i64 l.length)),(8,true,.d (.int .i64 pre.length))],[⟨0,0,ij p m h 2 3 4 0 0 0⟩,⟨1,0,.vec 1 (l.map dP)⟩,⟨2,0,.vec 5 (m.out.map dy)⟩,⟨3,0,.vv (m.ex.map gv) none⟩,⟨4,0,.vec 1 (m.lv.map dP)⟩]⟩ k=R
 |[],pre,m,H,E,I,D=>by
  have V:pre.length=l.length:=by rw[H];simp
  have e:m.cI []=m:=rfl;rw[e]at D;simp at D;rw[V,ah];simp[f43,D]
 |i::rest,pre,m,H,E,I,D=>by
  obtain⟨j,rfl,Z⟩:=I i (by simp);have y:pre.length<l.length:=by rw[H];simp
  have A':l[pre.length]=(j:Int):=by simp[H]
  have hle:=sP p m h j Z E;have A0:IntKind.i64.wrap ((pre.length:Int)+1)=(pre.length:Int)+1:=az (by unfold bj;omega);have ih:=B1 p h l J k R rest (pre++[(j:Int)]) (m.lead j) (by simp[H]) (by simpa using E) (λi hi=>by simpa using I i (by simp[hi])) (λY=>by have:=D Y;rw[vu]at this;exact this);clear D;generalize m.lead j=M at*;rw[ah];simp[f43]at ih hle⊢;simp[y,A',hle,A0,ih]
theorem wG(p:Pg)(m:Mk)(h:Int)(l:List Int)(J:l.length<100000000)(E:m.out.length<100000000)(I:Pl m.out.length l):ai ctx 43 [.ptr 0 0 0,.vec 1 0 0 l.length] [ij p m h 2 3 4 0 0 0,.vec 1 (l.map dP),.vec 5 (m.out.map dy),.vv (m.ex.map gv) none,.vec 1 (m.lv.map dP)]=
 some (.ret (.bg []),[(0,ij p (m.cI l) h 2 3 4 0 0 0),(0,.vec 1 (l.map dP)),(0,.vec 5 ((m.cI l).out.map dy)),(0,.vv (m.ex.map gv) none),(0,.vec 1 (m.lv.map dP))]):=by
 have O:=λk R D=>B1 p h l J k R l [] m rfl E I D;rw[adp (by simp)];simp[f43]at O⊢;have A1:(m.cI l).ex=m.ex:=rfl;have T:(m.cI l).lv=m.lv:=rfl;rw[O _ (some (.ret (.bg []),[(0,ij p (m.cI l) h 2 3 4 0 0 0),(0,.vec 1 (l.map dP)),(0,.vec 5 ((m.cI l).out.map dy)),(0,.vv (m.ex.map gv) none),(0,.vec 1 (m.lv.map dP))])) (λY=>by simp[A1,T])];simp
theorem Dr(p:Pg)(h:Int)(l:List Int)(J:l.length<100000000)(k:Kt)(R:bZ):∀(rest pre:List Int)(m:Mk),l=m.lv->l=pre++rest->m.out.length<100000000->Pl m.out.length rest->
 (∀Y:Env,k (.exit 0) ⟨16,aI,Y,[⟨0,0,ij p (m.cI rest) h 2 3 1 0 0 0⟩,⟨1,0,.vec 1 (m.lv.map dP)⟩,⟨2,0,.vec 5 ((m.cI rest).out.map dy)⟩,⟨3,0,.vv (m.ex.map gv) none⟩]⟩=R)->
 aO ctx 43 (.loop (Code.at (bk f43) [1,0,0])) ⟨16,aI,[(0,true,.ptr 0 0 0),(6,true,.vec 1 0 0 l.length),(7,true,.d (.int .i64 l.length)),(8,true,.d (.int .i64 pre.length))],[⟨0,0,ij p m h 2 3 1 0 0 0⟩,⟨1,0,.vec 1 (m.lv.map dP)⟩,⟨2,0,.vec 5 (m.out.map dy)⟩,⟨3,0,.vv (m.ex.map gv) none⟩]⟩ k=R
 |[],pre,m,U,H,E,I,D=>by
  have V:pre.length=l.length:=by rw[H];simp
  have e:m.cI []=m:=rfl;rw[e]at D;simp at D;rw[V,ah];simp[f43,D]
 |i::rest,pre,m,U,H,E,I,D=>by
  obtain⟨j,rfl,Z⟩:=I i (by simp);have y:pre.length<m.lv.length:=by rw[<-U,H];simp
  have A':m.lv[pre.length]=(j:Int):=by
   have:l[pre.length]?=some (j:Int):=by rw[H];simp
   rw[U]at this;exact (aa1.1 this).2
  have A4:l.length=m.lv.length:=by rw[U]
  have hle:=sP p m h j Z E;have A0:IntKind.i64.wrap ((pre.length:Int)+1)=(pre.length:Int)+1:=az (by unfold bj;omega);have ih:=Dr p h l J k R rest (pre++[(j:Int)]) (m.lead j) U (by simp[H]) (by simpa using E) (λi hi=>by simpa using I i (by simp[hi])) (λY=>by have:=D Y;rw[vu]at this;exact this);have T:(m.lead j).lv=m.lv:=rfl;clear D;generalize m.lead j=M at*;rw[ah];simp[f43]at ih hle⊢;rw[T]at ih hle;simp[y,A',A4,hle,A0,ih];simp[A4]at ih;exact ih
theorem aaw(p:Pg)(m:Mk)(h:Int)(J:m.lv.length<100000000)(E:m.out.length<100000000)(I:Pl m.out.length m.lv):ai ctx 43 [.ptr 0 0 0,.vec 1 0 0 m.lv.length] [ij p m h 2 3 1 0 0 0,.vec 1 (m.lv.map dP),.vec 5 (m.out.map dy),.vv (m.ex.map gv) none]=
 some (.ret (.bg []),[(0,ij p (m.cI m.lv) h 2 3 1 0 0 0),(0,.vec 1 (m.lv.map dP)),(0,.vec 5 ((m.cI m.lv).out.map dy)),(0,.vv (m.ex.map gv) none)]):=by
 have O:=λk R D=>Dr p h m.lv J k R m.lv [] m rfl rfl E I D;rw[adp (by simp)];simp[f43]at O⊢;have A1:(m.cI m.lv).ex=m.ex:=rfl;have T:(m.cI m.lv).lv=m.lv:=rfl;rw[O _ (some (.ret (.bg []),[(0,ij p (m.cI m.lv) h 2 3 1 0 0 0),(0,.vec 1 (m.lv.map dP)),(0,.vec 5 ((m.cI m.lv).out.map dy)),(0,.vv (m.ex.map gv) none)])) (λY=>by simp[A1,T])];simp
theorem Rd(l:List Vr)(Z:l.length<=1000)(M:∀v∈l,dM v=true)(s:Tx)(E:cJ)(O:E.key=200)(k:Kt)(R:bZ)(T:Int->Vr->bZ)
 (V:∀(n:Int)(w:Vr) v1 v2 H,k .ret ⟨29,aI,[(4,true,.d (.int .i64 n)),(5,true,.ptr 350 v1 0),(6,true,.d (.bool true))],[E,⟨350,v1,iL w⟩,⟨550,v2,H⟩]⟩=T n w)
 (U:∀(Y:Env) v1 v2 H,k (.exit 0) ⟨29,aI,(1,true,.d (.str s))::(5,true,.ptr 350 v1 0)::Y,[E,⟨350,v1,iL Dq⟩,⟨550,v2,H⟩]⟩=R):∀(rest pre:List Vr)(n:Int)(v1 v2:Nat)(H:aH),l=pre++rest->0<=n->n<=1000*pre.length->
 aO ctx 181 (.loop (Code.at (bk f181) [1,1,0,1,0,0])) ⟨29,aI,[(1,true,.d (.str s)),(5,true,.ptr 350 v1 0),(7,true,.d (.int .i64 n)),(11,true,.d (.list (l.map bN))),(12,true,.d (.int .i64 l.length)),(13,true,.d (.int .i64 pre.length))],[E,⟨350,v1,iL Dq⟩,⟨550,v2,H⟩]⟩ k=if (bq rest s).isSome=true then T (qP rest s n).1 (qP rest s n).2 else R
 |[],pre,n,v1,v2,H,I,y,J=>by
  have A4:pre.length=l.length:=by rw[I];simp
  simp[iL,Dq]at U;rw[A4,ah];simp[f181,iL,Dq,bq];exact U _ _ _ _
 |w::rest,pre,n,v1,v2,H,I,y,J=>by
  have A0:pre.length<l.length:=by rw[I];simp
  have A1:l[pre.length]=w:=by simp[I]
  have A2:=Lo (M w (by rw[I];simp));have A8:=rY (M w (by rw[I];simp));have ih:=λv2 H=>Rd l Z M s E O k R T V U rest (pre++[w]) (n+bV w) v1 v2 H (by simp[I]) (by omega) (by simp;omega);have A5:IntKind.i64.wrap ((pre.length:Int)+1)=(pre.length:Int)+1:=az (by unfold bj;omega);have A6:IntKind.i64.wrap (n+bV w)=n+bV w:=az (by unfold bj;omega);rw[ah];simp only[bq,qP];by_cases A':w.name=s
  ·simp[f181];have:=V n w v1 (v2+1);simp[iL,A']at this;simp[A0,A1,O,bN,eV,A',aw,this]
  ·simp[f181,bN,eV]at ih A2⊢;simp[A0,A1,O,bN,eV,A',A2,A5,A6,ih]
abbrev pK(p:Pg):D:=.agg [.str p.name,.list (p.vars.map bN),.list (p.body.map cq)]
theorem rF(p:Pg)(Z:p.vars.length<=1000)(M:∀v∈p.vars,dM v=true)(s:Tx):ai ctx 181 [.d (pK p),.d (.str s)] []=some (.ret (.bg [.d (.int .i64 (cw p.vars s).1),.d (bN (cw p.vars s).2),.d (.bool (bq p.vars s).isSome)]),[]):=by
 have A3:=λE O k R T V U v1 v2 H=>Rd p.vars Z M s E O k R T V U p.vars [] 0 v1 v2 H rfl (by omega) (by simp);have key:(if (bq p.vars s).isSome=true then some (.ret (.bg [.d (.int .i64 (qP p.vars s 0).1),.d (bN (qP p.vars s 0).2),.d (.bool true)]),([]:List (Nat×aH)))else some (.ret (.bg [.d (.int .i64 0),.d (bN Dq),.d (.bool false)]),[]))=some (Out.ret (.bg [.d (.int .i64 (cw p.vars s).1),.d (bN (cw p.vars s).2),.d (.bool (bq p.vars s).isSome)]),([]:List (Nat×aH))):=by
  unfold cw;cases h:(bq p.vars s).isSome with
  |true=>simp
  |false=>
   have y:∀(l:List Vr) n,(bq l s).isSome=false->qP l s n=(0,Dq):=by
    intro l;induction l with
    |nil=>intro n _;rfl
    |cons v r ih=>
     intro n J;simp only[bq,qP]at J⊢;split at J
     ·cases J
     ·rename_i A7;rw[aa4 A7];exact ih _ J
   simp[y _ _ h]
 rw[ahT (by simp)];simp[f181,iL,Dq]at A3⊢;rw[A3 _ rfl _ (some (.ret (.bg [.d (.int .i64 0),.d (bN Dq),.d (.bool false)]),[])) (λn w=>some (.ret (.bg [.d (.int .i64 n),.d (bN w),.d (.bool true)]),[]))]
 ·exact key
 ·intro n w v1 v2 H;simp[bN,eV]
 ·intro Y v1 v2 H;simp[bN,eV,Dq,aw]
theorem aeK(s:Tx)(q:Pn):ai ctx 242 [.d (dj q),.ptr 0 0 0] [.box [.d (.str s)]]=some (.ret (.d (.bool (decide (q.name=s)))),[(0,.box [.d (.str s)])]):=by
 rw[aid (by simp)];simp[f242,dj]
theorem IM(s:Tx):∀(rest pre:List Pn),(pre++rest).length<1000000->∀k:Kt,
 aO ctx 241 (.loop (Code.at (bk f241) [1,0,1,0,0])) ⟨19,aI,[(0,true,.d (.list ((pre++rest).map dj))),(1,true,.fn 242 [.ptr 0 0 0]),(7,true,.d (.int .i64 (pre++rest).length)),(8,true,.d (.int .i64 pre.length))],[⟨0,0,.box [.d (.str s)]⟩]⟩ k=
  if qk (λq:Pn=>decide (q.name=s)) rest pre.length<0 then k (.exit 0) ⟨19,aI,[(0,true,.d (.list ((pre++rest).map dj))),(1,true,.fn 242 [.ptr 0 0 0]),(7,true,.d (.int .i64 (pre++rest).length)),(8,true,.d (.int .i64 (pre++rest).length)),(9,true,.d (.bool false))],[⟨0,0,.box [.d (.str s)]⟩]⟩
  else k .ret ⟨19,aI,[(4,true,.d (.int .i64 (qk (λq:Pn=>decide (q.name=s)) rest pre.length)))],[⟨0,0,.box [.d (.str s)]⟩]⟩
 |[],pre,H,k=>by
  rw[ah];simp[f241,qk]
 |x::rest,pre,H,k=>by
  obtain⟨b,U⟩:∃b,b=(λq:Pn=>decide (q.name=s)) x:=⟨_,rfl⟩;have V:ai ctx 242 [.d (dj x),.ptr 0 0 0] [.box [.d (.str s)]]=some (.ret (.d (.bool b)),[(0,.box [.d (.str s)])]):=by rw[U];exact aeK s x
  have key:qk (λq:Pn=>decide (q.name=s)) (x::rest) pre.length=if b=true then (pre.length:Int)else qk (λq:Pn=>decide (q.name=s)) rest (pre.length+1):=by rw[U];rfl
  have ih:=IM s rest (pre++[x]) (by simpa using H) k;have D:(pre.length:Int)<pre.length+(rest.length+1):=by omega
  have Y:IntKind.i64.wrap ((pre.length:Int)+1)=pre.length+1:=az (by unfold bj;simp at H;omega);have Z:¬((pre.length:Int)<0):=by omega
  try simp[dj]at V
  rw[ah,key];clear U key;cases b with
  |true=>simp[f241,D,Y,Z,V,dj]
  |false=>
   simp[f241,dj]at ih⊢;simp[D,Y,V,ih,dj]
theorem aeL(s:Tx)(l:List Pn)(H:l.length<1000000):ai ctx 241 [.d (.list (l.map dj)),.fn 242 [.ptr 0 0 0]] [.box [.d (.str s)]]=some (.ret (.d (.int .i64 (qk (λq:Pn=>decide (q.name=s)) l 0))),[(0,.box [.d (.str s)])]):=by
 have h:=λk=>IM s l [] (by simpa using H) k;rw[aic (by simp)];simp[f241]at h⊢;simp[h];intro h;rcases F6 (λq:Pn=>decide (q.name=s)) l 0 with D|D
 ·exact D.symm
 ·omega
theorem Mw(s:Tx):∀(l:List Pn)(n:Nat),(match BS l s n with
 |some (i,q)=>qk (λq:Pn=>decide (q.name=s)) l n=i/\n<=i/\l[i-n]?=some q
 |none=>qk (λq:Pn=>decide (q.name=s)) l n= -1)
 |[],n=>rfl
 |q::l,n=>by
  have ih:=Mw s l (n+1);simp only[BS,qk];by_cases h:q.name=s
  ·rw[abf h];simp[h]
  ·rw[aa4 h];simp only[h,decide_false,agb,adW];cases I:BS l s (n+1)with
   |none=>rw[I]at ih;exact ih
   |some x=>
    obtain⟨i,w⟩:=x;rw[I]at ih;obtain⟨D,Y,Z⟩:=ih;refine⟨D,by omega,?_⟩;rw[show i-n=(i-(n+1))+1 by omega];simpa using Z
theorem Mx(p:Pg)(A1:p.vars.length<=1000)(A':∀v∈p.vars,dM v=true)(s f:Tx):∃b,ai ctx 185 [.d (pK p),.d (.str s),.d (.str f)] []=some (.ret (.bg [.d (.int .i64 (iW p.vars s f).1),.d (dj (iW p.vars s f).2),.d (.bool b)]),[]):=by
 have E:=rF p A1 A' s;have A6:0<=(cw p.vars s).1/\(cw p.vars s).1<=1000*1000:=by
  have key:∀(l:List Vr)(n:Int),(∀v∈l,dM v=true)->0<=n->(qP l s n).1=0\/(n<=(qP l s n).1/\(qP l s n).1<=n+1000*l.length):=by
   intro l;induction l with
   |nil=>intro n _ _;exact .inl rfl
   |cons v r ih=>
    intro n J A7;have A8:=rY (J v (by simp));simp only[qP];split
    ·exact .inr ⟨by omega,by simp;omega⟩
    ·rcases ih (n+bV v) (λw hw=>J w (by simp[hw])) (by omega)with h|h
     ·exact .inl h
     ·exact .inr ⟨by omega,by simp;omega⟩
  unfold cw;rcases key p.vars 0 A' (by omega)with h|h<;>omega
 have A0:=QD (cw p.vars s).2.ty;have A9:=BM (cw p.vars s).2.ty;have O:=aeL f (bJ (cw p.vars s).2.ty) (by omega);have M:=Mw f (bJ (cw p.vars s).2.ty) 0;unfold iW;generalize (cw p.vars s)=A at*;obtain⟨n,w⟩:=A;simp only at*;rw[ahX (by simp)];cases J:bq p.vars s with
 |none=>
  rw[J]at E;exact⟨_,by simp[f185,E,bN,eV,Hg,dj];rfl⟩
 |some v=>
  rw[J]at E;by_cases T:2<w.ty
  ·by_cases y:f=[]
   ·exact⟨_,by simp[f185,E,bN,eV,Hg,dj,T,y];rfl⟩
   ·cases I:BS (bJ w.ty) f 0 with
    |none=>
     rw[I]at M;simp only at M;rw[M]at O;refine⟨false,?_⟩;simp[f185,E,bN,eV,Hg,dj,T,y,A0,O]
    |some x=>
     obtain⟨i,q⟩:=x;rw[I]at M;obtain⟨g1,g2,g3⟩:=M;refine⟨true,?_⟩;rw[g1]at O;have hi:i<(bJ w.ty).length:=by
      have:=(aa1.1 g3).1;simpa using this
     have A2:(bJ w.ty)[i]=q:=by
      have:=(aa1.1 g3).2;simpa using this
     have A3:IntKind.i64.wrap (n+i)=n+i:=az (by unfold bj;omega);have A4:¬((i:Int)<0):=by omega
     simp[f185,E,bN,eV,T,y,A0,O,aw,A3,A4,hi,A2,dj]
  ·have A5:w.ty<=2:=by omega
   exact⟨_,by simp[f185,E,bN,eV,Hg,dj,T,A5];rfl⟩
def Mk.aC(m:Mk)(l:List au)(t:Int):Mk:={m with out:=m.out++l,most:=max m.most t}
def KE(p:Pg)(x:Ex):Prop:=∀(m:Mk)(h:Int),0<=h->h<=m.out.length->0<=m.most->m.out.length+(ar p.vars x).1.length<100000000->
 gx p (m.aC (ar p.vars x).1 (aR h x)) (h+1) (.ret (.d (.bool (ar p.vars x).2))) (ai ctx 116 [.ptr 0 0 0,.d (.agg [.int .i64 (b6 x),.int .i64 (iK x),.str (dU x),.str (ga x),.list ((de x).map bU),.int .i64 (kB x)])] (gw p m h))
theorem aeM{k:Int}{q:Pn}(h:q∈bJ k):q.ty=1\/q.ty=2:=by
 by_cases A':k∈jy
 ·have all:∀q∈bJ k,q.ty=1\/q.ty=2:=by
   simp only[jy,abd,afI,an2]at A';rcases A' with rfl|rfl|rfl|rfl|rfl|rfl|rfl|rfl|rfl|rfl|rfl|rfl|rfl|rfl|rfl|rfl|rfl|rfl|rfl|rfl|rfl<;>decide
  exact all q h
 ·rw[tW A']at h;simp at h
section
variable {p:Pg} (V:p.vars.length<=1000) (T:∀v∈p.vars,dM v=true)
theorem ajD{n line:Int}:KE p (.mk 1 n [] [] [] line):=by
 intro m h Y hh hm I;simp[ar]at I;obtain⟨v1,v2,v3,D⟩:=j0 p m h 1 (ins 1 0 0 n 0) (by omega) (az (by unfold bj;omega));have e:m.aC (ar p.vars (.mk 1 n [] [] [] line)).1 (aR h (.mk 1 n [] [] [] line))=m.put (ins 1 0 0 n 0) (h+1):=by simp[ar,aR,Mk.aC,Mk.put]
 rw[e];generalize m.put (ins 1 0 0 n 0) (h+1)=M at*;simp[ins]at D;rw[vh (by simp)];simp[f116,D,ar];exact⟨_,_,_,rfl⟩
theorem ajE{n line:Int}:KE p (.mk 2 n [] [] [] line):=by
 intro m h Y hh hm I;simp[ar]at I;obtain⟨v1,v2,v3,D⟩:=j0 p m h 1 (ins 1 0 0 n 0) (by omega) (az (by unfold bj;omega));have e:m.aC (ar p.vars (.mk 2 n [] [] [] line)).1 (aR h (.mk 2 n [] [] [] line))=m.put (ins 1 0 0 n 0) (h+1):=by simp[ar,aR,Mk.aC,Mk.put]
 rw[e];generalize m.put (ins 1 0 0 n 0) (h+1)=M at*;simp[ins]at D;rw[vh (by simp)];simp[f116,D,ar];exact⟨_,_,_,rfl⟩
include V T
theorem ajF{s:Tx}{v:Vr}(E:bq p.vars s=some v)(U:v.ty<=2):v.ty=1\/v.ty=2:=by
 have hm:v∈p.vars:=by
  have key:∀l:List Vr,bq l s=some v->v∈l:=by
   intro l;induction l with
   |nil=>intro h;simp[bq]at h
   |cons w r ih=>
    intro h;simp only[bq]at h;split at h
    ·cases h;simp
    ·exact afA _ (ih h)
  exact key _ E
 have:=T v hm;simp only[dM,Ds,agr,aa8]at this;rcases this.2.1.2 with h|h
 ·exact h
 ·have:v.ty∉jy\/v.ty∈jy:=by by_cases h:v.ty∈jy<;>simp[h]
  rcases this with O|O
  ·unfold qh at h;rw[tW O]at h;simp at h
  ·simp only[jy,abd,afI,an2]at O;omega
theorem ajG{name:Tx}{line:Int}{v:Vr}(E:bq p.vars name=some v)(U:v.ty<=2):KE p (.mk 3 0 name [] [] line):=by
 intro m h Y hh hm I;simp[ar]at I;have H:=rF p V T name;have J:=jr E;rw[E]at H;have Z:=ajF V T E U;obtain⟨v1,v2,v3,D⟩:=Gn p m h (cw p.vars name).1 v.ty (by omega) (az (by unfold bj;omega));have A0:(if v.ty=2 then (3:Int)else 2)=1+v.ty:=by rcases Z with h|h<;>rw[h]<;>rfl
 rw[A0]at D;have e:m.aC (ar p.vars (.mk 3 0 name [] [] line)).1 (aR h (.mk 3 0 name [] [] line))=m.put (ins (1+v.ty) (cw p.vars name).1 0 0 0) (h+1):=by simp[ar,aR,Mk.aC,Mk.put,J]
 have A1:(ar p.vars (.mk 3 0 name [] [] line)).2=decide (v.ty=2):=by simp[ar,J]
 rw[e,A1];rw[J]at H;generalize m.put (ins (1+v.ty) (cw p.vars name).1 0 0 0) (h+1)=M at*;simp at D;rw[vh (by simp)];simp[f116,H,bN,eV,D,aw];exact⟨_,_,_,rfl⟩
theorem ajH{name field:Tx}{line:Int}{v:Vr}{q:Pn}(E:bq p.vars name=some v)(U:2<v.ty)(A4:mi v.ty field=some q)(A6:dq field=true):KE p (.mk 5 0 name field [] line):=by
 intro m h Y hh hm I;simp[ar]at I;obtain⟨b,H⟩:=Mx p V T name field;have J:(iW p.vars name field).2=q:=(yt E U A4).1;have Z:q.ty=1\/q.ty=2:=aeM (yt E U A4).2.1;obtain⟨v1,v2,v3,D⟩:=Gn p m h (iW p.vars name field).1 q.ty (by omega) (az (by unfold bj;omega));have A0:(if q.ty=2 then (3:Int)else 2)=1+q.ty:=by rcases Z with h|h<;>rw[h]<;>rfl
 rw[A0]at D;have e:m.aC (ar p.vars (.mk 5 0 name field [] line)).1 (aR h (.mk 5 0 name field [] line))=m.put (ins (1+q.ty) (iW p.vars name field).1 0 0 0) (h+1):=by simp[ar,aR,Mk.aC,Mk.put,J]
 have A1:(ar p.vars (.mk 5 0 name field [] line)).2=decide (q.ty=2):=by simp[ar,J]
 rw[e,A1];rw[J]at H;generalize m.put (ins (1+q.ty) (iW p.vars name field).1 0 0 0) (h+1)=M at*;simp at D;simp[dj]at H;rw[vh (by simp)];simp[f116,H,D,aw];exact⟨_,_,_,rfl⟩
theorem ajI{name:Tx}{line:Int}{v:Vr}{y:Ex}(E:bq p.vars name=some v)(U:v.ty<=2)(A5:KE p y):KE p (.mk 4 0 name [] [y] line):=by
 intro m h Y hh hm I;have J:=jr E;have A2:(ar p.vars (.mk 4 0 name [] [y] line))=((ar p.vars y).1++[ins (3+v.ty) (cw p.vars name).1 0 v.lo v.hi],decide (v.ty=2)):=by simp[ar,qp,J]
 rw[A2]at I;simp at I;have H:=rF p V T name;rw[E,J]at H;have Z:=ajF V T E U;obtain⟨v1,v2,v3,A3⟩:=A5 m h Y hh hm (by omega);have A7:=kS p.vars y;obtain⟨A8,A9,AA,D⟩:=j0 p (m.aC (ar p.vars y).1 (aR h y)) (h+1) 0 (ins (3+v.ty) (cw p.vars name).1 0 v.lo v.hi) (by simp[Mk.aC];omega) (az (by unfold bj;omega));have e:m.aC (ar p.vars (.mk 4 0 name [] [y] line)).1 (aR h (.mk 4 0 name [] [y] line))=(m.aC (ar p.vars y).1 (aR h y)).put (ins (3+v.ty) (cw p.vars name).1 0 v.lo v.hi) (h+1+0):=by
  rw[A2];simp[aR,gn,Mk.aC,Mk.put];omega
 rw[e,A2];generalize (m.aC (ar p.vars y).1 (aR h y)).put (ins (3+v.ty) (cw p.vars name).1 0 v.lo v.hi) (h+1+0)=M at*;generalize m.aC (ar p.vars y).1 (aR h y)=N at*;simp[ins]at D A3;rw[vh (by simp)];rcases Z with O|O
 ·simp[O]at D;simp[f116,H,bN,eV,aJ,A3,D,aw,O];exact⟨_,_,_,rfl⟩
 ·simp[O]at D;simp[f116,H,bN,eV,aJ,A3,D,aw,O];exact⟨_,_,_,rfl⟩
end
section
variable {p:Pg}
theorem ajJ{op line:Int}{y:Ex}(U:op=6\/op=7)(V:KE p y):KE p (.mk op 0 [] [] [y] line):=by
 intro m h A9 hh hm Y;have AA:¬(op=1\/op=2):=by omega
 have I:¬op=3:=by omega
 have J:¬op=4:=by omega
 have O:¬op=5:=by omega
 have Z:¬op=1:=by omega
 have A':¬op=2:=by omega
 have T:(ar p.vars (.mk op 0 [] [] [y] line))=((ar p.vars y).1++[ins 8 (if (ar p.vars y).2=true then 1 else 0) op 0 0],decide (op=7\/12<op)):=by simp[ar,iO,AA,I,J,O];rfl
 rw[T]at Y;simp at Y;obtain⟨v1,v2,v3,H⟩:=V m h A9 hh hm (by omega);have AD:=kS p.vars y;obtain⟨AE,AF,AG,D⟩:=j0 p (m.aC (ar p.vars y).1 (aR h y)) (h+1) 0 (ins 8 (if (ar p.vars y).2=true then 1 else 0) op 0 0) (by simp[Mk.aC];omega) (az (by unfold bj;omega));have e:m.aC (ar p.vars (.mk op 0 [] [] [y] line)).1 (aR h (.mk op 0 [] [] [y] line))=(m.aC (ar p.vars y).1 (aR h y)).put (ins 8 (if (ar p.vars y).2=true then 1 else 0) op 0 0) (h+1+0):=by
  rw[T];have AB:¬(op=1\/op=2\/op=3\/op=5):=by omega
  simp[aR,gn,Mk.aC,Mk.put,AB];omega
 rw[e,T];generalize (m.aC (ar p.vars y).1 (aR h y)).put (ins 8 (if (ar p.vars y).2=true then 1 else 0) op 0 0) (h+1+0)=M at*;generalize m.aC (ar p.vars y).1 (aR h y)=N at*;generalize (ar p.vars y).2=B at*;have E:IntKind.i64.wrap 1=1:=rfl;have w0:IntKind.i64.wrap 0=0:=rfl;simp[ins]at D H;rw[vh (by simp)];have A0:decide (13<=op)=decide (12<op):=by rw[agx];omega
 cases B with
 |true=>
  simp at D;simp[f116,Z,A',I,J,O,aJ];rw[ah];simp[f116,aJ,H,E,w0];rw[ah];simp[f116,H,D,E,w0,A0];exact⟨_,_,_,rfl⟩
 |false=>
  simp at D;simp[f116,Z,A',I,J,O,aJ];rw[ah];simp[f116,aJ,H,E,w0];rw[ah];simp[f116,H,D,E,w0,A0];exact⟨_,_,_,rfl⟩
theorem ajL{op line:Int}{y z:Ex}(U:8<=op)(V:KE p y)(AH:KE p z):KE p (.mk op 0 [] [] [y,z] line):=by
 intro m h A9 hh hm Y;have AA:¬(op=1\/op=2):=by omega
 have I:¬op=3:=by omega
 have J:¬op=4:=by omega
 have O:¬op=5:=by omega
 have Z:¬op=1:=by omega
 have A':¬op=2:=by omega
 have T:(ar p.vars (.mk op 0 [] [] [y,z] line))=((ar p.vars y).1++((ar p.vars z).1++[ins 8 (if (ar p.vars z).2=true then 1 else 0) op 0 0]),decide (op=7\/12<op)):=by simp[ar,iO,AA,I,J,O];rfl
 rw[T]at Y;simp at Y;have AD:=kS p.vars y;have AO:=kS p.vars z;obtain⟨v1,v2,v3,H⟩:=V m h A9 hh hm (by omega);obtain⟨t1,t2,t3,A1⟩:=AH (m.aC (ar p.vars y).1 (aR h y)) (h+1) (by omega) (by simp[Mk.aC];omega) (by simp[Mk.aC];omega) (by simp[Mk.aC];omega);obtain⟨AE,AF,AG,D⟩:=j0 p ((m.aC (ar p.vars y).1 (aR h y)).aC (ar p.vars z).1 (aR (h+1) z)) (h+1+1) (-1) (ins 8 (if (ar p.vars z).2=true then 1 else 0) op 0 0) (by simp[Mk.aC];omega) (az (by unfold bj;omega));rw[show h+1+1+ -1=h+1 by omega]at D;have e:m.aC (ar p.vars (.mk op 0 [] [] [y,z] line)).1 (aR h (.mk op 0 [] [] [y,z] line))=((m.aC (ar p.vars y).1 (aR h y)).aC (ar p.vars z).1 (aR (h+1) z)).put (ins 8 (if (ar p.vars z).2=true then 1 else 0) op 0 0) (h+1):=by
  rw[T];have AB:¬(op=1\/op=2\/op=3\/op=5):=by omega
  simp[aR,gn,Mk.aC,Mk.put,AB];omega
 rw[e,T];generalize ((m.aC (ar p.vars y).1 (aR h y)).aC (ar p.vars z).1 (aR (h+1) z)).put (ins 8 (if (ar p.vars z).2=true then 1 else 0) op 0 0) (h+1)=M at*;generalize (m.aC (ar p.vars y).1 (aR h y)).aC (ar p.vars z).1 (aR (h+1) z)=AP at*;generalize m.aC (ar p.vars y).1 (aR h y)=N at*;generalize (ar p.vars z).2=B at*;generalize (ar p.vars y).2=AQ at*;have E:IntKind.i64.wrap 1=1:=rfl;have w0:IntKind.i64.wrap 0=0:=rfl;have A6:IntKind.i64.wrap 2=2:=rfl;have AC:IntKind.i64.wrap (-1)= -1:=rfl;have A0:decide (13<=op)=decide (12<op):=by rw[agx];omega
 simp[ins]at D H A1;rw[vh (by simp)];cases B with
 |true=>
  simp at D A1;simp[f116,Z,A',I,J,O,aJ];rw[ah];simp[f116,aJ,H,E,w0];rw[ah];simp[f116,aJ,A1,E,w0,A6];rw[ah];simp[f116,D,E,w0,A6,AC,A0];exact⟨_,_,_,rfl⟩
 |false=>
  simp at D A1;simp[f116,Z,A',I,J,O,aJ];rw[ah];simp[f116,aJ,H,E,w0];rw[ah];simp[f116,aJ,A1,E,w0,A6];rw[ah];simp[f116,D,E,w0,A6,AC,A0];exact⟨_,_,_,rfl⟩
end
theorem mz{p:Pg}(A7:p.vars.length<=1000)(A8:∀v∈p.vars,dM v=true):∀x:Ex,bz x=true->(aL p.vars x).e=0->KE p x
 | .mk op n name field sub line,AI,ex=>by
  have ih:∀y∈sub,bz y=true->(aL p.vars y).e=0->KE p y:=λy V=>mz A7 A8 y;have AJ:=Hm AI ex;cases AJ with
  |num h=>exact ajD
  |tt h=>exact ajE
  |var A2 D A3=>exact ajG A7 A8 A2 A3
  |idx A2 D A3 A4 A5 ty=>exact ajI A7 A8 A2 A3 (ih _ (by simp) A4 A5)
  |fld A2 A3 AK AL=>exact ajH A7 A8 A2 A3 AK AL
  |one U A4 A5 ty=>exact ajJ U (ih _ (by simp) A4 A5)
  |two U A4 A5 AM AN ty AR=>exact ajL U.1 (ih _ (by simp) A4 A5) (ih _ (by simp) AM AN)
termination_by x=>SizeOf.sizeOf x
decreasing_by all_goals (simp_wf;have:=List.sizeOf_lt_of_mem V;omega)
end Go.Am
end
section
namespace Go.Am
open Go
def ik(ex:List (List Int))(a:List Int):List (List Int):=
 match ex.getLast? with
 |some r=>ex.dropLast++[r++a]
 |none=>[]
theorem jI(ex:List (List Int))(r a:List Int):ik (ex++[r]) a=ex++[r++a]:=by simp[ik]
theorem nF(ex:List (List Int)):ik ex []=ex:=by
 rcases ajk ex with h|⟨l,r,h⟩
 ·subst h;rfl
 ·rw[h,ajY,jI,afy]
theorem IN(ex:List (List Int))(a b:List Int):ik (ik ex a) b=ik ex (a++b):=by
 rcases ajk ex with h|⟨l,r,h⟩
 ·subst h;rfl
 ·rw[h,ajY,jI,jI,jI,afw]
@[simp] theorem XY(ex:List (List Int))(a:List Int):(ik ex a).length=ex.length:=by
 rcases ajk ex with h|⟨l,r,h⟩
 ·subst h;rfl
 ·rw[h,ajY,jI];simp
def Mk.aS(m:Mk)(l:List au)(c t:Int):Mk:=
 ⟨m.out++cU m.out.length l,c,max m.most t,ik m.ex (cO (-1) m.out.length l),m.lv++cO (-2) m.out.length l⟩
theorem CG(m:Mk)(a b:List au)(c H t I:Int):(m.aS a c t).aS b H I=m.aS (jn a b) H (max t I):=by
 unfold Mk.aS;simp only[Mk.mk.injEq,aa9,nU];rw[Mi,Jq (by decide),Jq (by decide),IN];simp[afw,Int.max_assoc]
theorem aax(m:Mk)(h:0<=m.most):m.aS [] m.cells 0=m:=by
 unfold Mk.aS;simp[cO,nF];cases m;simp at h⊢;omega
theorem pL{m:Mk}{l:List au}(h:Flat l)(t:Int):m.aS l m.cells t=m.aC l t:=by
 unfold Mk.aS Mk.aC;rw[h.cU,rD h,rD h,nF];simp
theorem zS{m:Mk}{l:List au}{x:au}{t u:Int}:(m.aC l t).put x u=m.aC (l++[x]) (max t u):=by
 unfold Mk.aC Mk.put;simp[afw,Int.max_assoc]
theorem IP{m:Mk}{l r:List au}{t u:Int}:(m.aC l t).aC r u=m.aC (l++r) (max t u):=by
 unfold Mk.aC;simp[afw,Int.max_assoc]
theorem aay{m:Mk}{x:au}{u:Int}:m.put x u=m.aC [x] u:=rfl
theorem wI{m:Mk}{l:List au}{t u:Int}(h:max m.most t=max m.most u):m.aC l t=m.aC l u:=by
 unfold Mk.aC;rw[h]
theorem nG{m:Mk}{l:List au}{c t u:Int}(h:max m.most t=max m.most u):m.aS l c t=m.aS l c u:=by
 unfold Mk.aS;rw[h]
theorem mH(h:Int)(x:Ex):h+1<=aR h x:=by
 obtain⟨op,n,name,field,sub,line⟩:=x;unfold aR;split
 ·exact anP _
 ·omega
theorem B3(k:Int):∀(l:List au)(n:Nat),∀i∈cO k n l,∃j:Nat,i=j/\j<n+l.length
 |[],n,i,h=>by simp[cO]at h
 |x::r,n,i,h=>by
  simp only[cO]at h;have key:i∈cO k (n+1) r->∃j:Nat,i=j/\j<n+(x::r).length:=λh=>by
   obtain⟨j,e,M⟩:=B3 k r (n+1) i h;exact⟨j,e,by simp;omega⟩
  split at h
  ·rcases abd.1 h with rfl|h
   ·exact⟨n,rfl,by simp⟩
   ·exact key h
  ·exact key h
theorem rG(k:Int):∀(l:List au)(n:Nat),(cO k n l).length<=l.length
 |[],n=>by simp[cO]
 |x::r,n=>by
  have:=rG k r (n+1);simp only[cO];split<;>simp<;>omega
def iZ(m:Mk):Prop:=m.lv.length<=m.out.length/\∀r∈m.ex,r.length<=m.out.length
theorem XZ{ex:List (List Int)}{a r:List Int}(h:r∈ik ex a):∃E∈ex,r.length<=E.length+a.length:=by
 rcases ajk ex with e|⟨l,q,e⟩
 ·subst e;simp[ik]at h
 ·rw[e,ajY]at h⊢;rw[jI]at h;rcases abo.1 h with h|h
  ·exact⟨r,by simp[h],by omega⟩
  ·simp at h;subst h;exact⟨q,by simp,by simp⟩
theorem iZ.put{m:Mk}(h:iZ m)(x:au)(t:Int):iZ (m.put x t):=
 ⟨by have:=h.1;simp[Mk.put];omega,λr D=>by have:=h.2 r D;simp[Mk.put];omega⟩
theorem iZ.aC{m:Mk}(h:iZ m)(l:List au)(t:Int):iZ (m.aC l t):=
 ⟨by have:=h.1;simp[Mk.aC];omega,λr D=>by have:=h.2 r D;simp[Mk.aC];omega⟩
theorem iZ.aS{m:Mk}(h:iZ m)(l:List au)(c t:Int):iZ (m.aS l c t):=by
 refine⟨?_,λr D=>?_⟩
 ·have:=h.1;have:=rG (-2) l m.out.length;simp[Mk.aS];omega
 ·obtain⟨E,J,D⟩:=XZ D;have:=h.2 E J;have:=rG (-1) l m.out.length;simp[Mk.aS];omega
theorem iZ.lead{m:Mk}(h:iZ m)(i:Int):iZ (m.lead i):=by
 have e:(m.lead i).out.length=m.out.length:=by simp[Mk.lead]
 exact⟨by rw[e];exact h.1,λr D=>by rw[e];exact h.2 r D⟩
end Go.Am
end
section
namespace Go.Am
open Go Go.Proofs Go.Proofs.Tryz
variable [Inhabited b7]
set_option maxRecDepth 20000
section
variable {p:Pg} (D:p.vars.length<=1000) (E:∀v∈p.vars,dM v=true)
include D E
theorem X0{name:Tx}{T U:Int}{v:Vr}{val:Ex}(O:bq p.vars name=some v)(V:bz val=true)(Y:(aL p.vars val).e=0)(m:Mk)(hm:0<=m.most)(A':m.out.length+(ar p.vars val).1.length<99999999):
 gx p (m.aC ((ar p.vars val).1++[ins 6 (cw p.vars name).1 0 0 0]) (aR 0 val)) 0 (.ret (.bg [])) (ai ctx 113 [.ptr 0 0 0,.d (cq (.mk 1 [] (.mk 3 0 name [] [] T) val [] [] [] [] U))] (gw p m 0)):=by
 have H:=rF p D E name;rw[O]at H;obtain⟨v1,v2,v3,I⟩:=mz D E val V Y m 0 (by omega) (by omega) hm (by omega);obtain⟨A0,A1,A2,J⟩:=rE p (m.aC (ar p.vars val).1 (aR 0 val)) 1 (cw p.vars name).1 (by simp[Mk.aC];omega) (by decide);have e:m.aC ((ar p.vars val).1++[ins 6 (cw p.vars name).1 0 0 0]) (aR 0 val)=(m.aC (ar p.vars val).1 (aR 0 val)).put (ins 6 (cw p.vars name).1 0 0 0) (1+ -1):=by
  rw[zS];exact wI (by have:=mH 0 val;omega)
 rw[e];generalize (m.aC (ar p.vars val).1 (aR 0 val)).put (ins 6 (cw p.vars name).1 0 0 0) (1+ -1)=M at*;generalize m.aC (ar p.vars val).1 (aR 0 val)=N at*;simp at I J;rw[Xh (by simp)];simp[f113,fj,H,bN,eV,I,J,aw];exact⟨_,_,_,rfl⟩
theorem X1{name:Tx}{T U:Int}{v:Vr}{y val:Ex}(O:bq p.vars name=some v)(A3:bz y=true)(A4:(aL p.vars y).e=0)(V:bz val=true)(Y:(aL p.vars val).e=0)(m:Mk)(hm:0<=m.most)(A':m.out.length+(ar p.vars y).1.length+(ar p.vars val).1.length<99999999):
 gx p (m.aC ((ar p.vars y).1++((ar p.vars val).1++[ins 7 (cw p.vars name).1 0 v.lo v.hi])) (max (aR 0 y) (aR 1 val))) 0 (.ret (.bg [])) (ai ctx 113 [.ptr 0 0 0,.d (cq (.mk 1 [] (.mk 4 0 name [] [y] T) val [] [] [] [] U))] (gw p m 0)):=by
 have H:=rF p D E name;rw[O,jr O]at H;obtain⟨v1,v2,v3,I⟩:=mz D E y A3 A4 m 0 (by omega) (by omega) hm (by omega);have A5:=kS p.vars y;obtain⟨t1,t2,t3,Z⟩:=mz D E val V Y (m.aC (ar p.vars y).1 (aR 0 y)) 1 (by omega) (by simp[Mk.aC];omega) (by simp[Mk.aC];omega) (by simp[Mk.aC];omega);obtain⟨A0,A1,A2,J⟩:=j0 p ((m.aC (ar p.vars y).1 (aR 0 y)).aC (ar p.vars val).1 (aR 1 val)) 2 (-2) (ins 7 (cw p.vars name).1 0 v.lo v.hi) (by simp[Mk.aC];omega) (by decide);have e:m.aC ((ar p.vars y).1++((ar p.vars val).1++[ins 7 (cw p.vars name).1 0 v.lo v.hi])) (max (aR 0 y) (aR 1 val))=((m.aC (ar p.vars y).1 (aR 0 y)).aC (ar p.vars val).1 (aR 1 val)).put (ins 7 (cw p.vars name).1 0 v.lo v.hi) (2+ -2):=by
  rw[IP,zS,afw];exact wI (by have:=mH 0 y;omega)
 rw[e];generalize ((m.aC (ar p.vars y).1 (aR 0 y)).aC (ar p.vars val).1 (aR 1 val)).put (ins 7 (cw p.vars name).1 0 v.lo v.hi) (2+ -2)=M at*;generalize (m.aC (ar p.vars y).1 (aR 0 y)).aC (ar p.vars val).1 (aR 1 val)=A6 at*;generalize m.aC (ar p.vars y).1 (aR 0 y)=N at*;simp[ins]at I Z J;rw[Xh (by simp)];simp[f113,fj,H,bN,eV,aJ,I,Z,J,aw];exact⟨_,_,_,rfl⟩
end
@[simp] def mqM(p:Pg)(m:Mk)(h:Int)(v1 v2 v3:Nat):List cJ:=[⟨0,0,.box [.d (.str p.name),.d (.list (p.vars.map bN)),.d (.list (p.body.map cq)),.vec 1 v1 0 m.out.length,.d (.int .i64 m.cells),.d (.int .i64 h),.d (.int .i64 m.most),.vec 2 v2 0 m.ex.length,.vec 3 v3 0 m.lv.length]⟩,⟨1,v1,.vec 5 (m.out.map dy)⟩,⟨2,v2,.vv (m.ex.map gv) none⟩,⟨3,v3,.vec 1 (m.lv.map dP)⟩]
section
variable {p:Pg} (H:p.vars.length<=1000) (I:∀v∈p.vars,dM v=true)
include H I
theorem Gp(x:Sm)(A':(eu x).length<100000000)(at_:AV)(v:Vr)(k:Kt)(Q:Mk->bZ->Prop)
 (J:∀(Y:Env) M v1 v2 v3 v6 X6,Q M (k (.exit 0) ⟨60,aI,(0,true,.ptr 0 0 0)::(3,true,.ptr 250 1 0)::(4,true,at_)::(5,true,.ptr 350 1 0)::Y,mqM p M 0 v1 v2 v3++[⟨250,1,bu x⟩,⟨350,1,iL v⟩,⟨600,v6,X6⟩]⟩)):
 ∀(fr fp:List Tx)(D O:List Ex)(m:Mk)(v1 v2 v3 v6:Nat)(X6:aH),eu x=fp++fr->cH x=O++D->fp.length=O.length->fr.length=D.length->(∀c∈D,bz c=true/\(aL p.vars c).e=0)->0<=m.most->m.out.length+(en p.vars (iB x) fr D).length<99999999->
 Q (m.aC (en p.vars (iB x) fr D) (kR D)) (aO ctx 121 (.loop (Code.at (bk f121) [1,1,0,1,0,0])) ⟨60,aI,[(0,true,.ptr 0 0 0),(3,true,.ptr 250 1 0),(4,true,at_),(5,true,.ptr 350 1 0),(24,true,.d (.list ((eu x).map .str))),(25,true,.d (.int .i64 (eu x).length)),(26,true,.d (.int .i64 fp.length))],mqM p m 0 v1 v2 v3++[⟨250,1,bu x⟩,⟨350,1,iL v⟩,⟨600,v6,X6⟩]⟩ k)
 |[],fp,D,O,m,v1,v2,v3,v6,X6,T,U,V,Z,E,hm,y=>by
  have A0:D=[]:=vo (by simpa using Z.symm);subst A0;have e:m.aC (en p.vars (iB x) [] []) (kR [])=m:=by
   simp[en,kR,Mk.aC];cases m;simp at hm⊢;omega
  rw[e];have A7:fp.length=(eu x).length:=by rw[T];simp
  have:=J [(24,true,.d (.list ((eu x).map .str))),(25,true,.d (.int .i64 (eu x).length)),(26,true,.d (.int .i64 (eu x).length)),(27,true,.d (.bool false))] m v1 v2 v3 v6 X6;simp at this;rw[A7,ah];simp[f121,this]
 |f::fr,fp,D,O,m,v1,v2,v3,v6,X6,T,U,V,Z,E,hm,y=>by
  obtain⟨c,D,rfl⟩:∃c r,D=c::r:=by
   cases D with
   |nil=>simp at Z
   |cons c r=>exact⟨c,r,rfl⟩
  have AO:=kS p.vars c;have A8:en p.vars (iB x) (f::fr) (c::D)=((ar p.vars c).1++[ins 6 (iW p.vars (iB x) f).1 0 0 0])++en p.vars (iB x) fr D:=by simp[en]
  rw[A8]at y⊢;simp at y;obtain⟨A9,AA⟩:=E c (by simp);obtain⟨b,A2⟩:=Mx p H I (iB x) f;obtain⟨s1,s2,AP,A3⟩:=mz H I c A9 AA m 0 (by omega) (by omega) hm (by omega);obtain⟨AB,AC,AD,A4⟩:=rE p (m.aC (ar p.vars c).1 (aR 0 c)) 1 (iW p.vars (iB x) f).1 (by simp[Mk.aC];omega) (by decide);have e:m.aC (((ar p.vars c).1++[ins 6 (iW p.vars (iB x) f).1 0 0 0])++en p.vars (iB x) fr D) (kR (c::D))=((m.aC (ar p.vars c).1 (aR 0 c)).put (ins 6 (iW p.vars (iB x) f).1 0 0 0) (1+ -1)).aC (en p.vars (iB x) fr D) (kR D):=by
   rw[zS,IP];exact wI (by have:=mH 0 c;simp only[kR];omega)
  rw[e];have AE:0<=((m.aC (ar p.vars c).1 (aR 0 c)).put (ins 6 (iW p.vars (iB x) f).1 0 0 0) (1+ -1)).most:=by simp[Mk.put,Mk.aC];omega
  have AF:((m.aC (ar p.vars c).1 (aR 0 c)).put (ins 6 (iW p.vars (iB x) f).1 0 0 0) (1+ -1)).out.length=m.out.length+(ar p.vars c).1.length+1:=by simp[Mk.put,Mk.aC];omega
  have ih:=λv1 v2 v3 v6 X6=>Gp x A' at_ v k Q J fr (fp++[f]) D (O++[c]) ((m.aC (ar p.vars c).1 (aR 0 c)).put (ins 6 (iW p.vars (iB x) f).1 0 0 0) (1+ -1)) v1 v2 v3 v6 X6 (by simp[T]) (by simp[U]) (by simp[V]) (by simpa using Z) (λc A0=>E c (by simp[A0])) AE (by rw[AF];omega);clear J E e;generalize (m.aC (ar p.vars c).1 (aR 0 c)).put (ins 6 (iW p.vars (iB x) f).1 0 0 0) (1+ -1)=M at*;generalize m.aC (ar p.vars c).1 (aR 0 c)=N at*;have AG:fp.length<(eu x).length:=by rw[T];simp
  have AH:(eu x)[fp.length]=f:=by simp[T]
  have AI:fp.length<(cH x).length:=by rw[U,V];simp
  have AJ:(cH x)[fp.length]=c:=by simp[U,V]
  have AK:IntKind.i64.wrap ((fp.length:Int)+1)=(fp.length:Int)+1:=az (by unfold bj;omega);rw[ah];simp at A3 A4 A2;simp[f121]at ih⊢;simp[AG,AH,AI,AJ,aJ,dj,A2,A3,A4,aw,AK,ih]
theorem aeN{name:Tx}{to val:Ex}{conds:List Ex}{fields:List Tx}{line:Int}{v:Vr}(A5:bq p.vars name=some v)(AL:conds.length=fields.length)(A':fields.length<100000000)(E:∀c∈conds,bz c=true/\(aL p.vars c).e=0)(m:Mk)(hm:0<=m.most)(y:m.out.length+(en p.vars name fields conds).length<99999998):
 gx p (m.aC (en p.vars name fields conds++[ins 12 (cw p.vars name).1 v.ty 0 0]) (kR conds)) 0 (.ret (.bg [])) (ai ctx 121 [.ptr 0 0 0,.d (cq (.mk 9 name to val conds [] fields [] line))] (gw p m 0)):=by
 have A6:=rF p H I name;rw[A5,jr A5]at A6;have AM:=λ(N:Mk) (h:N.out.length<100000000)=>j0 p N 0 0 (ins 12 (cw p.vars name).1 v.ty 0 0) h (by decide);have e:m.aC (en p.vars name fields conds++[ins 12 (cw p.vars name).1 v.ty 0 0]) (kR conds)=(m.aC (en p.vars name fields conds) (kR conds)).put (ins 12 (cw p.vars name).1 v.ty 0 0) (0+0):=by
  rw[zS];exact wI (by omega)
 rw[e];obtain⟨AB,AC,AD,hu⟩:=AM (m.aC (en p.vars name fields conds) (kR conds)) (by simp[Mk.aC];omega);have A1:=λ(at_:AV) (k:Kt) (Q:Mk->bZ->Prop) J v6 X6=>Gp H I (.mk 9 name to val conds [] fields [] line) A' at_ v k Q J fields [] conds [] m 0 0 0 v6 X6 rfl rfl rfl AL.symm E hm (by simpa using (by omega:m.out.length+(en p.vars name fields conds).length<99999999));rw[ahG (by simp)];generalize (m.aC (en p.vars name fields conds) (kR conds)).put (ins 12 (cw p.vars name).1 v.ty 0 0) (0+0)=M at*;simp only[agT,Wx,Ww]at A1;generalize m.aC (en p.vars name fields conds) (kR conds)=N at*;simp[ins]at hu;simp[f121]at A1⊢;simp[fj,A6,bN,eV,aw];refine A1 _ _ (λX r=>X=N->gx p M 0 (.ret (.bg [])) r) (λY X v1 v2 v3 v6 X6 AN=>?_) _ _ rfl;subst AN;simp[f121,hu];exact⟨_,_,_,rfl⟩
end
end Go.Am
end
section
namespace Go.Am
open Go
def dN:List (List au×Int)->Int
 |[]=>0
 |t::r=>max t.2 (dN r)
def dH(ts:List (List au×Int)):List (List au):=ts.map (·.1)
def Mk.dC(m:Mk)(ts:List (List au×Int))(bs:List (List au))(c t:Int):Mk:=
 ⟨m.out++kC 0 m.out.length (dH ts) bs,c,max m.most t,ik m.ex (wD (-1) m.out.length (dH ts) bs),m.lv++wD (-2) m.out.length (dH ts) bs⟩
theorem My(m:Mk)(ts:List (List au×Int))(h:0<=m.most):m.dC ts [] m.cells 0=m:=by
 unfold Mk.dC;have O:kC 0 m.out.length (dH ts) []=[]:=by unfold kC;rfl
 have E:∀k,wD k m.out.length (dH ts) []=[]:=λk=>by unfold wD;rfl
 rw[O,E,E,nF];cases m;simp at h⊢;omega
def Mk.gz(m:Mk)(t:List au×Int):Mk:=(m.aC t.1 t.2).put (ins 10 0 0 0 0) 0
theorem zT(a b c:List au)(x:au)(v:Int)(k:Int)(T:k=((a.length+b.length:Nat):Int)):setAt (a++b++x::c) k v=a++b++{x with a:=v}::c:=by
 have:=sN (a++b) x c v;simp only[aa9]at this;rw[T];exact this
theorem Re(m:Mk)(t:List au×Int)(ts:List (List au×Int))(b:List au)(c u:Int)(U:0<=m.most):
 ((m.gz t).aS b c u).lead (m.out.length+t.1.length:Nat)=m.dC (t::ts) [b] c (max t.2 u):=by
 unfold Mk.gz Mk.aC Mk.put Mk.aS Mk.lead Mk.dC dH;simp only[adC,kC,wD,afz,afy,Mk.mk.injEq,anU];have D:(m.out++t.1++[ins 10 0 0 0 0]).length=m.out.length+t.1.length+1:=by simp;omega
 rw[D];refine⟨?_,by omega,rfl,rfl⟩;have:=zT m.out t.1 (cU (m.out.length+t.1.length+1) b) (ins 10 0 0 0 0) ((m.out.length+t.1.length+1+b.length:Nat):Int) ((m.out.length+t.1.length:Nat):Int) rfl;simp only[ins]at this⊢;have E:((m.out++t.1++[({op:=10,a:=0,b:=0,n:=0,m:=0}:au)]++cU (m.out.length+t.1.length+1) b).length:Int)=((m.out.length+t.1.length+1+b.length:Nat):Int):=by simp;omega
 rw[E];have H:m.out++t.1++[({op:=10,a:=0,b:=0,n:=0,m:=0}:au)]++cU (m.out.length+t.1.length+1) b=m.out++t.1++({op:=10,a:=0,b:=0,n:=0,m:=0}:au)::cU (m.out.length+t.1.length+1) b:=by simp
 rw[H,this];simp
theorem Rf(m:Mk)(t:List au×Int)(ts:List (List au×Int))(b:List au)(bs:List (List au))(c I u J:Int)(U:0<=m.most)(V:bs≠[]):
 ((((m.gz t).aS b c u).put (ins 9 0 0 0 0) 0).lead (m.out.length+t.1.length:Nat)).dC ts bs I J=m.dC (t::ts) (b::bs) I (max t.2 (max u J)):=by
 have Y:((((m.gz t).aS b c u).put (ins 9 0 0 0 0) 0).lead (m.out.length+t.1.length:Nat)).out.length=m.out.length+t.1.length+2+b.length:=by
  simp[Mk.gz,Mk.aC,Mk.put,Mk.aS,Mk.lead];omega
 have Z:((((m.gz t).aS b c u).put (ins 9 0 0 0 0) 0).lead (m.out.length+t.1.length:Nat)).out=m.out++(t.1++ins 10 (m.out.length+t.1.length+2+b.length) 0 0 0::(cU (m.out.length+t.1.length+1) b++[ins 9 0 0 0 0])):=by
  unfold Mk.gz Mk.aC Mk.put Mk.aS Mk.lead;simp only
  have D:(m.out++t.1++[ins 10 0 0 0 0]).length=m.out.length+t.1.length+1:=by simp;omega
  rw[D];have:=zT m.out t.1 (cU (m.out.length+t.1.length+1) b++[ins 9 0 0 0 0]) (ins 10 0 0 0 0) ((m.out.length+t.1.length+2+b.length:Nat):Int) ((m.out.length+t.1.length:Nat):Int) rfl;have E:((m.out++t.1++[ins 10 0 0 0 0]++cU (m.out.length+t.1.length+1) b++[ins 9 0 0 0 0]).length:Int)=((m.out.length+t.1.length+2+b.length:Nat):Int):=by simp;omega
  rw[E];have H:m.out++t.1++[ins 10 0 0 0 0]++cU (m.out.length+t.1.length+1) b++[ins 9 0 0 0 0]=m.out++t.1++ins 10 0 0 0 0::(cU (m.out.length+t.1.length+1) b++[ins 9 0 0 0 0]):=by simp
  rw[H,this];simp[ins]
 have hex:((((m.gz t).aS b c u).put (ins 9 0 0 0 0) 0).lead (m.out.length+t.1.length:Nat)).ex=ik m.ex (cO (-1) (m.out.length+t.1.length+1) b):=by
  unfold Mk.gz Mk.aC Mk.put Mk.aS Mk.lead;simp only
  have D:(m.out++t.1++[ins 10 0 0 0 0]).length=m.out.length+t.1.length+1:=by simp;omega
  rw[D]
 have y:((((m.gz t).aS b c u).put (ins 9 0 0 0 0) 0).lead (m.out.length+t.1.length:Nat)).lv=m.lv++cO (-2) (m.out.length+t.1.length+1) b:=by
  unfold Mk.gz Mk.aC Mk.put Mk.aS Mk.lead;simp only
  have D:(m.out++t.1++[ins 10 0 0 0 0]).length=m.out.length+t.1.length+1:=by simp;omega
  rw[D]
 have A':((((m.gz t).aS b c u).put (ins 9 0 0 0 0) 0).lead (m.out.length+t.1.length:Nat)).most=max m.most (max t.2 u):=by
  simp[Mk.gz,Mk.aC,Mk.put,Mk.aS,Mk.lead];omega
 generalize (((m.gz t).aS b c u).put (ins 9 0 0 0 0) 0).lead (m.out.length+t.1.length:Nat)=M at*;unfold Mk.dC;rw[Y,Z,hex,y,A'];simp only[dH,adC,kC,wD,aa4 V,Mk.mk.injEq,anU,IN,afw];exact⟨by simp,by omega,trivial⟩
theorem Rg(m:Mk)(b:List au)(c u:Int):m.aS b c u=m.dC [] [b] c u:=by
 unfold Mk.aS Mk.dC dH;simp[kC,wD]
end Go.Am
end
section
namespace Go.Am
open Go Go.Proofs Go.Proofs.Tryz
variable [Inhabited b7]
set_option maxRecDepth 20000
def IQ(p:Pg)(m:Mk)(h:Int)(s:Sm)(o:Out)(r:bZ):Prop:=∃v1 v2 v3,r=some (o,[(0,.box [.ptr 2 0 0]),(0,bu s),(0,ij p m h 3 4 5 v1 v2 v3),(v1,.vec 5 (m.out.map dy)),(v2,.vv (m.ex.map gv) none),(v3,.vec 1 (m.lv.map dP))])
section
variable {p:Pg} (D:p.vars.length<=1000) (H:∀v∈p.vars,dM v=true)
include D H
theorem aeO(s:Sm)(i:Nat)(c:Ex)(I:(cH s)[i]?=some c)(O:bz c=true)(T:(aL p.vars c).e=0)(m:Mk)(hm:0<=m.most)(Z:m.out.length+(ar p.vars c).1.length<99999999):
 IQ p (m.aC (ar p.vars c).1 (aR 0 c)) 1 s (.ret (.bg [])) (ai ctx 115 [.d (.int .i64 i),.ptr 0 0 0,.ptr 1 0 0] [.box [.ptr 2 0 0],bu s,ij p m 0 3 4 5 0 0 0,.vec 5 (m.out.map dy),.vv (m.ex.map gv) none,.vec 1 (m.lv.map dP)]):=by
 obtain⟨v1,v2,v3,J⟩:=mz D H c O T m 0 (by omega) (by omega) hm (by omega);have U:i<(cH s).length:=(aa1.1 I).1;have V:(cH s)[i]=c:=(aa1.1 I).2;generalize m.aC (ar p.vars c).1 (aR 0 c)=M at*;simp at J;rw[ahD (by simp)];simp[f115,aw,U,V,aJ,J];exact⟨_,_,_,rfl⟩
end
mutual
def yy:Sm->Nat
 | .mk _ _ _ _ _ _ _ blocks _=>xx blocks+1
def ja:List Sm->Nat
 |[]=>0
 |x::r=>max (yy x) (ja r)
def xx:List (List Sm)->Nat
 |[]=>0
 |b::r=>max (ja b) (xx r)
end
theorem Ej:∀{l:List (List Sm)}{b:List Sm},b∈l->ja b<=xx l
 |c::r,b,h=>by
  simp only[xx];rcases abd.1 h with rfl|h
  ·omega
  ·have:=Ej h;omega
def vy(p:Pg)(lp:Bool)(b:List Sm):Prop:=∀(m:Mk),0<=m.most->0<=m.cells->iZ m->(lp=true->m.ex≠[])->m.out.length+(ag p.vars b m.cells).1.length<99999990->(ag p.vars b m.cells).2<99999990->m.ex.length+ja b<99999990->
 gx p (m.aS (ag p.vars b m.cells).1 (ag p.vars b m.cells).2 (bn b)) 0 (.ret (.bg [])) (ai ctx 42 [.ptr 0 0 0,.d (.list (b.map cq))] (gw p m 0))
@[simp] def Dt(p:Pg)(m:Mk)(s:Sm)(E:List Int)(v1 v2 v3 Y:Nat):List cJ:=[⟨0,0,ij p m 0 3 4 5 v1 v2 v3⟩,⟨1,0,.box [.ptr 0 0 0]⟩,⟨2,0,bu s⟩,⟨3,v1,.vec 5 (m.out.map dy)⟩,⟨4,v2,.vv (m.ex.map gv) none⟩,⟨5,v3,.vec 1 (m.lv.map dP)⟩,⟨500,Y,.vec 1 (E.map dP)⟩]
theorem aeP{p:Pg}{s:Sm}{blocks:List (List Sm)}{n i:Nat}{b:List Sm}(U:i<blocks.length)(V:blocks[i]=b)(Z:i<n)(A3:n<99999990)(A4:i+1<blocks.length)(A5:blocks.length<99999990)
 {m H I:Mk} (O:IQ p H 1 s (.ret (.bg [])) (ai ctx 115 [.d (.int .i64 i),.ptr 0 0 0,.ptr 1 0 0] [.box [.ptr 2 0 0],bu s,ij p m 0 3 4 5 0 0 0,.vec 5 (m.out.map dy),.vv (m.ex.map gv) none,.vec 1 (m.lv.map dP)]))
 (A8:H.out.length<99999990)
 (J:gx p I 0 (.ret (.bg [])) (ai ctx 42 [.ptr 0 0 0,.d (.list (b.map cq))] (gw p (H.put (ins 10 0 0 0 0) 0) 0)))
 (A9:H.out.length<I.out.length/\I.out.length<99999990) (E:List Int) (AA:E.length<99999990) (k:Kt) (Q:bZ->Prop)
 (M:∀v1 v2 v3 D,Q (aO ctx 114 (.loop (Code.at (bk f114) [1,0,1,0,0])) ⟨49,aI,[(0,true,.ptr 0 0 0),(1,true,.d (.list (blocks.map dz))),(2,true,.d (.int .i64 n)),(3,true,.fn 115 [.ptr 1 0 0,.ptr 2 0 0]),(8,true,.vec 500 D 0 (E.length+1)),(12,true,.d (.list (blocks.map dz))),(13,true,.d (.int .i64 blocks.length)),(14,true,.d (.int .i64 (i+1)))],Dt p ((I.put (ins 9 0 0 0 0) 0).lead H.out.length) s (E++[(I.out.length:Int)]) v1 v2 v3 D⟩ k))
 (v1 v2 v3 D:Nat):
 Q (aO ctx 114 (.loop (Code.at (bk f114) [1,0,1,0,0])) ⟨49,aI,[(0,true,.ptr 0 0 0),(1,true,.d (.list (blocks.map dz))),(2,true,.d (.int .i64 n)),(3,true,.fn 115 [.ptr 1 0 0,.ptr 2 0 0]),(8,true,.vec 500 D 0 E.length),(12,true,.d (.list (blocks.map dz))),(13,true,.d (.int .i64 blocks.length)),(14,true,.d (.int .i64 i))],Dt p m s E v1 v2 v3 D⟩ k):=by
 obtain⟨AB,a2,a3,O⟩:=O;obtain⟨AC,AD,AE,T⟩:=zR p H 1 0 (by omega) (by decide);rw[show (1:Int)+ -1=0 by omega]at T;obtain⟨d1,d2,d3,J⟩:=J;obtain⟨AI,AJ,AK,A6⟩:=Gm p I 0 0 (by omega) (by decide);have A7:(I.put (ins 9 0 0 0 0) 0).out.length=I.out.length+1:=by simp[Mk.put]
 have y:=sP p (I.put (ins 9 0 0 0 0) 0) 0 H.out.length (by rw[A7];omega) (by rw[A7];omega);have A':IntKind.i64.wrap ((i:Int)+1)=(i:Int)+1:=az (by unfold bj;omega);have A0:IntKind.i64.wrap ((blocks.length:Int)-1)=(blocks.length:Int)-1:=az (by unfold bj;omega);have A1:(i:Int)<(blocks.length:Int)-1:=by omega
 have AF:E.length<=4611686018427387903:=by omega
 have AG:(E.length+1)*8<=140737488355328:=by omega
 have A2:(0:Int)<=H.out.length:=by omega
 generalize (I.put (ins 9 0 0 0 0) 0).lead H.out.length=AH at*;generalize I.put (ins 9 0 0 0 0) 0=AL at*;generalize H.put (ins 10 0 0 0 0) 0=M2 at*;rw[ah];simp at O T J A6 y;simp[f114]at M⊢;simp[U,V,dz,Z,O,T,J,A6,y,A',A0,A1,AF,AG,A2,M]
theorem aeQ{p:Pg}{s:Sm}{blocks:List (List Sm)}{n i:Nat}{b:List Sm}(U:i<blocks.length)(V:blocks[i]=b)(Z:i<n)(A3:n<99999990)(A4:¬i+1<blocks.length)(A5:blocks.length<99999990)
 {m H I:Mk} (O:IQ p H 1 s (.ret (.bg [])) (ai ctx 115 [.d (.int .i64 i),.ptr 0 0 0,.ptr 1 0 0] [.box [.ptr 2 0 0],bu s,ij p m 0 3 4 5 0 0 0,.vec 5 (m.out.map dy),.vv (m.ex.map gv) none,.vec 1 (m.lv.map dP)]))
 (A8:H.out.length<99999990)
 (J:gx p I 0 (.ret (.bg [])) (ai ctx 42 [.ptr 0 0 0,.d (.list (b.map cq))] (gw p (H.put (ins 10 0 0 0 0) 0) 0)))
 (A9:H.out.length<I.out.length/\I.out.length<99999990) (E:List Int) (AA:E.length<99999990) (k:Kt) (Q:bZ->Prop)
 (M:∀v1 v2 v3 D,Q (aO ctx 114 (.loop (Code.at (bk f114) [1,0,1,0,0])) ⟨49,aI,[(0,true,.ptr 0 0 0),(1,true,.d (.list (blocks.map dz))),(2,true,.d (.int .i64 n)),(3,true,.fn 115 [.ptr 1 0 0,.ptr 2 0 0]),(8,true,.vec 500 D 0 E.length),(12,true,.d (.list (blocks.map dz))),(13,true,.d (.int .i64 blocks.length)),(14,true,.d (.int .i64 (i+1)))],Dt p (I.lead H.out.length) s E v1 v2 v3 D⟩ k))
 (v1 v2 v3 D:Nat):
 Q (aO ctx 114 (.loop (Code.at (bk f114) [1,0,1,0,0])) ⟨49,aI,[(0,true,.ptr 0 0 0),(1,true,.d (.list (blocks.map dz))),(2,true,.d (.int .i64 n)),(3,true,.fn 115 [.ptr 1 0 0,.ptr 2 0 0]),(8,true,.vec 500 D 0 E.length),(12,true,.d (.list (blocks.map dz))),(13,true,.d (.int .i64 blocks.length)),(14,true,.d (.int .i64 i))],Dt p m s E v1 v2 v3 D⟩ k):=by
 obtain⟨AB,a2,a3,O⟩:=O;obtain⟨AC,AD,AE,T⟩:=zR p H 1 0 (by omega) (by decide);rw[show (1:Int)+ -1=0 by omega]at T;obtain⟨d1,d2,d3,J⟩:=J;have y:=sP p I 0 H.out.length (by omega) (by omega);have A':IntKind.i64.wrap ((i:Int)+1)=(i:Int)+1:=az (by unfold bj;omega);have A0:IntKind.i64.wrap ((blocks.length:Int)-1)=(blocks.length:Int)-1:=az (by unfold bj;omega);have A1:¬(i:Int)<(blocks.length:Int)-1:=by omega
 have A2:(0:Int)<=H.out.length:=by omega
 generalize I.lead H.out.length=AH at*;generalize H.put (ins 10 0 0 0 0) 0=M2 at*;rw[ah];simp at O T J y;simp[f114]at M⊢;simp[U,V,dz,Z,O,T,J,y,A',A0,A1,A2,M]
theorem aeR{p:Pg}{s:Sm}{blocks:List (List Sm)}{n i:Nat}{b:List Sm}(U:i<blocks.length)(V:blocks[i]=b)(Z:¬i<n)(A3:n<99999990)(A4:¬i+1<blocks.length)(A5:blocks.length<99999990)
 {m I:Mk}
 (J:gx p I 0 (.ret (.bg [])) (ai ctx 42 [.ptr 0 0 0,.d (.list (b.map cq))] (gw p m 0)))
 (E:List Int) (k:Kt) (Q:bZ->Prop)
 (M:∀v1 v2 v3 D,Q (aO ctx 114 (.loop (Code.at (bk f114) [1,0,1,0,0])) ⟨49,aI,[(0,true,.ptr 0 0 0),(1,true,.d (.list (blocks.map dz))),(2,true,.d (.int .i64 n)),(3,true,.fn 115 [.ptr 1 0 0,.ptr 2 0 0]),(8,true,.vec 500 D 0 E.length),(12,true,.d (.list (blocks.map dz))),(13,true,.d (.int .i64 blocks.length)),(14,true,.d (.int .i64 (i+1)))],Dt p I s E v1 v2 v3 D⟩ k))
 (v1 v2 v3 D:Nat):
 Q (aO ctx 114 (.loop (Code.at (bk f114) [1,0,1,0,0])) ⟨49,aI,[(0,true,.ptr 0 0 0),(1,true,.d (.list (blocks.map dz))),(2,true,.d (.int .i64 n)),(3,true,.fn 115 [.ptr 1 0 0,.ptr 2 0 0]),(8,true,.vec 500 D 0 E.length),(12,true,.d (.list (blocks.map dz))),(13,true,.d (.int .i64 blocks.length)),(14,true,.d (.int .i64 i))],Dt p m s E v1 v2 v3 D⟩ k):=by
 obtain⟨d1,d2,d3,J⟩:=J;have A':IntKind.i64.wrap ((i:Int)+1)=(i:Int)+1:=az (by unfold bj;omega);have A0:IntKind.i64.wrap ((blocks.length:Int)-1)=(blocks.length:Int)-1:=az (by unfold bj;omega);have A1:¬(i:Int)<(blocks.length:Int)-1:=by omega
 rw[ah];simp at J;simp[f114]at M⊢;simp[U,V,dz,Z,J,A',A0,A1,M]
theorem Ek{p:Pg}{s:Sm}{blocks:List (List Sm)}{n:Nat}{m:Mk}(E:List Int)(k:Kt)(Q:bZ->Prop)
 (M:∀(Y:Env) v1 v2 v3 D,Q (k (.exit 0) ⟨49,aI,(0,true,.ptr 0 0 0)::(1,true,.d (.list (blocks.map dz)))::(2,true,.d (.int .i64 n))::(3,true,.fn 115 [.ptr 1 0 0,.ptr 2 0 0])::(8,true,.vec 500 D 0 E.length)::Y,Dt p m s E v1 v2 v3 D⟩))
 (v1 v2 v3 D:Nat) {i:Nat} (hi:i=blocks.length):
 Q (aO ctx 114 (.loop (Code.at (bk f114) [1,0,1,0,0])) ⟨49,aI,[(0,true,.ptr 0 0 0),(1,true,.d (.list (blocks.map dz))),(2,true,.d (.int .i64 n)),(3,true,.fn 115 [.ptr 1 0 0,.ptr 2 0 0]),(8,true,.vec 500 D 0 E.length),(12,true,.d (.list (blocks.map dz))),(13,true,.d (.int .i64 blocks.length)),(14,true,.d (.int .i64 i))],Dt p m s E v1 v2 v3 D⟩ k):=by
 subst hi;rw[ah];simp[f114]at M⊢;exact M _ _ _ _ _
def Rh(p:Pg)(m:Mk)(h:Int)(s:Sm)(q:Int)(o:Out)(r:bZ):Prop:=∃v1 v2 v3,r=some (o,[(0,.box [.ptr 3 0 0]),(0,bu s),(0,.box [.d (.int .i64 q)]),(0,ij p m h 4 5 6 v1 v2 v3),(v1,.vec 5 (m.out.map dy)),(v2,.vv (m.ex.map gv) none),(v3,.vec 1 (m.lv.map dP))])
@[simp] def Du(p:Pg)(m:Mk)(s:Sm)(q:Int)(E:List Int)(v1 v2 v3 D:Nat):List cJ:=[⟨0,0,ij p m 0 4 5 6 v1 v2 v3⟩,⟨1,0,.box [.ptr 0 0 0]⟩,⟨2,0,bu s⟩,⟨3,0,.box [.d (.int .i64 q)]⟩,⟨4,v1,.vec 5 (m.out.map dy)⟩,⟨5,v2,.vv (m.ex.map gv) none⟩,⟨6,v3,.vec 1 (m.lv.map dP)⟩,⟨500,D,.vec 1 (E.map dP)⟩]
theorem aeS{p:Pg}{s:Sm}{q:Int}{blocks:List (List Sm)}{n i:Nat}{b:List Sm}(U:i<blocks.length)(V:blocks[i]=b)(Z:i<n)(A3:n<99999990)(A4:i+1<blocks.length)(A5:blocks.length<99999990)
 {m H I:Mk} (O:Rh p H 1 s q (.ret (.bg [])) (ai ctx 187 [.d (.int .i64 i),.ptr 0 0 0,.ptr 1 0 0,.ptr 2 0 0] [.box [.ptr 3 0 0],bu s,.box [.d (.int .i64 q)],ij p m 0 4 5 6 0 0 0,.vec 5 (m.out.map dy),.vv (m.ex.map gv) none,.vec 1 (m.lv.map dP)]))
 (A8:H.out.length<99999990)
 (J:gx p I 0 (.ret (.bg [])) (ai ctx 42 [.ptr 0 0 0,.d (.list (b.map cq))] (gw p (H.put (ins 10 0 0 0 0) 0) 0)))
 (A9:H.out.length<I.out.length/\I.out.length<99999990) (E:List Int) (AA:E.length<99999990) (k:Kt) (Q:bZ->Prop)
 (M:∀v1 v2 v3 D,Q (aO ctx 114 (.loop (Code.at (bk f114) [1,0,1,0,0])) ⟨49,aI,[(0,true,.ptr 0 0 0),(1,true,.d (.list (blocks.map dz))),(2,true,.d (.int .i64 n)),(3,true,.fn 187 [.ptr 1 0 0,.ptr 2 0 0,.ptr 3 0 0]),(8,true,.vec 500 D 0 (E.length+1)),(12,true,.d (.list (blocks.map dz))),(13,true,.d (.int .i64 blocks.length)),(14,true,.d (.int .i64 (i+1)))],Du p ((I.put (ins 9 0 0 0 0) 0).lead H.out.length) s q (E++[(I.out.length:Int)]) v1 v2 v3 D⟩ k))
 (v1 v2 v3 D:Nat):
 Q (aO ctx 114 (.loop (Code.at (bk f114) [1,0,1,0,0])) ⟨49,aI,[(0,true,.ptr 0 0 0),(1,true,.d (.list (blocks.map dz))),(2,true,.d (.int .i64 n)),(3,true,.fn 187 [.ptr 1 0 0,.ptr 2 0 0,.ptr 3 0 0]),(8,true,.vec 500 D 0 E.length),(12,true,.d (.list (blocks.map dz))),(13,true,.d (.int .i64 blocks.length)),(14,true,.d (.int .i64 i))],Du p m s q E v1 v2 v3 D⟩ k):=by
 obtain⟨AB,a2,a3,O⟩:=O;obtain⟨AC,AD,AE,T⟩:=zR p H 1 0 (by omega) (by decide);rw[show (1:Int)+ -1=0 by omega]at T;obtain⟨d1,d2,d3,J⟩:=J;obtain⟨AI,AJ,AK,A6⟩:=Gm p I 0 0 (by omega) (by decide);have A7:(I.put (ins 9 0 0 0 0) 0).out.length=I.out.length+1:=by simp[Mk.put]
 have y:=sP p (I.put (ins 9 0 0 0 0) 0) 0 H.out.length (by rw[A7];omega) (by rw[A7];omega);have A':IntKind.i64.wrap ((i:Int)+1)=(i:Int)+1:=az (by unfold bj;omega);have A0:IntKind.i64.wrap ((blocks.length:Int)-1)=(blocks.length:Int)-1:=az (by unfold bj;omega);have A1:(i:Int)<(blocks.length:Int)-1:=by omega
 have AF:E.length<=4611686018427387903:=by omega
 have AG:(E.length+1)*8<=140737488355328:=by omega
 have A2:(0:Int)<=H.out.length:=by omega
 generalize (I.put (ins 9 0 0 0 0) 0).lead H.out.length=AH at*;generalize I.put (ins 9 0 0 0 0) 0=AL at*;generalize H.put (ins 10 0 0 0 0) 0=M2 at*;rw[ah];simp at O T J A6 y;simp[f114]at M⊢;simp[U,V,dz,Z,O,T,J,A6,y,A',A0,A1,AF,AG,A2,M]
theorem aeT{p:Pg}{s:Sm}{q:Int}{blocks:List (List Sm)}{n i:Nat}{b:List Sm}(U:i<blocks.length)(V:blocks[i]=b)(Z:i<n)(A3:n<99999990)(A4:¬i+1<blocks.length)(A5:blocks.length<99999990)
 {m H I:Mk} (O:Rh p H 1 s q (.ret (.bg [])) (ai ctx 187 [.d (.int .i64 i),.ptr 0 0 0,.ptr 1 0 0,.ptr 2 0 0] [.box [.ptr 3 0 0],bu s,.box [.d (.int .i64 q)],ij p m 0 4 5 6 0 0 0,.vec 5 (m.out.map dy),.vv (m.ex.map gv) none,.vec 1 (m.lv.map dP)]))
 (A8:H.out.length<99999990)
 (J:gx p I 0 (.ret (.bg [])) (ai ctx 42 [.ptr 0 0 0,.d (.list (b.map cq))] (gw p (H.put (ins 10 0 0 0 0) 0) 0)))
 (A9:H.out.length<I.out.length/\I.out.length<99999990) (E:List Int) (AA:E.length<99999990) (k:Kt) (Q:bZ->Prop)
 (M:∀v1 v2 v3 D,Q (aO ctx 114 (.loop (Code.at (bk f114) [1,0,1,0,0])) ⟨49,aI,[(0,true,.ptr 0 0 0),(1,true,.d (.list (blocks.map dz))),(2,true,.d (.int .i64 n)),(3,true,.fn 187 [.ptr 1 0 0,.ptr 2 0 0,.ptr 3 0 0]),(8,true,.vec 500 D 0 E.length),(12,true,.d (.list (blocks.map dz))),(13,true,.d (.int .i64 blocks.length)),(14,true,.d (.int .i64 (i+1)))],Du p (I.lead H.out.length) s q E v1 v2 v3 D⟩ k))
 (v1 v2 v3 D:Nat):
 Q (aO ctx 114 (.loop (Code.at (bk f114) [1,0,1,0,0])) ⟨49,aI,[(0,true,.ptr 0 0 0),(1,true,.d (.list (blocks.map dz))),(2,true,.d (.int .i64 n)),(3,true,.fn 187 [.ptr 1 0 0,.ptr 2 0 0,.ptr 3 0 0]),(8,true,.vec 500 D 0 E.length),(12,true,.d (.list (blocks.map dz))),(13,true,.d (.int .i64 blocks.length)),(14,true,.d (.int .i64 i))],Du p m s q E v1 v2 v3 D⟩ k):=by
 obtain⟨AB,a2,a3,O⟩:=O;obtain⟨AC,AD,AE,T⟩:=zR p H 1 0 (by omega) (by decide);rw[show (1:Int)+ -1=0 by omega]at T;obtain⟨d1,d2,d3,J⟩:=J;have y:=sP p I 0 H.out.length (by omega) (by omega);have A':IntKind.i64.wrap ((i:Int)+1)=(i:Int)+1:=az (by unfold bj;omega);have A0:IntKind.i64.wrap ((blocks.length:Int)-1)=(blocks.length:Int)-1:=az (by unfold bj;omega);have A1:¬(i:Int)<(blocks.length:Int)-1:=by omega
 have A2:(0:Int)<=H.out.length:=by omega
 generalize I.lead H.out.length=AH at*;generalize H.put (ins 10 0 0 0 0) 0=M2 at*;rw[ah];simp at O T J y;simp[f114]at M⊢;simp[U,V,dz,Z,O,T,J,y,A',A0,A1,A2,M]
theorem aeU{p:Pg}{s:Sm}{q:Int}{blocks:List (List Sm)}{n i:Nat}{b:List Sm}(U:i<blocks.length)(V:blocks[i]=b)(Z:¬i<n)(A3:n<99999990)(A4:¬i+1<blocks.length)(A5:blocks.length<99999990)
 {m I:Mk}
 (J:gx p I 0 (.ret (.bg [])) (ai ctx 42 [.ptr 0 0 0,.d (.list (b.map cq))] (gw p m 0)))
 (E:List Int) (k:Kt) (Q:bZ->Prop)
 (M:∀v1 v2 v3 D,Q (aO ctx 114 (.loop (Code.at (bk f114) [1,0,1,0,0])) ⟨49,aI,[(0,true,.ptr 0 0 0),(1,true,.d (.list (blocks.map dz))),(2,true,.d (.int .i64 n)),(3,true,.fn 187 [.ptr 1 0 0,.ptr 2 0 0,.ptr 3 0 0]),(8,true,.vec 500 D 0 E.length),(12,true,.d (.list (blocks.map dz))),(13,true,.d (.int .i64 blocks.length)),(14,true,.d (.int .i64 (i+1)))],Du p I s q E v1 v2 v3 D⟩ k))
 (v1 v2 v3 D:Nat):
 Q (aO ctx 114 (.loop (Code.at (bk f114) [1,0,1,0,0])) ⟨49,aI,[(0,true,.ptr 0 0 0),(1,true,.d (.list (blocks.map dz))),(2,true,.d (.int .i64 n)),(3,true,.fn 187 [.ptr 1 0 0,.ptr 2 0 0,.ptr 3 0 0]),(8,true,.vec 500 D 0 E.length),(12,true,.d (.list (blocks.map dz))),(13,true,.d (.int .i64 blocks.length)),(14,true,.d (.int .i64 i))],Du p m s q E v1 v2 v3 D⟩ k):=by
 obtain⟨d1,d2,d3,J⟩:=J;have A':IntKind.i64.wrap ((i:Int)+1)=(i:Int)+1:=az (by unfold bj;omega);have A0:IntKind.i64.wrap ((blocks.length:Int)-1)=(blocks.length:Int)-1:=az (by unfold bj;omega);have A1:¬(i:Int)<(blocks.length:Int)-1:=by omega
 rw[ah];simp at J;simp[f114]at M⊢;simp[U,V,dz,Z,J,A',A0,A1,M]
theorem El{p:Pg}{s:Sm}{q:Int}{blocks:List (List Sm)}{n:Nat}{m:Mk}(E:List Int)(k:Kt)(Q:bZ->Prop)
 (M:∀(Y:Env) v1 v2 v3 D,Q (k (.exit 0) ⟨49,aI,(0,true,.ptr 0 0 0)::(1,true,.d (.list (blocks.map dz)))::(2,true,.d (.int .i64 n))::(3,true,.fn 187 [.ptr 1 0 0,.ptr 2 0 0,.ptr 3 0 0])::(8,true,.vec 500 D 0 E.length)::Y,Du p m s q E v1 v2 v3 D⟩))
 (v1 v2 v3 D:Nat) {i:Nat} (hi:i=blocks.length):
 Q (aO ctx 114 (.loop (Code.at (bk f114) [1,0,1,0,0])) ⟨49,aI,[(0,true,.ptr 0 0 0),(1,true,.d (.list (blocks.map dz))),(2,true,.d (.int .i64 n)),(3,true,.fn 187 [.ptr 1 0 0,.ptr 2 0 0,.ptr 3 0 0]),(8,true,.vec 500 D 0 E.length),(12,true,.d (.list (blocks.map dz))),(13,true,.d (.int .i64 blocks.length)),(14,true,.d (.int .i64 i))],Du p m s q E v1 v2 v3 D⟩ k):=by
 subst hi;rw[ah];simp[f114]at M⊢;exact M _ _ _ _ _
@[simp] theorem awq:List.range 7=[0,1,2,3,4,5,6]:=rfl
@[simp] theorem awr:List.range 8=[0,1,2,3,4,5,6,7]:=rfl
@[simp] def mqL(p:Pg)(m:Mk)(h:Int)(s:Sm)(q:Int)(v1 v2 v3:Nat):List cJ:=[⟨0,0,.box [.ptr 3 0 0]⟩,⟨1,0,bu s⟩,⟨2,0,.box [.d (.int .i64 q)]⟩,⟨3,0,ij p m h 4 5 6 v1 v2 v3⟩,⟨4,v1,.vec 5 (m.out.map dy)⟩,⟨5,v2,.vv (m.ex.map gv) none⟩,⟨6,v3,.vec 1 (m.lv.map dP)⟩]
theorem IS{p:Pg}{s:Sm}{q:Int}(l:List Int)(I:l.length<99999990)(k:Kt)(Q:Mk->bZ->Prop)
 (E:∀(Y:Env) M v1 v2 v3,Q M (k (.exit 0) ⟨38,aI,Y,mqL p M 1 s q v1 v2 v3⟩)):
 ∀(rest pre:List Int)(m:Mk)(v1 v2 v3:Nat),l=pre++rest->rest.length%2=0->0<=m.most->m.out.length+rest.length<99999990->2<=m.most\/rest≠[]->
 Q (m.aC (eH q rest) 2) (aO ctx 187 (.loop (Code.at (bk f187) [1,1,1,0,0])) ⟨38,aI,[(1,true,.ptr 0 0 0),(3,true,.ptr 2 0 0),(5,true,.d (.list (l.map λn=>.int .i64 n))),(6,true,.d (.int .i64 pre.length))],mqL p m 1 s q v1 v2 v3⟩ k)
 |[],pre,m,v1,v2,v3,D,he,hm,H,J=>by
  have A':pre.length=l.length:=by rw[D];simp
  have e:m.aC (eH q []) 2=m:=by
   simp[eH,Mk.aC];cases m;simp at hm J⊢;omega
  rw[e];have O:IntKind.i64.wrap ((l.length:Int)+1)=(l.length:Int)+1:=az (by unfold bj;omega);have T:¬(l.length:Int)+1<l.length:=by omega
  rw[A',ah];simp at E;simp[f187,O,T,E]
 |[a],pre,m,v1,v2,v3,D,he,hm,H,J=>by simp at he
 |a::b::rest,pre,m,v1,v2,v3,D,he,hm,H,J=>by
  simp only[abb]at H he;obtain⟨A0,A1,A2,g1⟩:=j0 p m 1 1 (ins 14 q 0 a b) (by omega) (by decide);obtain⟨d1,d2,d3,g2⟩:=j0 p (m.put (ins 14 q 0 a b) (1+1)) (1+1) (-1) (ins 8 1 21 0 0) (by simp[Mk.put];omega) (by decide);have e:m.aC (eH q (a::b::rest)) 2=((m.put (ins 14 q 0 a b) (1+1)).put (ins 8 1 21 0 0) (1+1+ -1)).aC (eH q rest) 2:=by
   simp only[eH,Mk.put,Mk.aC,Mk.mk.injEq];simp;omega
  rw[e];have ih:=λv1 v2 v3=>IS (p:=p) (s:=s) (q:=q) l I k Q E rest (pre++[a,b]) ((m.put (ins 14 q 0 a b) (1+1)).put (ins 8 1 21 0 0) (1+1+ -1)) v1 v2 v3 (by simp[D]) (by omega) (by simp[Mk.put];omega) (by simp[Mk.put];omega) (by simp[Mk.put];omega);clear E e;generalize (m.put (ins 14 q 0 a b) (1+1)).put (ins 8 1 21 0 0) (1+1+ -1)=M at*;generalize m.put (ins 14 q 0 a b) (1+1)=N at*;have A8:l.length=pre.length+(rest.length+2):=by rw[D];simp
  have O:IntKind.i64.wrap ((pre.length:Int)+1)=(pre.length:Int)+1:=az (by unfold bj;omega);have T:(pre.length:Int)+1<l.length:=by omega
  have A3:IntKind.i64.wrap ((pre.length:Int)+2)=(pre.length:Int)+2:=az (by unfold bj;omega);have i1:pre.length<l.length:=by omega
  have i2:l[pre.length]=a:=by simp[D]
  have i3:pre.length+1<l.length:=by omega
  have i4:l[pre.length+1]=b:=by simp[D]
  have i5:((pre.length:Int)+1).toNat=pre.length+1:=by omega
  have i6:(0:Int)<=(pre.length:Int)+1:=by omega
  rw[ah];simp[ins]at g1 g2;simp[f187]at ih⊢;simp[O,T,A3,i1,i2,i3,i4,i5,i6,g1,g2,aw,ih]
theorem aaz{p:Pg}(s:Sm)(q:Int)(i:Nat)(l:List Int)(U:(eF s)[i]?=some l)(V:ru l=true)(m:Mk)(hm:0<=m.most)(H:m.out.length+l.length+1<99999990):
 Rh p (m.aC (ins 1 0 0 0 0::eH q l) 2) 1 s q (.ret (.bg [])) (ai ctx 187 [.d (.int .i64 i),.ptr 0 0 0,.ptr 1 0 0,.ptr 2 0 0] [.box [.ptr 3 0 0],bu s,.box [.d (.int .i64 q)],ij p m 0 4 5 6 0 0 0,.vec 5 (m.out.map dy),.vv (m.ex.map gv) none,.vec 1 (m.lv.map dP)]):=by
 have I:l.length<99999990:=by omega
 simp only[ru,Ds,ago,aa8,afM]at V;obtain⟨A4,Z,_⟩:=V;obtain⟨A0,A1,A2,g1⟩:=j0 p m 0 1 (ins 1 0 0 0 0) (by omega) (by decide);have e:m.aC (ins 1 0 0 0 0::eH q l) 2=(m.put (ins 1 0 0 0 0) (0+1)).aC (eH q l) 2:=by
  simp only[Mk.put,Mk.aC,Mk.mk.injEq];simp;omega
 rw[e];have y:=λk Q E v1 v2 v3=>IS (p:=p) (s:=s) (q:=q) l I k Q E l [] (m.put (ins 1 0 0 0 0) (0+1)) v1 v2 v3 rfl (by omega) (by simp[Mk.put];omega) (by simp[Mk.put];omega) (.inr (by intro h;simp[h]at A4));generalize (m.put (ins 1 0 0 0 0) (0+1)).aC (eH q l) 2=M at*;generalize m.put (ins 1 0 0 0 0) (0+1)=N at*;have A5:i<(eF s).length:=(aa1.1 U).1;have Z:(eF s)[i]=l:=(aa1.1 U).2;rw[ahZ (by simp)];simp[ins]at g1;simp[f187]at y⊢;simp[g1,A5,Z,n8];refine y _ (λX r=>X=M->Rh p M 1 s q (.ret (.bg [])) r) (λY X v1 v2 v3 A6=>?_) _ _ _ rfl;subst A6;have A7:List.range 7=[0,1,2,3,4,5,6]:=rfl;simp[A7];exact⟨_,_,_,rfl⟩
theorem wJ(vs:List Vr):∀(l:List (List Sm))(c:Int),(aA vs l c).1.length=l.length
 |[],c=>by simp[aA]
 |b::r,c=>by simp[aA,wJ vs r]
theorem Mz{vs:List Vr}{l:List (List Sm)}{c:Int}:(aA vs l c).1=[]↔l=[]:=by
 constructor
 ·intro h;have:=wJ vs l c;rw[h]at this;exact vo this.symm
 ·rintro rfl;simp[aA]
theorem X7(t:List au)(ts:List (List au))(b:List au)(r:List (List au)):t.length+1+b.length+(if r=[]then 0 else 1+(dh ts r).length)<=(dh (t::ts) (b::r)).length:=by
 simp only[dh];by_cases h:r=[]
 ·subst h;simp[eG];omega
 ·simp[h,eG];omega
theorem CH(m:Mk)(t:List au×Int):(m.gz t).out.length=m.out.length+t.1.length+1:=by simp[Mk.gz,Mk.aC,Mk.put];omega
theorem wK{m:Mk}{ts:List (List au×Int)}{bs:List (List au)}{c t u:Int}(h:max m.most t=max m.most u):m.dC ts bs c t=m.dC ts bs c u:=by
 unfold Mk.dC;rw[h]
theorem zU{vs:List Vr}:∀(l:List (List Sm))(c:Int),0<=c->(∀b∈l,∀c,0<=c->c<=(ag vs b c).2)->c<=(aA vs l c).2
 |[],c,_,_=>by simp[aA]
 |b::r,c,AD,h=>by
  have T:=h b (by simp) c AD;have V:=zU r (ag vs b c).2 (by omega) (λb A2=>h b (by simp[A2]));simp only[aA];omega
section
variable {p:Pg} {lp:Bool}
theorem MA{s:Sm}{blocks:List (List Sm)}{ts:List (List au×Int)}(A9:blocks.length<99999990)(AR:ts.length<=blocks.length)(AS:blocks.length<=ts.length+1)
 (AK:∀(i:Nat)(t:List au×Int),ts[i]?=some t->∀m:Mk,0<=m.most->m.out.length+t.1.length<99999990->IQ p (m.aC t.1 t.2) 1 s (.ret (.bg [])) (ai ctx 115 [.d (.int .i64 i),.ptr 0 0 0,.ptr 1 0 0] [.box [.ptr 2 0 0],bu s,ij p m 0 3 4 5 0 0 0,.vec 5 (m.out.map dy),.vv (m.ex.map gv) none,.vec 1 (m.lv.map dP)]))
 (AE:∀b∈blocks,vy p lp b) (AF:∀b∈blocks,∀c,0<=c->c<=(ag p.vars b c).2) (k:Kt) (Q:Mk->List Int->bZ->Prop)
 (AA:∀(Y:Env) M E v1 v2 v3 I,Q M E (k (.exit 0) ⟨49,aI,(0,true,.ptr 0 0 0)::(1,true,.d (.list (blocks.map dz)))::(2,true,.d (.int .i64 ts.length))::(3,true,.fn 115 [.ptr 1 0 0,.ptr 2 0 0])::(8,true,.vec 500 I 0 E.length)::Y,Dt p M s E v1 v2 v3 I⟩)):
 ∀(D O:List (List Sm))(H U:List (List au×Int))(m:Mk)(E:List Int)(v1 v2 v3 I:Nat),blocks=O++D->ts=U++H->(O.length=U.length\/(H=[]/\D=[]))->0<=m.most->0<=m.cells->iZ m->(lp=true->m.ex≠[])->
 m.out.length+(dh (dH H) (aA p.vars D m.cells).1).length<99999990->(aA p.vars D m.cells).2<99999990->(∀b∈blocks,m.ex.length+ja b<99999990)->E.length+D.length<99999980->
 Q (m.dC H (aA p.vars D m.cells).1 (aA p.vars D m.cells).2 (max (dN H) (cd D))) (E++gg m.out.length (dH H) (aA p.vars D m.cells).1)
  (aO ctx 114 (.loop (Code.at (bk f114) [1,0,1,0,0])) ⟨49,aI,[(0,true,.ptr 0 0 0),(1,true,.d (.list (blocks.map dz))),(2,true,.d (.int .i64 ts.length)),(3,true,.fn 115 [.ptr 1 0 0,.ptr 2 0 0]),(8,true,.vec 500 I 0 E.length),(12,true,.d (.list (blocks.map dz))),(13,true,.d (.int .i64 blocks.length)),(14,true,.d (.int .i64 O.length))],Dt p m s E v1 v2 v3 I⟩ k)
 |[],O,H,U,m,E,v1,v2,v3,I,T,V,J,hm,A3,A4,hex,Z,A0,A5,AG=>by
  have AH:H=[]:=by
   rcases J with J|J
   ·have A6:blocks.length=O.length:=by rw[T];simp
    have a2:ts.length=U.length+H.length:=by rw[V];simp
    exact vo (by omega)
   ·exact J.1
  subst AH;have AL:(aA p.vars [] m.cells)=([],m.cells):=by simp[aA]
  have y:m.dC [] (aA p.vars [] m.cells).1 (aA p.vars [] m.cells).2 (max (dN []) (cd []))=m:=by
   rw[AL];have:=My m [] hm;simpa [dN,cd]using this
  have A':E++gg m.out.length (dH []) (aA p.vars [] m.cells).1=E:=by rw[AL];simp[gg]
  rw[y,A'];exact Ek E k (Q m E) (λY v1 v2 v3 I=>AA Y m E v1 v2 v3 I) v1 v2 v3 I (by rw[T];simp)
 |b::D,O,[],U,m,E,v1,v2,v3,I,T,V,J,hm,A3,A4,hex,Z,A0,A5,AG=>by
  have J:O.length=U.length:=by
   rcases J with J|J
   ·exact J
   ·cases J.2
  have A6:blocks.length=O.length+(D.length+1):=by rw[T];simp
  have a2:ts.length=U.length:=by rw[V];simp
  have A7:D=[]:=vo (by omega);subst A7;have AI:aA p.vars [b] m.cells=([(ag p.vars b m.cells).1],(ag p.vars b m.cells).2):=by simp[aA]
  rw[AI]at Z A0⊢;have Aa:m.out.length+(ag p.vars b m.cells).1.length<99999990:=by simpa [dH,dh]using Z
  have A1:=AE b (by rw[T];simp) m hm A3 A4 hex (by omega) A0 (A5 b (by rw[T];simp));have y:m.dC [] [(ag p.vars b m.cells).1] (ag p.vars b m.cells).2 (max (dN []) (cd [b]))=m.aS (ag p.vars b m.cells).1 (ag p.vars b m.cells).2 (bn b):=by
   rw[<-Rg];exact nG (by simp only[dN,cd];omega)
  have A':E++gg m.out.length (dH []) [(ag p.vars b m.cells).1]=E:=by simp[dH,gg]
  simp only
  rw[y,A'];refine aeR (i:=O.length) (b:=b) (by omega) (by simp[T]) (by omega) (by omega) (by omega) A9 A1 E k (Q _ E) (λv1 v2 v3 I=>?_) v1 v2 v3 I;exact Ek E k (Q _ E) (λY v1 v2 v3 I=>AA Y _ E v1 v2 v3 I) v1 v2 v3 I (i:=O.length+1) (by omega)
 |b::D,O,t::H,U,m,E,v1,v2,v3,I,T,V,J,hm,A3,A4,hex,Z,A0,A5,AG=>by
  have J:O.length=U.length:=by
   rcases J with J|J
   ·exact J
   ·cases J.2
  have A6:blocks.length=O.length+(D.length+1):=by rw[T];simp
  have a2:ts.length=U.length+(H.length+1):=by rw[V];simp
  have AI:aA p.vars (b::D) m.cells=((ag p.vars b m.cells).1::(aA p.vars D (ag p.vars b m.cells).2).1,(aA p.vars D (ag p.vars b m.cells).2).2):=by simp[aA]
  rw[AI]at Z A0⊢;have AT:=X7 t.1 (dH H) (ag p.vars b m.cells).1 (aA p.vars D (ag p.vars b m.cells).2).1;have Ab:=AF b (by rw[T];simp) m.cells A3;have Ac:=zU D (ag p.vars b m.cells).2 (by omega) (λb A2=>AF b (by rw[T];simp[A2]));have AU:dH (t::H)=t.1::dH H:=rfl;rw[AU]at Z⊢;simp only at A0 Z;have AM:=AK O.length t (by rw[V,J];simp) m hm (by omega);have AV:0<=(m.gz t).most:=by simp[Mk.gz,Mk.aC,Mk.put];omega
  have A1:=AE b (by rw[T];simp) (m.gz t) AV A3 ((A4.aC _ _).put _ _) hex (by rw[CH];show _+(ag p.vars b m.cells).1.length<_;omega) (by show (ag p.vars b m.cells).2<_;omega) (A5 b (by rw[T];simp));have A1:gx p ((m.gz t).aS (ag p.vars b m.cells).1 (ag p.vars b m.cells).2 (bn b)) 0 (.ret (.bg [])) (ai ctx 42 [.ptr 0 0 0,.d (.list (b.map cq))] (gw p ((m.aC t.1 t.2).put (ins 10 0 0 0 0) 0) 0)):=A1;have A8:(m.aC t.1 t.2).out.length=m.out.length+t.1.length:=by simp[Mk.aC]
  have AB:((m.gz t).aS (ag p.vars b m.cells).1 (ag p.vars b m.cells).2 (bn b)).out.length=m.out.length+t.1.length+1+(ag p.vars b m.cells).1.length:=by
   show ((m.gz t).out++cU _ _).length=_;rw[aa9,nU,CH]
  have AN:((m.aC t.1 t.2).out.length:Int)=((m.out.length+t.1.length:Nat):Int):=by rw[A8]
  by_cases A7:D=[]
  ·subst A7;have AH:H=[]:=vo (by simp at A6;omega);subst AH;have AW:aA p.vars [] (ag p.vars b m.cells).2=([],(ag p.vars b m.cells).2):=by simp[aA]
   rw[AW];have y:m.dC [t] [(ag p.vars b m.cells).1] (ag p.vars b m.cells).2 (max (dN [t]) (cd [b]))=((m.gz t).aS (ag p.vars b m.cells).1 (ag p.vars b m.cells).2 (bn b)).lead (m.aC t.1 t.2).out.length:=by
    rw[AN,Re m t [] _ _ _ hm];exact wK (by simp only[dN,cd];omega)
   have A':E++gg m.out.length (t.1::dH []) [(ag p.vars b m.cells).1]=E:=by simp[dH,gg]
   simp only
   rw[y,A'];refine aeQ (i:=O.length) (b:=b) (by omega) (by simp[T]) (by omega) (by omega) (by simp at A6;omega) A9 AM (by rw[A8];omega) A1 (by rw[A8,AB];omega) E (by omega) k (Q _ E) (λv1 v2 v3 I=>?_) v1 v2 v3 I;exact Ek E k (Q _ E) (λY v1 v2 v3 I=>AA Y _ E v1 v2 v3 I) v1 v2 v3 I (i:=O.length+1) (by simp at A6;omega)
  ·have Ad:0<D.length:=by
    cases D with
    |nil=>exact absurd rfl A7
    |cons _ _=>simp
   have AJ:(aA p.vars D (ag p.vars b m.cells).2).1≠[]:=λh=>A7 (Mz.1 h);rw[aa4 AJ]at AT;refine aeP (i:=O.length) (b:=b) (by omega) (by simp[T]) (by omega) (by omega) (by omega) A9 AM (by rw[A8];omega) A1 (by rw[A8,AB];omega) E (by omega) k (Q _ _) (λv1 v2 v3 I=>?_) v1 v2 v3 I;have y:=Rf m t H (ag p.vars b m.cells).1 (aA p.vars D (ag p.vars b m.cells).2).1 (ag p.vars b m.cells).2 (aA p.vars D (ag p.vars b m.cells).2).2 (bn b) (max (dN H) (cd D)) hm AJ;have A':gg m.out.length (t.1::dH H) ((ag p.vars b m.cells).1::(aA p.vars D (ag p.vars b m.cells).2).1)=((m.out.length+t.1.length+1+(ag p.vars b m.cells).1.length:Nat):Int)::gg (m.out.length+t.1.length+2+(ag p.vars b m.cells).1.length) (dH H) (aA p.vars D (ag p.vars b m.cells).2).1:=by
    simp only[gg,aa4 AJ]
   have AO:((((m.gz t).aS (ag p.vars b m.cells).1 (ag p.vars b m.cells).2 (bn b)).put (ins 9 0 0 0 0) 0).lead (m.out.length+t.1.length:Nat)).out.length=m.out.length+t.1.length+2+(ag p.vars b m.cells).1.length:=by
    rw[Ei];show (((m.gz t).aS _ _ _).out++_).length=_;rw[aa9,AB];simp;omega
   have AC:((((m.gz t).aS (ag p.vars b m.cells).1 (ag p.vars b m.cells).2 (bn b)).put (ins 9 0 0 0 0) 0).lead (m.out.length+t.1.length:Nat)).cells=(ag p.vars b m.cells).2:=rfl;have AP:((((m.gz t).aS (ag p.vars b m.cells).1 (ag p.vars b m.cells).2 (bn b)).put (ins 9 0 0 0 0) 0).lead (m.out.length+t.1.length:Nat)).ex.length=m.ex.length:=by
    show (ik m.ex _).length=_;simp
   have AX:0<=((((m.gz t).aS (ag p.vars b m.cells).1 (ag p.vars b m.cells).2 (bn b)).put (ins 9 0 0 0 0) 0).lead (m.out.length+t.1.length:Nat)).most:=by
    simp[Mk.lead,Mk.put,Mk.aS];omega
   have AY:m.dC (t::H) ((ag p.vars b m.cells).1::(aA p.vars D (ag p.vars b m.cells).2).1) (aA p.vars D (ag p.vars b m.cells).2).2 (max (dN (t::H)) (cd (b::D)))=((((m.gz t).aS (ag p.vars b m.cells).1 (ag p.vars b m.cells).2 (bn b)).put (ins 9 0 0 0 0) 0).lead (m.out.length+t.1.length:Nat)).dC H (aA p.vars D (ag p.vars b m.cells).2).1 (aA p.vars D (ag p.vars b m.cells).2).2 (max (dN H) (cd D)):=by
    rw[y];exact wK (by simp only[dN,cd];omega)
   have ih:=MA A9 AR AS AK AE AF k Q AA D (O++[b]) H (U++[t]) ((((m.gz t).aS (ag p.vars b m.cells).1 (ag p.vars b m.cells).2 (bn b)).put (ins 9 0 0 0 0) 0).lead (m.out.length+t.1.length:Nat)) (E++[((m.out.length+t.1.length+1+(ag p.vars b m.cells).1.length:Nat):Int)]) v1 v2 v3 I (by simp[T]) (by simp[V]) (.inl (by simp[J])) AX (by rw[AC];omega) ((((((A4.aC _ _).put _ _).aS _ _ _).put _ _).lead _)) (λh=>by
    intro AD;have:=AP;rw[AD]at this;have AZ:=hex h;cases AQ:m.ex with
    |nil=>exact AZ AQ
    |cons _ _=>rw[AQ]at this;simp at this) (by rw[AO,AC];omega) (by rw[AC];omega) (λb A2=>by rw[AP];exact A5 b A2) (by simp at AG⊢;omega)
   rw[AO,AC]at ih;simp only
   rw[AY,A',AN,AB];have A_:E++((m.out.length+t.1.length+1+(ag p.vars b m.cells).1.length:Nat):Int)::gg (m.out.length+t.1.length+2+(ag p.vars b m.cells).1.length) (dH H) (aA p.vars D (ag p.vars b m.cells).2).1=E++[((m.out.length+t.1.length+1+(ag p.vars b m.cells).1.length:Nat):Int)]++gg (m.out.length+t.1.length+2+(ag p.vars b m.cells).1.length) (dH H) (aA p.vars D (ag p.vars b m.cells).2).1:=by simp
   rw[A_];simpa using ih
end
section
variable {p:Pg} {lp:Bool}
theorem MD{s:Sm}{q:Int}{blocks:List (List Sm)}{ts:List (List au×Int)}(A8:blocks.length<99999990)(AQ:ts.length<=blocks.length)(AR:blocks.length<=ts.length+1)
 (AJ:∀(i:Nat)(t:List au×Int),ts[i]?=some t->∀m:Mk,0<=m.most->m.out.length+t.1.length<99999990->Rh p (m.aC t.1 t.2) 1 s q (.ret (.bg [])) (ai ctx 187 [.d (.int .i64 i),.ptr 0 0 0,.ptr 1 0 0,.ptr 2 0 0] [.box [.ptr 3 0 0],bu s,.box [.d (.int .i64 q)],ij p m 0 4 5 6 0 0 0,.vec 5 (m.out.map dy),.vv (m.ex.map gv) none,.vec 1 (m.lv.map dP)]))
 (AC:∀b∈blocks,vy p lp b) (AD:∀b∈blocks,∀c,0<=c->c<=(ag p.vars b c).2) (k:Kt) (Q:Mk->List Int->bZ->Prop)
 (A9:∀(Y:Env) M E v1 v2 v3 I,Q M E (k (.exit 0) ⟨49,aI,(0,true,.ptr 0 0 0)::(1,true,.d (.list (blocks.map dz)))::(2,true,.d (.int .i64 ts.length))::(3,true,.fn 187 [.ptr 1 0 0,.ptr 2 0 0,.ptr 3 0 0])::(8,true,.vec 500 I 0 E.length)::Y,Du p M s q E v1 v2 v3 I⟩)):
 ∀(D O:List (List Sm))(H U:List (List au×Int))(m:Mk)(E:List Int)(v1 v2 v3 I:Nat),blocks=O++D->ts=U++H->(O.length=U.length\/(H=[]/\D=[]))->0<=m.most->0<=m.cells->iZ m->(lp=true->m.ex≠[])->
 m.out.length+(dh (dH H) (aA p.vars D m.cells).1).length<99999990->(aA p.vars D m.cells).2<99999990->(∀b∈blocks,m.ex.length+ja b<99999990)->E.length+D.length<99999980->
 Q (m.dC H (aA p.vars D m.cells).1 (aA p.vars D m.cells).2 (max (dN H) (cd D))) (E++gg m.out.length (dH H) (aA p.vars D m.cells).1)
  (aO ctx 114 (.loop (Code.at (bk f114) [1,0,1,0,0])) ⟨49,aI,[(0,true,.ptr 0 0 0),(1,true,.d (.list (blocks.map dz))),(2,true,.d (.int .i64 ts.length)),(3,true,.fn 187 [.ptr 1 0 0,.ptr 2 0 0,.ptr 3 0 0]),(8,true,.vec 500 I 0 E.length),(12,true,.d (.list (blocks.map dz))),(13,true,.d (.int .i64 blocks.length)),(14,true,.d (.int .i64 O.length))],Du p m s q E v1 v2 v3 I⟩ k)
 |[],O,H,U,m,E,v1,v2,v3,I,T,V,J,hm,A2,A3,hex,Z,A0,A4,AE=>by
  have AF:H=[]:=by
   rcases J with J|J
   ·have A5:blocks.length=O.length:=by rw[T];simp
    have a2:ts.length=U.length+H.length:=by rw[V];simp
    exact vo (by omega)
   ·exact J.1
  subst AF;have AK:(aA p.vars [] m.cells)=([],m.cells):=by simp[aA]
  have y:m.dC [] (aA p.vars [] m.cells).1 (aA p.vars [] m.cells).2 (max (dN []) (cd []))=m:=by
   rw[AK];have:=My m [] hm;simpa [dN,cd]using this
  have A':E++gg m.out.length (dH []) (aA p.vars [] m.cells).1=E:=by rw[AK];simp[gg]
  rw[y,A'];exact El E k (Q m E) (λY v1 v2 v3 I=>A9 Y m E v1 v2 v3 I) v1 v2 v3 I (by rw[T];simp)
 |b::D,O,[],U,m,E,v1,v2,v3,I,T,V,J,hm,A2,A3,hex,Z,A0,A4,AE=>by
  have J:O.length=U.length:=by
   rcases J with J|J
   ·exact J
   ·cases J.2
  have A5:blocks.length=O.length+(D.length+1):=by rw[T];simp
  have a2:ts.length=U.length:=by rw[V];simp
  have A6:D=[]:=vo (by omega);subst A6;have AG:aA p.vars [b] m.cells=([(ag p.vars b m.cells).1],(ag p.vars b m.cells).2):=by simp[aA]
  rw[AG]at Z A0⊢;have Aa:m.out.length+(ag p.vars b m.cells).1.length<99999990:=by simpa [dH,dh]using Z
  have A1:=AC b (by rw[T];simp) m hm A2 A3 hex (by omega) A0 (A4 b (by rw[T];simp));have y:m.dC [] [(ag p.vars b m.cells).1] (ag p.vars b m.cells).2 (max (dN []) (cd [b]))=m.aS (ag p.vars b m.cells).1 (ag p.vars b m.cells).2 (bn b):=by
   rw[<-Rg];exact nG (by simp only[dN,cd];omega)
  have A':E++gg m.out.length (dH []) [(ag p.vars b m.cells).1]=E:=by simp[dH,gg]
  simp only
  rw[y,A'];refine aeU (i:=O.length) (b:=b) (by omega) (by simp[T]) (by omega) (by omega) (by omega) A8 A1 E k (Q _ E) (λv1 v2 v3 I=>?_) v1 v2 v3 I;exact El E k (Q _ E) (λY v1 v2 v3 I=>A9 Y _ E v1 v2 v3 I) v1 v2 v3 I (i:=O.length+1) (by omega)
 |b::D,O,t::H,U,m,E,v1,v2,v3,I,T,V,J,hm,A2,A3,hex,Z,A0,A4,AE=>by
  have J:O.length=U.length:=by
   rcases J with J|J
   ·exact J
   ·cases J.2
  have A5:blocks.length=O.length+(D.length+1):=by rw[T];simp
  have a2:ts.length=U.length+(H.length+1):=by rw[V];simp
  have AG:aA p.vars (b::D) m.cells=((ag p.vars b m.cells).1::(aA p.vars D (ag p.vars b m.cells).2).1,(aA p.vars D (ag p.vars b m.cells).2).2):=by simp[aA]
  rw[AG]at Z A0⊢;have AS:=X7 t.1 (dH H) (ag p.vars b m.cells).1 (aA p.vars D (ag p.vars b m.cells).2).1;have Ab:=AD b (by rw[T];simp) m.cells A2;have Ac:=zU D (ag p.vars b m.cells).2 (by omega) (λb AH=>AD b (by rw[T];simp[AH]));have AT:dH (t::H)=t.1::dH H:=rfl;rw[AT]at Z⊢;simp only at A0 Z;have AL:=AJ O.length t (by rw[V,J];simp) m hm (by omega);have AU:0<=(m.gz t).most:=by simp[Mk.gz,Mk.aC,Mk.put];omega
  have A1:=AC b (by rw[T];simp) (m.gz t) AU A2 ((A3.aC _ _).put _ _) hex (by rw[CH];show _+(ag p.vars b m.cells).1.length<_;omega) (by show (ag p.vars b m.cells).2<_;omega) (A4 b (by rw[T];simp));have A1:gx p ((m.gz t).aS (ag p.vars b m.cells).1 (ag p.vars b m.cells).2 (bn b)) 0 (.ret (.bg [])) (ai ctx 42 [.ptr 0 0 0,.d (.list (b.map cq))] (gw p ((m.aC t.1 t.2).put (ins 10 0 0 0 0) 0) 0)):=A1;have A7:(m.aC t.1 t.2).out.length=m.out.length+t.1.length:=by simp[Mk.aC]
  have AA:((m.gz t).aS (ag p.vars b m.cells).1 (ag p.vars b m.cells).2 (bn b)).out.length=m.out.length+t.1.length+1+(ag p.vars b m.cells).1.length:=by
   show ((m.gz t).out++cU _ _).length=_;rw[aa9,nU,CH]
  have AM:((m.aC t.1 t.2).out.length:Int)=((m.out.length+t.1.length:Nat):Int):=by rw[A7]
  by_cases A6:D=[]
  ·subst A6;have AF:H=[]:=vo (by simp at A5;omega);subst AF;have AV:aA p.vars [] (ag p.vars b m.cells).2=([],(ag p.vars b m.cells).2):=by simp[aA]
   rw[AV];have y:m.dC [t] [(ag p.vars b m.cells).1] (ag p.vars b m.cells).2 (max (dN [t]) (cd [b]))=((m.gz t).aS (ag p.vars b m.cells).1 (ag p.vars b m.cells).2 (bn b)).lead (m.aC t.1 t.2).out.length:=by
    rw[AM,Re m t [] _ _ _ hm];exact wK (by simp only[dN,cd];omega)
   have A':E++gg m.out.length (t.1::dH []) [(ag p.vars b m.cells).1]=E:=by simp[dH,gg]
   simp only
   rw[y,A'];refine aeT (i:=O.length) (b:=b) (by omega) (by simp[T]) (by omega) (by omega) (by simp at A5;omega) A8 AL (by rw[A7];omega) A1 (by rw[A7,AA];omega) E (by omega) k (Q _ E) (λv1 v2 v3 I=>?_) v1 v2 v3 I;exact El E k (Q _ E) (λY v1 v2 v3 I=>A9 Y _ E v1 v2 v3 I) v1 v2 v3 I (i:=O.length+1) (by simp at A5;omega)
  ·have Ad:0<D.length:=by
    cases D with
    |nil=>exact absurd rfl A6
    |cons _ _=>simp
   have AI:(aA p.vars D (ag p.vars b m.cells).2).1≠[]:=λh=>A6 (Mz.1 h);rw[aa4 AI]at AS;refine aeS (i:=O.length) (b:=b) (by omega) (by simp[T]) (by omega) (by omega) (by omega) A8 AL (by rw[A7];omega) A1 (by rw[A7,AA];omega) E (by omega) k (Q _ _) (λv1 v2 v3 I=>?_) v1 v2 v3 I;have y:=Rf m t H (ag p.vars b m.cells).1 (aA p.vars D (ag p.vars b m.cells).2).1 (ag p.vars b m.cells).2 (aA p.vars D (ag p.vars b m.cells).2).2 (bn b) (max (dN H) (cd D)) hm AI;have A':gg m.out.length (t.1::dH H) ((ag p.vars b m.cells).1::(aA p.vars D (ag p.vars b m.cells).2).1)=((m.out.length+t.1.length+1+(ag p.vars b m.cells).1.length:Nat):Int)::gg (m.out.length+t.1.length+2+(ag p.vars b m.cells).1.length) (dH H) (aA p.vars D (ag p.vars b m.cells).2).1:=by
    simp only[gg,aa4 AI]
   have AN:((((m.gz t).aS (ag p.vars b m.cells).1 (ag p.vars b m.cells).2 (bn b)).put (ins 9 0 0 0 0) 0).lead (m.out.length+t.1.length:Nat)).out.length=m.out.length+t.1.length+2+(ag p.vars b m.cells).1.length:=by
    rw[Ei];show (((m.gz t).aS _ _ _).out++_).length=_;rw[aa9,AA];simp;omega
   have AB:((((m.gz t).aS (ag p.vars b m.cells).1 (ag p.vars b m.cells).2 (bn b)).put (ins 9 0 0 0 0) 0).lead (m.out.length+t.1.length:Nat)).cells=(ag p.vars b m.cells).2:=rfl;have AO:((((m.gz t).aS (ag p.vars b m.cells).1 (ag p.vars b m.cells).2 (bn b)).put (ins 9 0 0 0 0) 0).lead (m.out.length+t.1.length:Nat)).ex.length=m.ex.length:=by
    show (ik m.ex _).length=_;simp
   have AW:0<=((((m.gz t).aS (ag p.vars b m.cells).1 (ag p.vars b m.cells).2 (bn b)).put (ins 9 0 0 0 0) 0).lead (m.out.length+t.1.length:Nat)).most:=by
    simp[Mk.lead,Mk.put,Mk.aS];omega
   have AX:m.dC (t::H) ((ag p.vars b m.cells).1::(aA p.vars D (ag p.vars b m.cells).2).1) (aA p.vars D (ag p.vars b m.cells).2).2 (max (dN (t::H)) (cd (b::D)))=((((m.gz t).aS (ag p.vars b m.cells).1 (ag p.vars b m.cells).2 (bn b)).put (ins 9 0 0 0 0) 0).lead (m.out.length+t.1.length:Nat)).dC H (aA p.vars D (ag p.vars b m.cells).2).1 (aA p.vars D (ag p.vars b m.cells).2).2 (max (dN H) (cd D)):=by
    rw[y];exact wK (by simp only[dN,cd];omega)
   have ih:=MD A8 AQ AR AJ AC AD k Q A9 D (O++[b]) H (U++[t]) ((((m.gz t).aS (ag p.vars b m.cells).1 (ag p.vars b m.cells).2 (bn b)).put (ins 9 0 0 0 0) 0).lead (m.out.length+t.1.length:Nat)) (E++[((m.out.length+t.1.length+1+(ag p.vars b m.cells).1.length:Nat):Int)]) v1 v2 v3 I (by simp[T]) (by simp[V]) (.inl (by simp[J])) AW (by rw[AB];omega) ((((((A3.aC _ _).put _ _).aS _ _ _).put _ _).lead _)) (λh=>by
    intro AY;have:=AO;rw[AY]at this;have AZ:=hex h;cases AP:m.ex with
    |nil=>exact AZ AP
    |cons _ _=>rw[AP]at this;simp at this) (by rw[AN,AB];omega) (by rw[AB];omega) (λb AH=>by rw[AO];exact A4 b AH) (by simp at AE⊢;omega)
   rw[AN,AB]at ih;simp only
   rw[AX,A',AM,AA];have A_:E++((m.out.length+t.1.length+1+(ag p.vars b m.cells).1.length:Nat):Int)::gg (m.out.length+t.1.length+2+(ag p.vars b m.cells).1.length) (dH H) (aA p.vars D (ag p.vars b m.cells).2).1=E++[((m.out.length+t.1.length+1+(ag p.vars b m.cells).1.length:Nat):Int)]++gg (m.out.length+t.1.length+2+(ag p.vars b m.cells).1.length) (dH H) (aA p.vars D (ag p.vars b m.cells).2).1:=by simp
   rw[A_];simpa using ih
end
theorem Gt:∀(n:Nat)(ts bs:List (List au)),∀i∈gg n ts bs,∃k:Nat,i=k/\k<n+(kC 0 n ts bs).length
 |_,_,[],i,h=>by simp[gg]at h
 |n,[],b::r,i,h=>by
  simp only[gg,kC]at h⊢;by_cases I:r=[]
  ·rw[abf I]at h;simp at h
  ·rw[aa4 I]at h⊢;rcases abd.1 h with rfl|h
   ·exact⟨_,rfl,by simp⟩
   ·obtain⟨k,e,J⟩:=Gt (n+b.length+1) [] r i h;exact⟨k,e,by simp;omega⟩
 |n,t::ts,b::r,i,h=>by
  simp only[gg,kC]at h⊢;by_cases I:r=[]
  ·rw[abf I]at h;simp at h
  ·rw[aa4 I]at h⊢;rcases abd.1 h with rfl|h
   ·exact⟨_,rfl,by simp;omega⟩
   ·obtain⟨k,e,J⟩:=Gt (n+t.length+2+b.length) ts r i h;exact⟨k,e,by simp;omega⟩
theorem pM{m:Mk}{ts:List (List au×Int)}{bs:List (List au)}{c t:Int}(Z:∀x∈dH ts,Flat x):(m.dC ts bs c t).cI (gg m.out.length (dH ts) bs)=m.aS (dh (dH ts) bs) c t:=by
 unfold Mk.cI Mk.dC Mk.aS;simp only[Mk.mk.injEq,anU,and_true];refine⟨?_,by rw[Gk (by decide) _ _ _ Z],by rw[Gk (by decide) _ _ _ Z]⟩;have:=aeG (pre:=m.out) rfl (ts:=dH ts) (bs:=bs) Z;rw[<-this];congr 1;simp[yw]
theorem CI:∀(n:Nat)(ts bs:List (List au)),(gg n ts bs).length<=bs.length
 |_,_,[]=>by simp[gg]
 |n,[],b::r=>by
  simp only[gg];split
  ·simp
  ·have:=CI (n+b.length+1) [] r;simp;omega
 |n,t::ts,b::r=>by
  simp only[gg];split
  ·simp
  ·have:=CI (n+t.length+2+b.length) ts r;simp;omega
def MkJ(p:Pg)(m:Mk)(s:Sm)(r:bZ):Prop:=∃v1 v2 v3,r=some (.ret (.bg []),[(0,ij p m 0 3 4 5 v1 v2 v3),(0,.box [.ptr 0 0 0]),(0,bu s),(v1,.vec 5 (m.out.map dy)),(v2,.vv (m.ex.map gv) none),(v3,.vec 1 (m.lv.map dP))])
def MkK(p:Pg)(m:Mk)(s:Sm)(q:Int)(r:bZ):Prop:=∃v1 v2 v3,r=some (.ret (.bg []),[(0,ij p m 0 4 5 6 v1 v2 v3),(0,.box [.ptr 0 0 0]),(0,bu s),(0,.box [.d (.int .i64 q)]),(v1,.vec 5 (m.out.map dy)),(v2,.vv (m.ex.map gv) none),(v3,.vec 1 (m.lv.map dP))])
section
variable {p:Pg} {lp:Bool}
theorem UC{s:Sm}{blocks:List (List Sm)}{ts:List (List au×Int)}(AE:blocks.length<99999980)(y:ts.length<=blocks.length)(A':blocks.length<=ts.length+1)(D:∀x∈dH ts,Flat x)
 (A0:∀(i:Nat)(t:List au×Int),ts[i]?=some t->∀m:Mk,0<=m.most->m.out.length+t.1.length<99999990->IQ p (m.aC t.1 t.2) 1 s (.ret (.bg [])) (ai ctx 115 [.d (.int .i64 i),.ptr 0 0 0,.ptr 1 0 0] [.box [.ptr 2 0 0],bu s,ij p m 0 3 4 5 0 0 0,.vec 5 (m.out.map dy),.vv (m.ex.map gv) none,.vec 1 (m.lv.map dP)]))
 (A1:∀b∈blocks,vy p lp b) (A2:∀b∈blocks,∀c,0<=c->c<=(ag p.vars b c).2) (m:Mk) (hm:0<=m.most) (A3:0<=m.cells) (A4:iZ m) (hex:lp=true->m.ex≠[])
 (A5:m.out.length+(dh (dH ts) (aA p.vars blocks m.cells).1).length<99999990) (A6:(aA p.vars blocks m.cells).2<99999990) (A7:∀b∈blocks,m.ex.length+ja b<99999990):
 MkJ p (m.aS (dh (dH ts) (aA p.vars blocks m.cells).1) (aA p.vars blocks m.cells).2 (max (dN ts) (cd blocks))) s
  (ai ctx 114 [.ptr 0 0 0,.d (.list (blocks.map dz)),.d (.int .i64 ts.length),.fn 115 [.ptr 1 0 0,.ptr 2 0 0]] [ij p m 0 3 4 5 0 0 0,.box [.ptr 0 0 0],bu s,.vec 5 (m.out.map dy),.vv (m.ex.map gv) none,.vec 1 (m.lv.map dP)]):=by
 have O:=λk Q A8 v1 v2 v3 T=>MA (by omega) y A' A0 A1 A2 k Q A8 blocks [] ts [] m [] v1 v2 v3 T rfl rfl (.inl rfl) hm A3 A4 hex A5 A6 A7 (by simp;omega);have A9:(gg m.out.length (dH ts) (aA p.vars blocks m.cells).1).length<100000000:=by
  have:=CI m.out.length (dH ts) (aA p.vars blocks m.cells).1;rw[wJ]at this;omega
 have AA:(m.dC ts (aA p.vars blocks m.cells).1 (aA p.vars blocks m.cells).2 (max (dN ts) (cd blocks))).out.length<100000000:=by
  simp only[Mk.dC,aa9,yw];omega
 have AB:Pl (m.dC ts (aA p.vars blocks m.cells).1 (aA p.vars blocks m.cells).2 (max (dN ts) (cd blocks))).out.length (gg m.out.length (dH ts) (aA p.vars blocks m.cells).1):=by
  intro i hi;obtain⟨k,e,J⟩:=Gt _ _ _ i hi;exact⟨k,e,by simpa [Mk.dC]using J⟩
 have H:=wG p (m.dC ts (aA p.vars blocks m.cells).1 (aA p.vars blocks m.cells).2 (max (dN ts) (cd blocks))) 0 _ A9 AA AB;have U:(m.dC ts (aA p.vars blocks m.cells).1 (aA p.vars blocks m.cells).2 (max (dN ts) (cd blocks))).ex=(m.aS (dh (dH ts) (aA p.vars blocks m.cells).1) (aA p.vars blocks m.cells).2 (max (dN ts) (cd blocks))).ex:=by rw[<-pM D];rfl
 have V:(m.dC ts (aA p.vars blocks m.cells).1 (aA p.vars blocks m.cells).2 (max (dN ts) (cd blocks))).lv=(m.aS (dh (dH ts) (aA p.vars blocks m.cells).1) (aA p.vars blocks m.cells).2 (max (dN ts) (cd blocks))).lv:=by rw[<-pM D];rfl
 rw[pM D]at H;generalize m.aS (dh (dH ts) (aA p.vars blocks m.cells).1) (aA p.vars blocks m.cells).2 (max (dN ts) (cd blocks))=M at*;generalize m.dC ts (aA p.vars blocks m.cells).1 (aA p.vars blocks m.cells).2 (max (dN ts) (cd blocks))=N at*;generalize gg m.out.length (dH ts) (aA p.vars blocks m.cells).1=E at*;rw[Xi (by simp)];simp[U,V]at H;simp[f114]at O⊢;refine O _ (λX F r=>X=N->F=E->MkJ p M s r) (λY X F v1 v2 v3 T AC AD=>?_) _ _ _ _ rfl rfl;subst AC AD;simp[f114,H,U,V];exact⟨_,_,_,rfl⟩
theorem UD{s:Sm}{q:Int}{blocks:List (List Sm)}{ts:List (List au×Int)}(AE:blocks.length<99999980)(y:ts.length<=blocks.length)(A':blocks.length<=ts.length+1)(D:∀x∈dH ts,Flat x)
 (A0:∀(i:Nat)(t:List au×Int),ts[i]?=some t->∀m:Mk,0<=m.most->m.out.length+t.1.length<99999990->Rh p (m.aC t.1 t.2) 1 s q (.ret (.bg [])) (ai ctx 187 [.d (.int .i64 i),.ptr 0 0 0,.ptr 1 0 0,.ptr 2 0 0] [.box [.ptr 3 0 0],bu s,.box [.d (.int .i64 q)],ij p m 0 4 5 6 0 0 0,.vec 5 (m.out.map dy),.vv (m.ex.map gv) none,.vec 1 (m.lv.map dP)]))
 (A1:∀b∈blocks,vy p lp b) (A2:∀b∈blocks,∀c,0<=c->c<=(ag p.vars b c).2) (m:Mk) (hm:0<=m.most) (A3:0<=m.cells) (A4:iZ m) (hex:lp=true->m.ex≠[])
 (A5:m.out.length+(dh (dH ts) (aA p.vars blocks m.cells).1).length<99999990) (A6:(aA p.vars blocks m.cells).2<99999990) (A7:∀b∈blocks,m.ex.length+ja b<99999990):
 MkK p (m.aS (dh (dH ts) (aA p.vars blocks m.cells).1) (aA p.vars blocks m.cells).2 (max (dN ts) (cd blocks))) s q
  (ai ctx 114 [.ptr 0 0 0,.d (.list (blocks.map dz)),.d (.int .i64 ts.length),.fn 187 [.ptr 1 0 0,.ptr 2 0 0,.ptr 3 0 0]] [ij p m 0 4 5 6 0 0 0,.box [.ptr 0 0 0],bu s,.box [.d (.int .i64 q)],.vec 5 (m.out.map dy),.vv (m.ex.map gv) none,.vec 1 (m.lv.map dP)]):=by
 have O:=λk Q A8 v1 v2 v3 T=>MD (by omega) y A' A0 A1 A2 k Q A8 blocks [] ts [] m [] v1 v2 v3 T rfl rfl (.inl rfl) hm A3 A4 hex A5 A6 A7 (by simp;omega);have A9:(gg m.out.length (dH ts) (aA p.vars blocks m.cells).1).length<100000000:=by
  have:=CI m.out.length (dH ts) (aA p.vars blocks m.cells).1;rw[wJ]at this;omega
 have AA:(m.dC ts (aA p.vars blocks m.cells).1 (aA p.vars blocks m.cells).2 (max (dN ts) (cd blocks))).out.length<100000000:=by
  simp only[Mk.dC,aa9,yw];omega
 have AB:Pl (m.dC ts (aA p.vars blocks m.cells).1 (aA p.vars blocks m.cells).2 (max (dN ts) (cd blocks))).out.length (gg m.out.length (dH ts) (aA p.vars blocks m.cells).1):=by
  intro i hi;obtain⟨k,e,J⟩:=Gt _ _ _ i hi;exact⟨k,e,by simpa [Mk.dC]using J⟩
 have H:=wG p (m.dC ts (aA p.vars blocks m.cells).1 (aA p.vars blocks m.cells).2 (max (dN ts) (cd blocks))) 0 _ A9 AA AB;have U:(m.dC ts (aA p.vars blocks m.cells).1 (aA p.vars blocks m.cells).2 (max (dN ts) (cd blocks))).ex=(m.aS (dh (dH ts) (aA p.vars blocks m.cells).1) (aA p.vars blocks m.cells).2 (max (dN ts) (cd blocks))).ex:=by rw[<-pM D];rfl
 have V:(m.dC ts (aA p.vars blocks m.cells).1 (aA p.vars blocks m.cells).2 (max (dN ts) (cd blocks))).lv=(m.aS (dh (dH ts) (aA p.vars blocks m.cells).1) (aA p.vars blocks m.cells).2 (max (dN ts) (cd blocks))).lv:=by rw[<-pM D];rfl
 rw[pM D]at H;generalize m.aS (dh (dH ts) (aA p.vars blocks m.cells).1) (aA p.vars blocks m.cells).2 (max (dN ts) (cd blocks))=M at*;generalize m.dC ts (aA p.vars blocks m.cells).1 (aA p.vars blocks m.cells).2 (max (dN ts) (cd blocks))=N at*;generalize gg m.out.length (dH ts) (aA p.vars blocks m.cells).1=E at*;rw[Xi (by simp)];simp[U,V]at H;simp[f114]at O⊢;refine O _ (λX F r=>X=N->F=E->MkK p M s q r) (λY X F v1 v2 v3 T AC AD=>?_) _ _ _ _ rfl rfl;subst AC AD;simp[f114,H,U,V];exact⟨_,_,_,rfl⟩
end
def Mk.Gu(m:Mk)(t b:List au)(c u:Int):Mk:=
 ⟨m.out++(ins 11 0 0 0 0::t++(ins 10 (m.out.length+t.length+3+b.length) 0 0 0::cU (m.out.length+t.length+2) b++[ins 9 m.out.length 0 0 0])),c,max m.most u,ik m.ex (cO (-1) (m.out.length+t.length+2) b),m.lv++cO (-2) (m.out.length+t.length+2) b⟩
def Mk.Gv(m:Mk)(t b:List au)(c u:Int):Mk:=
 ⟨m.out++(cU m.out.length b++(ins 11 0 0 0 0::t++[ins 10 m.out.length 0 0 0])),c,max m.most u,ik m.ex (cO (-1) m.out.length b),m.lv++cO (-2) m.out.length b⟩
section
variable {p:Pg} (J:p.vars.length<=1000) (M:∀v∈p.vars,dM v=true)
include J M
theorem ajO{to val:Ex}{b:List Sm}{line:Int}(O:bz val=true)(T:(aL p.vars val).e=0)(U:vy p true b)(m:Mk)(hm:0<=m.most)(V:0<=m.cells)(Y:iZ m)(hex:m.ex≠[])
 (A0:m.out.length+(ar p.vars val).1.length+(ag p.vars b m.cells).1.length+3<99999990) (A1:(ag p.vars b m.cells).2<99999990) (A2:m.ex.length+ja b<99999990):
 IQ p (m.Gu (ar p.vars val).1 (ag p.vars b m.cells).1 (ag p.vars b m.cells).2 (max (aR 0 val) (bn b))) 0 (.mk 5 [] to val [] [] [] [b] line) (.ret (.bg [])) (ai ctx 190 [.ptr 0 0 0,.ptr 1 0 0] [.box [.ptr 2 0 0],bu (.mk 5 [] to val [] [] [] [b] line),ij p m 0 3 4 5 0 0 0,.vec 5 (m.out.map dy),.vv (m.ex.map gv) none,.vec 1 (m.lv.map dP)]):=by
 have g0:=Gl p m 0;obtain⟨A3,a2,a3,g1⟩:=nE p m 0 (by omega) (by decide);have E:(m.put (ins 11 0 0 0 0) 0).out.length=m.out.length+1:=by simp[Mk.put]
 obtain⟨A4,A5,A6,g2⟩:=mz J M val O T (m.put (ins 11 0 0 0 0) 0) 0 (by omega) (by omega) (by simp[Mk.put];omega) (by rw[E];omega);have D:((m.put (ins 11 0 0 0 0) 0).aC (ar p.vars val).1 (aR 0 val)).out.length=m.out.length+1+(ar p.vars val).1.length:=by
  show ((m.put (ins 11 0 0 0 0) 0).out++_).length=_;rw[aa9,E]
 obtain⟨A7,A8,A9,g3⟩:=zR p ((m.put (ins 11 0 0 0 0) 0).aC (ar p.vars val).1 (aR 0 val)) 1 0 (by rw[D];omega) (by decide);rw[show (1:Int)+ -1=0 by omega]at g3;have H:(((m.put (ins 11 0 0 0 0) 0).aC (ar p.vars val).1 (aR 0 val)).put (ins 10 0 0 0 0) 0).out.length=m.out.length+(ar p.vars val).1.length+2:=by
  show (((m.put (ins 11 0 0 0 0) 0).aC (ar p.vars val).1 (aR 0 val)).out++_).length=_;rw[aa9,D];simp;omega
 obtain⟨d1,d2,d3,g4⟩:=U (((m.put (ins 11 0 0 0 0) 0).aC (ar p.vars val).1 (aR 0 val)).put (ins 10 0 0 0 0) 0) (by simp[Mk.put,Mk.aC];omega) V (((Y.put _ _).aC _ _).put _ _) (λ_=>hex) (by rw[H];show _+(ag p.vars b m.cells).1.length<_;omega) (by show (ag p.vars b m.cells).2<_;omega) (by show m.ex.length+_<_;omega);have y:((((m.put (ins 11 0 0 0 0) 0).aC (ar p.vars val).1 (aR 0 val)).put (ins 10 0 0 0 0) 0).aS (ag p.vars b m.cells).1 (ag p.vars b m.cells).2 (bn b)).out.length=m.out.length+(ar p.vars val).1.length+2+(ag p.vars b m.cells).1.length:=by
  show ((((m.put (ins 11 0 0 0 0) 0).aC (ar p.vars val).1 (aR 0 val)).put (ins 10 0 0 0 0) 0).out++cU _ _).length=_;rw[aa9,H,nU]
 obtain⟨AD,AE,A',g5⟩:=Gm p ((((m.put (ins 11 0 0 0 0) 0).aC (ar p.vars val).1 (aR 0 val)).put (ins 10 0 0 0 0) 0).aS (ag p.vars b m.cells).1 (ag p.vars b m.cells).2 (bn b)) 0 m.out.length (by rw[y];omega) (by decide);have Z:(((((m.put (ins 11 0 0 0 0) 0).aC (ar p.vars val).1 (aR 0 val)).put (ins 10 0 0 0 0) 0).aS (ag p.vars b m.cells).1 (ag p.vars b m.cells).2 (bn b)).put (ins 9 m.out.length 0 0 0) 0).out.length=m.out.length+(ar p.vars val).1.length+3+(ag p.vars b m.cells).1.length:=by
  show (((((m.put (ins 11 0 0 0 0) 0).aC (ar p.vars val).1 (aR 0 val)).put (ins 10 0 0 0 0) 0).aS (ag p.vars b m.cells).1 (ag p.vars b m.cells).2 (bn b)).out++_).length=_;rw[aa9,y];simp;omega
 have g6:=sP p (((((m.put (ins 11 0 0 0 0) 0).aC (ar p.vars val).1 (aR 0 val)).put (ins 10 0 0 0 0) 0).aS (ag p.vars b m.cells).1 (ag p.vars b m.cells).2 (bn b)).put (ins 9 m.out.length 0 0 0) 0) 0 (m.out.length+1+(ar p.vars val).1.length) (by rw[Z];omega) (by rw[Z];omega);have I:(((((m.put (ins 11 0 0 0 0) 0).aC (ar p.vars val).1 (aR 0 val)).put (ins 10 0 0 0 0) 0).aS (ag p.vars b m.cells).1 (ag p.vars b m.cells).2 (bn b)).put (ins 9 m.out.length 0 0 0) 0).lead (m.out.length+1+(ar p.vars val).1.length:Nat)=m.Gu (ar p.vars val).1 (ag p.vars b m.cells).1 (ag p.vars b m.cells).2 (max (aR 0 val) (bn b)):=by
  unfold Mk.lead;rw[Z];unfold Mk.Gu Mk.aS;rw[H];simp only[Mk.put,Mk.aC,Mk.mk.injEq,anU,and_true];refine⟨?_,by have:=mH 0 val;omega⟩;have:=zT m.out (ins 11 0 0 0 0::(ar p.vars val).1) (cU (m.out.length+(ar p.vars val).1.length+2) (ag p.vars b m.cells).1++[ins 9 m.out.length 0 0 0]) (ins 10 0 0 0 0) ((m.out.length+(ar p.vars val).1.length+3+(ag p.vars b m.cells).1.length:Nat):Int) ((m.out.length+1+(ar p.vars val).1.length:Nat):Int) (by simp;omega);have A':m.out++[ins 11 0 0 0 0]++(ar p.vars val).1++[ins 10 0 0 0 0]++cU (m.out.length+(ar p.vars val).1.length+2) (ag p.vars b m.cells).1++[ins 9 m.out.length 0 0 0]=m.out++(ins 11 0 0 0 0::(ar p.vars val).1)++ins 10 0 0 0 0::(cU (m.out.length+(ar p.vars val).1.length+2) (ag p.vars b m.cells).1++[ins 9 m.out.length 0 0 0]):=by simp
  rw[A',this];simp[ins]
 rw[D]at g3;rw[I]at g6;generalize m.Gu (ar p.vars val).1 (ag p.vars b m.cells).1 (ag p.vars b m.cells).2 (max (aR 0 val) (bn b))=AF at*;generalize ((((m.put (ins 11 0 0 0 0) 0).aC (ar p.vars val).1 (aR 0 val)).put (ins 10 0 0 0 0) 0).aS (ag p.vars b m.cells).1 (ag p.vars b m.cells).2 (bn b)).put (ins 9 m.out.length 0 0 0) 0=AG at*;have g4:ai ctx 42 [.ptr 0 0 0,.d (.list (b.map cq))] (gw p (((m.put (ins 11 0 0 0 0) 0).aC (ar p.vars val).1 (aR 0 val)).put (ins 10 0 0 0 0) 0) 0)=some (.ret (.bg []),Rc p ((((m.put (ins 11 0 0 0 0) 0).aC (ar p.vars val).1 (aR 0 val)).put (ins 10 0 0 0 0) 0).aS (ag p.vars b m.cells).1 (ag p.vars b m.cells).2 (bn b)) 0 d1 d2 d3):=g4;generalize (((m.put (ins 11 0 0 0 0) 0).aC (ar p.vars val).1 (aR 0 val)).put (ins 10 0 0 0 0) 0).aS (ag p.vars b m.cells).1 (ag p.vars b m.cells).2 (bn b)=AA at*;generalize ((m.put (ins 11 0 0 0 0) 0).aC (ar p.vars val).1 (aR 0 val)).put (ins 10 0 0 0 0) 0=AB at*;generalize (m.put (ins 11 0 0 0 0) 0).aC (ar p.vars val).1 (aR 0 val)=M2 at*;generalize m.put (ins 11 0 0 0 0) 0=AC at*;rw[Xm (by simp)];simp at g0 g1 g2 g3 g4 g5 g6;simp[f190,aw,dz,g0,g1,g2,g3,g4,g5,g6];exact⟨_,_,_,rfl⟩
theorem ajP{to val:Ex}{b:List Sm}{line:Int}(O:bz val=true)(T:(aL p.vars val).e=0)(U:vy p true b)(m:Mk)(hm:0<=m.most)(V:0<=m.cells)(Y:iZ m)(hex:m.ex≠[])
 (A0:m.out.length+(ar p.vars val).1.length+(ag p.vars b m.cells).1.length+2<99999990) (A1:(ag p.vars b m.cells).2<99999990) (A2:m.ex.length+ja b<99999990):
 IQ p (m.Gv (ar p.vars val).1 (ag p.vars b m.cells).1 (ag p.vars b m.cells).2 (max (aR 0 val) (bn b))) 0 (.mk 6 [] to val [] [] [] [b] line) (.ret (.bg [])) (ai ctx 190 [.ptr 0 0 0,.ptr 1 0 0] [.box [.ptr 2 0 0],bu (.mk 6 [] to val [] [] [] [b] line),ij p m 0 3 4 5 0 0 0,.vec 5 (m.out.map dy),.vv (m.ex.map gv) none,.vec 1 (m.lv.map dP)]):=by
 have g0:=Gl p m 0;obtain⟨d1,d2,d3,g1⟩:=U m hm V Y (λ_=>hex) (by omega) (by omega) (by omega);have E:(m.aS (ag p.vars b m.cells).1 (ag p.vars b m.cells).2 (bn b)).out.length=m.out.length+(ag p.vars b m.cells).1.length:=by
  show (m.out++cU _ _).length=_;rw[aa9,nU]
 obtain⟨A3,a2,a3,g2⟩:=nE p (m.aS (ag p.vars b m.cells).1 (ag p.vars b m.cells).2 (bn b)) 0 (by rw[E];omega) (by decide);have D:((m.aS (ag p.vars b m.cells).1 (ag p.vars b m.cells).2 (bn b)).put (ins 11 0 0 0 0) 0).out.length=m.out.length+(ag p.vars b m.cells).1.length+1:=by
  show ((m.aS (ag p.vars b m.cells).1 (ag p.vars b m.cells).2 (bn b)).out++_).length=_;rw[aa9,E];rfl
 obtain⟨A4,A5,A6,g3⟩:=mz J M val O T ((m.aS (ag p.vars b m.cells).1 (ag p.vars b m.cells).2 (bn b)).put (ins 11 0 0 0 0) 0) 0 (by omega) (by omega) (by simp[Mk.put,Mk.aS];omega) (by rw[D];omega);have H:(((m.aS (ag p.vars b m.cells).1 (ag p.vars b m.cells).2 (bn b)).put (ins 11 0 0 0 0) 0).aC (ar p.vars val).1 (aR 0 val)).out.length=m.out.length+(ag p.vars b m.cells).1.length+1+(ar p.vars val).1.length:=by
  show (((m.aS (ag p.vars b m.cells).1 (ag p.vars b m.cells).2 (bn b)).put (ins 11 0 0 0 0) 0).out++_).length=_;rw[aa9,D]
 obtain⟨A7,A8,A9,g4⟩:=zR p (((m.aS (ag p.vars b m.cells).1 (ag p.vars b m.cells).2 (bn b)).put (ins 11 0 0 0 0) 0).aC (ar p.vars val).1 (aR 0 val)) 1 m.out.length (by rw[H];omega) (by decide);rw[show (1:Int)+ -1=0 by omega]at g4;have I:(((m.aS (ag p.vars b m.cells).1 (ag p.vars b m.cells).2 (bn b)).put (ins 11 0 0 0 0) 0).aC (ar p.vars val).1 (aR 0 val)).put (ins 10 m.out.length 0 0 0) 0=m.Gv (ar p.vars val).1 (ag p.vars b m.cells).1 (ag p.vars b m.cells).2 (max (aR 0 val) (bn b)):=by
  unfold Mk.Gv Mk.aS;simp only[Mk.put,Mk.aC,Mk.mk.injEq,anU,and_true];exact⟨by simp,by have:=mH 0 val;omega⟩
 rw[I]at g4;generalize m.Gv (ar p.vars val).1 (ag p.vars b m.cells).1 (ag p.vars b m.cells).2 (max (aR 0 val) (bn b))=AA at*;clear I;generalize ((m.aS (ag p.vars b m.cells).1 (ag p.vars b m.cells).2 (bn b)).put (ins 11 0 0 0 0) 0).aC (ar p.vars val).1 (aR 0 val)=AB at*;generalize (m.aS (ag p.vars b m.cells).1 (ag p.vars b m.cells).2 (bn b)).put (ins 11 0 0 0 0) 0=M2 at*;generalize m.aS (ag p.vars b m.cells).1 (ag p.vars b m.cells).2 (bn b)=AC at*;rw[Xm (by simp)];simp at g0 g1 g2 g3 g4;simp[f190,aw,dz,g0,g1,g2,g3,g4];exact⟨_,_,_,rfl⟩
end
def Mk.Gw(m:Mk)(at_ cell:Int)(b:List au)(c u:Int):Mk:=
 ⟨m.out++(ins 11 0 0 0 0::ins 13 at_ cell 0 0::ins 10 (m.out.length+b.length+8) 0 0 0::cU (m.out.length+3) b++[ins 2 at_ 0 0 0,ins 2 (cell+1) 0 0 0,ins 8 0 8 0 0,ins 6 at_ 0 0 0,ins 9 m.out.length 0 0 0]),c,max m.most u,ik m.ex (cO (-1) (m.out.length+3) b),m.lv++cO (-2) (m.out.length+3) b⟩
def MkF(p:Pg)(m:Mk)(s:Sm)(at_ cell:Int)(r:bZ):Prop:=∃v1 v2 v3,r=some (.ret (.bg []),[(0,.box [.ptr 4 0 0]),(0,.box [.d (.int .i64 at_)]),(0,.box [.d (.int .i64 cell)]),(0,bu s),(0,ij p m 0 5 6 7 v1 v2 v3),(v1,.vec 5 (m.out.map dy)),(v2,.vv (m.ex.map gv) none),(v3,.vec 1 (m.lv.map dP))])
section
variable {p:Pg}
theorem ajQ{name:Tx}{to val:Ex}{conds:List Ex}{b:List Sm}{line at_ cell:Int}(A8:vy p true b)(m:Mk)(hm:0<=m.most)(A9:0<=m.cells)(AA:iZ m)(hex:m.ex≠[])(AB:bj (cell+1))
 (AM:m.out.length+(ag p.vars b m.cells).1.length+8<99999990) (AN:(ag p.vars b m.cells).2<99999990) (AO:m.ex.length+ja b<99999990):
 MkF p (m.Gw at_ cell (ag p.vars b m.cells).1 (ag p.vars b m.cells).2 (max 2 (bn b))) (.mk 4 name to val conds [] [] [b] line) at_ cell (ai ctx 189 [.ptr 0 0 0,.ptr 1 0 0,.ptr 2 0 0,.ptr 3 0 0] [.box [.ptr 4 0 0],.box [.d (.int .i64 at_)],.box [.d (.int .i64 cell)],bu (.mk 4 name to val conds [] [] [b] line),ij p m 0 5 6 7 0 0 0,.vec 5 (m.out.map dy),.vv (m.ex.map gv) none,.vec 1 (m.lv.map dP)]):=by
 have g0:=Gl p m 0;obtain⟨AP,a2,a3,g1⟩:=nE p m 0 (by omega) (by decide);have AC:(m.put (ins 11 0 0 0 0) 0).out.length=m.out.length+1:=by simp[Mk.put]
 generalize I:m.put (ins 11 0 0 0 0) 0=J at g1 AC;obtain⟨AQ,AR,AS,g2⟩:=j0 p J 0 1 (ins 13 at_ cell 0 0) (by omega) (by decide);have A4:(J.put (ins 13 at_ cell 0 0) (0+1)).out.length=m.out.length+2:=by simp[Mk.put];omega
 generalize M:J.put (ins 13 at_ cell 0 0) (0+1)=M2 at g2 A4;obtain⟨AT,AU,AV,g3⟩:=zR p M2 (0+1) 0 (by omega) (by decide);rw[show (0:Int)+1+ -1=0 by omega]at g3;have H:(M2.put (ins 10 0 0 0 0) 0).out.length=m.out.length+3:=by simp[Mk.put];omega
 generalize O:M2.put (ins 10 0 0 0 0) 0=D at g3 H;have f3:D.cells=m.cells/\D.ex=m.ex/\D.lv=m.lv/\0<=D.most/\D.most=max m.most 1/\D.out=m.out++[ins 11 0 0 0 0,ins 13 at_ cell 0 0,ins 10 0 0 0 0]:=by
  subst O M I;simp[Mk.put];omega
 have q3:iZ D:=by
  subst O M I;exact ((AA.put _ _).put _ _).put _ _
 obtain⟨d1,d2,d3,g4⟩:=A8 D f3.2.2.2.1 (by rw[f3.1];exact A9) q3 (λ_=>by rw[f3.2.1];exact hex) (by rw[f3.1];omega) (by rw[f3.1];omega) (by rw[f3.2.1];omega);rw[f3.1]at g4;have AD:(D.aS (ag p.vars b m.cells).1 (ag p.vars b m.cells).2 (bn b)).out.length=m.out.length+3+(ag p.vars b m.cells).1.length:=by
  show (D.out++cU _ _).length=_;rw[aa9,nU,H]
 generalize T:D.aS (ag p.vars b m.cells).1 (ag p.vars b m.cells).2 (bn b)=U at g4 AD;obtain⟨AW,A5,AX,g5⟩:=Gn p U 0 at_ 1 (by omega) (by decide);rw[aa4 (by decide)]at g5;have AE:(U.put (ins 2 at_ 0 0 0) (0+1)).out.length=m.out.length+4+(ag p.vars b m.cells).1.length:=by simp[Mk.put];omega
 generalize V:U.put (ins 2 at_ 0 0 0) (0+1)=Y at g5 AE;obtain⟨AY,AZ,A_,g6⟩:=Gn p Y (0+1) (cell+1) 1 (by omega) (by decide);rw[aa4 (by decide)]at g6;have AF:(Y.put (ins 2 (cell+1) 0 0 0) (0+1+1)).out.length=m.out.length+5+(ag p.vars b m.cells).1.length:=by simp[Mk.put];omega
 generalize Z:Y.put (ins 2 (cell+1) 0 0 0) (0+1+1)=y at g6 AF;obtain⟨i1,i2,i3,g7⟩:=j0 p y (0+1+1) (-1) (ins 8 0 8 0 0) (by omega) (by decide);have AG:(y.put (ins 8 0 8 0 0) (0+1+1+ -1)).out.length=m.out.length+6+(ag p.vars b m.cells).1.length:=by simp[Mk.put];omega
 generalize A':y.put (ins 8 0 8 0 0) (0+1+1+ -1)=A0 at g7 AG;obtain⟨Aa,Ab,Ac,g8⟩:=rE p A0 (0+1+1+ -1) at_ (by omega) (by decide);rw[show (0:Int)+1+1+ -1+ -1=0 by omega]at g8;have AH:(A0.put (ins 6 at_ 0 0 0) 0).out.length=m.out.length+7+(ag p.vars b m.cells).1.length:=by simp[Mk.put];omega
 generalize A1:A0.put (ins 6 at_ 0 0 0) 0=A2 at g8 AH;obtain⟨Ad,Ae,Af,g9⟩:=Gm p A2 0 m.out.length (by omega) (by decide);have A6:(A2.put (ins 9 m.out.length 0 0 0) 0).out.length=m.out.length+8+(ag p.vars b m.cells).1.length:=by simp[Mk.put];omega
 generalize A3:A2.put (ins 9 m.out.length 0 0 0) 0=E at g9 A6;have g10:=sP p E 0 (m.out.length+2) (by omega) (by omega);have A7:E.lead (m.out.length+2:Nat)=m.Gw at_ cell (ag p.vars b m.cells).1 (ag p.vars b m.cells).2 (max 2 (bn b)):=by
  have AI:E.out=(m.out++[ins 11 0 0 0 0,ins 13 at_ cell 0 0])++ins 10 0 0 0 0::(cU (m.out.length+3) (ag p.vars b m.cells).1++[ins 2 at_ 0 0 0,ins 2 (cell+1) 0 0 0,ins 8 0 8 0 0,ins 6 at_ 0 0 0,ins 9 m.out.length 0 0 0]):=by
   subst A3 A1 A' Z V T;simp[Mk.put,Mk.aS,H,f3]
  have AJ:E.ex=ik m.ex (cO (-1) (m.out.length+3) (ag p.vars b m.cells).1)/\E.lv=m.lv++cO (-2) (m.out.length+3) (ag p.vars b m.cells).1/\E.cells=(ag p.vars b m.cells).2/\E.most=max m.most (max 2 (bn b)):=by
   subst A3 A1 A' Z V T;simp[Mk.put,Mk.aS,H,f3];omega
  unfold Mk.lead Mk.Gw;rw[A6];simp only[AJ,Mk.mk.injEq,and_true];rw[AI];have:=sN (m.out++[ins 11 0 0 0 0,ins 13 at_ cell 0 0]) (ins 10 0 0 0 0) (cU (m.out.length+3) (ag p.vars b m.cells).1++[ins 2 at_ 0 0 0,ins 2 (cell+1) 0 0 0,ins 8 0 8 0 0,ins 6 at_ 0 0 0,ins 9 m.out.length 0 0 0]) ((m.out.length+8+(ag p.vars b m.cells).1.length:Nat):Int);have A5:((m.out++[ins 11 0 0 0 0,ins 13 at_ cell 0 0]).length:Int)=((m.out.length+2:Nat):Int):=by simp
  rw[A5]at this;rw[this];simp[ins];omega
 rw[A7]at g10;generalize m.Gw at_ cell (ag p.vars b m.cells).1 (ag p.vars b m.cells).2 (max 2 (bn b))=Ag at*;have AK:IntKind.i64.wrap (cell+1)=cell+1:=az AB;rw[A4]at g3;clear I M O T V Z A' A1 A3 A7 f3;have AL:List.range 8=[0,1,2,3,4,5,6,7]:=rfl;rw[ah0 (by simp)];simp[ins]at g0 g1 g2 g3 g4 g5 g6 g7 g8 g9 g10;simp[f189,aw,dz,AK,AL,g0,g1,g2,g3,g4,g5,g6,g7,g8,g9,g10];exact⟨_,_,_,rfl⟩
end
def Mk.eL(m:Mk):Mk:={m with ex:=m.ex++[[]]}
theorem iZ.eL{m:Mk}(h:iZ m):iZ m.eL:=
 ⟨h.1,λr H=>by
  rcases abo.1 H with H|H
  ·exact h.2 r H
  ·simp at H;subst H;simp⟩
def Mk.tE(m:Mk)(ex:List (List Int))(row:List Int):Mk:={m with out:=jX m.out row m.out.length,ex:=ex}
theorem MG{p:Pg}{s:Sm}{m M:Mk}{row:List Int}(O:M.ex=m.ex++[row])(D:IQ p M 0 s (.ret (.bg [])) (ai ctx 190 [.ptr 0 0 0,.ptr 1 0 0] [.box [.ptr 2 0 0],bu s,ij p m.eL 0 3 4 5 0 0 0,.vec 5 (m.out.map dy),.vv (m.eL.ex.map gv) none,.vec 1 (m.lv.map dP)]))
 (y:row.length<99999990) (A':M.out.length<99999990) (T:Pl M.out.length row) (A0:m.ex.length<99999990):
 MkJ p (M.tE m.ex row) s (ai ctx 188 [.ptr 0 0 0,.fn 190 [.ptr 1 0 0,.ptr 2 0 0]] [ij p m 0 3 4 5 0 0 0,.box [.ptr 0 0 0],bu s,.vec 5 (m.out.map dy),.vv (m.ex.map gv) none,.vec 1 (m.lv.map dP)]):=by
 obtain⟨v1,v2,v3,D⟩:=D;have E:=wG p {M with ex:=m.ex} 0 row (by omega) (by simpa using (by omega:M.out.length<100000000)) T;have e:({M with ex:=m.ex}:Mk).cI row=M.tE m.ex row:=rfl;rw[e]at E;have I:(M.tE m.ex row).ex=m.ex:=rfl;have J:(M.tE m.ex row).lv=M.lv:=rfl;generalize M.tE m.ex row=N at*;simp[O,Mk.eL]at D;simp[I,J]at E;have U:m.ex.length<=4611686018427387903:=by omega
 have V:(m.ex.length+1)*24<=140737488355328:=by omega
 have Y:IntKind.i64.wrap ((m.ex.length:Int)+1-1)=m.ex.length:=by rw[show (m.ex.length:Int)+1-1=m.ex.length by omega];exact az (by unfold bj;omega)
 have Z:IntKind.i64.wrap (m.ex.length:Int)=m.ex.length:=az (by unfold bj;omega);rw[Xl (by simp)];simp[f188,D,U,V,Y,Z,E];rw[<-I,<-J];exact⟨_,_,_,rfl⟩
def MkG(p:Pg)(m:Mk)(s:Sm)(at_ cell:Int)(r:bZ):Prop:=∃v1 v2 v3,r=some (.ret (.bg []),[(0,ij p m 0 5 6 7 v1 v2 v3),(0,.box [.ptr 0 0 0]),(0,.box [.d (.int .i64 at_)]),(0,.box [.d (.int .i64 cell)]),(0,bu s),(v1,.vec 5 (m.out.map dy)),(v2,.vv (m.ex.map gv) none),(v3,.vec 1 (m.lv.map dP))])
theorem aaA{p:Pg}{s:Sm}{at_ cell:Int}{m M:Mk}{row:List Int}(O:M.ex=m.ex++[row])(D:MkF p M s at_ cell (ai ctx 189 [.ptr 0 0 0,.ptr 1 0 0,.ptr 2 0 0,.ptr 3 0 0] [.box [.ptr 4 0 0],.box [.d (.int .i64 at_)],.box [.d (.int .i64 cell)],bu s,ij p m.eL 0 5 6 7 0 0 0,.vec 5 (m.out.map dy),.vv (m.eL.ex.map gv) none,.vec 1 (m.lv.map dP)]))
 (y:row.length<99999990) (A':M.out.length<99999990) (T:Pl M.out.length row) (A0:m.ex.length<99999990):
 MkG p (M.tE m.ex row) s at_ cell (ai ctx 188 [.ptr 0 0 0,.fn 189 [.ptr 1 0 0,.ptr 2 0 0,.ptr 3 0 0,.ptr 4 0 0]] [ij p m 0 5 6 7 0 0 0,.box [.ptr 0 0 0],.box [.d (.int .i64 at_)],.box [.d (.int .i64 cell)],bu s,.vec 5 (m.out.map dy),.vv (m.ex.map gv) none,.vec 1 (m.lv.map dP)]):=by
 obtain⟨v1,v2,v3,D⟩:=D;have E:=wG p {M with ex:=m.ex} 0 row (by omega) (by simpa using (by omega:M.out.length<100000000)) T;have e:({M with ex:=m.ex}:Mk).cI row=M.tE m.ex row:=rfl;rw[e]at E;have I:(M.tE m.ex row).ex=m.ex:=rfl;have J:(M.tE m.ex row).lv=M.lv:=rfl;generalize M.tE m.ex row=N at*;simp[O,Mk.eL]at D;simp[I,J]at E;have U:m.ex.length<=4611686018427387903:=by omega
 have V:(m.ex.length+1)*24<=140737488355328:=by omega
 have Y:IntKind.i64.wrap ((m.ex.length:Int)+1-1)=m.ex.length:=by rw[show (m.ex.length:Int)+1-1=m.ex.length by omega];exact az (by unfold bj;omega)
 have Z:IntKind.i64.wrap (m.ex.length:Int)=m.ex.length:=az (by unfold bj;omega);rw[Xl (by simp)];simp[f188,D,U,V,Y,Z,E];rw[<-I,<-J];exact⟨_,_,_,rfl⟩
theorem ajT(m:Mk)(t b:List au)(c u:Int):(m.eL.Gu t b c u).ex=m.ex++[cO (-1) (m.out.length+t.length+2) b]:=by
 show ik (m.ex++[[]]) _=_;rw[jI];rfl
theorem aeV{m:Mk}{t b:List au}{c u:Int}(E:Flat t):(m.eL.Gu t b c u).tE m.ex (cO (-1) (m.out.length+t.length+2) b)=m.aS (iY t b) c u:=by
 unfold Mk.tE Mk.Gu Mk.aS Mk.eL;simp only[Mk.mk.injEq,anU];have T:((m.out++(ins 11 0 0 0 0::t++(ins 10 (m.out.length+t.length+3+b.length) 0 0 0::cU (m.out.length+t.length+2) b++[ins 9 m.out.length 0 0 0]))).length:Int)=m.out.length+t.length+3+b.length:=by simp;omega
 rw[T];refine⟨Uy E rfl rfl,?_,?_⟩
 ·have:cO (-1) m.out.length (iY t b)=[]:=Mm _ _;rw[this,nF]
 ·rw[XQ (by decide) (by decide) E]
theorem ajU(m:Mk)(t b:List au)(c u:Int):(m.eL.Gv t b c u).ex=m.ex++[cO (-1) m.out.length b]:=by
 show ik (m.ex++[[]]) _=_;rw[jI];rfl
theorem aeW{m:Mk}{t b:List au}{c u:Int}(E:Flat t):(m.eL.Gv t b c u).tE m.ex (cO (-1) m.out.length b)=m.aS (nC t b) c u:=by
 unfold Mk.tE Mk.Gv Mk.aS Mk.eL;simp only[Mk.mk.injEq,anU];have T:((m.out++(cU m.out.length b++(ins 11 0 0 0 0::t++[ins 10 m.out.length 0 0 0]))).length:Int)=m.out.length+b.length+t.length+2:=by simp;omega
 rw[T];refine⟨aas E rfl rfl,?_,?_⟩
 ·have:cO (-1) m.out.length (nC t b)=[]:=Mm _ _;rw[this,nF]
 ·rw[aeE (by decide) (by decide) E]
theorem UE(t b:List au):(iY t b).length=t.length+3+b.length:=by simp[iY];omega
theorem aaB(t b:List au):(nC t b).length=t.length+2+b.length:=by simp[nC];omega
section
variable {p:Pg} (U:p.vars.length<=1000) (V:∀v∈p.vars,dM v=true)
include U V
theorem aaC{to val:Ex}{b:List Sm}{line:Int}(H:bz val=true)(I:(aL p.vars val).e=0)(Y:vy p true b)(m:Mk)(hm:0<=m.most)(Z:0<=m.cells)(y:iZ m)
 (A':m.out.length+(iY (ar p.vars val).1 (ag p.vars b m.cells).1).length<99999990) (A0:(ag p.vars b m.cells).2<99999990) (A1:m.ex.length+1+ja b<99999990):
 gx p (m.aS (iY (ar p.vars val).1 (ag p.vars b m.cells).1) (ag p.vars b m.cells).2 (max (aR 0 val) (bn b))) 0 (.ret (.bg [])) (ai ctx 119 [.ptr 0 0 0,.d (cq (.mk 5 [] to val [] [] [] [b] line))] (gw p m 0)):=by
 rw[UE]at A';have A2:m.eL.ex.length=m.ex.length+1:=by simp[Mk.eL]
 have J:=ajO U V (to:=to) (line:=line) H I Y m.eL hm Z y.eL (by simp[Mk.eL]) (by show m.out.length+_+(ag p.vars b m.cells).1.length+3<_;omega) A0 (by rw[A2];exact A1);rw[show m.eL.cells=m.cells from rfl]at J;have A3:=rG (-1) (ag p.vars b m.cells).1 (m.out.length+(ar p.vars val).1.length+2);have O:(m.eL.Gu (ar p.vars val).1 (ag p.vars b m.cells).1 (ag p.vars b m.cells).2 (max (aR 0 val) (bn b))).out.length=m.out.length+(ar p.vars val).1.length+3+(ag p.vars b m.cells).1.length:=by
  simp[Mk.Gu,Mk.eL];omega
 obtain⟨v1,v2,v3,D⟩:=MG (m:=m) (ajT m _ _ _ _) J (by omega) (by rw[O];omega) (λi hi=>by
  obtain⟨j,e,A4⟩:=B3 _ _ _ i hi;exact⟨j,e,by rw[O];omega⟩) (by omega)
 rw[aeV (m5 val H I)]at D;generalize m.aS (iY (ar p.vars val).1 (ag p.vars b m.cells).1) (ag p.vars b m.cells).2 (max (aR 0 val) (bn b))=M at*;rw[Xj (by simp)];simp at D;simp[f119,fj,D];exact⟨_,_,_,rfl⟩
theorem Ya{to val:Ex}{b:List Sm}{line:Int}(H:bz val=true)(I:(aL p.vars val).e=0)(Y:vy p true b)(m:Mk)(hm:0<=m.most)(Z:0<=m.cells)(y:iZ m)
 (A':m.out.length+(nC (ar p.vars val).1 (ag p.vars b m.cells).1).length<99999990) (A0:(ag p.vars b m.cells).2<99999990) (A1:m.ex.length+1+ja b<99999990):
 gx p (m.aS (nC (ar p.vars val).1 (ag p.vars b m.cells).1) (ag p.vars b m.cells).2 (max (aR 0 val) (bn b))) 0 (.ret (.bg [])) (ai ctx 119 [.ptr 0 0 0,.d (cq (.mk 6 [] to val [] [] [] [b] line))] (gw p m 0)):=by
 rw[aaB]at A';have A2:m.eL.ex.length=m.ex.length+1:=by simp[Mk.eL]
 have J:=ajP U V (to:=to) (line:=line) H I Y m.eL hm Z y.eL (by simp[Mk.eL]) (by show m.out.length+_+(ag p.vars b m.cells).1.length+2<_;omega) A0 (by rw[A2];exact A1);rw[show m.eL.cells=m.cells from rfl]at J;have A3:=rG (-1) (ag p.vars b m.cells).1 m.out.length;have O:(m.eL.Gv (ar p.vars val).1 (ag p.vars b m.cells).1 (ag p.vars b m.cells).2 (max (aR 0 val) (bn b))).out.length=m.out.length+(ar p.vars val).1.length+2+(ag p.vars b m.cells).1.length:=by
  simp[Mk.Gv,Mk.eL];omega
 obtain⟨v1,v2,v3,D⟩:=MG (m:=m) (ajU m _ _ _ _) J (by omega) (by rw[O];omega) (λi hi=>by
  obtain⟨j,e,A4⟩:=B3 _ _ _ i hi;exact⟨j,e,by rw[O];omega⟩) (by omega)
 rw[aeW (m5 val H I)]at D;generalize m.aS (nC (ar p.vars val).1 (ag p.vars b m.cells).1) (ag p.vars b m.cells).2 (max (aR 0 val) (bn b))=M at*;rw[Xj (by simp)];simp at D;simp[f119,fj,D];exact⟨_,_,_,rfl⟩
end
theorem ajV(m:Mk)(a cell:Int)(b:List au)(c u:Int):(m.eL.Gw a cell b c u).ex=m.ex++[cO (-1) (m.out.length+3) b]:=by
 show ik (m.ex++[[]]) _=_;rw[jI];rfl
theorem aeX{m:Mk}{a cell:Int}{b:List au}{c u:Int}:(m.eL.Gw a cell b c u).tE m.ex (cO (-1) (m.out.length+3) b)=m.aS (ml a cell b) c u:=by
 unfold Mk.tE Mk.Gw Mk.aS Mk.eL;simp only[Mk.mk.injEq,anU];have AO:((m.out++(ins 11 0 0 0 0::ins 13 a cell 0 0::ins 10 (m.out.length+b.length+8) 0 0 0::cU (m.out.length+3) b++[ins 2 a 0 0 0,ins 2 (cell+1) 0 0 0,ins 8 0 8 0 0,ins 6 a 0 0 0,ins 9 m.out.length 0 0 0])).length:Int)=m.out.length+b.length+8:=by simp;omega
 rw[AO];refine⟨aat rfl rfl,?_,?_⟩
 ·have:cO (-1) m.out.length (ml a cell b)=[]:=Mm _ _;rw[this,nF]
 ·rw[aeF (by decide) (by decide)]
theorem aaD(a c:Int)(b:List au):(ml a c b).length=b.length+8:=by simp[ml]
section
variable {p:Pg} (E:p.vars.length<=1000) (H:∀v∈p.vars,dM v=true)
include E H
theorem UF{name:Tx}{to val x y z:Ex}{b:List Sm}{line:Int}{v:Vr}(A5:bq p.vars name=some v)(A6:bz x=true)(ex:(aL p.vars x).e=0)(A7:bz y=true)(A8:(aL p.vars y).e=0)(A9:bz z=true)(AA:(aL p.vars z).e=0)(AP:vy p true b)(AQ:∀c,0<=c->c<=(ag p.vars b c).2)(m:Mk)(hm:0<=m.most)(A_:0<=m.cells)(AR:iZ m)
 (AB:m.out.length+((ar p.vars x).1++((ar p.vars y).1++(ar p.vars z).1)).length+3+(ml (cw p.vars name).1 m.cells (ag p.vars b (m.cells+2)).1).length<99999990) (AS:(ag p.vars b (m.cells+2)).2<99999990) (AT:m.ex.length+1+ja b<99999990):
 gx p (m.aS (jn (((ar p.vars x).1++((ar p.vars y).1++(ar p.vars z).1))++[ins 6 (m.cells+1) 0 0 0,ins 6 m.cells 0 0 0,ins 6 (cw p.vars name).1 0 0 0]) (ml (cw p.vars name).1 m.cells (ag p.vars b (m.cells+2)).1)) (ag p.vars b (m.cells+2)).2 (max (max (gn 0 [x,y,z]) 3) (bn b))) 0 (.ret (.bg [])) (ai ctx 118 [.ptr 0 0 0,.d (cq (.mk 4 name to val [x,y,z] [] [] [b] line))] (gw p m 0)):=by
 rw[aaD]at AB;simp only[aa9]at AB;have Aa:=AQ (m.cells+2) (by omega);have AC:=rF p E H name;rw[A5,jr A5]at AC;obtain⟨Ab,a2,a3,g1⟩:=XU p m 0 2 (az (by unfold bj;omega));have f1:({m with cells:=m.cells+2}:Mk).out=m.out:=rfl;generalize J:({m with cells:=m.cells+2}:Mk)=I at g1 f1;have AU:0<=I.most:=by subst J;exact hm
 obtain⟨Ac,Ad,Ae,g2⟩:=mz E H x A6 ex I 0 (by omega) (by omega) AU (by rw[f1];omega);have AD:(I.aC (ar p.vars x).1 (aR 0 x)).out.length=m.out.length+(ar p.vars x).1.length:=by simp[Mk.aC,f1]
 have AE:0<=(I.aC (ar p.vars x).1 (aR 0 x)).most:=by simp[Mk.aC];omega
 generalize T:I.aC (ar p.vars x).1 (aR 0 x)=M2 at g2 AD AE;have Af:=kS p.vars x;have Ag:=kS p.vars y;have Ah:=kS p.vars z;obtain⟨Ai,Aj,Ak,g3⟩:=mz E H y A7 A8 M2 (0+1) (by omega) (by omega) AE (by omega);have AF:(M2.aC (ar p.vars y).1 (aR (0+1) y)).out.length=m.out.length+(ar p.vars x).1.length+(ar p.vars y).1.length:=by simp[Mk.aC,AD]
 have AG:0<=(M2.aC (ar p.vars y).1 (aR (0+1) y)).most:=by simp[Mk.aC];omega
 generalize U:M2.aC (ar p.vars y).1 (aR (0+1) y)=V at g3 AF AG;obtain⟨d1,d2,d3,g4⟩:=mz E H z A9 AA V (0+1+1) (by omega) (by omega) AG (by omega);have AH:(V.aC (ar p.vars z).1 (aR (0+1+1) z)).out.length=m.out.length+(ar p.vars x).1.length+(ar p.vars y).1.length+(ar p.vars z).1.length:=by simp[Mk.aC,AF]
 generalize Y:V.aC (ar p.vars z).1 (aR (0+1+1) z)=Z at g4 AH;obtain⟨Al,An,Ao,g5⟩:=rE p Z (0+1+1+1) (m.cells+1) (by omega) (by decide);have AI:(Z.put (ins 6 (m.cells+1) 0 0 0) (0+1+1+1+ -1)).out.length=m.out.length+(ar p.vars x).1.length+(ar p.vars y).1.length+(ar p.vars z).1.length+1:=by simp[Mk.put,AH]
 generalize A':Z.put (ins 6 (m.cells+1) 0 0 0) (0+1+1+1+ -1)=A0 at g5 AI;obtain⟨Ap,Aq,Ar,g6⟩:=rE p A0 (0+1+1+1+ -1) m.cells (by omega) (by decide);have AJ:(A0.put (ins 6 m.cells 0 0 0) (0+1+1+1+ -1+ -1)).out.length=m.out.length+(ar p.vars x).1.length+(ar p.vars y).1.length+(ar p.vars z).1.length+2:=by simp[Mk.put,AI]
 generalize A1:A0.put (ins 6 m.cells 0 0 0) (0+1+1+1+ -1+ -1)=A2 at g6 AJ;obtain⟨i1,i2,i3,g7⟩:=rE p A2 (0+1+1+1+ -1+ -1) (cw p.vars name).1 (by omega) (by decide);have AK:(A2.put (ins 6 (cw p.vars name).1 0 0 0) (0+1+1+1+ -1+ -1+ -1)).out.length=m.out.length+(ar p.vars x).1.length+(ar p.vars y).1.length+(ar p.vars z).1.length+3:=by simp[Mk.put,AJ]
 generalize A3:A2.put (ins 6 (cw p.vars name).1 0 0 0) (0+1+1+1+ -1+ -1+ -1)=D at g7 AK;have f7:D.cells=m.cells+2/\D.ex=m.ex/\0<=D.most/\D=(({m with cells:=m.cells+2}:Mk).aC (((ar p.vars x).1++((ar p.vars y).1++(ar p.vars z).1))++[ins 6 (m.cells+1) 0 0 0,ins 6 m.cells 0 0 0,ins 6 (cw p.vars name).1 0 0 0]) (max (gn 0 [x,y,z]) 3)):=by
  have t1:=mH 0 x;have t2:=mH 1 y;have t3:=mH 2 z;subst A3 A1 A' Y U T J;refine⟨rfl,rfl,?_,?_⟩
  ·simp[Mk.put,Mk.aC];omega
  ·simp only[Mk.put,Mk.aC,Mk.mk.injEq,gn];simp;omega
 have AV:iZ D:=by
  have q1:iZ ({m with cells:=m.cells+2}:Mk):=AR;subst A3 A1 A' Y U T J;exact (((((q1.aC _ _).aC _ _).aC _ _).put _ _).put _ _).put _ _
 have AW:D.eL.ex.length=m.ex.length+1:=by simp[Mk.eL,f7.2.1]
 have g8:=ajQ (name:=name) (to:=to) (val:=val) (conds:=[x,y,z]) (line:=line) (at_:=(cw p.vars name).1) (cell:=m.cells) AP D.eL f7.2.2.1 (by show 0<=D.cells;rw[f7.1];omega) AV.eL (by simp[Mk.eL]) (by unfold bj;omega) (by show D.out.length+(ag p.vars b D.cells).1.length+8<_;rw[f7.1,AK];omega) (by show (ag p.vars b D.cells).2<_;rw[f7.1];exact AS) (by rw[AW];exact AT);rw[show D.eL.cells=m.cells+2 from f7.1]at g8;have As:=rG (-1) (ag p.vars b (m.cells+2)).1 (D.out.length+3);have AL:(D.eL.Gw (cw p.vars name).1 m.cells (ag p.vars b (m.cells+2)).1 (ag p.vars b (m.cells+2)).2 (max 2 (bn b))).out.length=D.out.length+8+(ag p.vars b (m.cells+2)).1.length:=by
  simp[Mk.Gw,Mk.eL];omega
 obtain⟨v1,v2,v3,O⟩:=aaA (m:=D) (ajV D _ _ _ _ _) g8 (by omega) (by rw[AL];omega) (λi hi=>by
  obtain⟨j,e,Au⟩:=B3 _ _ _ i hi;exact⟨j,e,by rw[AL];omega⟩) (by rw[f7.2.1];omega)
 rw[aeX]at O;have AM:D.aS (ml (cw p.vars name).1 m.cells (ag p.vars b (m.cells+2)).1) (ag p.vars b (m.cells+2)).2 (max 2 (bn b))=m.aS (jn (((ar p.vars x).1++((ar p.vars y).1++(ar p.vars z).1))++[ins 6 (m.cells+1) 0 0 0,ins 6 m.cells 0 0 0,ins 6 (cw p.vars name).1 0 0 0]) (ml (cw p.vars name).1 m.cells (ag p.vars b (m.cells+2)).1)) (ag p.vars b (m.cells+2)).2 (max (max (gn 0 [x,y,z]) 3) (bn b)):=by
  have AX:Flat (((ar p.vars x).1++((ar p.vars y).1++(ar p.vars z).1))++[ins 6 (m.cells+1) 0 0 0,ins 6 m.cells 0 0 0,ins 6 (cw p.vars name).1 0 0 0]):=
   (((m5 x A6 ex).app ((m5 y A7 A8).app (m5 z A9 AA)))).app (.cons (by simp[ins]) (.cons (by simp[ins]) (.one (by simp[ins]))))
  rw[<-CG m _ _ (m.cells+2) _ (max (gn 0 [x,y,z]) 3) _,f7.2.2.2];have e:({m with cells:=m.cells+2}:Mk).aC (((ar p.vars x).1++((ar p.vars y).1++(ar p.vars z).1))++[ins 6 (m.cells+1) 0 0 0,ins 6 m.cells 0 0 0,ins 6 (cw p.vars name).1 0 0 0]) (max (gn 0 [x,y,z]) 3)=m.aS (((ar p.vars x).1++((ar p.vars y).1++(ar p.vars z).1))++[ins 6 (m.cells+1) 0 0 0,ins 6 m.cells 0 0 0,ins 6 (cw p.vars name).1 0 0 0]) (m.cells+2) (max (gn 0 [x,y,z]) 3):=by
   rw[<-pL AX];rfl
  rw[e];exact nG (by simp[Mk.aS];omega)
 rw[AM]at O;generalize m.aS (jn (((ar p.vars x).1++((ar p.vars y).1++(ar p.vars z).1))++[ins 6 (m.cells+1) 0 0 0,ins 6 m.cells 0 0 0,ins 6 (cw p.vars name).1 0 0 0]) (ml (cw p.vars name).1 m.cells (ag p.vars b (m.cells+2)).1)) (ag p.vars b (m.cells+2)).2 (max (max (gn 0 [x,y,z]) 3) (bn b))=M at*;clear J T U Y A' A1 A3 AM f7 g8;have AY:IntKind.i64.wrap (m.cells+1)=m.cells+1:=az (by unfold bj;omega);have A4:IntKind.i64.wrap 1=1:=rfl;have AN:IntKind.i64.wrap 2=2:=rfl;have AZ:IntKind.i64.wrap 3=3:=rfl;rw[ahF (by simp)];simp at g1 g2 g3 g4 g5 g6 g7;simp[aJ]at O;simp[f118,fj,AC,bN,eV,g1,aw];rw[ah];simp[f118,aJ,g2,A4];rw[ah];simp[f118,aJ,g3,A4,AN];rw[ah];simp[f118,aJ,g4,A4,AN,AZ];rw[ah];simp[f118,g5,g6,g7,AY,O];exact⟨_,_,_,rfl⟩
end
theorem IT(c:Int):∀l:List Int,l.length%2=0->(eH c l).length=l.length
 |[],_=>by simp[eH]
 |[_],h=>by simp at h
 |a::b::r,h=>by
  have:=IT c r (by simp only[abb]at h;omega);simp only[eH,abb];omega
def B6(c:Int)(D:List (List Int)):List (List au×Int):=D.map λl=>(ins 1 0 0 0 0::eH c l,2)
theorem aeY(c:Int)(D:List (List Int)):dH (B6 c D)=D.map λl=>ins 1 0 0 0 0::eH c l:=by simp[dH,B6]
theorem MH(c:Int):∀D:List (List Int),dN (B6 c D)=if D=[]then 0 else 2
 |[]=>rfl
 |l::r=>by
  have:=MH c r;have e:dN (B6 c (l::r))=max 2 (dN (B6 c r)):=rfl;rw[e,this];rw[aa4 (List.cons_ne_nil _ _)];split<;>rfl
def Ar(vs:List Vr)(conds:List Ex):List (List au×Int):=conds.map λx=>((ar vs x).1,aR 0 x)
theorem Hq(vs:List Vr)(conds:List Ex):dH (Ar vs conds)=conds.map λx=>(ar vs x).1:=by simp[dH,Ar]
theorem MI(vs:List Vr):∀conds:List Ex,dN (Ar vs conds)=kR conds
 |[]=>rfl
 |x::r=>by
  have:=MI vs r;have e:dN (Ar vs (x::r))=max (aR 0 x) (dN (Ar vs r)):=rfl;rw[e,this];rfl
section
variable {p:Pg} {lp:Bool} (Z:p.vars.length<=1000) (y:∀v∈p.vars,dM v=true)
include Z y
theorem aaE{to val:Ex}{D:List (List Int)}{blocks:List (List Sm)}{line:Int}(A':bz val=true)(A0:(aL p.vars val).e=0)(A7:D.all ru=true)(A8:D.length<=blocks.length)(A9:blocks.length<=D.length+1)(AA:blocks.length<99999980)
 (A1:∀b∈blocks,vy p lp b) (O:∀b∈blocks,∀c,0<=c->c<=(ag p.vars b c).2) (m:Mk) (hm:0<=m.most) (AL:0<=m.cells) (AB:iZ m) (hex:lp=true->m.ex≠[])
 (AM:m.out.length+(ar p.vars val).1.length+1+(dh (D.map λl=>ins 1 0 0 0 0::eH m.cells l) (aA p.vars blocks (m.cells+1)).1).length<99999990) (AC:(aA p.vars blocks (m.cells+1)).2<99999990) (AD:∀b∈blocks,m.ex.length+ja b<99999990):
 gx p (m.aS (jn ((ar p.vars val).1++[ins 6 m.cells 0 0 0]) (dh (D.map λl=>ins 1 0 0 0 0::eH m.cells l) (aA p.vars blocks (m.cells+1)).1)) (aA p.vars blocks (m.cells+1)).2 (max (aR 0 val) (max (if D=[]then 0 else 2) (cd blocks)))) 0 (.ret (.bg []))
  (ai ctx 117 [.ptr 0 0 0,.d (cq (.mk 3 [] to val [] D [] blocks line))] (gw p m 0)):=by
 have AN:=zU blocks (m.cells+1) (by omega) O;obtain⟨AO,a2,a3,g1⟩:=XU p m 0 1 (az (by unfold bj;omega));have f1:({m with cells:=m.cells+1}:Mk).out=m.out:=rfl;generalize I:({m with cells:=m.cells+1}:Mk)=J at g1 f1;have AE:0<=J.most:=by subst I;exact hm
 obtain⟨AP,AQ,AR,g2⟩:=mz Z y val A' A0 J 0 (by omega) (by omega) AE (by rw[f1];omega);have A2:(J.aC (ar p.vars val).1 (aR 0 val)).out.length=m.out.length+(ar p.vars val).1.length:=by simp[Mk.aC,f1]
 generalize T:J.aC (ar p.vars val).1 (aR 0 val)=M2 at g2 A2;obtain⟨AS,AT,AU,g3⟩:=rE p M2 (0+1) m.cells (by omega) (by decide);have A3:(M2.put (ins 6 m.cells 0 0 0) (0+1+ -1)).out.length=m.out.length+(ar p.vars val).1.length+1:=by simp[Mk.put,A2]
 generalize U:M2.put (ins 6 m.cells 0 0 0) (0+1+ -1)=E at g3 A3;have AF:Flat ((ar p.vars val).1++[ins 6 m.cells 0 0 0]):=(m5 val A' A0).app (.one (by simp[ins]));have f3:E.cells=m.cells+1/\E.ex=m.ex/\0<=E.most/\E=m.aS ((ar p.vars val).1++[ins 6 m.cells 0 0 0]) (m.cells+1) (aR 0 val):=by
  have t1:=mH 0 val;have e:({m with cells:=m.cells+1}:Mk).aC ((ar p.vars val).1++[ins 6 m.cells 0 0 0]) (aR 0 val)=m.aS ((ar p.vars val).1++[ins 6 m.cells 0 0 0]) (m.cells+1) (aR 0 val):=by
   rw[<-pL AF];rfl
  rw[<-e];subst U T I;refine⟨rfl,rfl,?_,?_⟩
  ·simp[Mk.put,Mk.aC];omega
  ·simp only[Mk.put,Mk.aC,Mk.mk.injEq];simp;omega
 have q3:iZ E:=by
  have q1:iZ ({m with cells:=m.cells+1}:Mk):=AB;subst U T I;exact (q1.aC _ _).put _ _
 have V:=aeY m.cells D;have H:=UD (p:=p) (lp:=lp) (s:=.mk 3 [] to val [] D [] blocks line) (q:=m.cells) (blocks:=blocks) (ts:=B6 m.cells D) AA (by simpa [B6]using A8) (by simpa [B6]using A9)
  (by
   rw[V];intro x AG;obtain⟨l,_,rfl⟩:=abz.1 AG;exact .cons (by simp[ins]) (adJ _ _))
  (by
   intro i t A4 M AH AI;simp only[B6,adz,aba]at A4;obtain⟨l,A5,rfl⟩:=A4;have Y:ru l=true:=adA.1 A7 l (abk A5);have AJ:l.length%2=0:=by
    simp only[ru,Ds,aa8]at Y;exact Y.2.1
   have:=IT m.cells l AJ;simp only[abb]at AI;exact aaz (.mk 3 [] to val [] D [] blocks line) m.cells i l A5 Y M AH (by omega))
  A1 O E f3.2.2.1 (by rw[f3.1];omega) q3 (λh=>by rw[f3.2.1];exact hex h) (by rw[f3.1,A3,V];omega) (by rw[f3.1];exact AC) (λb AK=>by rw[f3.2.1];exact AD b AK)
 rw[f3.1,V,MH]at H;have A6:E.aS (dh (D.map λl=>ins 1 0 0 0 0::eH m.cells l) (aA p.vars blocks (m.cells+1)).1) (aA p.vars blocks (m.cells+1)).2 (max (if D=[]then 0 else 2) (cd blocks))=m.aS (jn ((ar p.vars val).1++[ins 6 m.cells 0 0 0]) (dh (D.map λl=>ins 1 0 0 0 0::eH m.cells l) (aA p.vars blocks (m.cells+1)).1)) (aA p.vars blocks (m.cells+1)).2 (max (aR 0 val) (max (if D=[]then 0 else 2) (cd blocks))):=by
  rw[<-CG m _ _ (m.cells+1) _ (aR 0 val) _,<-f3.2.2.2]
 rw[A6]at H;generalize m.aS (jn ((ar p.vars val).1++[ins 6 m.cells 0 0 0]) (dh (D.map λl=>ins 1 0 0 0 0::eH m.cells l) (aA p.vars blocks (m.cells+1)).1)) (aA p.vars blocks (m.cells+1)).2 (max (aR 0 val) (max (if D=[]then 0 else 2) (cd blocks)))=M at*;obtain⟨v1,v2,v3,H⟩:=H;clear I T U A6 f3 A1 O;have el:(B6 m.cells D).length=D.length:=by simp[B6]
 rw[el]at H;rw[ahE (by simp)];simp at g1 g2 g3;simp at H;simp[f117,fj,g1,g2,g3,H];exact⟨_,_,_,rfl⟩
end
section
variable {p:Pg} {x:Sm} {m M:Mk} (I:m.out.length<99999990)
include I
theorem adO(D:bK x=1)(h:gx p M 0 (.ret (.bg [])) (ai ctx 113 [.ptr 0 0 0,.d (cq x)] (gw p (m.put (ins 11 0 0 0 0) 0) 0))):
 gx p M 0 (.ret (.bg [])) (ai ctx 73 [.ptr 0 0 0,.d (cq x)] (gw p m 0)):=by
 obtain⟨J,a2,a3,E⟩:=nE p m 0 (by omega) (by decide);obtain⟨V,Y,Z,h⟩:=h;generalize m.put (ins 11 0 0 0 0) 0=N at*;rw[wi (by simp)];simp[fj,D]at h;simp at E;simp[f73,fj,D,E,h];exact⟨_,_,_,rfl⟩
theorem anh(D:bK x=3)(h:gx p M 0 (.ret (.bg [])) (ai ctx 117 [.ptr 0 0 0,.d (cq x)] (gw p (m.put (ins 11 0 0 0 0) 0) 0))):
 gx p M 0 (.ret (.bg [])) (ai ctx 73 [.ptr 0 0 0,.d (cq x)] (gw p m 0)):=by
 obtain⟨J,a2,a3,E⟩:=nE p m 0 (by omega) (by decide);obtain⟨V,Y,Z,h⟩:=h;generalize m.put (ins 11 0 0 0 0) 0=N at*;rw[wi (by simp)];simp[fj,D]at h;simp at E;simp[f73,fj,D,E,h];exact⟨_,_,_,rfl⟩
theorem ani(D:bK x=4)(h:gx p M 0 (.ret (.bg [])) (ai ctx 118 [.ptr 0 0 0,.d (cq x)] (gw p (m.put (ins 11 0 0 0 0) 0) 0))):
 gx p M 0 (.ret (.bg [])) (ai ctx 73 [.ptr 0 0 0,.d (cq x)] (gw p m 0)):=by
 obtain⟨J,a2,a3,E⟩:=nE p m 0 (by omega) (by decide);obtain⟨V,Y,Z,h⟩:=h;generalize m.put (ins 11 0 0 0 0) 0=N at*;rw[wi (by simp)];simp[fj,D]at h;simp at E;simp[f73,fj,D,E,h];exact⟨_,_,_,rfl⟩
theorem Yb(D:bK x=5\/bK x=6)(h:gx p M 0 (.ret (.bg [])) (ai ctx 119 [.ptr 0 0 0,.d (cq x)] (gw p (m.put (ins 11 0 0 0 0) 0) 0))):
 gx p M 0 (.ret (.bg [])) (ai ctx 73 [.ptr 0 0 0,.d (cq x)] (gw p m 0)):=by
 obtain⟨J,a2,a3,E⟩:=nE p m 0 (by omega) (by decide);obtain⟨V,Y,Z,h⟩:=h;generalize m.put (ins 11 0 0 0 0) 0=N at*;rw[wi (by simp)];simp at E;rcases D with D|D
 ·simp[fj,D]at h;simp[f73,fj,D,E,h];exact⟨_,_,_,rfl⟩
 ·simp[fj,D]at h;simp[f73,fj,D,E,h];exact⟨_,_,_,rfl⟩
theorem anj(D:bK x=9)(h:gx p M 0 (.ret (.bg [])) (ai ctx 121 [.ptr 0 0 0,.d (cq x)] (gw p (m.put (ins 11 0 0 0 0) 0) 0))):
 gx p M 0 (.ret (.bg [])) (ai ctx 73 [.ptr 0 0 0,.d (cq x)] (gw p m 0)):=by
 obtain⟨J,a2,a3,E⟩:=nE p m 0 (by omega) (by decide);obtain⟨V,Y,Z,h⟩:=h;generalize m.put (ins 11 0 0 0 0) 0=N at*;rw[wi (by simp)];simp[fj,D]at h;simp at E;simp[f73,fj,D,E,h];exact⟨_,_,_,rfl⟩
theorem ank(D:bK x=2)(h:MkJ p M x (ai ctx 114 [.ptr 0 0 0,.d (.list ((bL x).map dz)),.d (.int .i64 (cH x).length),.fn 115 [.ptr 1 0 0,.ptr 2 0 0]] [ij p (m.put (ins 11 0 0 0 0) 0) 0 3 4 5 0 0 0,.box [.ptr 0 0 0],bu x,.vec 5 ((m.put (ins 11 0 0 0 0) 0).out.map dy),.vv ((m.put (ins 11 0 0 0 0) 0).ex.map gv) none,.vec 1 ((m.put (ins 11 0 0 0 0) 0).lv.map dP)])):
 gx p M 0 (.ret (.bg [])) (ai ctx 73 [.ptr 0 0 0,.d (cq x)] (gw p m 0)):=by
 obtain⟨J,a2,a3,E⟩:=nE p m 0 (by omega) (by decide);obtain⟨V,Y,Z,h⟩:=h;generalize m.put (ins 11 0 0 0 0) 0=N at*;rw[wi (by simp)];simp[D]at h;simp at E;simp[f73,fj,D,E,h];exact⟨_,_,_,rfl⟩
end
theorem anl(p:Pg)(m:Mk)(h H:Int)(x:au)(I:m.out.length<100000000)(hw:IntKind.i64.wrap (h+H)=h+H):ai ctx 44 [.ptr 0 0 0,.d (dy x),.d (.int .i64 H)] (gw p m h)=some (.ret (.d (.int .i64 m.out.length)),Rc p (m.put x (h+H)) (h+H) 1 0 0):=by
 have w0:IntKind.i64.wrap (m.out.length:Int)=m.out.length:=az (by unfold bj;omega);have y:m.out.length<=4611686018427387903:=by omega
 have A':(m.out.length+1)*40<=140737488355328:=by omega
 rw[Uk (by simp)];simp[f44,aw,hw,w0,y,A',mxI,Mk.put]
theorem ajW(p:Pg)(m:Mk)(h to:Int)(I:m.out.length<100000000)(hw:IntKind.i64.wrap h=h):ai ctx 120 [.ptr 0 0 0,.d (.int .i64 to)] (gw p m h)=some (.ret (.d (.int .i64 m.out.length)),Rc p (m.put (ins 9 to 0 0 0) h) h 1 0 0):=by
 have O:=anl p m h 0 (ins 9 to 0 0 0) I (by simpa using hw);rw[show h+0=h by omega]at O;generalize m.put (ins 9 to 0 0 0) h=M at*;rw[Ln (by simp)];simp[ins]at O;simp[f120,O]
@[simp] def mkO(p:Pg)(m:Mk)(h:Int)(pre:List (List Int))(row:List Int):List aH:=[.box [.d (.str p.name),.d (.list (p.vars.map bN)),.d (.list (p.body.map cq)),.vec 1 0 0 m.out.length,.d (.int .i64 m.cells),.d (.int .i64 h),.d (.int .i64 m.most),.vec 2 0 0 (pre.length+1),.vec 3 0 0 m.lv.length],.vec 5 (m.out.map dy),.vv (pre.map gv) (some (.vec 4 0 0 row.length)),.vec 1 (m.lv.map dP),.vec 1 (row.map dP)]
@[simp] def mkP(p:Pg)(m:Mk)(h:Int)(pre:List (List Int))(row:List Int):List (Nat×aH):=[(0,.box [.d (.str p.name),.d (.list (p.vars.map bN)),.d (.list (p.body.map cq)),.vec 1 1 0 m.out.length,.d (.int .i64 m.cells),.d (.int .i64 h),.d (.int .i64 m.most),.vec 2 0 0 (pre.length+1),.vec 3 0 0 m.lv.length]),(1,.vec 5 (m.out.map dy)),(0,.vv (pre.map gv) (some (.vec 4 0 0 row.length))),(0,.vec 1 (m.lv.map dP)),(0,.vec 1 (row.map dP))]
theorem anm(p:Pg)(m:Mk)(h H:Int)(x:au)(pre:List (List Int))(row:List Int)(I:m.out.length<100000000)(hw:IntKind.i64.wrap (h+H)=h+H):ai ctx 44 [.ptr 0 0 0,.d (dy x),.d (.int .i64 H)] (mkO p m h pre row)=some (.ret (.d (.int .i64 m.out.length)),mkP p (m.put x (h+H)) (h+H) pre row):=by
 have w0:IntKind.i64.wrap (m.out.length:Int)=m.out.length:=az (by unfold bj;omega);have y:m.out.length<=4611686018427387903:=by omega
 have A':(m.out.length+1)*40<=140737488355328:=by omega
 rw[Uk (by simp)];simp[f44,aw,hw,w0,y,A',mxI,Mk.put]
theorem ajX(p:Pg)(m:Mk)(h to:Int)(pre:List (List Int))(row:List Int)(I:m.out.length<100000000)(hw:IntKind.i64.wrap h=h):ai ctx 120 [.ptr 0 0 0,.d (.int .i64 to)] (mkO p m h pre row)=some (.ret (.d (.int .i64 m.out.length)),mkP p (m.put (ins 9 to 0 0 0) h) h pre row):=by
 have O:=anm p m h 0 (ins 9 to 0 0 0) pre row I (by simpa using hw);rw[show h+0=h by omega]at O;generalize m.put (ins 9 to 0 0 0) h=M at*;rw[Ln (by simp)];simp[ins]at O;simp[f120,O]
def Mk.ext(m:Mk):Mk:={m with out:=m.out++[ins 9 0 0 0 0],most:=max m.most 0,ex:=ik m.ex [(m.out.length:Int)]}
def Mk.ret(m:Mk):Mk:={m with out:=m.out++[ins 9 0 0 0 0],most:=max m.most 0,lv:=m.lv++[(m.out.length:Int)]}
theorem ann{p:Pg}{x:Sm}{m:Mk}(I:m.out.length<99999989)(A3:m.lv.length<99999989)(D:bK x=8):gx p (m.put (ins 11 0 0 0 0) 0).ret 0 (.ret (.bg [])) (ai ctx 73 [.ptr 0 0 0,.d (cq x)] (gw p m 0)):=by
 obtain⟨J,a2,a3,E⟩:=nE p m 0 (by omega) (by decide);have A6:(m.put (ins 11 0 0 0 0) 0).lv.length<99999989:=A3;have A4:(m.put (ins 11 0 0 0 0) 0).out.length<99999990:=by simp[Mk.put];omega
 generalize m.put (ins 11 0 0 0 0) 0=N at*;have T:=ajW p N 0 0 (by omega) (by decide);have e:N.ret={(N.put (ins 9 0 0 0 0) 0)with lv:=N.lv++[(N.out.length:Int)]}:=rfl;have U:(N.put (ins 9 0 0 0 0) 0).lv=N.lv:=rfl;rw[e];generalize N.put (ins 9 0 0 0 0) 0=P at*;have A0:N.lv.length<=4611686018427387903:=by omega
 have A1:(N.lv.length+1)*8<=140737488355328:=by omega
 rw[wi (by simp)];simp[ins]at E T;rw[U]at T;simp[f73,fj,D,E,T,U,A0,A1,G4,Jh,Jg,zy,BC,Cp,nq,oW,p7,tN,Fj,Fk,Fl,Fm,fK,tM,wZ,GR,vT,DN,Oe,Vz,Kq,eE,fi,mf,rS,bf.app];exact⟨1,(if a2=0 then 0 else 1),1,by simp⟩
theorem ano{p:Pg}{x:Sm}{m:Mk}{pre:List (List Int)}{row:List Int}(U:m.ex=pre++[row])(I:m.out.length<99999989)(A7:row.length<99999990)(A8:pre.length<99999990)(D:bK x=7):gx p (m.put (ins 11 0 0 0 0) 0).ext 0 (.ret (.bg [])) (ai ctx 73 [.ptr 0 0 0,.d (cq x)] (gw p m 0)):=by
 obtain⟨J,a2,a3,E⟩:=nE p m 0 (by omega) (by decide);have A2:(m.put (ins 11 0 0 0 0) 0).ex=pre++[row]:=U;have A4:(m.put (ins 11 0 0 0 0) 0).out.length<99999990:=by simp[Mk.put];omega
 generalize m.put (ins 11 0 0 0 0) 0=N at*;have T:=ajX p N 0 0 pre row (by omega) (by decide);have e:N.ext={(N.put (ins 9 0 0 0 0) 0)with ex:=pre++[row++[(N.out.length:Int)]]}:=by
  unfold Mk.ext;rw[A2,jI];rfl
 have A5:(N.put (ins 9 0 0 0 0) 0).ex=pre++[row]:=A2;rw[e];generalize N.put (ins 9 0 0 0 0) 0=P at*;have A0:row.length<=4611686018427387903:=by omega
 have A1:(row.length+1)*8<=140737488355328:=by omega
 have y:IntKind.i64.wrap ((pre.length:Int)+1-1)=pre.length:=by rw[show (pre.length:Int)+1-1=pre.length by omega];exact az (by unfold bj;omega)
 have A':IntKind.i64.wrap (pre.length:Int)=pre.length:=az (by unfold bj;omega);rw[wi (by simp)];simp[ins,A2,A5,U]at E T;simp[f73,fj,D,U,E,T,A0,A1,y,A',G4,Jh,Jg,zy,BC,Cp,nq,oW,p7,tN,Fj,Fk,Fl,Fm,fK,tM,wZ,GR,vT,DN,Oe,Vz,Kq,eE,fi,mf,rS,bf.app];exact⟨1,(if a2=0 then 0 else 1),(if a3=0 then 0 else 1),by simp⟩
def Yc(p:Pg)(lp:Bool)(x:Sm):Prop:=∀(m:Mk),0<=m.most->0<=m.cells->iZ m->(lp=true->m.ex≠[])->m.out.length+(s9 p.vars x m.cells).length<99999990->(dn p.vars x m.cells).2<99999990->m.ex.length+yy x<99999990->
 gx p (m.aS (s9 p.vars x m.cells) (dn p.vars x m.cells).2 (gS x)) 0 (.ret (.bg [])) (ai ctx 73 [.ptr 0 0 0,.d (cq x)] (gw p m 0))
theorem Ri(vs:List Vr):∀(l:List Sm)(c:Int),l.length<=(ag vs l c).1.length
 |[],c=>by simp
 |x::r,c=>by
  have:=Ri vs r (dn vs x c).2;unfold ag;simp only[eG,abb,abn];omega
theorem Gx{p:Pg}{lp:Bool}(l:List Sm)(A':l.length<99999999)(k:Kt)(Q:Mk->bZ->Prop)
 (H:∀(Y:Env) M v1 v2 v3 v6 X6,Q M (k (.exit 0) ⟨16,aI,(0,true,.ptr 0 0 0)::Y,mqM p M 0 v1 v2 v3++[⟨350,v6,X6⟩]⟩)):
 ∀(D pre:List Sm)(m:Mk)(v1 v2 v3 v6:Nat)(X6:aH),l=pre++D->(∀x∈D,Yc p lp x)->0<=m.most->0<=m.cells->iZ m->(lp=true->m.ex≠[])->m.out.length+(ag p.vars D m.cells).1.length<99999990->(ag p.vars D m.cells).2<99999990->m.ex.length+ja D<99999990->
 Q (m.aS (ag p.vars D m.cells).1 (ag p.vars D m.cells).2 (bn D)) (aO ctx 42 (.loop (Code.at (bk f42) [1,0,0])) ⟨16,aI,[(0,true,.ptr 0 0 0),(6,true,.d (.list (l.map cq))),(7,true,.d (.int .i64 l.length)),(8,true,.d (.int .i64 pre.length))],mqM p m 0 v1 v2 v3++[⟨350,v6,X6⟩]⟩ k)
 |[],pre,m,v1,v2,v3,v6,X6,I,E,hm,U,J,hex,O,T,V=>by
  have e:m.aS (ag p.vars [] m.cells).1 (ag p.vars [] m.cells).2 (bn [])=m:=aax m hm;rw[e];have A2:pre.length=l.length:=by rw[I];simp
  have:=H [(6,true,.d (.list (l.map cq))),(7,true,.d (.int .i64 l.length)),(8,true,.d (.int .i64 l.length)),(9,true,.d (.bool false))] m v1 v2 v3 v6 X6;simp at this;rw[A2,ah];simp[f42,this]
 |x::r,pre,m,v1,v2,v3,v6,X6,I,E,hm,U,J,hex,O,T,V=>by
  have A3:ag p.vars (x::r) m.cells=(jn (s9 p.vars x m.cells) (ag p.vars r (dn p.vars x m.cells).2).1,(ag p.vars r (dn p.vars x m.cells).2).2):=rfl;have A4:ja (x::r)=max (yy x) (ja r):=by simp[ja]
  have A5:bn (x::r)=max (gS x) (bn r):=by simp[bn]
  have AD:=B0 (vs:=p.vars) x m.cells;have AE:=ig (vs:=p.vars) r (dn p.vars x m.cells).2;rw[A3]at O T⊢;rw[A4]at V;rw[A5];simp only[eG]at O;simp only at T;obtain⟨AF,a2,a3,A0⟩:=E x (by simp) m hm U J hex (by omega) (by omega) (by omega);have A6:(m.aS (s9 p.vars x m.cells) (dn p.vars x m.cells).2 (gS x)).out.length=m.out.length+(s9 p.vars x m.cells).length:=by
   show (m.out++cU _ _).length=_;rw[aa9,nU]
  have Z:(m.aS (s9 p.vars x m.cells) (dn p.vars x m.cells).2 (gS x)).ex.length=m.ex.length:=by
   show (ik _ _).length=_;rw[XY]
  have ih:=λv1 v2 v3 v6 X6=>Gx l A' k Q H r (pre++[x]) (m.aS (s9 p.vars x m.cells) (dn p.vars x m.cells).2 (gS x)) v1 v2 v3 v6 X6 (by simp[I]) (λy A7=>E y (by simp[A7])) (by show 0<=max m.most _;omega) (by show 0<=(dn p.vars x m.cells).2;omega) (J.aS _ _ _)
   (λh=>by
    have:=hex h;intro A8;rw[A8]at Z;exact this (abv Z.symm))
   (by rw[A6];show _+(ag p.vars r (dn p.vars x m.cells).2).1.length<_;omega) (by show (ag p.vars r (dn p.vars x m.cells).2).2<_;omega) (by rw[Z];omega)
  rw[show (m.aS (s9 p.vars x m.cells) (dn p.vars x m.cells).2 (gS x)).cells=(dn p.vars x m.cells).2 from rfl,CG]at ih;clear H E;generalize m.aS (s9 p.vars x m.cells) (dn p.vars x m.cells).2 (gS x)=M at*;have A9:pre.length<l.length:=by rw[I];simp
  have AA:l[pre.length]=x:=by simp[I]
  have AB:IntKind.i64.wrap ((pre.length:Int)+1)=(pre.length:Int)+1:=az (by unfold bj;omega);rw[ah];simp[fj]at A0;simp[f42]at ih⊢;simp[A9,AA,fj,A0,aw,AB,ih]
theorem Em{p:Pg}{lp:Bool}(l:List Sm)(E:∀x∈l,Yc p lp x):vy p lp l:=by
 intro m hm U J hex O T V;have A':=Ri p.vars l m.cells;have A1:=λ(k:Kt) (Q:Mk->bZ->Prop) H v6 X6=>Gx l (by omega) k Q H l [] m 0 0 0 v6 X6 rfl E hm U J hex O T V;rw[amF (by simp)];generalize m.aS (ag p.vars l m.cells).1 (ag p.vars l m.cells).2 (bn l)=N at*;simp[f42]at A1⊢;refine A1 _ (λX r=>X=N->gx p N 0 (.ret (.bg [])) r) (λY X v1 v2 v3 v6 X6 AC=>?_) _ _ rfl;subst AC;simp[f42];exact⟨_,_,_,rfl⟩
end Go.Am
end
section
namespace Go.Am
open Go
inductive Vl where
 |v (n:Int) (t:Bool)
 |f (e:Int)
 deriving DecidableEq
structure Mc where
 cells:List Int
 fuel:Nat
inductive Hw where
 |on
 |lv
 |rt
 |ft (e:Int)
 deriving DecidableEq
section
variable {vs:List Vr}
theorem aeZ{x:Ex}{t:Int}(h:(dG vs x t).1=0):(aL vs x).e=0/\(aL vs x).t=t:=by
 unfold dG at h;split at h
 ·exact absurd h (by assumption)
 ·rename_i J;split at h
  ·simp at h
  ·rename_i E;exact⟨by simpa using J,by simpa using E⟩
theorem Hr{k line:Int}:∀(D:List Tx)(xs:List Ex)(p:List Tx),xs.length=D.length->(jm vs k line D xs p).1=0->∀x∈xs,(aL vs x).e=0
 |[],[],_,_,_,x,M=>by simp at M
 |f::D,x::xs,p,O,h,y,H=>by
  simp only[jm]at h;cases I:mi k f with
  |none=>rw[I]at h;simp at h
  |some q=>
   rw[I]at h;simp only at h;split at h
   ·simp at h
   ·split at h
    ·simp at h
    ·obtain⟨E,T⟩:=cn.1 h;rcases abd.1 H with rfl|H
     ·exact (aeZ E).1
     ·exact Hr D xs _ (by simpa using O) T y H
 |[],_::_,_,h,_,_,_=>by simp at h
 |_::_,[],_,h,_,_,_=>by simp at h
end
end Go.Am
end
section
namespace Go.Am
open Go Go.Proofs
variable [Inhabited b7]
set_option maxRecDepth 20000
theorem Rj{vs:List Vr}{name:Tx}:∀(A7:List Tx)(xs:List Ex),xs.length=A7.length->A7.length<=(en vs name A7 xs).length
 |[],xs,_=>by simp
 |_::_,[],h=>by simp at h
 |f::A7,x::xs,h=>by
  have:=Rj (vs:=vs) (name:=name) A7 xs (by simpa using h);simp only[en,aa9,abb];omega
theorem UG:∀(ts bs:List (List au)),(∀t∈ts,1<=t.length)->bs.length<=ts.length+1->2*bs.length<=(dh ts bs).length+2
 |_,[],_,_=>by simp
 |[],b::r,_,h=>by
  have AU:r=[]:=abv (by simpa using h);subst AU;simp
 |t::ts,b::r,J,h=>by
  have ih:=UG ts r (λy Aa=>J y (by simp[Aa])) (by simpa using h);have A2:=J t (by simp);unfold dh;simp only[eG,aa9,abb,abn,mG];omega
theorem yB(vs:List Vr):∀(l:List (List Sm))(c:Int),(aA vs l c).1.length=l.length
 |[],c=>by simp[aA]
 |b::r,c=>by simp[aA,yB vs r]
theorem Yd{m:Mk}(h:0<=m.most)(l:List au)(c t:Int):(m.put (ins 11 0 0 0 0) 0).aS l c t=m.aS (jn [ins 11 0 0 0 0] l) c t:=by
 rw[aay,<-pL (Flat.one (by simp[ins])),CG];exact nG (by omega)
section
variable {p:Pg} (V:p.vars.length<=1000) (Y:∀v∈p.vars,dM v=true)
include V Y
theorem anp{lp:Bool}{x:Sm}(H:jU x=true)(h:(kU p.vars lp x).1=0)(A8:∀(lp:Bool) (cs:List Ex),cW (bL x)=true->(gf p.vars lp cs (bL x)).1=0->∀b∈bL x,vy p lp b):Yc p lp x:=by
 intro m hm A9 AQ hex D I AA;rw[aal]at D;have Ab:s9 p.vars x m.cells=jn [ins 11 0 0 0 0] (dn p.vars x m.cells).1:=rfl;rw[Ab,<-Yd hm];have AB:(m.put (ins 11 0 0 0 0) 0).out.length=m.out.length+1:=by simp[Mk.put]
 have AC:(m.put (ins 11 0 0 0 0) 0).cells=m.cells:=rfl;have AD:(m.put (ins 11 0 0 0 0) 0).ex=m.ex:=rfl;have A3:0<=(m.put (ins 11 0 0 0 0) 0).most:=by simp[Mk.put];omega
 have AE:iZ (m.put (ins 11 0 0 0 0) 0):=AQ.put _ _;cases Q2 H h with
 |@asg to val line v M AF Ac ft E A' AR J=>
  have Ad:=Hm ft E;have AV:=m5 val A' AR;cases Ad with
  |num h=>simp[b6]at M
  |tt h=>simp[b6]at M
  |fld _ _ _ _=>simp[b6]at M
  |one o _ _ _=>simp[b6]at M;omega
  |two o _ _ _ _ _ _=>simp[b6]at M;omega
  |@var name AG AS AM AW Ae=>
   refine adO (by omega) rfl ?_;have e:dn p.vars (.mk 1 [] (.mk 3 0 name [] [] AG) val [] [] [] [] line) m.cells=((ar p.vars val).1++[ins 6 (cw p.vars name).1 0 0 0],m.cells):=by simp[dn,b6,dU]
   have E:gS (.mk 1 [] (.mk 3 0 name [] [] AG) val [] [] [] [] line)=aR 0 val:=by simp[gS,b6]
   rw[e]at D⊢;rw[E];simp only[aa9,abb,abn]at D;show gx p ((m.put (ins 11 0 0 0 0) 0).aS _ (m.put (ins 11 0 0 0 0) 0).cells _) 0 _ _;rw[pL (Flat.app AV (Flat.one (by simp[ins])))];exact X0 V Y AM A' AR _ A3 (by omega)
  |@idx name AG AS y AM AW Ae AN AX ty=>
   refine adO (by omega) rfl ?_;have Af:=m5 y AN AX;have e:dn p.vars (.mk 1 [] (.mk 4 0 name [] [y] AG) val [] [] [] [] line) m.cells=((ar p.vars y).1++((ar p.vars val).1++[ins 7 (cw p.vars name).1 0 AS.lo AS.hi]),m.cells):=by simp[dn,b6,dU,de,qp,jr AM]
   have E:gS (.mk 1 [] (.mk 4 0 name [] [y] AG) val [] [] [] [] line)=max (gn 0 [y]) (aR 1 val):=by simp[gS,b6,de]
   have Ag:gn 0 [y]=max (aR 0 y) 0:=by simp[gn]
   rw[e]at D⊢;rw[E,Ag];simp only[aa9,abb,abn]at D;show gx p ((m.put (ins 11 0 0 0 0) 0).aS _ (m.put (ins 11 0 0 0 0) 0).cells _) 0 _ _;rw[pL (Flat.app Af (Flat.app AV (Flat.one (by simp[ins])))),show max (max (aR 0 y) 0) (aR 1 val)=max (aR 0 y) (aR 1 val) by have:=mH 0 y;omega];exact X1 V Y AM AN AX A' AR _ A3 (by omega)
 |@cnd to val conds blocks line M AO AP A2 O A4 A0 hh=>
  have A5:∀c∈conds,bz c=true/\(aL p.vars c).e=0:=λc Z=>⟨(jH _).1 AP c Z,(kD (wF O hh c Z)).1⟩;have A1:=A8 lp conds A0 hh;have e:dn p.vars (.mk 2 [] to val conds [] [] blocks line) m.cells=(dh (dH (Ar p.vars conds)) (aA p.vars blocks m.cells).1,(aA p.vars blocks m.cells).2):=by simp[dn,Hq]
  have E:gS (.mk 2 [] to val conds [] [] blocks line)=max (dN (Ar p.vars conds)) (cd blocks):=by simp[gS,MI]
  rw[e]at D I⊢;rw[E];simp only at D I;have AY:(Ar p.vars conds).length=conds.length:=by simp[Ar]
  have AH:=UG (dH (Ar p.vars conds)) (aA p.vars blocks m.cells).1 (λt J=>by
   rw[Hq]at J;obtain⟨c,_,rfl⟩:=abz.1 J;have:=kS p.vars c;omega) (by rw[yB];simpa [dH,AY]using A4)
  rw[yB]at AH;refine ank (by omega) rfl ?_;have:=UC (p:=p) (lp:=lp) (s:=.mk 2 [] to val conds [] [] blocks line) (blocks:=blocks) (ts:=Ar p.vars conds) (by omega) (by omega) (by omega)
   (λt J=>by
    rw[Hq]at J;obtain⟨c,Z,rfl⟩:=abz.1 J;exact m5 c (A5 c Z).1 (A5 c Z).2)
   (λi t hi m hm AI=>by
    simp only[Ar,adz,aba]at hi;obtain⟨c,AZ,rfl⟩:=hi;have Z:=abk AZ;exact aeO V Y (.mk 2 [] to val conds [] [] blocks line) i c AZ (A5 c Z).1 (A5 c Z).2 m hm (by simp only at AI;omega))
   A1 (λb _ c _=>ig b c) (m.put (ins 11 0 0 0 0) 0) A3 A9 AE hex (by rw[AC,AB];omega) I (λb T=>by
    have:=Ej T;rw[AD];simp only[yy]at AA;omega)
  rw[AY]at this;exact this
 |@cas to val A6 blocks line M A' AJ O A4 Ah A0 hh=>
  have A1:=A8 lp [] A0 hh;have e:dn p.vars (.mk 3 [] to val [] A6 [] blocks line) m.cells=(jn ((ar p.vars val).1++[ins 6 m.cells 0 0 0]) (dh (A6.map λl=>ins 1 0 0 0 0::eH m.cells l) (aA p.vars blocks (m.cells+1)).1),(aA p.vars blocks (m.cells+1)).2):=by simp[dn]
  have E:gS (.mk 3 [] to val [] A6 [] blocks line)=max (aR 0 val) (max (if A6=[]then 0 else 2) (cd blocks)):=by simp[gS]
  rw[e]at D I⊢;rw[E];simp only[eG,aa9,abb,abn]at D I;have AH:=UG (A6.map λl=>ins 1 0 0 0 0::eH m.cells l) (aA p.vars blocks (m.cells+1)).1 (λt J=>by
   obtain⟨l,_,rfl⟩:=abz.1 J;simp) (by rw[yB];simpa using A4)
  rw[yB]at AH;exact anh (by omega) rfl (aaE V Y A' (kD AJ).1 Ah O A4 (by omega) A1 (λb _ c _=>ig b c) (m.put (ins 11 0 0 0 0) 0) A3 A9 AE hex (by rw[AC,AB];omega) I (λb T=>by
   have:=Ej T;rw[AD];simp only[yy]at AA;omega))
 |@cnt name to val x y z b line v AH M AO AF Ac AW J Ai Aj AN Ak Al An A0 hh=>
  have A1:=A8 true [] (by simpa [bL,cW]using A0) (by simp[bL,gf,fJ,hh]) b (by simp[bL]);have e:dn p.vars (.mk 4 name to val [x,y,z] [] [] [b] line) m.cells=(jn (((ar p.vars x).1++((ar p.vars y).1++(ar p.vars z).1))++[ins 6 (m.cells+1) 0 0 0,ins 6 m.cells 0 0 0,ins 6 (cw p.vars name).1 0 0 0]) (ml (cw p.vars name).1 m.cells (ag p.vars b (m.cells+2)).1),(ag p.vars b (m.cells+2)).2):=by simp[dn,iO,mQ]
  have E:gS (.mk 4 name to val [x,y,z] [] [] [b] line)=max (max (gn 0 [x,y,z]) 3) (max (bn b) 0):=by simp[gS,cd]
  have AK:yy (.mk 4 name to val [x,y,z] [] [] [b] line)=max (ja b) 0+1:=by simp[yy,xx]
  rw[e]at D I⊢;rw[E,nG (u:=max (max (gn 0 [x,y,z]) 3) (bn b)) (by omega)];rw[AK]at AA;simp only[eG,aa9,abb,abn]at D I;exact ani (by omega) rfl (UF V Y AF Ai (kD Aj).1 AN (kD Ak).1 Al (kD An).1 A1 (λc _=>ig b c) (m.put (ins 11 0 0 0 0) 0) A3 A9 AE (by simp only[aa9];rw[AC,AB];omega) I (by rw[AD];omega))
 |@whl to val b line M A' AJ A0 hh=>
  have A1:=A8 true [] (by simpa [bL,cW]using A0) (by simp[bL,gf,fJ,hh]) b (by simp[bL]);have e:dn p.vars (.mk 5 [] to val [] [] [] [b] line) m.cells=(iY (ar p.vars val).1 (ag p.vars b m.cells).1,(ag p.vars b m.cells).2):=by simp[dn,mQ]
  have E:gS (.mk 5 [] to val [] [] [] [b] line)=max (aR 0 val) (max (bn b) 0):=by simp[gS,cd]
  have AK:yy (.mk 5 [] to val [] [] [] [b] line)=max (ja b) 0+1:=by simp[yy,xx]
  rw[e]at D I⊢;rw[E,nG (u:=max (aR 0 val) (bn b)) (by omega)];rw[AK]at AA;simp only at D I;exact Yb (by omega) (.inl rfl) (aaC V Y A' (kD AJ).1 A1 (m.put (ins 11 0 0 0 0) 0) A3 A9 AE (by rw[AC,AB];omega) I (by rw[AD];omega))
 |@rep to val b line M A' AJ A0 hh=>
  have A1:=A8 true [] (by simpa [bL,cW]using A0) (by simp[bL,gf,fJ,hh]) b (by simp[bL]);have e:dn p.vars (.mk 6 [] to val [] [] [] [b] line) m.cells=(nC (ar p.vars val).1 (ag p.vars b m.cells).1,(ag p.vars b m.cells).2):=by simp[dn,mQ]
  have E:gS (.mk 6 [] to val [] [] [] [b] line)=max (aR 0 val) (max (bn b) 0):=by simp[gS,cd]
  have AK:yy (.mk 6 [] to val [] [] [] [b] line)=max (ja b) 0+1:=by simp[yy,xx]
  rw[e]at D I⊢;rw[E,nG (u:=max (aR 0 val) (bn b)) (by omega)];rw[AK]at AA;simp only at D I;exact Yb (by omega) (.inr rfl) (Ya V Y A' (kD AJ).1 A1 (m.put (ins 11 0 0 0 0) 0) A3 A9 AE (by rw[AC,AB];omega) I (by rw[AD];omega))
 |@ext to val line M AO Ao=>
  have e:dn p.vars (.mk 7 [] to val [] [] [] [] line) m.cells=([ins 9 (-1) 0 0 0],m.cells):=by simp[dn]
  have E:gS (.mk 7 [] to val [] [] [] [] line)=0:=by simp[gS]
  rw[e]at D⊢;rw[E];simp only[abb,abn]at D;rcases ajk m.ex with U|⟨pre,row,U⟩
  ·exact absurd U (hex Ao)
  ·rw[ajY]at U;have AU:=AQ.2 row (by rw[U];simp);have Ap:m.ex.length=pre.length+1:=by rw[U];simp
   have:=ano (p:=p) (x:=.mk 7 [] to val [] [] [] [] line) U (by omega) (by omega) (by omega) rfl;have AT:(m.put (ins 11 0 0 0 0) 0).ext=(m.put (ins 11 0 0 0 0) 0).aS [ins 9 (-1) 0 0 0] m.cells 0:=by
    simp[Mk.ext,Mk.aS,cU,kV,cO,ins,Mk.put]
   rw[AT]at this;exact this
 |@ret to val line M AO=>
  have e:dn p.vars (.mk 8 [] to val [] [] [] [] line) m.cells=([ins 9 (-2) 0 0 0],m.cells):=by simp[dn]
  have E:gS (.mk 8 [] to val [] [] [] [] line)=0:=by simp[gS]
  rw[e]at D⊢;rw[E];simp only[abb,abn]at D;have:=ann (p:=p) (x:=.mk 8 [] to val [] [] [] [] line) (m:=m) (by omega) (by have:=AQ.1;omega) rfl;have AT:(m.put (ins 11 0 0 0 0) 0).ret=(m.put (ins 11 0 0 0 0) 0).aS [ins 9 (-2) 0 0 0] m.cells 0:=by
   simp[Mk.ret,Mk.aS,cU,kV,cO,ins,Mk.put,nF]
  rw[AT]at this;exact this
 |@cal name to val conds fields line v AH M AO AF J AP AI Aq hh=>
  have A_:=Hr fields conds [] AI hh;have A5:∀c∈conds,bz c=true/\(aL p.vars c).e=0:=λc Z=>⟨(jH _).1 AP c Z,A_ c Z⟩;have As:=Rj (vs:=p.vars) (name:=name) fields conds AI;have e:dn p.vars (.mk 9 name to val conds [] fields [] line) m.cells=(en p.vars name fields conds++[ins 12 (cw p.vars name).1 v.ty 0 0],m.cells):=by simp[dn,jr AF]
  have E:gS (.mk 9 name to val conds [] fields [] line)=kR conds:=by simp[gS]
  rw[e]at D⊢;rw[E];simp only[aa9,abb,abn]at D;refine anj (by omega) rfl ?_;show gx p ((m.put (ins 11 0 0 0 0) 0).aS _ (m.put (ins 11 0 0 0 0) 0).cells _) 0 _ _;rw[pL (Flat.app (Mv fields conds AP A_) (Flat.one (by simp[ins])))];exact aeN V Y AF AI (by omega) A5 _ A3 (by omega)
mutual
theorem ajZ:∀(x:Sm)(lp:Bool),jU x=true->(kU p.vars lp x).1=0->Yc p lp x
 | .mk op name to val conds A6 fields blocks line,lp,H,h=>anp V Y H h (λlp cs A2 O=>En blocks lp cs A2 O)
theorem zV:∀(l:List Sm)(lp:Bool),eR l=true->(eX p.vars lp l).1=0->∀x∈l,Yc p lp x
 |[],_,_,_,x,U=>absurd U (afI)
 |y::r,lp,H,h,x,U=>by
  simp only[eR,Ds]at H;simp only[eX]at h;obtain⟨A2,O⟩:=cn.1 h;rcases abd.1 U with AL|U
  ·rw[AL];exact ajZ y lp H.1 A2
  ·exact zV r lp H.2 O x U
theorem En:∀(l:List (List Sm))(lp:Bool)(cs:List Ex),cW l=true->(gf p.vars lp cs l).1=0->∀b∈l,vy p lp b
 |[],_,_,_,_,b,T=>absurd T (afI)
 |y::r,lp,[],H,h,b,T=>by
  simp only[cW,Ds]at H;simp only[gf]at h;obtain⟨A2,O⟩:=cn.1 h;rcases abd.1 T with AL|T
  ·rw[AL];exact Em y (zV y lp H.1 A2)
  ·exact En r lp [] H.2 O b T
 |y::r,lp,c::cs,H,h,b,T=>by
  simp only[cW,Ds]at H;simp only[gf]at h;obtain⟨A2,O⟩:=cn.1 h;obtain⟨O,A4⟩:=cn.1 O;rcases abd.1 T with AL|T
  ·rw[AL];exact Em y (zV y lp H.1 O)
  ·exact En r lp cs H.2 A4 b T
end
theorem ae0{l:List Sm}{lp:Bool}(H:eR l=true)(h:(eX p.vars lp l).1=0):vy p lp l:=Em l (zV V Y l lp H h)
end
end Go.Am
end
section
namespace Go.Am
open Go Go.Proofs Go.Proofs.Tryz
variable [Inhabited b7]
set_option maxRecDepth 20000
def Eo:List Vr->Int->List Int
 |[],_=>[]
 |v::r,n=>n::Eo r (n+bV v)
def Ep:List Vr->List Int
 |[]=>[]
 |v::r=>(if v.arr=false/\v.ty<=2 then [v.init]else List.replicate (bV v).toNat 0)++Ep r
@[simp] def aj0(v1 v2 v3:Nat)(E:aH)(S:List Int)(n:Int)(F:List Int):List cJ:=[⟨250,1,.box [.vec 251 v1 0 S.length,.d (.int .i64 n),.vec 252 v2 0 F.length]⟩,⟨251,v1,.vec 1 (S.map dP)⟩,⟨252,v2,.vec 1 (F.map dP)⟩,⟨350,v3,E⟩]
theorem MJ(l:List Vr)(V:l.length<=1000)(I:∀v∈l,dM v=true)(B C:cJ)(J:B.key=150)(M:C.key=200)(k:Kt)(Q:List Int->Int->List Int->bZ->Prop)
 (U:∀(Y:Env) S n F v1 v2 v3 E,Q S n F (k (.exit 0) ⟨51,aI,(2,true,.ptr 200 1 0)::(3,true,.ptr 250 1 0)::Y,B::C::aj0 v1 v2 v3 E S n F⟩)):∀(rest pre:List Vr)(S:List Int)(n:Int)(F:List Int)(v1 v2 v3:Nat)(E:aH),l=pre++rest->0<=n->n<=1000*pre.length->S.length=pre.length->(F.length:Int)=n->
 Q (S++Eo rest n) (n+cx rest) (F++Ep rest) (aO ctx 41 (.loop (Code.at (bk f41) [1,1,0,1,0,0])) ⟨51,aI,[(2,true,.ptr 200 1 0),(3,true,.ptr 250 1 0),(8,true,.d (.list (l.map bN))),(9,true,.d (.int .i64 l.length)),(10,true,.d (.int .i64 pre.length))],B::C::aj0 v1 v2 v3 E S n F⟩ k)
 |[],pre,S,n,F,v1,v2,v3,E,H,AA,AB,A2,A3=>by
  have AC:pre.length=l.length:=by rw[H];simp
  have:=U [(8,true,.d (.list (l.map bN))),(9,true,.d (.int .i64 l.length)),(10,true,.d (.int .i64 l.length)),(11,true,.d (.bool false))] S n F v1 v2 v3 E;simp[Eo,cx,Ep]at this⊢;rw[AC,ah];simp[f41,this]
 |w::rest,pre,S,n,F,v1,v2,v3,E,H,AA,AB,A2,A3=>by
  have A4:pre.length<l.length:=by rw[H];simp
  have A5:l[pre.length]=w:=by simp[H]
  have O:=Lo (I w (by rw[H];simp));have AD:=rY (I w (by rw[H];simp));have ih:=λF' h v1 v2 v3 E=>MJ l V I B C J M k Q U rest (pre++[w]) (S++[n]) (n+bV w) F' v1 v2 v3 E (by simp[H]) (by omega) (by simp;omega) (by simp[A2]) h;have A6:IntKind.i64.wrap ((pre.length:Int)+1)=(pre.length:Int)+1:=az (by unfold bj;omega);have Z:IntKind.i64.wrap (n+bV w)=n+bV w:=az (by unfold bj;omega);have A7:S.length<=4611686018427387903:=by omega
  have A8:(S.length+1)*8<=140737488355328:=by omega
  rw[ah];simp only[Eo,cx,Ep];rw[<-Int.add_assoc];by_cases T:w.arr=false/\w.ty<=2
  ·have y:bV w=1:=by unfold bV;rw[aa4 (by simp[T.1]),aa4 (by omega)]
   rw[y]at O ih Z AD⊢;have ih:=ih (F++[w.init]) (by simp;omega);have A':F.length<=4611686018427387903:=by omega
   have A0:(F.length+1)*8<=140737488355328:=by omega
   have A1:IntKind.i64.wrap n=F.length:=by rw[<-A3];exact az (by unfold bj;omega)
   have AE:(F.map dP++[D.int .i64 0]).set F.length (D.int .i64 w.init)=F.map dP++[D.int .i64 w.init]:=by
    rw[List.set_append_right _ _ (by simp)];simp
   simp[f41,bN,eV,T,dP]at ih O⊢;simp[A4,A5,J,M,bN,eV,T,O,A6,Z,A7,A8,A',A0,A1,AE,ih,dP]
  ·have ih:=ih (F++List.replicate (bV w).toNat 0) (by simp;omega);have A1:0<=bV w/\bV w<=4611686018427387904:=by omega
   have A':F.length+(bV w).toNat<=4611686018427387904:=by omega
   have A0:(F.length+(bV w).toNat)*8<=140737488355328:=by omega
   simp[f41,bN,eV,T,dP]at ih O⊢;simp[A4,A5,J,M,bN,eV,T,O,A6,Z,A7,A8,A',A0,A1,ih,dP]
theorem ae1(p:Pg)(V:p.vars.length<=1000)(I:∀v∈p.vars,dM v=true):ai ctx 41 [.d (pK p)] []=some (.ret (.d (.agg [.list ((Eo p.vars 0).map dP),.int .i64 (cx p.vars),.list ((Ep p.vars).map dP)])),[]):=by
 have A9:=λB C J M k Q U v1 v2 v3 E=>MJ p.vars V I B C J M k Q U p.vars [] [] 0 [] v1 v2 v3 E rfl (by omega) (by simp) rfl rfl;rw[amE (by simp)];simp[f41]at A9⊢;refine A9 _ _ ?_ ?_ _ (λS n F r=>S=Eo p.vars 0->n=cx p.vars->F=Ep p.vars->r=some (.ret (.d (.agg [.list ((Eo p.vars 0).map dP),.int .i64 (cx p.vars),.list ((Ep p.vars).map dP)])),[])) (λY S n F v1 v2 v3 E y AF AG=>?_) _ _ _ _ rfl rfl rfl
 ·rfl
 ·rfl
 ·subst y AF AG;simp
end Go.Am
end
section
namespace Go.Am
open Go Go.Proofs Go.Proofs.Tryz
variable [Inhabited b7]
set_option maxRecDepth 20000
set_option maxHeartbeats 1000000
theorem aaG(p:Pg)(y:p.vars.length<=1000)(A':∀v∈p.vars,dM v=true)
 (I:ai ctx 30 [.d (pK p)] []=some (.ret (.d (pK (XG p))),[]))
 (M:Mk) (D:gx p M 0 (.ret (.bg [])) (ai ctx 42 [.ptr 0 0 0,.d (.list ((dX p.body).map cq))] (gw p ⟨[],cx p.vars,0,[],[]⟩ 0))) (A2:M.out.length<99999990) (A0:M.lv.length<100000000) (J:Pl M.out.length M.lv):
 ai ctx 16 [.d (pK p)] []=(if 4096<(((M.cI M.lv).put (ins 15 0 0 0 0) 0).out.length:Int)\/64<((M.cI M.lv).put (ins 15 0 0 0 0) 0).most then some (.ret (.bg [.d (.agg [.list [],.int .i64 0,.int .i64 0]),.d (.int .i64 13)]),[])else some (.ret (.bg [.d (.agg [.list (((M.cI M.lv).put (ins 15 0 0 0 0) 0).out.map dy),.int .i64 (cx p.vars),.int .i64 M.cells]),.d (.int .i64 0)]),[])):=by
 have A1:=ae1 p y A';obtain⟨A3,a2,a3,D⟩:=D;have H:=aaw p M 0 A0 (by omega) J;have O:(M.cI M.lv).out.length=M.out.length:=by
  have:∀(ps:List Int)(m:Mk),(m.cI ps).out.length=m.out.length:=by
   intro ps;induction ps with
   |nil=>intro m;rfl
   |cons i r ih=>intro m;rw[vu,ih,Ei]
  exact this _ _
 obtain⟨A4,A5,A6,E⟩:=j0 p (M.cI M.lv) 0 0 (ins 15 0 0 0 0) (by rw[O];omega) (by decide);rw[amu (by simp)];simp[XG]at I;simp at D H;simp[ins]at E;have T:(M.cI M.lv).ex=M.ex:=rfl;have U:(M.cI M.lv).lv=M.lv:=rfl;have V:(M.cI M.lv).most=M.most:=rfl;have Y:(M.cI M.lv).cells=M.cells:=rfl;simp[T,U,V,Y]at H E;have Z:((M.cI M.lv).put (ins 15 0 0 0 0) 0).cells=M.cells:=rfl;rw[<-Z];simp only[ins]at E⊢;clear T U V Y Z O J;generalize M.cI M.lv=N at*;simp[f16,A1,I,D,H,E,aw];split<;>rename_i h<;>first|simp[h]|simp_all
end Go.Am
end
section
namespace Go.Am
open Go
theorem auo{x:au}(h:x.op=9\/x.op=10->0<=x.a):kV 0 x=x:=by
 unfold kV;split
 ·rename_i D;have:=h D;rw[abf this];obtain⟨op,a,b,n,m⟩:=x;simp
 ·rfl
theorem aup{l:List au}(h:∀x∈l,x.op=9\/x.op=10->0<=x.a):cU 0 l=l:=by
 unfold cU;exact (anT (g:=id) (λx E=>auo (h x E))).trans (List.map_id l)
theorem ae2{l:List au}(J:Jf false l):jX (cU 0 l) (cO (-2) 0 l) l.length=l.map (oN l.length):=by
 have h:=sO (k:= -2) (to:=(l.length:Int)) (by decide) (by omega) 0 l [] [] 0 rfl;simp only[afJ,afy]at h;rw[show ((l.length:Int)+((0:Nat):Int))=(l.length:Int) by omega]at h;rw[h];have e:(λx=>kI (-2) (l.length:Int) x)=oN (l.length:Int):=rfl;rw[show l.map (kI (-2) (l.length:Int))=l.map (oN (l.length:Int))from rfl];refine aup (λx E D=>?_);obtain⟨y,M,rfl⟩:=abz.1 E;have H:=J y M;unfold oN at D⊢;split
 ·show 0<=(l.length:Int);omega
 ·rename_i I;rw[aa4 I]at D;rcases D with D|D
  ·rcases H.2 D with h|h|h
   ·exact h
   ·exact absurd ⟨D,h⟩ I
   ·exact absurd h.1 (by decide)
  ·exact H.1 D
theorem CJ:∀(ts bs:List (List au)),(bs.map List.length).sum<=(dh ts bs).length
 |[],[]=>by simp[dh]
 |_::_,[]=>by simp[dh]
 |[],b::r=>by
  have ih:=CJ [] r;rw[Ho];simp only[adC,ajR];split
  ·rename_i h;subst h;simp
  ·simp only[eG,aa9,abb,abn];omega
 |t::ts,b::r=>by
  have ih:=CJ ts r;rw[dh];simp only[adC,ajR];generalize dh ts r=out at ih⊢;rw[eG];simp only[aa9,abb,abn,mG];split
  ·omega
  ·simp only[aa9,abb,abn];omega
section
variable {vs:List Vr}
mutual
theorem UH:∀(s:Sm)(c:Int),(dn vs s c).2<=c+(dn vs s c).1.length
 | .mk op name to val conds AE fields blocks line,c=>by
  have H:=λc=>Dv blocks c;have I:=λc=>UI blocks c;unfold dn;split
  ·simp only;omega
  ·split
   ·have q1:=H c;have q2:=CJ (conds.map λx=>(ar vs x).1) (aA vs blocks c).1;simp only
    omega
   ·split
    ·have q1:=H (c+1);have q2:=CJ (AE.map λl=>ins 1 0 0 0 0::eH c l) (aA vs blocks (c+1)).1;simp only[eG,aa9,abb,abn];omega
    ·split
     ·have q1:=I (c+2);simp only[eG,aa9,abb,abn,ml,pf,mG];omega
     ·split
      ·have q1:=I c;simp only[iY,pf,aa9,abb,abn,mG];omega
      ·split
       ·have q1:=I c;simp only[nC,pf,aa9,abb,abn];omega
       ·split
        ·simp only;omega
        ·split<;>(simp only;omega)
theorem oP:∀(l:List Sm)(c:Int),(ag vs l c).2<=c+(ag vs l c).1.length
 |[],c=>by simp[ag]
 |x::r,c=>by
  have H:=UH x c;have I:=oP r (dn vs x c).2;simp only[ag,eG,abb,abn];omega
theorem Dv:∀(l:List (List Sm))(c:Int),(aA vs l c).2<=c+(((aA vs l c).1.map List.length).sum:Nat)
 |[],c=>by simp[aA]
 |b::r,c=>by
  have H:=oP b c;have I:=Dv r (ag vs b c).2;simp only[aA,adC,ajR];omega
theorem UI:∀(l:List (List Sm))(c:Int),(mQ vs l c).2<=c+(mQ vs l c).1.length
 |[],c=>by simp[mQ]
 |b::r,c=>oP b c
end
end
theorem aaH{cells last:Int}{i:Int}{x:au}(h:dx II cells 0 0 x=true)(Y:¬fq x)(AF:x.op≠15):dx II cells last i x=true:=by
 unfold dx at h⊢;unfold fq at Y;split
 ·rfl
 ·rename_i g1;rw[aa4 g1]at h;split
  ·rename_i g2;rw[abf g2]at h;exact h
  ·rename_i g2;rw[aa4 g2]at h;split
   ·rename_i g3;rw[abf g3]at h;exact h
   ·rename_i g3;rw[aa4 g3]at h;split
    ·rename_i g4;rw[abf g4]at h;exact h
    ·rename_i g4;rw[aa4 g4]at h;split
     ·rename_i g5;rw[abf g5]at h;exact h
     ·rename_i g5;rw[aa4 g5,aa4 Y]at h;split
      ·rename_i g7;rw[abf g7]at h;exact h
      ·rename_i g7;rw[aa4 g7,aa4 AF]at h;cases h
theorem MK{l:List au}{S AG:List Bool}(h:cf l S=some AG)(i:Nat):∃T,cf (l.take i) S=some T:=by
 rw[<-ajS i l,dr]at h;cases Z:cf (l.take i) S with
 |none=>rw[Z]at h;cases h
 |some T=>exact⟨T,rfl⟩
theorem ae3{g:List au}{cells:Int}(h:Fg cells false g)(AP:g.length+1<=4096):∃r st,Good II cells (g.map (oN g.length)++[ins 15 0 0 0 0]) r st:=by
 obtain⟨l,O⟩:∃l,l=g.map (oN g.length)++[ins 15 0 0 0 0]:=⟨_,rfl⟩;rw[<-O];have AQ:l.length=g.length+1:=by rw[O];simp
 have AH:cf (g.map (oN g.length)) []=some []:=by rw[rB (Mh _)];exact h.run
 have A3:cf l []=some []:=by
  rw[O,dr,AH];simp[cf,cK,ins,ku]
 have A0:∀(i:Nat) x,l[i]?=some x->(i<g.length/\∃y,g[i]?=some y/\x=oN g.length y)\/(i=g.length/\x=ins 15 0 0 0 0):=by
  intro i x E;rw[O]at E;by_cases hi:i<g.length
  ·rw[abl (by simpa using hi),adz]at E;obtain⟨y,J,rfl⟩:=aba.1 E;exact .inl ⟨hi,y,J,rfl⟩
  ·rw[abq (by simpa using hi)]at E;have U:i-g.length=0:=by
    have:=(aa1.1 E).1;simp at this;omega
   simp only[List.length_map]at E;rw[U]at E;simp at E;exact .inr ⟨by omega,E.symm⟩
 have A4:∀k,k<=g.length->cf (l.take k) []=cf (g.take k) []:=by
  intro k A5;rw[O,ajC (by simpa using A5),<-List.map_take,rB (Mh _)]
 have A6:∀y,fq (oN g.length y)↔fq y:=λy=>by unfold fq;rw[XI]
 --where a jump leads
 have A1:∀(i:Nat) x,l[i]?=some x->fq x->0<=x.a/\x.a.toNat<=g.length/\cf (l.take x.a.toNat) []=some []/\(i<x.a.toNat\/∃y,l[x.a.toNat]?=some y/\y.op=11):=by
  intro i x E D;rcases A0 i x E with ⟨hi,y,J,rfl⟩|⟨_,rfl⟩
  ·have A7:=(A6 y).1 D;have A8:cf (l.take g.length) []=some []:=by rw[A4 _ (aa7 _),List.take_length];exact h.run
   by_cases U:0<=y.a
   ·have e:oN g.length y=y:=by unfold oN;rw[aa4 (by rintro ⟨_,AR⟩;omega)]
    rw[e];rcases h.jmp i y J A7 U with H|⟨H,I,M⟩
    ·refine⟨U,by omega,?_,.inl (by omega)⟩;rw[H];exact A8
    ·refine⟨U,H,by rw[A4 _ H];exact I,?_⟩;rcases M with M|⟨z,A9,AI⟩
     ·exact .inl M
     ·refine .inr ⟨oN g.length z,?_,by rw[XI];exact AI⟩;rw[O,abl (by simpa using (aa1.1 A9).1),adz,A9];rfl
   ·obtain⟨q1,q2⟩:=h.out y (abk J) A7 (by omega);have q2:y.a= -2:=by
     rcases q2 with q2|⟨q2,_⟩
     ·exact q2
     ·cases q2
    have e:(oN g.length y).a=g.length:=by unfold oN;rw[abf ⟨q1,q2⟩]
    rw[e];refine⟨by omega,by omega,?_,.inl (by omega)⟩;rw[show ((g.length:Int)).toNat=g.length by omega];exact A8
  ·simp[fq,ins]at D
 refine⟨λi=>match l[i]? with|some x=>if x.op=11 then 0 else l.length+1-i|none=>0,λi=>(cf (l.take i) []).getD [],?_⟩;refine⟨by omega,?_,?_,rfl,?_,?_,?_⟩
 ·intro x E;rcases A0 _ x E with ⟨hi,_⟩|⟨_,rfl⟩
  ·omega
  ·rfl
 ·intro i x E;by_cases D:fq x
  ·obtain⟨H,I,_⟩:=A1 i x E D;have M:x.a<=(l.length:Int)-1:=by omega
   unfold dx;rcases D with e|e
   ·simp[e,H,M]
   ·simp[e,H,M]
  ·rcases A0 i x E with ⟨hi,y,J,rfl⟩|⟨hi,rfl⟩
   ·have e:oN g.length y=y:=by
     rcases Mh (g.length:Int) y with e|⟨e,_⟩
     ·exact e
     ·exact absurd ((A6 y).2 e) D
    rw[e]at D⊢;rcases h.ok y (abk J)with H|⟨H,I⟩
    ·exact absurd H D
    ·exact aaH H D I
   ·have:dx II cells ((l.length:Int)-1) (i:Int) (ins 15 0 0 0 0)=true:=by
     simp[dx,ins];omega
    exact this
 ·intro i x E;obtain⟨T,AA⟩:=MK A3 i;obtain⟨AB,AC⟩:=MK A3 (i+1);have hi:=(aa1.1 E).1;have e:l.take (i+1)=l.take i++[x]:=by
   rw[List.take_add_one,E];rfl
  rw[e,dr,AA]at AC;have V:cf [x] T=some AB:=AC;simp only[cf]at V;have hm:cK x T=some AB:=by
   cases Z:cK x T with
   |none=>rw[Z]at V;cases V
   |some AS=>rw[Z]at V;simpa using V
  show cK x ((cf (l.take i) []).getD [])=some ((cf (l.take (i+1)) []).getD []);rw[e,dr,AA];show cK x T=some (((cf [x] T)).getD []);simp only[cf,hm];rfl
 ·intro i x E D;obtain⟨_,_,M,_⟩:=A1 i x E D;show (cf (l.take x.a.toNat) []).getD []=[];rw[M];rfl
 ·intro i x E AJ j D;have hi:=(aa1.1 E).1;have AK:(match l[i]? with|some x=>if x.op=11 then 0 else l.length+1-i|none=>0)=l.length+1-i:=by
   rw[E];simp only
   rw[aa4 AJ]
  have AL:∀j:Nat,(match l[j]? with|some x=>if x.op=11 then 0 else l.length+1-j|none=>0)<=l.length+1-j:=by
   intro j;cases l[j]? with
   |none=>simp
   |some z=>simp only;split<;>omega
  have A2:∀k:Nat,i<k->(match l[k]? with|some x=>if x.op=11 then 0 else l.length+1-k|none=>0)<l.length+1-i:=by
   intro k A5;have:=AL k;omega
  have AT:fq x->(match l[x.a.toNat]? with|some x=>if x.op=11 then 0 else l.length+1-x.a.toNat|none=>0)<l.length+1-i\/True:=λ_=>.inr trivial;show (match l[j]? with|some x=>if x.op=11 then 0 else l.length+1-j|none=>0)<(match l[i]? with|some x=>if x.op=11 then 0 else l.length+1-i|none=>0);rw[AK];have AD:fq x->j=x.a.toNat->(match l[j]? with|some x=>if x.op=11 then 0 else l.length+1-j|none=>0)<l.length+1-i:=by
   intro AM e;obtain⟨_,_,_,A'⟩:=A1 i x E AM;rw[<-e]at A';rcases A' with A'|⟨y,J,AN⟩
   ·exact A2 j A'
   ·rw[J];simp only
    rw[abf AN];omega
  unfold Cs at D;rw[E]at D;simp only at D;split at D
  ·rename_i Y;simp at D;exact AD (.inl Y) D
  ·split at D
   ·rename_i AO;simp at D;rcases D with D|D
    ·exact A2 j (by omega)
    ·exact AD (.inr AO) D
   ·split at D
    ·simp at D
    ·simp at D;exact A2 j (by omega)
theorem B7:∀(l p:List Vr)(n:Int),n<=1024->(Ir l p n).1=0->n+cx l<=1024
 |[],_,n,D,_=>by simp[cx];exact D
 |v::r,p,n,D,h=>by
  unfold Ir at h;split at h
  ·simp at h
  ·split at h
   ·simp at h
   ·have:=B7 r _ _ (by omega) h;simp only[cx];omega
theorem zW:∀(l:List Vr),(∀v∈l,0<=bV v)->0<=cx l
 |[],_=>by simp[cx]
 |y::l,h=>by
  have:=zW l (λv H=>h v (by simp[H]));have:=h y (by simp);simp only[cx];omega
theorem IU{p:Pg}(E:qi p=true)(I:iQ p.body=true)(J:(qj p).1=0)(T:bn (dX p.body)<=64):
 Fg (ag p.vars (dX p.body) (cx p.vars)).2 false (ag p.vars (dX p.body) (cx p.vars)).1/\0<=cx p.vars/\cx p.vars<=1024/\cx p.vars<=(ag p.vars (dX p.body) (cx p.vars)).2/\
 (ag p.vars (dX p.body) (cx p.vars)).2<=cx p.vars+(ag p.vars (dX p.body) (cx p.vars)).1.length:=by
 simp only[qi,Ds,adA]at E;obtain⟨_,_,M,U⟩:=E;obtain⟨V,Y⟩:=cn.1 J;obtain⟨Z,a2,a3⟩:=uh false p.body U I Y;have A1:=B7 p.vars [] 0 (by omega) V;have O:=zW p.vars (λv H=>pH (M v H));have hm:=ig (vs:=p.vars) (dX p.body) (cx p.vars);have A':=oP (vs:=p.vars) (dX p.body) (cx p.vars);exact⟨vr M hm false (dX p.body) (cx p.vars) Z a3 T O (anP _),O,by omega,hm,A'⟩
theorem Ye{p:Pg}(E:qi p=true)(I:iQ p.body=true)(J:(qj p).1=0){l:List au}{v c:Int}(h:BT p=some (l,v,c)):BF II l v c=true:=by
 unfold BT at h;simp only at h;split at h
 ·cases h
 ·rename_i D;simp only[anS,Nat.not_lt,Int.not_lt]at D;cases h;obtain⟨g1,g2,g3,g4,g5⟩:=IU E I J D.2;obtain⟨r,st,A0⟩:=ae3 g1 D.1;exact ana ⟨by omega,by omega,by omega,by omega⟩ A0
end Go.Am
end
