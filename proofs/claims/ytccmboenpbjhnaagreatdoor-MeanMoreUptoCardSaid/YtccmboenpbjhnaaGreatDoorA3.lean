/-
  Texts of one proof, one behind the other.
-/
import Derived.Test.YtccmboenpbjhnaaGreatDoorA2
import Derived.Below
import Derived.Recover
import Derived.Orders
import Derived.Laws.BitsLemmas
import Derived.Laws.Bits64
import Derived.Lib.Mul64
import Derived.Lib.Bytealg
import Derived.Lib.Index
import Derived.Lib.Strings
set_option linter.all false
section
namespace Go.Am
open Go
abbrev Is(e:XE)(A:St):XE->St->Prop:=λe' B0=>e'=e/\B0=A
def Kx(P:Program)(S:St)(o:Oper)(e:XE)(A:St):Prop:=
 A.n=S.n/\A.gl=S.gl/\(e=.normal\/∃t x,e=.panic t x)/\∀φ G a w,Rel φ G S a w->∀(next:Act->World->Prop)(R:Exit->Act->World->Prop),
  (e=.normal->∀φ' A9 w',Rel φ' G A A9 w'->aO φ S.mem w φ' A.mem w'->next A9 w')->
  (∀t x,e=.panic t x->∀φ' A9 w' v,Rel φ' G A A9 w'->aO φ S.mem w φ' A.mem w'->aI w' (Fo G φ' A.mem) x v->R (.panic [{v:=.iface t v,recovered:=false}]) A9 w')->o.wp P a w next R
theorem kM(S:St)(d g x):(S.put d g x).gl=S.gl:=by cases d<;>rfl
section
variable {X:Ctx} {A2:bj} {S A:St} {o:Oper} {e:XE}
theorem z6{c:Bool}{x:AV}{gb:Bool}(A7:cJ X.P S o=.val c x)(A5:(fI S o&&c)=true)(H:∀t,o.dst=some t->t<S.n):Kx X.P S o .normal (S.put o.dst gb x):=by
 simp only[Ds]at A5;have:=G9 X.P S o A5.1;rw[A7]at this;refine⟨ll ..,kM ..,.inl rfl,λφ G a w E next R A3 _=>?_⟩;exact Vh this A5.2 E H (λA9 w' AD AE=>A3 rfl φ A9 w' AD (by rw[eD];exact AE))
theorem Ky{c:Bool}{x:AV}{Ae:cf}(A7:cJ X.P S o=.cF c x Ae)(A5:(fI S o&&c)=true)(H:∀t,o.dst=some t->t<S.n):Kx X.P S o .normal (({S with mem:=Mem.set S.mem Ae}:St).put o.dst true x):=by
 simp only[Ds]at A5;have:=G9 X.P S o A5.1;rw[A7]at this;refine⟨ll ..,kM ..,.inl rfl,λφ G a w E next R A3 _=>?_⟩;exact Vi this A5.2 E H (λφ' A9 w' AD AE=>A3 rfl φ' A9 w' AD (by rw[eD];exact AE))
theorem JP{m:Mem}{B1:Nat}{g:FuncId}{BN:List AV}{mt:List Nat}{out:Out}{es:List cf}{ks:List Nat}(h:dr A2 m B1 g BN mt=some ⟨out,es,ks⟩):∀e∈es,e.key∈ks:=by
 unfold dr kS kR eK at h;split at h
 ·rename_i out B6 _;split at h
  ·rename_i A4;simp only[Ds,aag]at A4;simp only[aas,eA.mk.injEq]at h;obtain⟨_,rfl,rfl⟩:=h;intro e he;obtain⟨j,v,c,AI,rfl⟩:=tA.1 he;have B7:=(aaa.1 AI).1;simp only[adj];generalize collect m 64 (j6 mt 0 BN) []=ρ at A4 B7⊢;have B2:j<(ρ++List.range' (B1+1) (B6.length-ρ.length)).length:=by simp;omega
   have hm:=acM B2;have An:(ρ++List.range' (B1+1) (B6.length-ρ.length)).getD j 0=(ρ++List.range' (B1+1) (B6.length-ρ.length))[j]:=by
    rw[afB,acu B2];rfl
   rw[An];rcases abO.1 hm with I|I
   ·exact aj5 _ (aj5 _ I)
   ·exact List.mem_append_right _ I
  ·cases h
 ·cases h
mutual
theorem RZ:∀{x y:D},yI x y=true->x=y
 |x,y,h=>by
  unfold yI at h;split at h
  ·simp only[Ds,aag]at h;obtain⟨rfl,rfl⟩:=h;rfl
  ·rw[acw h]
  ·rw[acw h]
  ·rw[z7 h]
  ·rw[z7 h]
  ·rfl
  ·cases h
theorem z7:∀{x y:List D},wo x y=true->x=y
 |x,y,h=>by
  unfold wo at h;split at h
  ·rfl
  ·simp only[Ds]at h;rw[RZ h.1,z7 h.2]
  ·cases h
end
theorem aaF{x y:AV}(h:D0 x y=true):x=y:=by
 unfold D0 at h;split at h
 ·rw[RZ h]
 ·simp only[Ds,aag]at h;obtain⟨rfl,rfl,rfl⟩:=h;rfl
 ·simp only[Ds,aag]at h;obtain⟨rfl,rfl,rfl,rfl⟩:=h;rfl
 ·cases h
theorem HH:∀{x y:List AV},zW x y=true->x=y
 |[],[],_=>rfl
 |[],_::_,h=>by cases h
 |_::_,[],h=>by cases h
 |a::r,b::s,h=>by
  simp only[zW,Ds]at h;rw[aaF h.1,HH h.2]
theorem R0{x y:ax}(h:yJ x y=true):x=y:=by
 unfold yJ at h;split at h
 ·rw[HH h]
 ·simp only[Ds,aag]at h;rw[h.1,z7 h.2]
 ·cases h
theorem HI:∀{m:Mem}{e:cf},Mem.get m e.key=some e->Mem.set m e=m
 |[],_,_=>rfl
 |x::r,e,h=>by
  simp only[Mem.get]at h;simp only[Mem.set];split at h
  ·rename_i Y;cases h;rw[aal rfl]
  ·rename_i Y;rw[aac Y,HI h]
theorem AR:∀{es:List cf}{m m':Mem}{ks:List Nat},pf m es=true->(∀e∈es,e.key∈ks)->(∀k∈ks,Mem.get m' k=Mem.get m k)->bp m' es=m'
 |[],_,_,_,_,_,_=>rfl
 |e::r,m,m',ks,h,Y,hm=>by
  simp only[pf,Ds]at h;have I:Mem.get m' e.key=some e:=by
   rw[hm _ (Y e (by simp))];obtain⟨h,_⟩:=h;cases O:Mem.get m e.key with
   |none=>rw[O]at h;cases h
   |some x=>
    rw[O]at h;simp only[Gg,Ds,aag]at h;have V:=(Mem.get_mem O).2;obtain⟨k,v,c⟩:=x;obtain⟨C3,C4,C5⟩:=e;simp only at h V;rw[h.1,R0 h.2,V]
  rw[bp,HI I];exact AR h.2 (λe he=>Y e (acI _ he)) hm
theorem lM{args:List Operand}{AC:Bool×AV}{out:Out}{es:List cf}{ks:List Nat}(h:cg X A2 S o args AC=some ⟨out,es,ks⟩):∃g AM A_,AC=(true,.fn g AM)/\gU S args=true/\
 dr A2 S.mem (keyOf o) (mz g) (gJ g (cM S args) AM) (X.fp (mz g)).uv=some ⟨out,A_,ks⟩/\(∀e∈es,e.key∈ks)/\∀m',(∀k∈ks,Mem.get m' k=Mem.get S.mem k)->bp m' A_=bp m' es:=by
 unfold cg at h;split at h
 ·rename_i g AM;split at h
  ·rename_i A5;generalize (X.fp (mz g)).uv.contains 2000=b at h;cases A4:dr A2 S.mem (keyOf o) (mz g) (gJ g (cM S args) AM) (X.fp (mz g)).uv with
   |none=>rw[A4]at h;cases b<;>cases h
   |some res=>
    obtain⟨C6,A_,C7⟩:=res;have Y:=JP A4;rw[A4]at h;cases b with
    |false=>cases h;exact⟨g,AM,es,rfl,A5,A4,Y,λ_ _=>rfl⟩
    |true=>
     simp only[wq,aas]at h;cases A7:pf S.mem A_ with
     |false=>rw[A7]at h;cases h;exact⟨g,AM,es,rfl,A5,A4,Y,λ_ _=>rfl⟩
     |true=>rw[A7]at h;cases h;exact⟨g,AM,A_,rfl,A5,A4,by simp,λm' hm=>AR A7 Y hm⟩
  ·cases h
 ·cases h
theorem VA(AA:iH X A2){AC:Operand}{args:Array Operand}{AU:Array TypeId}(U:o.op=.call {callee:=.value AC,args,argTypes:=AU})(A1:S.gl=X.gl)(H:∀t,o.dst=some t->t<S.n)
 (h:sA S o.dst (cg X A2 S o args.toList (S.aq AC))=some (e,A)):Kx X.P S o e A:=by
 cases Ab:cg X A2 S o args.toList (S.aq AC)with
 |none=>rw[Ab]at h;cases h
 |some res=>
  rw[Ab]at h;obtain⟨out,es,ks⟩:=res;obtain⟨g,AM,A_,Ao,A5,Ap,_,AW⟩:=lM Ab;have AW:=AW S.mem (λ_ _=>rfl);cases out with
  |ret x=>
   simp only[sA,aas,ab8]at h;obtain⟨rfl,rfl⟩:=h;refine⟨ll ..,kM ..,.inl rfl,λφ G a w E next R A3 _=>?_⟩;refine tG AA U Ao rfl A5 Ap A1 E (λAj V φ' w' v AD AE AJ=>?_) (λt Aj V=>by cases V);cases V;rw[AW]at AD AE AJ;exact A3 rfl φ' _ w' (AD.put o.dst H true x v (λ_=>AJ)) (by rw[eD];exact AE)
  |panic t x=>
   simp only[sA,aas,ab8]at h;obtain⟨rfl,rfl⟩:=h;refine⟨rfl,rfl,.inr ⟨t,x,rfl⟩,λφ G a w E next R _ AL=>?_⟩;refine tG AA U Ao rfl A5 Ap A1 E (λAj V=>by cases V) (λBa Aj V φ' w' v AD AE AJ=>?_);cases V;rw[AW]at AD AE AJ;exact AL t x rfl φ' a w' v AD AE AJ
theorem R3{x:Operand}(U:o.op=.panic x)(h:Bn S (S.aq x)=some (e,A)):Kx X.P S o e A:=by
 cases V:S.aq x with
 |mk g y=>
  rw[V]at h;unfold Bn at h;split at h
  ·rename_i t d heq;cases heq;simp only[aas,ab8]at h;obtain⟨rfl,rfl⟩:=h;refine⟨rfl,rfl,.inr ⟨t,d,rfl⟩,λφ G a w E next R _ AL=>?_⟩;have AJ:=E.aq x (by rw[V]);rw[V]at AJ;generalize Bb:a.eval x=u at AJ;cases AJ with
   |fL _ _ v H=>
    have B8:(execOp a.eval o).run X.P w=.halt (.panic (.iface t v)) w:=by
     simp[execOp,U,Bb,Instr.panic]
    unfold Oper.wp;rw[B8];exact AL t d rfl φ a w v E (aO.refl ..) H
  ·cases h
theorem yO(AA:iH X A2)(A1:S.gl=X.gl)(H:∀t,o.dst=some t->t<S.n)(h:gr X A2 S o (cJ X.P S o)=some (e,A)):Kx X.P S o e A:=by
 generalize A7:cJ X.P S o=r at h;cases r with
 |val c x=>
  simp only[gr]at h;split at h
  ·rename_i A5;cases h;exact z6 A7 A5 H
  ·cases h
 |cF c x Ae=>
  simp only[gr]at h;split at h
  ·rename_i A5;cases h;exact Ky A7 A5 H
  ·cases h
 |no=>
  simp only[gr,qj]at h;split at h
  ·rename_i AC args AU U;exact VA AA U A1 H h
  ·rename_i x U;exact R3 U h
  ·cases h
def yP(P:Program)(all:List Oper)(S:St)(o:Oper)(e:XE)(A:St):Prop:=
 A.n=S.n/\A.gl=S.gl/\(e=.normal\/∃t x,e=.panic t x)/\∀φ G a w,Rel φ G S a w->∀(next:Act->World->Prop)(R:Exit->Act->World->Prop),
  (e=.normal->∀φ' A9 w',Rel φ' G A A9 w'->aO φ S.mem w φ' A.mem w'->next A9 w')->
  (∀t x,e=.panic t x->∀φ' A9 w' v,Rel φ' G A A9 w'->aO φ S.mem w φ' A.mem w'->aI w' (Fo G φ' A.mem) x v->R (.panic [{v:=.iface t v,recovered:=false}]) A9 w')->
  if Region.wanted o (yielded all.toArray a.tmps)then o.wp P a w next R else next (a.put o.dst undef) w
theorem z8{all:List Oper}(h:Kx X.P S o e A)(hw:∀φ G a w,Rel φ G S a w->Region.wanted o (yielded all.toArray a.tmps)=true):yP X.P all S o e A:=by
 obtain⟨I,J,AF,AN⟩:=h;refine⟨I,J,AF,λφ G a w E next R A3 AL=>?_⟩;rw[aal (hw φ G a w E)];exact AN φ G a w E next R A3 AL
theorem yQ{φ:bE}{w:World}{F:Nat->Prop}{x:AV}(V:x=.aX\/x=.bM []):az φ w F x undef:=by
 rcases V with rfl|rfl
 ·exact .aX _
 ·exact .bM [] #[] rfl (λi c v h=>by simp at h)
theorem CP{all:List Oper}{j:Nat}{φ G a w}(h:Rel φ G S a w)(O:nO all S j=some (true,.bM [])):yielded all.toArray a.tmps j=none:=by
 unfold nO at O;split at O
 ·rename_i o U;split at O
  ·rename_i t AB;have I:=h.env t _ O;unfold yielded;simp only[adt,U,ac7,AB];rw[abF]at I;cases A6:a.tmps[t]? with
   |none=>rfl
   |some v=>
    rw[A6]at I;simp only[acR]at I;cases I;rfl
  ·cases O
 ·cases O
theorem HJ{all:List Oper}{gb:Bool}{x:AV}(V:gb=true->x=.aX\/x=.bM [])(H:∀t,o.dst=some t->t<S.n)(hw:∀φ G a w,Rel φ G S a w->Region.wanted o (yielded all.toArray a.tmps)=false):yP X.P all S o .normal (S.put o.dst gb x):=by
 refine⟨ll ..,kM ..,.inl rfl,λφ G a w E next R A3 _=>?_⟩;rw[aac (by rw[hw φ G a w E];simp)];exact A3 rfl φ _ w (E.put o.dst H gb x undef (λO=>yQ (V O))) (by rw[eD];exact aO.refl ..)
theorem E9{all:List Oper}{j:Nat}{AG t:Bool}(O:o.guard=some (j,AG))(A8:nO all S j=some (true,.d (.bool t))){φ G a w}(E:Rel φ G S a w):Region.wanted o (yielded all.toArray a.tmps)=(t == AG):=by
 have Au:=Rz E A8;simp only[Region.wanted,O,Au];cases t<;>cases AG<;>rfl
theorem Bv(S:St)(d b):(S.cz d b).n=S.n:=ll ..
theorem Aa(S:St)(d b):(S.cz d b).gl=S.gl:=kM ..
theorem CQ(S:St)(d b):(S.cz d b).mem=S.mem:=eD ..
theorem XT{all:List Oper}{S:St}{j:Nat}{t b:Bool}(A8:nO all S j=some (true,.d (.bool t)))(Z:t=b)(u:Nat):Env.lk (S.cz (kD all j) b).env u=Env.lk S.env u:=by
 subst Z;unfold nO at A8;unfold St.cz kD;split at A8
 ·rename_i Bc AI;split at A8
  ·rename_i d H;simp only[AI,H,St.put,Env.lk];split
   ·rename_i hu;subst hu;exact A8.symm
   ·rfl
  ·cases A8
 ·cases A8
theorem acD{all:List Oper}{S:St}{j:Nat}{t b:Bool}(A8:nO all S j=some (true,.d (.bool t)))(Z:t=b){φ G a w}(E:Rel φ G S a w):Rel φ G (S.cz (kD all j) b) a w:=
 Rel.eqv E ⟨(Bv ..).symm,(Aa ..).symm,(CQ ..).symm,λu=>(XT A8 Z u).symm⟩
theorem sG{all:List Oper}(AA:iH X A2)(A1:S.gl=X.gl)(H:∀t,o.dst=some t->t<S.n){md:Bool}(h:l7 X A2 md all S o=some (e,A)):yP X.P all S o e A:=by
 unfold l7 at h;split at h
 ·rename_i O;exact z8 (yO AA A1 H h) (λ_ _ _ _ _=>by simp[Region.wanted,O])
 ·rename_i j AG O;split at h
  ·rename_i t A8;replace A8:=Hu A8;have hw:∀φ G a w,Rel φ G S a w->Region.wanted o (yielded all.toArray a.tmps)=(t == AG):=λφ G a w E=>E9 O A8 E;have other:∀{r:cP},cJ X.P S o=r->(if (t == AG)=true then gr X A2 S o r else some (.normal,S.put o.dst true .aX))=some (e,A)->yP X.P all S o e A:=by
    intro r A7 h;split at h
    ·rename_i Z;exact z8 (yO AA A1 H (by rw[A7];exact h)) (λφ G a w E=>by rw[hw φ G a w E];exact Z)
    ·rename_i Z;cases h;exact HJ (λ_=>.inl rfl) H (λφ G a w E=>by rw[hw φ G a w E];simpa using Z)
   cases md with
   |true=>
    simp only at h;have BO:∀b,t=b->∀φ G a w,Rel φ G S a w->Rel φ G (S.cz (kD all j) b) a w:=λb Z φ G a w E=>acD A8 Z E;split at h
    ·rename_i Z;have Ak:t=AG:=by simpa using Z
     have:=yO (S:=S.cz (kD all j) AG) AA (by rw[Aa];exact A1) (λt AB=>by rw[Bv];exact H t AB) h;obtain⟨I,J,AF,AN⟩:=this;refine z8 ⟨by rw[I,Bv],by rw[J,Aa],AF,λφ G a w E next R A3 AL=>?_⟩ (λφ G a w E=>by rw[hw φ G a w E];exact Z);have BP:=AN φ G a w (BO AG Ak φ G a w E) next R
     rw[CQ]at BP;exact BP A3 AL
    ·rename_i Z;have Ak:t=!AG:=by cases t<;>cases AG<;>simp_all
     cases h;refine⟨by rw[ll,Bv],by rw[kM,Aa],.inl rfl,λφ G a w E next R A3 _=>?_⟩;rw[aac (by rw[hw φ G a w E];simpa using Z)];exact A3 rfl φ _ w ((BO _ Ak φ G a w E).put o.dst (λt AB=>by rw[Bv];exact H t AB) true (.bM []) undef (λ_=>yQ (.inr rfl))) (by rw[eD,CQ];exact aO.refl ..)
   |false=>
   simp only at h;unfold nF at h;split at h
   ·rename_i c x A7;split at h
    ·rename_i A4;cases h;cases Z:(t == AG)
     ·exact HJ (by simp) H (λφ G a w E=>by rw[hw φ G a w E];exact Z)
     ·exact z8 (z6 A7 (A4 Z) H) (λφ G a w E=>by rw[hw φ G a w E];exact Z)
    ·cases h
   ·rename_i r E;exact other rfl h
  ·rename_i A8;replace A8:=E6 A8;cases h;exact HJ (λ_=>.inr rfl) H (λφ G a w E=>by
    simp only[Region.wanted,O,CP E A8];cases AG<;>rfl)
  ·cases h
theorem fY{r:Option (XE×St)}{k:St->Option (XE×St)}{y:XE×St}(h:andThen r k=some y):(∃S1,r=some (.normal,S1)/\k S1=some y)\/(r=some y/\y.1≠.normal):=by
 unfold andThen at h;split at h
 ·rename_i S1;exact .inl ⟨S1,rfl,h⟩
 ·rename_i E;refine .inr ⟨h,λhe=>?_⟩;obtain⟨e,S1⟩:=y;simp only at he;subst he;exact E S1 h
theorem aO.post{n:Nat}{φ φ':bE}{G:Fr}{m:Mem}{w w':World}{e:XE}{A:St}{A9:Act}(A3:A.n=n)(E:Rel φ' G A A9 w')(Y:aO φ m w φ' A.mem w')(he:e=.normal):mw n φ G m w (Is e A) .normal A9 w':=
 ⟨φ',A,A3,⟨he.symm,rfl⟩,E,Y⟩
theorem yR{md:Bool}{all:List Oper}(AA:iH X A2):∀(ops:List Oper)(S:St)(e:XE)(A:St),eL X A2 md all ops S=some (e,A)->S.gl=X.gl->jc S.n ops=true->
 A.n=S.n/\A.gl=S.gl/\∀φ G a w,Rel φ G S a w->∀Q:Exit->Act->World->Prop,(∀e' A9 w',mw S.n φ G S.mem w (Is e A) e' A9 w'->Q e' A9 w')->wpList X.P all.toArray Q ops a w
 |[],S,e,A,h,A1,H=>by
  simp only[eL,aas,ab8]at h;obtain⟨rfl,rfl⟩:=h;exact⟨rfl,rfl,λφ G a w E Q Av=>Av _ _ _ (aO.post rfl E (aO.refl ..) rfl)⟩
 |o::rest,S,e,A,h,A1,H=>by
  simp only[jc,ajW,Ds]at H;obtain⟨AY,H⟩:=H;have AZ:∀t,o.dst=some t->t<S.n:=λt AB=>by rw[AB]at AY;simpa using AY
  simp only[eL]at h;rcases fY h with ⟨S1,I,J⟩|⟨I,J⟩
  ·obtain⟨Aq,B3,_,B9⟩:=sG AA A1 AZ I;obtain⟨Bd,Be,Bf⟩:=yR AA rest S1 e A J (B3.trans A1) (by rw[Aq];exact H);refine⟨Bd.trans Aq,Be.trans B3,λφ G a w E Q Av=>?_⟩;have:=B9 φ G a w E (wpList X.P all.toArray Q rest) Q
    (λ_ φ' A9 w' AD AE=>Bf φ' G A9 w' AD Q (λe' a2 Bg AL=>Av e' a2 Bg (by rw[<-Aq];exact AL.weaken AE))) (λt x he=>by cases he)
   unfold wpList;split
   ·rename_i hw;rw[aal hw]at this;exact .inl this
   ·rename_i hw;rw[aac hw]at this;exact this
  ·obtain⟨Aq,B3,C8,B9⟩:=sG AA A1 AZ I;refine⟨Aq,B3,λφ G a w E Q Av=>?_⟩;have:=B9 φ G a w E (wpList X.P all.toArray Q rest) Q
    (λhe=>absurd he J) (λt x he φ' A9 w' v AD AE AJ=>Av _ _ _ ⟨φ',A,t,x,v,rfl,AJ,Aq,⟨he.symm,rfl⟩,AD,AE⟩)
   unfold wpList;split
   ·rename_i hw;rw[aal hw]at this;exact .inl this
   ·rename_i hw;rw[aac hw]at this;exact this
theorem qo{all:List Oper}{ks:List Nat}{A S:St}(h:jM all o ks A S){x:Operand}(V:x∈o.op.operands.toList):A.aq x=S.aq x:=by
 cases x with
 |tmp t=>
  simp only[St.aq];rw[h.env t (by simp only[looks,abO,List.mem_filterMap];exact .inl ⟨.tmp t,V,rfl⟩)]
 |global g=>simp only[St.aq,h.gl]
 |_=>rfl
theorem Fa{all:List Oper}{ks:List Nat}{A S:St}(h:jM all o ks A S){j AG}(O:o.guard=some (j,AG)):Am.nO all A j=Am.nO all S j:=by
 unfold Am.nO;split
 ·rename_i Bc AI;split
  ·rename_i t AB;exact h.env t (by simp only[looks,abO,O,XL,AI,AB];exact .inr (by simp))
  ·rfl
 ·rfl
theorem tI{A S:St}:∀{l:List Operand},(∀x∈l,A.aq x=S.aq x)->gU A l=gU S l
 |[],_=>rfl
 |x::r,h=>by simp only[gU,h x (by simp),tI (l:=r) (λy Au=>h y (acI _ Au))]
theorem uG{A S:St}:∀{l:List Operand},(∀x∈l,A.aq x=S.aq x)->cM A l=cM S l
 |[],_=>rfl
 |x::r,h=>by simp only[cM,h x (by simp),uG (l:=r) (λy Au=>h y (acI _ Au))]
theorem HK{A S:St}(h:∀x∈o.op.operands.toList,A.aq x=S.aq x):fI A o=fI S o:=by
 unfold fI;split
 ·rfl
 ·exact tI h
theorem Fb{all:List Oper}{c:Bool}{x:AV}{gb:Bool}(H:∀t,o.dst=some t->t<S.n)(A7:cJ X.P S o=.val c x)(A5:(fI S o&&c)=true)
 (hw:∀A,jM all o (ik S o) A S->∀φ G a w,Rel φ G A a w->Region.wanted o (yielded all.toArray a.tmps)=true):jN X.P all S o ⟨ik S o,[],gb,x⟩:=by
 intro A M φ G a w E next R A3
 rw[aal (hw A M φ G a w E)];have V:∀x∈o.op.operands.toList,A.aq x=S.aq x:=λx V=>qo M V;have Aw:cJ X.P A o=.val c x:=by rw[E1 V M.mem];exact A7
 obtain⟨_,_,_,AN⟩:=z6 (gb:=gb) Aw (by rw[HK V];exact A5) (λt AB=>by rw[M.n];exact H t AB);exact AN φ G a w E next R (λ_ φ' A9 w' AD AE=>A3 φ' A9 w' AD AE) (λt x he=>by cases he)
theorem R4{all:List Oper}{c:Bool}{x:AV}{Ae:cf}(H:∀t,o.dst=some t->t<S.n)(A7:cJ X.P S o=.cF c x Ae)(A5:(fI S o&&c)=true)
 (hw:∀A,jM all o (ik S o) A S->∀φ G a w,Rel φ G A a w->Region.wanted o (yielded all.toArray a.tmps)=true):jN X.P all S o ⟨ik S o,[Ae],true,x⟩:=by
 intro A M φ G a w E next R A3
 rw[aal (hw A M φ G a w E)];have V:∀x∈o.op.operands.toList,A.aq x=S.aq x:=λx V=>qo M V;have Aw:cJ X.P A o=.cF c x Ae:=by rw[E1 V M.mem];exact A7
 obtain⟨_,_,_,AN⟩:=Ky Aw (by rw[HK V];exact A5) (λt AB=>by rw[M.n];exact H t AB);exact AN φ G a w E next R (λ_ φ' A9 w' AD AE=>A3 φ' A9 w' AD AE) (λt x he=>by cases he)
theorem rA{all:List Oper}{ks:List Nat}{gb:Bool}{x:AV}(H:∀t,o.dst=some t->t<S.n)(V:gb=true->x=.aX\/x=.bM [])
 (hw:∀A,jM all o ks A S->∀φ G a w,Rel φ G A a w->Region.wanted o (yielded all.toArray a.tmps)=false):jN X.P all S o ⟨ks,[],gb,x⟩:=by
 intro A M φ G a w E next R A3
 rw[aac (by rw[hw A M φ G a w E];simp)];exact A3 φ _ w (E.put o.dst (λt AB=>by rw[M.n];exact H t AB) gb x undef (λO=>yQ (V O))) (by simp only[aU.app,eD];exact aO.refl ..)
theorem OP{all:List Oper}(AA:iH X A2)(A1:S.gl=X.gl)(H:∀t,o.dst=some t->t<S.n){AC:Operand}{args:Array Operand}{AU:Array TypeId}(U:o.op=.call {callee:=.value AC,args,argTypes:=AU})
 {x:AV} {es:List cf} {ks:List Nat} (h:cg X A2 S o args.toList (S.aq AC)=some ⟨.ret x,es,ks⟩)
 (hw:∀A,jM all o ks A S->∀φ G a w,Rel φ G A a w->Region.wanted o (yielded all.toArray a.tmps)=true):jN X.P all S o ⟨ks,es,true,x⟩:=by
 intro A M φ G a w E next R A3
 rw[aal (hw A M φ G a w E)];have V:∀x∈o.op.operands.toList,A.aq x=S.aq x:=λx V=>qo M V;have Ax:∀x∈args.toList,A.aq x=S.aq x:=λx BA=>V x (by simp[U,Op.operands,Call.operands];exact .inr (by simpa using BA));obtain⟨g,AM,A_,Ao,A5,Ap,_,AW⟩:=lM h;have AW:=AW A.mem (λk Y=>M.mem k Y);have BB:A.aq AC=(true,.fn g AM):=by rw[V AC (by simp[U,Op.operands,Call.operands])];exact Ao
 have BC:dr A2 A.mem (keyOf o) (mz g) (gJ g (cM A args.toList) AM) (X.fp (mz g)).uv=some ⟨.ret x,A_,ks⟩:=by
  rw[uG Ax];exact CO M.keys Ap (λk Y=>M.mem k Y)
 refine tG AA U BB rfl (by rw[tI Ax];exact A5) BC (M.gl.trans A1) E (λAj Al φ' w' v AD AE AJ=>?_) (λt Aj Al=>by cases Al);cases Al;rw[AW]at AD AE AJ;exact A3 φ' _ w' (AD.put o.dst (λt AB=>by show t<A.n;rw[M.n];exact H t AB) true x v (λ_=>AJ)) (by simp only[aU.app,eD];exact AE)
theorem HM{all:List Oper}{S1:St}{p:aU}(AA:iH X A2)(A1:S.gl=X.gl)(H:∀t,o.dst=some t->t<S.n){r:cP}(A7:cJ X.P S o=r)(h:eF X A2 S o r=some (S1,p))
 (hw:∀(ks:List Nat) A,jM all o ks A S->∀φ G a w,Rel φ G A a w->Region.wanted o (yielded all.toArray a.tmps)=true):S1=p.app o S/\(∀e∈p.es,e.key∈p.ks)/\jN X.P all S o p:=by
 cases r with
 |val c x=>
  simp only[eF]at h;split at h
  ·rename_i A5;cases h;exact⟨rfl,by simp,Fb H A7 A5 (hw _)⟩
  ·cases h
 |cF c x Ae=>
  simp only[eF]at h;split at h
  ·rename_i A5;cases h;simp only[Ds,List.contains_eq_mem,aag]at A5;exact⟨rfl,by simpa using A5.2,R4 H A7 (by simpa using A5.1) (hw _)⟩
  ·cases h
 |no=>
  simp only[eF,m9]at h;split at h
  ·rename_i AC args AU U;cases Ab:cg X A2 S o args.toList (S.aq AC)with
   |none=>rw[Ab]at h;cases h
   |some res=>
    rw[Ab]at h;obtain⟨out,es,ks⟩:=res;cases out with
    |panic=>cases h
    |ret x=>
     cases h;refine⟨rfl,?_,OP AA A1 H U Ab (hw _)⟩;obtain⟨_,_,_,_,_,_,Y,_⟩:=lM Ab;exact Y
  ·cases h
theorem fU.refl(S:St):fU S S:=⟨rfl,rfl,rfl,λ_=>rfl⟩
theorem fU.symm{S A:St}(h:fU S A):fU A S:=⟨h.n.symm,h.gl.symm,h.mem.symm,λt=>(h.env t).symm⟩
theorem fU.trans{S A B0:St}(h:fU S A)(k:fU A B0):fU S B0:=⟨h.n.trans k.n,h.gl.trans k.gl,h.mem.trans k.mem,λt=>(h.env t).trans (k.env t)⟩
theorem fU.app{S A:St}(h:fU S A)(p:aU)(o:Oper):fU (p.app o S) (p.app o A):=
 ⟨by rw[tC,tC,h.n],by rw[qe,qe,h.gl],by simp only[aU.app,eD,h.mem],λt=>by rw[sr,sr,h.env]⟩
theorem jM.eqv{all:List Oper}{ks:List Nat}{A S S0:St}(h:jM all o ks A S)(he:fU S S0):jM all o ks A S0:=
 ⟨h.n.trans he.n,h.gl.trans he.gl,by rw[h.keys,he.mem],λt AB=>(h.env t AB).trans (he.env t),λk Y=>by rw[h.mem k Y,he.mem]⟩
theorem jN.eqv{P:Program}{all:List Oper}{S S0:St}{p:aU}(h:jN P all S o p)(he:fU S S0):jN P all S0 o p:=λA M=>h A (M.eqv he.symm)
theorem rr.eqv{P:Program}{Af:Mem->Prop}{all:List Oper}{S S0:St}{p:aU}(h:rr P Af all S o p)(he:fU S S0):rr P Af all S0 o p:=λA M=>h A (M.eqv he.symm)
theorem Bw{P:Program}{Af:Mem->Prop}{all ops:List Oper}{S S1:St}{ps:List aU}(h:Cert P Af all ops S ps S1):∀{S0:St},fU S S0->∃AK,Cert P Af all ops S0 ps AK/\fU S1 AK:=by
 induction h with
 |nil S=>exact λhe=>⟨_,.nil _,he⟩
 |cons o rest S p ps S1 Y Ar h E ih=>
  intro S0 he;obtain⟨AK,J,AF⟩:=ih (he.app p o);exact⟨AK,.cons o rest S0 p ps AK Y Ar (h.eqv he) J,AF⟩
theorem R6{all:List Oper}{S:St}{j:Nat}{t b:Bool}(A8:nO all S j=some (true,.d (.bool t)))(Z:t=b):fU (S.cz (kD all j) b) S:=
 ⟨Bv ..,Aa ..,CQ ..,λu=>XT A8 Z u⟩
theorem yS{md:Bool}{all:List Oper}{S1:St}{p:aU}(AA:iH X A2)(A1:S.gl=X.gl)(H:∀t,o.dst=some t->t<S.n)(h:ea X A2 md all S o=some (S1,p)):fU S1 (p.app o S)/\(∀e∈p.es,e.key∈p.ks)/\jN X.P all S o p:=by
 have yes:∀{r:cP},cJ X.P S o=r->eF X A2 S o r=some (S1,p)->(∀(ks:List Nat) A,jM all o ks A S->∀φ G a w,Rel φ G A a w->Region.wanted o (yielded all.toArray a.tmps)=true)->fU S1 (p.app o S)/\(∀e∈p.es,e.key∈p.ks)/\jN X.P all S o p:=by
  intro r A7 h hw;obtain⟨I,J,AF⟩:=HM AA A1 H A7 h hw;exact⟨by rw[I];exact fU.refl _,J,AF⟩
 unfold ea at h;split at h
 ·rename_i O;exact yes rfl h (λ_ _ _ _ _ _ _ _=>by simp[Region.wanted,O])
 ·rename_i j AG O;split at h
  ·rename_i t A8;replace A8:=Hu A8;have hw:∀(ks:List Nat) A,jM all o ks A S->∀φ G a w,Rel φ G A a w->Region.wanted o (yielded all.toArray a.tmps)=(t == AG):=
    λks A M φ G a w E=>E9 O (by rw[Fa M O];exact A8) E
   have other:∀{r:cP},cJ X.P S o=r->(if (t == AG)=true then eF X A2 S o r else some (S.put o.dst true .aX,⟨[],[],true,.aX⟩))=some (S1,p)->fU S1 (p.app o S)/\(∀e∈p.es,e.key∈p.ks)/\jN X.P all S o p:=by
    intro r A7 h;split at h
    ·rename_i Z;exact yes A7 h (λks A M φ G a w E=>by rw[hw ks A M φ G a w E];exact Z)
    ·rename_i Z;cases h;exact⟨fU.refl _,by simp,rA H (λ_=>.inl rfl) (λA M φ G a w E=>by rw[hw _ A M φ G a w E];simpa using Z)⟩
   cases md with
   |true=>
    simp only at h;split at h
    ·rename_i Z;have Ak:t=AG:=by simpa using Z
     have he:=R6 A8 Ak;obtain⟨I,J,AF⟩:=HM (S:=S.cz (kD all j) AG) AA (by rw[Aa];exact A1) (λt AB=>by rw[Bv];exact H t AB) rfl h
      (λks A M φ G a w E=>by rw[hw ks A (M.eqv he) φ G a w E];exact Z)
     exact⟨by rw[I];exact he.app p o,J,AF.eqv he⟩
    ·rename_i Z;have Ak:t=!AG:=by cases t<;>cases AG<;>simp_all
     cases h;have he:=R6 A8 Ak;exact⟨he.app ⟨[],[],true,.bM []⟩ o,by simp,rA H (λ_=>.inr rfl) (λA M φ G a w E=>by rw[hw _ A M φ G a w E];simpa using Z)⟩
   |false=>
   simp only at h;unfold qk at h;split at h
   ·rename_i c x A7;split at h
    ·rename_i A4;cases h;refine⟨fU.refl _,by simp,?_⟩;cases Z:(t == AG)
     ·exact rA H (by simp) (λA M φ G a w E=>by rw[hw _ A M φ G a w E];exact Z)
     ·exact Fb H A7 (A4 Z) (λA M φ G a w E=>by rw[hw _ A M φ G a w E];exact Z)
    ·cases h
   ·exact other rfl h
  ·rename_i A8;replace A8:=E6 A8;cases h;exact⟨fU.refl _,by simp,rA H (λ_=>.inr rfl) (λA M φ G a w E=>by
    have:=CP E (by rw[Fa M O];exact A8);simp only[Region.wanted,O,this];cases AG<;>rfl)⟩
  ·cases h
inductive jk(T:Nat->St->Oper->aU->Prop):Nat->List Oper->St->List aU->Prop
 |nil (i S):jk T i [] S []
 |cons (i o rest S p ps) (h:T i S o p) (E:jk T (i+1) rest (p.app o S) ps):jk T i (o::rest) S (p::ps)
theorem jk.eqv{T:Nat->St->Oper->aU->Prop}(As:∀i S S0 o p,fU S S0->T i S o p->T i S0 o p){i:Nat}{ops:List Oper}{S:St}{ps:List aU}(h:jk T i ops S ps):∀{S0:St},fU S S0->jk T i ops S0 ps:=by
 induction h with
 |nil i S=>exact λ_=>.nil _ _
 |cons i o rest S p ps h E ih=>exact λhe=>.cons _ _ _ _ _ _ (As _ _ _ _ _ he h) (ih (he.app p o))
theorem jk.mono{T BQ:Nat->St->Oper->aU->Prop}{i:Nat}{ops:List Oper}{S:St}{ps:List aU}(h:jk T i ops S ps):(∀k S o p,i<=k->T k S o p->BQ k S o p)->jk BQ i ops S ps:=by
 induction h with
 |nil i S=>exact λ_=>.nil _ _
 |cons i o rest S p ps h E ih=>exact λY=>.cons _ _ _ _ _ _ (Y _ _ _ _ (aae _) h) (ih λk S o p hi=>Y k S o p (by omega))
theorem jk.len{T:Nat->St->Oper->aU->Prop}{i:Nat}{ops:List Oper}{S:St}{ps:List aU}(h:jk T i ops S ps):ps.length=ops.length:=by
 induction h with
 |nil i S=>rfl
 |cons i o rest S p ps h E ih=>simp[ih]
theorem jk.at{T:Nat->St->Oper->aU->Prop}{all:List Oper}{ps:List aU}{i:Nat}{rest:List Oper}{S0 S:St}{AX:List aU}(h:jk T i rest S AX):∀(pre:List Oper)(pp:List aU),pre.length=i->pre.length=pp.length->all=pre++rest->ps=pp++AX->aC all ps S0 (List.range pre.length)=S->
 ∀j o p,pre.length<=j->all[j]?=some o->ps[j]?=some p->T j (aC all ps S0 (List.range j)) o p:=by
 induction h with
 |nil i S=>
  intro pre pp hi AS M BD BE j o p AI U;simp only[afn]at M;subst M;rw[afs (by omega)]at U;cases U
 |cons i o rest S p AX As E ih=>
  intro pre pp hi AS M BD BE j BR Bh AI BF BG;have Ag:all[pre.length]?=some o:=by rw[M];simp
  have An:ps[pre.length]?=some p:=by rw[BD,AS];simp
  rcases Nat.eq_or_lt_of_le AI with rfl|AI
  ·rw[Ag]at BF;rw[An]at BG;cases BF;cases BG;rw[BE,hi];exact As
  ·exact ih (pre++[o]) (pp++[p]) (by simp[hi]) (by simp[AS]) (by rw[M];simp) (by rw[BD];simp) (by
    rw[ab1,acS,List.range_succ,m7,BE];simp[aC,Ag,An]) j BR Bh (by simp;omega) BF BG
theorem zU.eqv{P:Program}{all:List Oper}{S S0:St}{p:aU}{t:TypeId}{x:D}(h:zU P all S o p t x)(he:fU S S0):zU P all S0 o p t x:=λA M=>h A (M.eqv he.symm)
def TT(P:Program)(all:List Oper)(j:Nat)(Ah:List Nat)(t:TypeId)(x:D)(N:Nat)(S1:St)(i:Nat)(S:St)(o:Oper)(p:aU):Prop:=
 (∀e∈p.es,e.key∈p.ks)/\(i≠j->(i<j\/Ah.contains i=true)->jN P all S o p)/\(i=j->zU P all S o p t x/\S1.n=S.n/\S1.gl=S.gl/\S1.mem=ji N (bp S.mem p.es))
theorem TT.eqv{P:Program}{all:List Oper}{j:Nat}{Ah:List Nat}{t:TypeId}{x:D}{N:Nat}{S1:St}(i:Nat)(S S0:St)(o:Oper)(p:aU)(he:fU S S0)(h:TT P all j Ah t x N S1 i S o p):TT P all j Ah t x N S1 i S0 o p:=
 ⟨h.1,λa b=>(h.2.1 a b).eqv he,λa=>⟨(h.2.2 a).1.eqv he,(h.2.2 a).2.1.trans he.n,(h.2.2 a).2.2.1.trans he.gl,by rw[<-he.mem];exact (h.2.2 a).2.2.2⟩⟩
theorem acE{X:Ctx}:iH X (λ_ _ _=>none):=λg args cs out l h=>by cases h
theorem yT{md:Bool}{all:List Oper}{Ah:List Nat}:∀(ops:List Oper)(i:Nat)(S:St)(A0 AX:List aU),qG X md all Ah i ops S A0=some AX->S.gl=X.gl->jc S.n ops=true->
 ∃ps,AX=A0.reverse++ps/\jk (λi S o p=>(∀e∈p.es,e.key∈p.ks)/\(Ah.contains i=true->jN X.P all S o p)) i ops S ps
 |[],i,S,A0,AX,h,A1,H=>by
  simp only[qG,aas]at h;exact⟨[],by simp[h],.nil _ _⟩
 |o::rest,i,S,A0,AX,h,A1,H=>by
  simp only[jc,ajW,Ds]at H;obtain⟨AY,H⟩:=H;have AZ:∀t,o.dst=some t->t<S.n:=λt AB=>by rw[AB]at AY;simpa using AY
  simp only[qG]at h;cases AI:Ah.contains i with
  |true=>
   rw[AI]at h;simp only at h;cases O:ea X (λ_ _ _=>none) md all S o with
   |none=>rw[O]at h;cases h
   |some q=>
    obtain⟨AK,p⟩:=q;rw[O]at h;simp only at h;obtain⟨heq,At,Ac⟩:=yS acE A1 AZ O;obtain⟨ps,I,J⟩:=yT rest (i+1) AK (p::A0) AX h (by rw[heq.gl,qe];exact A1) (by rw[heq.n,tC];exact H);exact⟨p::ps,by rw[I];simp,.cons _ _ _ _ _ _ ⟨At,λ_=>Ac⟩ (J.eqv (λ_ _ _ _ _ he h=>⟨h.1,λa=>(h.2 a).eqv he⟩) heq)⟩
  |false=>
   rw[AI]at h;simp only at h;obtain⟨ps,I,J⟩:=yT rest (i+1) (S.put o.dst false .aX) _ AX h (by rw[kM];exact A1) (by rw[ll];exact H);exact⟨⟨[],[],false,.aX⟩::ps,by rw[I];simp,.cons _ _ _ _ _ _ ⟨by simp,λhh=>by rw[AI]at hh;cases hh⟩ J⟩
theorem Fc{q:Hv}(h:j7 X A2 S o=some q):o.guard=none/\cJ X.P S o=.no/\∃AC args AU,o.op=.call {callee:=.value AC,args,argTypes:=AU}/\cg X A2 S o args.toList (S.aq AC)=some ⟨.panic q.t q.x,q.es,q.ks⟩/\q.S={S with mem:=bp S.mem q.es}:=by
 unfold j7 at h;split at h
 ·rename_i O;unfold Bo at h;split at h
  ·rename_i A7;refine⟨O,A7,?_⟩;unfold Hx at h;split at h
   ·rename_i AC args AU U;unfold uy at h;split at h
    ·rename_i t x es ks A4;cases h;exact⟨AC,args,AU,U,A4,rfl⟩
    ·cases h
   ·cases h
  ·cases h
 ·cases h
theorem HN{args:List Operand}{AC:Bool×AV}{out:Out}{es:List cf}{ks:List Nat}(Ab:cg X A2 S o args AC=some ⟨out,es,ks⟩):∀e∈es,e.key∈ks:=by
 obtain⟨_,_,_,_,_,_,Y,_⟩:=lM Ab;exact Y
theorem OQ{all:List Oper}(AA:iH X A2)(A1:S.gl=X.gl){AC:Operand}{args:Array Operand}{AU:Array TypeId}(O:o.guard=none)(U:o.op=.call {callee:=.value AC,args,argTypes:=AU})
 {t:TypeId} {x:D} {es:List cf} {ks:List Nat} (h:cg X A2 S o args.toList (S.aq AC)=some ⟨.panic t x,es,ks⟩):zU X.P all S o ⟨ks,es,true,.aX⟩ t x:=by
 intro A M φ G a w E next R A3
 rw[aal (by simp[Region.wanted,O])];have V:∀x∈o.op.operands.toList,A.aq x=S.aq x:=λx V=>qo M V;have Ax:∀x∈args.toList,A.aq x=S.aq x:=λx BA=>V x (by simp[U,Op.operands,Call.operands];exact .inr (by simpa using BA));obtain⟨g,AM,A_,Ao,A5,Ap,_,AW⟩:=lM h;have AW:=AW A.mem (λk Y=>M.mem k Y);have BB:A.aq AC=(true,.fn g AM):=by rw[V AC (by simp[U,Op.operands,Call.operands])];exact Ao
 have BC:dr A2 A.mem (keyOf o) (mz g) (gJ g (cM A args.toList) AM) (X.fp (mz g)).uv=some ⟨.panic t x,A_,ks⟩:=by
  rw[uG Ax];exact CO M.keys Ap (λk Y=>M.mem k Y)
 refine tG AA U BB rfl (by rw[tI Ax];exact A5) BC (M.gl.trans A1) E (λAj Al=>by cases Al) (λBa Aj Al φ' w' v AD AE AJ=>?_);cases Al;rw[AW]at AD AE AJ;exact A3 φ' a w' v AD AE AJ
theorem AT{md:Bool}{AH:Nat×List (List Nat)}{all:List Oper}(AA:iH X A2):∀(ops:List Oper)(S:St)(A0:List aU)(e:XE)(S1:St),gK X A2 md AH all ops S A0=some (e,S1)->S.gl=X.gl->jc S.n ops=true->
 (e=.normal/\∃ps AK,Cert X.P (λ_=>True) all ops S ps AK/\fU S1 AK/\nW AH.2 (A0.reverse++ps)=true)\/
 (∃t x j ps,e=.panic t x/\A0.length<=j/\j<A0.length+ops.length/\jk (TT X.P all j (AH.2.getD j []) t x (AH.1+fe (A0.reverse++ps)+1) S1) A0.length ops S ps/\nW AH.2 (A0.reverse++ps)=true/\yD (A0.reverse++ps) (AH.2.getD j [])=true/\S1.env=[])
 |[],S,A0,e,S1,h,A1,H=>by
  simp only[gK]at h;split at h
  ·rename_i AQ;cases h;exact .inl ⟨rfl,[],S,.nil S,fU.refl _,by simpa using AQ⟩
  ·cases h
 |o::rest,S,A0,e,S1,h,A1,H=>by
  have Bi:=H;simp only[jc,ajW,Ds]at H;obtain⟨AY,H⟩:=H;have AZ:∀t,o.dst=some t->t<S.n:=λt AB=>by rw[AB]at AY;simpa using AY
  simp only[gK]at h;cases AL:j7 X A2 S o with
  |some q=>
   right;rw[AL]at h;simp only[mA,OJ]at h;obtain⟨O,A7,AC,args,AU,U,A4,BS⟩:=Fc AL;obtain⟨C9,t,x,es,ks⟩:=q;simp only at A4 BS h;subst BS;cases BH:qG X md all (AH.2.getD A0.length []) (A0.length+1) rest (({S with mem:=bp S.mem es}:St).put o.dst true .aX) (⟨ks,es,true,.aX⟩::A0)with
   |none=>rw[BH]at h;cases h
   |some AX=>
    rw[BH]at h;simp only[OI]at h;split at h
    ·rename_i B4;simp only[Ds]at B4;obtain⟨rfl,rfl⟩:XE.panic t x=e/\St.kill {S with mem:=bp S.mem es} (AH.1+fe AX+1)=S1:=by simpa using h
     obtain⟨ps,rfl,Bj⟩:=yT rest (A0.length+1) _ _ _ BH (by rw[kM];exact A1) (by rw[ll];exact H);have Ag:(⟨ks,es,true,.aX⟩::A0:List aU).reverse++ps=A0.reverse++(⟨ks,es,true,.aX⟩::ps):=by simp
     rw[Ag]at B4⊢;refine⟨t,x,A0.length,⟨ks,es,true,.aX⟩::ps,rfl,aae _,by simp,.cons _ _ _ _ _ _ ⟨HN A4,λhh=>absurd rfl hh,λ_=>⟨OQ AA A1 O U A4,rfl,rfl,rfl⟩⟩ (Bj.mono λk S o p Y As=>?_),B4.1,B4.2,rfl⟩;exact⟨As.1,λ_ hh=>As.2 (hh.resolve_left (by omega)),λhh=>by omega⟩
    ·cases h
  |none=>
   rw[AL]at h;simp only[mA]at h;cases O:ea X A2 md all S o with
   |none=>rw[O]at h;cases h
   |some q=>
    obtain⟨AK,p⟩:=q;rw[O]at h;simp only[wA]at h;obtain⟨heq,At,Ac⟩:=yS AA A1 AZ O;rcases AT AA rest AK (p::A0) e S1 h (by rw[heq.gl,qe];exact A1) (by rw[heq.n,tC];exact H)with ⟨he,ps,BI,A4,BJ,AQ⟩|⟨t,x,j,ps,he,Bm,Bq,A4,AQ,BT,Br⟩
    ·left;obtain⟨Ai,Ay,Az⟩:=Bw A4 heq;exact⟨he,p::ps,Ai,.cons o rest S p ps Ai At (λ_ _=>trivial) Ac.toI Ay,BJ.trans Az,by simpa using AQ⟩
    ·right;have Ag:(p::A0).reverse++ps=A0.reverse++(p::ps):=by simp
     rw[Ag]at AQ BT A4;simp only[ab2]at Bm Bq A4;exact⟨t,x,j,p::ps,he,by omega,by simp;omega,.cons _ _ _ _ _ _ ⟨At,λ_ _=>Ac,λhh=>by omega⟩ (A4.eqv TT.eqv heq),AQ,BT,Br⟩
def cellOf:Bool->ax->Nat->Option AV
 |false,.box cs,j=>cs[j]?
 |true,.vv ag (some x),j=>if ag.length=j then some x else none
 |_,_,_=>none
def qI(A':List Cl)(m:Mem):Prop:=∀q∈A',∃c,Mem.get m q.k=some ⟨q.k,q.v,c⟩/\cellOf q.vv c q.j=some q.x
theorem OR{c:ax}{j:Nat}{x:AV}(h:cellOf false c j=some x):∃cs,c=.box cs/\cs[j]?=some x:=by
 cases c with
 |box cs=>exact⟨cs,rfl,h⟩
 |dead=>cases h
 |vec _ _=>cases h
 |vv _ _=>cases h
theorem R9{c:ax}{j:Nat}{x:AV}(h:cellOf true c j=some x):∃ag,c=.vv ag (some x)/\ag.length=j:=by
 cases c with
 |box cs=>cases h
 |dead=>cases h
 |vec _ _=>cases h
 |vv ag y=>
  cases y with
  |none=>cases h
  |some y=>
   simp only[cellOf]at h;split at h
   ·rename_i AI;cases h;exact⟨ag,rfl,AI⟩
   ·cases h
theorem Sa:∀{x y:AV},XN x y=true->x=y:=by
 intro x y h;unfold XN at h;split at h
 ·simp only[Ds,aag]at h;obtain⟨⟨⟨rfl,rfl⟩,rfl⟩,rfl⟩:=h;rfl
 ·simp only[Ds,aag]at h;obtain⟨⟨rfl,rfl⟩,rfl⟩:=h;rfl
 ·simp only[Ds,aag]at h;obtain⟨rfl,rfl⟩:=h;rfl
 ·simp only[aag]at h;subst h;rfl
 ·cases h
theorem wF{m:Mem}:∀{fl:List (Nat×Nat)}{A':List Cl},fw m fl=some A'->qI A' m
 |[],A',h=>by simp[fw]at h;subst h;exact λq A6=>by simp at A6
 |(k,j)::r,A',h=>by
  unfold fw at h;split at h
  ·rename_i key v cs l O AS;split at h
   ·rename_i x V;cases h;have Y:key=k:=(Mem.get_mem O).2;subst Y;intro q A6;rcases aak.1 A6 with rfl|A6
    ·exact⟨.box cs,O,V⟩
    ·exact wF AS q A6
   ·cases h
  ·rename_i key v ag x l O AS;cases h;have Y:key=k:=(Mem.get_mem O).2;subst Y;intro q A6;rcases aak.1 A6 with rfl|A6
   ·exact⟨.vv ag (some x),O,by simp[cellOf]⟩
   ·exact wF AS q A6
  ·cases h
theorem VC{q:Cl}{v:Nat}{c:ax}(h:clE q v c=true):v=q.v/\cellOf q.vv c q.j=some q.x:=by
 unfold clE at h;split at h
 ·rename_i cs;simp only[Ds,aag,aj8]at h;obtain⟨⟨I,J⟩,AF⟩:=h;refine⟨J,?_⟩;rw[I];simp only[cellOf];unfold clB at AF;split at AF
  ·rename_i x V;rw[V,Sa AF]
  ·cases AF
 ·rename_i ag x;simp only[Ds,aag]at h;obtain⟨⟨⟨I,J⟩,AF⟩,AN⟩:=h;refine⟨J,?_⟩;rw[I];simp only[cellOf,AF,afh,Sa AN]
 ·cases h
theorem HP{e:cf}:∀{A':List Cl},OK e A'=true->∀q∈A',e.key=q.k->∃c,e=⟨q.k,q.v,c⟩/\cellOf q.vv c q.j=some q.x
 |[],_,q,A6,_=>by simp at A6
 |p::r,h,q,A6,Y=>by
  simp only[OK,Ds]at h;rcases aak.1 A6 with rfl|A6
  ·have I:=h.1;simp only[Y,decide_true]at I;obtain⟨key,ak,cont⟩:=e;simp only at Y I;subst Y;obtain⟨rfl,J⟩:=VC I;exact⟨cont,rfl,J⟩
  ·exact HP h.2 q A6 Y
theorem Fh{A':List Cl}:∀{es:List cf},CI A' es=true->∀m,qI A' m->qI A' (bp m es)
 |[],_,m,hm=>hm
 |e::r,h,m,hm=>by
  simp only[CI,Ds]at h;refine Fh h.2 _ (λq A6=>?_);obtain⟨cs,I,J⟩:=hm q A6;by_cases Y:e.key=q.k
  ·obtain⟨Bs,he,V⟩:=HP h.1 q A6 Y;refine⟨Bs,?_,V⟩;have Bt:e.key∈m.map (·.key):=by
    obtain⟨AF,AN⟩:=Mem.get_mem I;rw[Y];exact abW AF
   rw[<-Y,Mem.nI Bt,he]
  ·exact⟨cs,by rw[Mem.nJ Y];exact I,J⟩
theorem yU{b:Bool}{k v j:Nat}{x:AV}:∀{A':List Cl},zX b k v j A'=some x->∃q∈A',q.vv=b/\q.k=k/\q.v=v/\q.j=j/\q.x=x
 |[],h=>by simp[zX]at h
 |q::r,h=>by
  unfold zX at h;split at h
  ·rename_i Z;simp only[Ds,aag]at Z;cases h;exact⟨q,by simp,Z.1.1.1.symm,Z.1.1.2.symm,Z.1.2.symm,Z.2.symm,rfl⟩
  ·obtain⟨BK,I,J⟩:=yU h;exact⟨BK,by simp[I],J⟩
theorem wG{b:Bool}{k v:Nat}:∀{A':List Cl},Bp b k v A'=true->∃q∈A',q.vv=b/\q.k=k/\q.v=v
 |[],h=>by simp[Bp]at h
 |q::r,h=>by
  unfold Bp at h;split at h
  ·rename_i Z;simp only[Ds,aag]at Z;exact⟨q,by simp,Z.1.1.symm,Z.1.2.symm,Z.2.symm⟩
  ·obtain⟨BK,I,J⟩:=wG h;exact⟨BK,by simp[I],J⟩
theorem D5{A':List Cl}{m:Mem}(hm:qI A' m){q:Cl}(A6:q∈A')(AJ:q.vv=false):∃cs,Mem.get m q.k=some ⟨q.k,q.v,.box cs⟩/\cs[q.j]?=some q.x:=by
 obtain⟨c,I,J⟩:=hm q A6;rw[AJ]at J;obtain⟨cs,rfl,AF⟩:=OR J;exact⟨cs,I,AF⟩
theorem Sb{A':List Cl}{m:Mem}(hm:qI A' m){q:Cl}(A6:q∈A')(AJ:q.vv=true):∃ag,Mem.get m q.k=some ⟨q.k,q.v,.vv ag (some q.x)⟩/\ag.length=q.j:=by
 obtain⟨c,I,J⟩:=hm q A6;rw[AJ]at J;obtain⟨cs,rfl,AF⟩:=R9 J;exact⟨cs,I,AF⟩
theorem VD{P:Program}{A':List Cl}{S:St}{x:AV}(h:zY P A' S o.op=some x)(hm:qI A' S.mem):∃c,cJ P S o=.val c x/\(fI S o&&c)=true:=by
 unfold zY at h;split at h
 ·rename_i t y U;unfold XO at h;split at h
  ·rename_i k v off heq;split at h
   ·rename_i BL B';obtain⟨q,A6,Ad,rfl,rfl,rfl,rfl⟩:=yU h;obtain⟨cs,I,J⟩:=D5 hm A6 Ad;have B2:q.j<cs.length:=(aaa.1 J).1;refine⟨true,?_,by simp[fI,U,gU,Op.operands,heq]⟩;unfold cJ;rw[U];simp only[heq,lf,I,BL,J,acR];simp only[afw]at B';simp[B',B2]
   ·cases h
  ·rename_i k v i j heq;split at h
   ·rename_i BL B' AI;obtain⟨q,A6,Ad,rfl,rfl,rfl,rfl⟩:=yU h;obtain⟨ag,I,J⟩:=Sb hm A6 Ad;simp only[aag]at AI;subst AI;refine⟨true,?_,by simp[fI,U,gU,Op.operands,heq]⟩;unfold cJ;rw[U];simp only[heq,lf,I,BL];simp only[afw]at B';simp[B',J]
   ·cases h
  ·cases h
 ·rename_i s y f U;unfold XP at h;split at h
  ·rename_i n k v off A3 heq;split at h
   ·rename_i A4;cases h;obtain⟨q,A6,Ad,rfl,rfl⟩:=wG A4;obtain⟨cs,I,J⟩:=D5 hm A6 Ad;refine⟨true,?_,by simp[fI,U,gU,Op.operands,heq]⟩;unfold cJ;rw[U];simp[heq,ny,A3,I]
   ·cases h
  ·cases h
 ·rename_i y U;unfold XQ at h;split at h
  ·rename_i k v off heq;split at h
   ·rename_i A4;cases h;obtain⟨q,A6,Ad,rfl,rfl⟩:=wG A4;obtain⟨cs,I,J⟩:=D5 hm A6 Ad;refine⟨true,?_,by simp[fI,U,gU,Op.operands,heq]⟩;unfold cJ;rw[U];simp[heq,iw,I]
   ·cases h
  ·cases h
 ·rename_i t y z U;unfold XR at h;split at h
  ·rename_i e k v off len CA n Bu heq BU;split at h
   ·rename_i BV A4 BW BX;cases h;simp only[aag]at BV BW BX;obtain⟨q,A6,Ad,rfl,rfl⟩:=wG A4;obtain⟨ag,I,J⟩:=Sb hm A6 Ad;refine⟨true,?_,by simp[fI,U,gU,Op.operands,heq,BU]⟩;unfold cJ;rw[U];simp[heq,BU,lB,Bu,BV,I,BW,BX]
   ·cases h
  ·cases h
 ·cases h
theorem Sc{P:Program}{A':List Cl}{A S:St}(h:∀x∈o.op.operands.toList,A.aq x=S.aq x):zY P A' A o.op=zY P A' S o.op:=by
 unfold zY;split
 ·rename_i t y U;rw[h y (by simp[U,Op.operands])]
 ·rename_i s y f U;rw[h y (by simp[U,Op.operands])]
 ·rename_i y U;rw[h y (by simp[U,Op.operands])]
 ·rename_i t y z U;rw[h y (by simp[U,Op.operands]),h z (by simp[U,Op.operands])]
 ·rfl
theorem OS{all:List Oper}{A':List Cl}{x:AV}(H:∀t,o.dst=some t->t<S.n)(h:zZ X.P A' S o=some x):rr X.P (qI A') all S o ⟨[],[],true,x⟩:=by
 intro A M Ar φ G a w E next R A3
 unfold zZ at h;split at h
 ·rename_i O;rw[aal (by simp[Region.wanted,O])];have V:∀x∈o.op.operands.toList,A.aq x=S.aq x:=λx V=>qo M V;obtain⟨c,Aw,A5⟩:=VD (by rw[Sc V];exact h) Ar;obtain⟨_,_,_,AN⟩:=z6 (gb:=true) Aw A5 (λt AB=>by rw[M.n];exact H t AB);exact AN φ G a w E next R (λ_ φ' A9 w' AD AE=>A3 φ' A9 w' AD AE) (λt x he=>by cases he)
 ·cases h
theorem JQ{l:List Nat}{r:List Oper}(h:vi l r=true):l=[]/\r=[]:=by
 cases l<;>cases r<;>simp_all [vi]
theorem VE{all:List Oper}{AH:List (List Nat)}{ps:List aU}(A7:Bl all AH=true)(AS:ps.length+1=all.length)(A3:AH.getD (all.length-1) []=[])(H:nW AH ps=true):lZ all (ps++[AP])=true:=by
 have Bx:=AO A7 A3;unfold lZ;refine abN.2 λj AI=>?_;have I:=abN.1 A7 j AI;have By:j<all.length:=ab3.1 AI;unfold yA at I;unfold Gf;have Bz:(ps++[AP])[j]?=some ((ps++[AP])[j]'(by simp;omega)):=by simp[AS,By]
 rw[Bz];cases U:all[j]? with
 |none=>rw[U]at I;cases I
 |some o=>
  rw[U]at I;simp only[Ds,abN,aag,ago,ab3]at I⊢;refine⟨I.1,λi hi=>?_⟩;by_cases B7:j+1=all.length
  ·left;have:=Bx i (by omega);rw[<-B7]at this;simpa using this
  ·rcases I.2 i hi with J|J
   ·exact .inl J
   ·right;have B5:j<ps.length:=by omega
    have C':(ps++[AP])[i]?=some (ps[i]'(by omega)):=by rw[aao (by omega)];simp[show i<ps.length by omega]
    have C0:(ps++[AP])[j]'(by simp;omega)=ps[j]'B5:=List.getElem_append_left B5
    rw[C0];cases BY:all[i]? with
    |none=>rw[BY]at J;cases J
    |some BR=>
     rw[BY]at J;rw[C'];simp only[Ds]at J;simp only[yt];have Ag:=wi (pb H i _ (acu (show i<ps.length by omega))) j (by simpa using J.2.1) _ (acu B5);have An:=wi (pb H j _ (acu B5)) i (by simpa using J.2.2) _ (acu (show i<ps.length by omega));have BZ:=J.1;simp only[Bk,Ds]at BZ;simp only[Ds];exact⟨⟨BZ,Ag⟩,An⟩
def Sd(P:Program)(Af:Mem->Prop)(AH:List (List Nat))(all ops:List Oper)(S:St)(A0:List aU)(e:XE)(S1:St):Prop:=
 (e=.normal/\∃ps AK,Cert P Af all ops S ps AK/\fU S1 AK/\nW AH (A0.reverse++ps)=true)\/
  (∃init ol ps AK,ops=init++[ol]/\Cert P Af all init S ps AK/\AH.getD (all.length-1) []=[]/\nW AH (A0.reverse++ps)=true/\yP P all AK ol e S1)
theorem yP.eqv{P:Program}{all:List Oper}{S S0 S1:St}{e:XE}(h:yP P all S o e S1)(he:fU S S0):yP P all S0 o e S1:=by
 obtain⟨I,J,AF,AN⟩:=h;refine⟨I.trans he.n,J.trans he.gl,AF,λφ G a w E next R A3 AL=>?_⟩;have:=AN φ G a w (E.eqv he.symm) next R
 rw[he.mem]at this;exact this A3 AL
theorem Fi{md:Bool}{AH:List (List Nat)}{A':List Cl}{all:List Oper}(AA:iH X A2):∀(ops:List Oper)(S:St)(A0:List aU)(e:XE)(S1:St),A0.length+ops.length=all.length->pg X A2 md AH A' all ops S A0=some (e,S1)->S.gl=X.gl->jc S.n ops=true->
 Sd X.P (qI A') AH all ops S A0 e S1
 |[],S,A0,e,S1,_,h,A1,H=>by
  simp only[pg]at h;split at h
  ·rename_i AQ;cases h;exact .inl ⟨rfl,[],S,.nil S,fU.refl _,by simpa using AQ⟩
  ·cases h
 |o::rest,S,A0,e,S1,B_,h,A1,H=>by
  have Bi:=H;simp only[jc,ajW,Ds]at H;obtain⟨AY,H⟩:=H;have AZ:∀t,o.dst=some t->t<S.n:=λt AB=>by rw[AB]at AY;simpa using AY
  simp only[ab2]at B_;simp only[pg]at h;cases BM:vi (AH.getD A0.length []) rest with
  |true=>
   rw[BM]at h;simp only[OL]at h;obtain⟨C1,rfl⟩:=JQ BM;split at h
   ·rename_i AQ;right;refine⟨[],o,[],S,rfl,.nil S,?_,by simpa using AQ,?_⟩
    ·have:all.length-1=A0.length:=by simp at B_;omega
     rw[this];exact C1
    ·simp only[eL]at h;rcases fY h with ⟨BI,I,J⟩|⟨I,J⟩
     ·cases J;exact sG AA A1 AZ I
     ·exact sG AA A1 AZ I
   ·cases h
  |false=>
  rw[BM]at h;simp only at h;have glue:∀(p:aU)(A:St),(∀e∈p.es,e.key∈p.ks)->(∀m,qI A' m->qI A' (bp m p.es))->rr X.P (qI A') all S o p->fU A (p.app o S)->pg X A2 md AH A' all rest A (p::A0)=some (e,S1)->Sd X.P (qI A') AH all (o::rest) S A0 e S1:=by
   intro p A Y Ar Ac heq B8;rcases Fi AA rest A (p::A0) e S1 (by simp;omega) B8 (by rw[heq.gl,qe];exact A1) (by rw[heq.n,tC];exact H)with ⟨he,ps,BI,A4,BJ,AQ⟩|⟨init,ol,ps,BI,E,A4,A3,AQ,C2⟩
   ·obtain⟨Ai,Ay,Az⟩:=Bw A4 heq;exact .inl ⟨he,p::ps,Ai,.cons o rest S p ps Ai Y Ar Ac Ay,BJ.trans Az,by simpa using AQ⟩
   ·obtain⟨Ai,Ay,Az⟩:=Bw A4 heq;exact .inr ⟨o::init,ol,p::ps,Ai,by rw[E];rfl,.cons o init S p ps Ai Y Ar Ac Ay,A3,by simpa using AQ,C2.eqv Az⟩
  cases AS:zZ X.P A' S o with
  |some x=>
   rw[AS]at h;simp only[wB,wA]at h;exact glue ⟨[],[],true,x⟩ _ (by simp) (λ_ h=>h) (OS (X:=X) (all:=all) AZ AS) (fU.refl _) h
  |none=>
   rw[AS]at h;simp only[wB]at h;cases O:ea X A2 md all S o with
   |none=>rw[O]at h;cases h
   |some q=>
    obtain⟨AK,p⟩:=q;rw[O]at h;simp only[Vz]at h;split at h
    ·rename_i hinv;simp only[wA]at h;obtain⟨heq,At,Ac⟩:=yS AA A1 AZ O;exact glue p AK At (Fh hinv) Ac.toI heq h
    ·cases h
end
theorem a7.VF{φ:bE}{G:Fr}{m:Mem}{w:World}(h:a7 φ G m w){E H e1' e2':cf}(A3:E∈m)(A4:H∈m)(AK:E.key≠H.key){V Y L1' L2':Loc}(A5:φ E.key=some V)(A6:φ H.key=some Y)
 (A':e1'.key=E.key) (A0:e2'.key=H.key) (AL:V.ak<=L1'.ak) (AM:Y.ak<=L2'.ak) (AN:L1'.ak=V.ak->L1'={V with cB:=L1'.cB}) (AO:L2'.ak=Y.ak->L2'={Y with cB:=L2'.cB})
 (AP:L1'.ak=e1'.ak) (AQ:L2'.ak=e2'.ak) (A7:∀b,e1'.cont.cC L1' b->E.cont.cC V b\/H.cont.cC Y b) (A8:∀b,e2'.cont.cC L2' b->E.cont.cC V b\/H.cont.cC Y b)
 (AF:∀b,e1'.cont.cC L1' b->e2'.cont.cC L2' b->False)
 (AR:∀(φ':bE)(F':Nat->Prop),φ.le φ'->φ' E.key=some L1'->φ' H.key=some L2'->(∀b,F' b->Fo G φ m b)->dD φ' w F' L1' e1'.cont/\dD φ' w F' L2' e2'.cont):
 ∃φ',a7 φ' G (Mem.set (Mem.set m e1') e2') w/\aO φ m w φ' (Mem.set (Mem.set m e1') e2') w:=by
 obtain⟨m',A9⟩:∃m',m'=Mem.set (Mem.set m e1') e2':=⟨_,rfl⟩;rw[<-A9];have AS:((Mem.set m e1').map (·.key)).Nodup:=by rw[Mem.fM];exact h.nodup
 have AG:m'.map (·.key)=m.map (·.key):=by rw[A9,Mem.fM,Mem.fM]
 have A1:∀y,y∈m'->y=e2'\/y=e1'\/(y∈m/\y.key≠E.key/\y.key≠H.key):=by
  intro y T;rw[A9]at T;rcases (Mem.mem_set AS).1 T with ⟨A,_⟩|⟨A,I⟩
  ·exact .inl A
  ·rcases (Mem.mem_set h.nodup).1 A with ⟨A,_⟩|⟨A,U⟩
   ·exact .inr (.inl A)
   ·exact .inr (.inr ⟨A,by rw[<-A'];exact U,by rw[<-A0];exact I⟩)
 obtain⟨φ',AA⟩:∃φ':bE,φ'=λj=>if j=E.key then some L1' else if j=H.key then some L2' else φ j:=⟨_,rfl⟩
 have f1:φ' E.key=some L1':=by simp[AA]
 have f2:φ' H.key=some L2':=by simp[AA,show ¬H.key=E.key from λh=>AK h.symm]
 have f3:∀j,j≠E.key->j≠H.key->φ' j=φ j:=λj A I=>by simp[AA,A,I]
 have hle:φ.le φ':=by
  intro j AB Z;by_cases A:j=E.key
  ·subst A;rw[A5]at Z;cases Z;exact⟨_,f1,AL,AN⟩
  ·by_cases I:j=H.key
   ·subst I;rw[A6]at Z;cases Z;exact⟨_,f2,AM,AO⟩
   ·exact⟨AB,by rw[f3 j A I];exact Z,aae _,λ_=>rfl⟩
 have AH:∀b,E.cont.cC V b\/H.cont.cC Y b->gQ φ m b:=λb J=>J.elim (λJ=>⟨E,A3,V,A5,J⟩) (λJ=>⟨H,A4,Y,A6,J⟩);have AC:∀b,gQ φ' m' b->gQ φ m b:=by
  rintro b ⟨y,T,O,D,M⟩;rcases A1 y T with rfl|rfl|⟨A,I,U⟩
  ·rw[A0,f2]at D;cases D;exact AH b (A8 b M)
  ·rw[A',f1]at D;cases D;exact AH b (A7 b M)
  ·rw[f3 _ I U]at D;exact⟨y,A,O,D,M⟩
 have AI:∀b,Fo G φ' m' b->Fo G φ m b:=λb=>Or.imp id (AC b);have AJ:=AR φ' (Fo G φ' m') hle f1 f2 AI;have A2:∀y∈m,y.key≠E.key->y.key≠H.key->∀O,φ y.key=some O->∀b,y.cont.cC O b->E.cont.cC V b\/H.cont.cC Y b->False:=by
  intro y T I U O D b M J;rcases J with J|J
  ·exact I (h.apart y T E A3 O V D A5 ⟨b,M,J⟩)
  ·exact U (h.apart y T H A4 O Y D A6 ⟨b,M,J⟩)
 refine⟨φ',⟨by rw[AG];exact h.nodup,?_,?_,?_,λb J=>h.jQ b (AC b J),h.bound⟩,⟨hle,λ_ _ _=>rfl,λb _ J=>AC b J,aae _,rfl,rfl,rfl⟩⟩
 ·intro j AB Z;rw[AG];by_cases A:j=E.key
  ·subst A;exact abW A3
  ·by_cases I:j=H.key
   ·subst I;exact abW A4
   ·rw[f3 j A I]at Z;exact h.oA j AB Z
 ·intro y T;rcases A1 y T with rfl|rfl|⟨A,I,U⟩
  ·exact⟨L2',by rw[A0];exact f2,AQ,AJ.2⟩
  ·exact⟨L1',by rw[A'];exact f1,AP,AJ.1⟩
  ·obtain⟨O,D,AT,AU⟩:=h.fw y A;exact⟨O,by rw[f3 _ I U];exact D,AT,AU.mono hle (λ_ _ _=>rfl) (aae _) (λb _=>AI b) (λ_ _=>rfl)⟩
 ·rintro y T z AD O AE D N ⟨b,M,q⟩;rcases A1 y T with rfl|rfl|⟨A,I,U⟩
  ·rw[A0,f2]at D;cases D;rcases A1 z AD with rfl|rfl|⟨g1,g2,g3⟩
   ·rfl
   ·rw[A',f1]at N;cases N;exact (AF b q M).elim
   ·rw[f3 _ g2 g3]at N;exact (A2 z g1 g2 g3 AE N b q (A8 b M)).elim
  ·rw[A',f1]at D;cases D;rcases A1 z AD with rfl|rfl|⟨g1,g2,g3⟩
   ·rw[A0,f2]at N;cases N;exact (AF b M q).elim
   ·rfl
   ·rw[f3 _ g2 g3]at N;exact (A2 z g1 g2 g3 AE N b q (A7 b M)).elim
  ·rw[f3 _ I U]at D;rcases A1 z AD with rfl|rfl|⟨g1,g2,g3⟩
   ·rw[A0,f2]at N;cases N;exact (A2 y A I U O D b M (A8 b q)).elim
   ·rw[A',f1]at N;cases N;exact (A2 y A I U O D b M (A7 b q)).elim
   ·rw[f3 _ g2 g3]at N;exact h.apart y A z g1 O AE D N ⟨b,M,q⟩
theorem OT(S:St)(Ai j k sz:Nat):dy S (S.jj Ai j k sz):=by
 unfold St.jj;split
 ·rename_i key BA cs T v cont BZ Z;split
  ·rename_i A4;split
   ·exact dy.refl S
   ·rename_i AM;refine⟨rfl,rfl,λφ G a w H=>?_⟩;obtain⟨hm,A',L,A8,AI,A_⟩:=H.mem.get Z;simp only at A' AI;subst A';obtain⟨B_,AU,Cc,Cd,D_⟩:=H.mem.cF (e':=⟨T,v+1,.vec sz []⟩) hm A8 rfl (L':=⟨v+1,0,sz,0,0,[]⟩) (by simp only;omega) (λhh=>by simp only at hh;omega) rfl
     (w':=w) (λ_ _ _=>rfl) (aae _) (λ_ A2=>absurd A2.1 (by simp)) rfl rfl rfl (λφ' AQ Ba=>⟨rfl,by simp,by simp,λJ=>by simp at J⟩)
    have Ce:Mem.get (Mem.set S.mem ⟨T,v+1,.vec sz []⟩) Ai=some ⟨key,BA,.box cs⟩:=by
     rw[Mem.nJ (by simpa using λh=>AM h.symm)];exact BZ
    obtain⟨BP,BB,BC,BQ,BD,Bb⟩:=AU.get Ce;simp only at BB BD;subst BB;obtain⟨AL,Aj,AE,Da,Db⟩:=AU.cF (e':=⟨key,BA,.box (cs.set j (.vec T (v+1) 0 0))⟩) BP BQ rfl (L':=BC) (aae _) (λ_=>rfl) BD
     (w':=w) (λ_ _ _=>rfl) (aae _) (λ_ A2=>.inl A2) rfl rfl rfl (λφ' AQ Ba=>by
      obtain⟨g0,arr,elem,g1,g2,g3,g4⟩:=Bb;have Cf:∀b,Fo G φ' (Mem.set (Mem.set S.mem ⟨T,v+1,.vec sz []⟩) ⟨key,BA,.box (cs.set j (.vec T (v+1) 0 0))⟩) b->Fo G B_ (Mem.set S.mem ⟨T,v+1,.vec sz []⟩) b:=by
       rintro b (h|⟨x,A9,Bc,Aa,BE⟩)
       ·exact .inl h
       ·right;rcases (Mem.mem_set AU.nodup).1 A9 with ⟨rfl,_⟩|⟨Bd,Be⟩
        ·simp only[AQ,afh]at Aa;cases Aa;exact⟨_,BP,BC,BQ,BE⟩
        ·simp only[AQ,Be,acy]at Aa;exact⟨x,Bd,Bc,Aa,BE⟩
      refine⟨by simpa using g0,arr,elem,g1,by simp[g2],g3,λi c u J hu=>?_⟩;rw[List.getElem?_set]at J;split at J
      ·rename_i Ak;subst Ak;split at J
       ·cases J;have:=g4 j _ u A4 hu;cases this;refine .vec T (v+1) 0 0 _ ⟨v+1,0,sz,0,0,[]⟩ ?_ (aae _) (λ_=>⟨_,_,rfl,by simp,λh=>by omega⟩) rfl;rw[AQ];simp only
        rw[aac (λh=>AM h.symm)];exact Cd
       ·cases J
      ·exact (g4 i c u J hu).mono Ba (λ_ _ _=>rfl) (aae _) (λb _=>Cf b))
    have C7:=Cc.trans AE;exact⟨AL,H.xV Aj C7,C7⟩
  ·exact dy.refl S
 ·exact dy.refl S
theorem yV(AN:AV->AV):∀m:Mem,(sC AN m).map (·.key)=m.map (·.key)
 |[]=>rfl
 |e::r=>by simp[sC,yV AN r]
theorem HQ{AN:AV->AV}:∀{m:Mem}{x:cf},x∈sC AN m↔∃e∈m,x=⟨e.key,e.ak,oZ AN e.cont⟩
 |[],x=>by simp[sC]
 |e::r,x=>by simp[sC,HQ (m:=r)]
theorem OU(S:St)(k AR:Nat):dy S (S.wj k AR):=by
 unfold St.wj;split
 ·rename_i key v sz ag T v2 cont Z Ab;split
  ·exact dy.refl S
  ·rename_i AM;refine⟨rfl,rfl,λφ G a w H=>?_⟩;obtain⟨hm,A',L,A8,AI,A_⟩:=H.mem.get Z;obtain⟨Aj,AE,AW,At,B0,_⟩:=H.mem.get Ab;simp only at A' AI AE B0;subst A';subst AE;have Cg:¬T=key:=λh=>AM h.symm;obtain⟨AN,C8⟩:∃AN,AN=D3 key v T (v2+1):=⟨_,rfl⟩;rw[<-C8];obtain⟨BR,AU⟩:∃BR,BR=Mem.set (sC AN S.mem) ⟨key,v+1,.dead⟩:=⟨_,rfl⟩;have C9:((sC AN S.mem).map (·.key)).Nodup:=by rw[yV];exact H.mem.nodup
   have AJ:(BR.map (·.key)).Nodup:=by rw[AU,Mem.fM];exact C9
   obtain⟨m',AS⟩:∃m',m'=Mem.set BR ⟨T,v2+1,.vec sz ag⟩:=⟨_,rfl⟩;rw[<-AU,<-AS];have BF:m'.map (·.key)=S.mem.map (·.key):=by rw[AS,Mem.fM,AU,Mem.fM,yV]
   have BG:∀y,y∈m'->y=⟨T,v2+1,.vec sz ag⟩\/y=⟨key,v+1,.dead⟩\/(∃z∈S.mem,y=⟨z.key,z.ak,oZ AN z.cont⟩/\z.key≠key/\z.key≠T):=by
    intro y AF;rw[AS]at AF;rcases (Mem.mem_set AJ).1 AF with ⟨h,_⟩|⟨h,I⟩
    ·exact .inl h
    ·rw[AU]at h;rcases (Mem.mem_set C9).1 h with ⟨h,_⟩|⟨h,O⟩
     ·exact .inr (.inl h)
     ·obtain⟨z,BS,rfl⟩:=HQ.1 h;exact .inr (.inr ⟨z,BS,rfl,O,I⟩)
   obtain⟨φ',AQ⟩:∃φ':bE,φ'=λj=>if j=key then some {L with ak:=v+1} else if j=T then some {L with ak:=v2+1} else φ j:=⟨_,rfl⟩
   have f1:φ' key=some {L with ak:=v+1}:=by simp[AQ]
   have f2:φ' T=some {L with ak:=v2+1}:=by simp[AQ,Cg]
   have f3:∀j,j≠key->j≠T->φ' j=φ j:=λj E I=>by simp[AQ,E,I]
   have hle:φ.le φ':=by
    intro j Bf AA;by_cases E:j=key
    ·subst E;rw[A8]at AA;cases AA;exact⟨_,f1,by simp only;omega,λhh=>by simp only at hh;omega⟩
    ·by_cases I:j=T
     ·subst I;rw[At]at AA;cases AA;exact⟨_,f2,by simp only;omega,λhh=>by simp only at hh;omega⟩
     ·exact⟨Bf,by rw[f3 j E I];exact AA,aae _,λ_=>rfl⟩
   have Bg:∀b,gQ φ' m' b->gQ φ S.mem b:=by
    rintro b ⟨y,AF,B1,AG,Al⟩;rcases BG y AF with rfl|rfl|⟨Au,E,rfl,I,O⟩
    ·simp only at AG;rw[f2]at AG;cases AG;exact⟨_,hm,L,A8,Al⟩
    ·exact Al.elim
    ·simp only at AG;rw[f3 _ I O]at AG;exact⟨Au,E,B1,AG,ki.1 Al⟩
   have A0:∀b,Fo G φ' m' b->Fo G φ S.mem b:=λb=>Or.imp id (Bg b);have Av:∀x u,az φ w (Fo G φ S.mem) x u->az φ' w (Fo G φ' m') (AN x) u:=by
    intro y u AA;have CA:=AA.mono (φ':=φ') (F':=Fo G φ' m') hle (λ_ _ _=>rfl) (aae _) (λb _=>A0 b);rw[C8];unfold D3;split
    ·rename_i Dc v0 o l;split
     ·rename_i hh;obtain⟨rfl,rfl⟩:=hh;cases AA with
      |vec _ _ _ _ _ L' An _ h E=>
       rw[A8]at An;cases An;exact .vec T (v2+1) o l _ _ f2 (aae _) (λ_=>h AI.symm) E
     ·exact CA
    ·exact CA
   refine⟨φ',⟨H.size,H.defers,?_,⟨?_,?_,?_,?_,?_,?_⟩,H.jS.mono (λ_ _ _=>rfl) (aae _) (λb _=>A0 b)⟩,Hf Bg hle⟩
   ·intro t x A9;obtain⟨y,AF,rfl⟩:=yn _ S.env t true x A9;exact Av _ _ (H.env t y AF)
   ·show (m'.map (·.key)).Nodup;rw[BF];exact H.mem.nodup
   ·intro j Bf AA;show j∈m'.map (·.key);rw[BF];by_cases E:j=key
    ·subst E;exact abW hm
    ·by_cases I:j=T
     ·subst I;exact abW Aj
     ·rw[f3 j E I]at AA;exact H.mem.oA j Bf AA
   ·intro y AF;rcases BG y AF with rfl|rfl|⟨Au,E,rfl,I,O⟩
    ·refine⟨_,f2,rfl,?_⟩;have:=A_.mono (φ':=φ') (F':=Fo G φ' m') hle (λ_ _ _=>rfl) (aae _) (λb _=>A0 b) (λ_ _=>rfl);exact this
    ·exact⟨_,f1,rfl,trivial⟩
    ·obtain⟨B1,AG,Ch,B2⟩:=H.mem.fw Au E;refine⟨B1,by simp only;rw[f3 _ I O];exact AG,Ch,?_⟩;cases Bh:Au.cont with
     |dead=>trivial
     |box cs=>
      rw[Bh]at B2;obtain⟨g0,arr,elem,g1,g2,g3,g4⟩:=B2;refine⟨by simpa using g0,arr,elem,g1,by simp[g2],g3,λi c u CB hu=>?_⟩;rw[acm]at CB;obtain⟨x,A9,rfl⟩:=aaf.1 CB;exact Av x u (g4 i x u A9 hu)
     |vec Dd Ci=>
      rw[Bh]at B2;exact B2.mono hle (λ_ _ _=>rfl) (aae _) (λb _=>A0 b) (λ_ _=>rfl)
     |vv Ci De=>
      rw[Bh]at B2;exact jP.mono AN B2 (λ_ _ _ _ u hu=>hu.mono (λ_ _ _=>rfl) (aae _) (λb _=>A0 b)) (λx _ v A9=>Av x v A9) (λ_ _=>rfl)
   ·rintro y AF z BS B1 CC AG Ac ⟨b,Al,BH⟩;rcases BG y AF with rfl|rfl|⟨Au,E,rfl,I,O⟩
    ·rcases BG z BS with rfl|rfl|⟨z0,g1,rfl,g2,g3⟩
     ·rfl
     ·exact BH.elim
     ·simp only at AG;rw[f2]at AG;cases AG;simp only at Ac;rw[f3 _ g2 g3]at Ac;exact absurd (H.mem.apart _ hm z0 g1 L CC A8 Ac ⟨b,Al,ki.1 BH⟩).symm g2
    ·exact Al.elim
    ·rcases BG z BS with rfl|rfl|⟨z0,g1,rfl,g2,g3⟩
     ·simp only at Ac;rw[f2]at Ac;cases Ac;simp only at AG;rw[f3 _ I O]at AG;exact absurd (H.mem.apart Au E _ hm B1 L AG A8 ⟨b,ki.1 Al,BH⟩) I
     ·exact BH.elim
     ·simp only at AG Ac;rw[f3 _ I O]at AG;rw[f3 _ g2 g3]at Ac;exact H.mem.apart Au E z0 g1 B1 CC AG Ac ⟨b,ki.1 Al,ki.1 BH⟩
   ·intro b A;exact H.mem.jQ b (Bg b A)
   ·exact H.mem.bound
 ·exact dy.refl S
theorem Sg{α:Type}{l:List α}{n:Nat}(h:l.length=n+1):∃(r:List α)(o:α),l=r++[o]/\r.length=n:=by
 refine⟨l.dropLast,l.getLast (by intro hh;simp[hh]at h),(List.dropLast_concat_getLast _).symm,by simp[h]⟩
theorem VH(S:St)(k AR:Nat):dy S (S.ss k AR):=by
 unfold St.ss;split
 ·rename_i key v ag T v2 cont Z Ab;split
  ·rename_i xs BI;split
   ·exact dy.refl S
   ·rename_i AM;refine⟨rfl,rfl,λφ G a w H=>?_⟩;obtain⟨hm,A',L,A8,AI,A_⟩:=H.mem.get Z;obtain⟨Aj,AE,AW,At,B0,_⟩:=H.mem.get Ab;simp only at A' AI AE B0;subst A';subst AE;have CD:ag=ag.dropLast++[xs]:=by
     rcases List.eq_nil_or_concat ag with rfl|⟨r,x,rfl⟩
     ·simp at BI
     ·simp at BI;subst BI;simp
    obtain⟨r,Cj⟩:∃r,r=ag.dropLast:=⟨_,rfl⟩;rw[<-Cj]at CD⊢;subst CD;obtain⟨⟨AA,E,I⟩,O,AH,Ad⟩:jP φ w (Fo G φ S.mem) L (r++[xs]) none:=A_;simp only[ab1,acS,Option.toList_none,afl,afv]at E I;obtain⟨arr,elem,g1,g2,g3,g4,_⟩:=Ad (by omega);obtain⟨cB,o,B3,Bi⟩:=Sg I;have CE:=g4 r.length xs o (by simp) (by rw[B3,<-Bi];simp);have B4:∀b,some b∈cB->some b∈L.cB:=λb A=>by rw[B3];simp[A]
    have AX:∀(i:Nat)(x:Option Nat),cB[i]?=some x->L.cB[i]?=some x:=λi x A9=>by
     rw[B3,aao (aaa.1 A9).1];exact A9
    have Ck:∀b,o=some b->some b∉cB:=λb A hm=>by
     obtain⟨i,hi⟩:=List.getElem?_of_mem hm;have Aw:=(aaa.1 hi).1;have:=O i r.length b (AX i _ hi) (by rw[B3,<-Bi,<-A];simp);omega
    have base:∀(L2':Loc)(x:Value),(L2'.ak=v2+1/\L2'.sz=1)->arr[L.base+r.length]?=some x->(∀(φ':bE)(F':Nat->Prop),φ' T=some L2'->az φ' w F' (.vec T (v2+1) 0 xs.length) x)->
     (∀b,0<L2'.cap->L2'.cS=b->o=some b)->
     (∀(φ':bE)(F':Nat->Prop),φ.le φ'->(∀b,F' b->Fo G φ S.mem b)->dD φ' w F' L2' (.vec 1 xs))->
     ∃φ',Rel φ' G {S with mem:=Mem.set (Mem.set S.mem ⟨key,v,.vv r (some (.vec T (v2+1) 0 xs.length))⟩) ⟨T,v2+1,.vec 1 xs⟩} a w/\aO φ S.mem w φ' (Mem.set (Mem.set S.mem ⟨key,v,.vv r (some (.vec T (v2+1) 0 xs.length))⟩) ⟨T,v2+1,.vec 1 xs⟩) w:=by
     intro L2' x Bj A9 Av CF Cl;have B5:∀(φ':bE)(F':Nat->Prop),φ.le φ'->φ' T=some L2'->(∀b,F' b->Fo G φ S.mem b)->dD φ' w F' {L with cB:=cB} (.vv r (some (.vec T (v2+1) 0 xs.length))):=by
      intro φ' F' hle f2 A0;refine⟨⟨AA,by simp;omega,Bi⟩,λi j b hi A4=>O i j b (AX _ _ hi) (AX _ _ A4),λb A=>AH b (B4 b A),λ_=>⟨arr,elem,g1,g2,g3,λi Bk Bm hi A2=>?_,λy AF=>?_⟩⟩
      ·have Ax:=(aaa.1 hi).1;exact (g4 i Bk Bm (by rw[aao Ax];exact hi) (AX _ _ A2)).mono (λd u _ hu=>hu.mono (λ_ _ _=>rfl) (aae _) (λb _=>A0 b)) (λ_ _=>rfl)
      ·cases AF;exact⟨x,A9,Av φ' F' f2⟩
     obtain⟨φ',AS,Y⟩:=H.mem.VF (e1':=⟨key,v,.vv r (some (.vec T (v2+1) 0 xs.length))⟩) (e2':=⟨T,v2+1,.vec 1 xs⟩) hm Aj AM A8 At (L1':={L with cB:=cB}) (L2':=L2') rfl rfl (aae _) (by rw[Bj.1];omega)
      (λ_=>rfl) (λhh=>by rw[Bj.1]at hh;omega) AI Bj.1 (λb A=>.inl (by
       rcases A with A|A
       ·exact .inl A
       ·exact .inr (B4 b A))) (λb A=>.inl (.inr (by rw[B3,CF b A.1 A.2];simp))) (λb BJ BT=>by
       have CG:=CF b BT.1 BT.2;rcases BJ with ⟨_,BJ⟩|BJ
       ·exact (AH b (by rw[B3,CG];simp)).2 BJ.symm
       ·exact Ck b CG BJ) (λφ' F' hle f1 f2 A0=>⟨B5 φ' F' hle f2 A0,Cl φ' F' hle A0⟩)
     exact⟨φ',H.xV AS Y,Y⟩
    cases o with
    |none=>
     obtain⟨rfl,b,AC⟩:=CE;exact base ⟨v2+1,0,1,0,0,[]⟩ _ ⟨rfl,rfl⟩ AC (λφ' F' AY=>.vec T _ 0 0 _ _ AY (aae _) (λ_=>⟨_,_,rfl,by simp,λh=>by omega⟩) rfl) (λb A=>by simp at A) (λφ' F' hle A0=>⟨rfl,by simp,by simp,λJ=>by simp at J⟩)
    |some b=>
     obtain⟨row,Cm,off,cap,q1,q2,q3,Df,Cn,Co,CH⟩:=CE;refine base ⟨v2+1,b,1,row.size-off,off,[]⟩ _ ⟨rfl,rfl⟩ q1 (λφ' F' AY=>.vec T _ 0 _ _ _ AY (aae _) (λ_=>⟨_,cap,rfl,q3,λh=>⟨by simp,by simp only;omega⟩⟩) rfl) (λDg _ A=>by simp only at A;rw[A]) (λφ' F' hle A0=>?_);refine⟨rfl,by simp only;omega,λd U=>?_,λJ=>⟨row,Cm,Cn,by simp only;omega,Co,λi d hi=>?_⟩⟩
     ·obtain⟨i,hi⟩:=List.getElem?_of_mem U;exact (CH i d hi).1
     ·obtain⟨_,u,hu,A4⟩:=CH i d hi;exact⟨u,hu.mono (λ_ _ _=>rfl) (aae _) (λb _=>A0 b),A4⟩
  ·exact dy.refl S
 ·exact dy.refl S
theorem VI(S:St)(k AR:Nat):dy S (S.cls k AR):=by
 unfold St.cls;split
 ·rename_i key v ag Dh v3 len T v2 xs Z Ab;split
  ·exact dy.refl S
  ·rename_i AM;split
   ·rename_i Cp;obtain⟨rfl,rfl,rfl⟩:=Cp;refine⟨rfl,rfl,λφ G a w H=>?_⟩;obtain⟨hm,A',L,A8,AI,A_⟩:=H.mem.get Z;obtain⟨Aj,AE,AW,At,B0,Cq⟩:=H.mem.get Ab;simp only at A' AI AE B0;subst A';subst AE;obtain⟨⟨AA,E,I⟩,O,AH,Ad⟩:jP φ w (Fo G φ S.mem) L ag (some (.vec T v3 0 xs.length)):=A_;simp only[Option.toList_some,acS]at E;obtain⟨arr,elem,g1,g2,g3,g4,g5⟩:=Ad (by omega);obtain⟨y,Cr,Cs⟩:=g5 _ rfl;obtain⟨z0,Di,z2,z3⟩:=Cq;have Bn:∀b,0<AW.cap->AW.cS=b->(L.cS=b\/some b∈L.cB)->False:=by
     intro b J A hh;refine AM (H.mem.apart _ hm _ Aj L AW A8 At ⟨b,?_,⟨J,A⟩⟩);rcases hh with hh|hh
     ·exact .inl ⟨by omega,hh⟩
     ·exact .inr hh
    have base:∀(o:Option Nat),(∀b,o=some b->0<AW.cap/\AW.cS=b)->(∀F':Nat->Prop,(∀b,F' b->Fo G φ S.mem b)->xT w F' (some y) xs o)->
     ∃φ',Rel φ' G {S with mem:=Mem.set (Mem.set S.mem ⟨key,v,.vv (ag++[xs]) none⟩) ⟨T,v3+1,.dead⟩} a w/\aO φ S.mem w φ' (Mem.set (Mem.set S.mem ⟨key,v,.vv (ag++[xs]) none⟩) ⟨T,v3+1,.dead⟩) w:=by
     intro o A2 Ct;have CI:∀(i b:Nat),(L.cB++[o])[i]?=some (some b)->(L.cB[i]?=some (some b)/\i<L.cB.length)\/(i=L.cB.length/\o=some b):=by
      intro i b hi;rcases Nat.lt_trichotomy i L.cB.length with Aw|heq|Ca
      ·rw[aao Aw]at hi;exact .inl ⟨hi,Aw⟩
      ·subst heq;simp at hi;exact .inr ⟨rfl,hi⟩
      ·rw[abM (by omega)]at hi;have:i-L.cB.length=(i-L.cB.length-1)+1:=by omega
       rw[this]at hi;simp at hi
     have B5:∀(φ':bE)(F':Nat->Prop),(∀b,F' b->Fo G φ S.mem b)->dD φ' w F' {L with cB:=L.cB++[o]} (.vv (ag++[xs]) none):=by
      intro φ' F' A0;refine⟨⟨AA,by simp;omega,by simp[I]⟩,λi j b hi A4=>?_,λb A=>?_,λ_=>⟨arr,elem,g1,g2,g3,λi Bk Bm hi BK=>?_,λy AF=>by cases AF⟩⟩
      ·rcases CI i b hi with ⟨AX,Ax⟩|⟨Cu,AX⟩<;>rcases CI j b A4 with ⟨B6,Ao⟩|⟨Cv,B6⟩
       ·exact O i j b AX B6
       ·exact (Bn b (A2 b B6).1 (A2 b B6).2 (.inr (aah AX))).elim
       ·exact (Bn b (A2 b AX).1 (A2 b AX).2 (.inr (aah B6))).elim
       ·rw[Cu,Cv]
      ·simp only[abO,List.mem_singleton]at A;refine⟨by simp only;omega,?_⟩;rcases A with A|A
       ·exact (AH b A).2
       ·exact λhh=>Bn b (A2 b A.symm).1 (A2 b A.symm).2 (.inl hh.symm)
      ·rcases Nat.lt_or_ge i ag.length with Aw|Dj
       ·rw[aao Aw]at hi;rw[aao (by omega)]at BK;exact (g4 i Bk Bm hi BK).mono (λd u _ hu=>hu.mono (λ_ _ _=>rfl) (aae _) (λb _=>A0 b)) (λ_ _=>rfl)
       ·have Cx:i=ag.length:=by have:=(aaa.1 hi).1;simp at this;omega
        subst Cx;simp at hi;subst hi;rw[<-I]at BK;simp at BK;subst BK;simp only
        rw[Cr];exact Ct F' A0
     obtain⟨φ',AS,Y⟩:=H.mem.VF (e1':=⟨key,v,.vv (ag++[xs]) none⟩) (e2':=⟨T,v3+1,.dead⟩) hm Aj AM A8 At (L1':={L with cB:=L.cB++[o]}) (L2':={AW with ak:=v3+1}) rfl rfl (aae _) (by simp only;omega)
      (λ_=>rfl) (λhh=>by simp only at hh;omega) AI rfl (λb A=>by
       rcases A with A|A
       ·exact .inl (.inl A)
       ·simp only[abO,List.mem_singleton]at A;rcases A with A|A
        ·exact .inl (.inr A)
        ·exact .inr (A2 b A.symm)) (λb A=>A.elim) (λb _ BT=>BT) (λφ' F' hle f1 f2 A0=>⟨B5 φ' F' A0,trivial⟩)
     exact⟨φ',H.xV AS Y,Y⟩
    cases Cs with
    |vec _ _ _ _ _ L' An Dk AK B5=>
     rw[At]at An;cases An;obtain⟨Cy,cap,rfl,Cz,D'⟩:=AK B0.symm;by_cases CM:0<cap
     ·obtain⟨rfl,B7⟩:=D' CM;obtain⟨D0,D1,t1,t2,t3,t4⟩:=z3 (by omega);refine base (some AW.cS) (λb A=>by cases A;exact⟨by omega,rfl⟩) (λF' A0=>⟨D0,D1,AW.base,cap,by simp,CM,Cz,by rw[t2,z0];omega,t1,t3,λi d U=>?_⟩);obtain⟨u,hu,A4⟩:=t4 i d U;rw[z0]at A4;exact⟨by rw[z2 d (aah U),z0],u,hu.mono (λ_ _ _=>rfl) (aae _) (λb _=>A0 b),A4⟩
     ·have CN:xs=[]:=List.length_eq_zero_iff.1 (by omega);have D2:cap=0:=by omega
      subst D2;refine base none (λb A=>by cases A) (λF' A0=>⟨CN,Cy,by rw[CN];rfl⟩)
   ·exact dy.refl S
 ·exact dy.refl S
theorem Si(S:St)(k:Nat):dy S (S.shut k):=by
 unfold St.shut;split
 ·rename_i key v ag y Z;refine⟨rfl,rfl,λφ G a w H=>?_⟩;obtain⟨hm,A',L,A8,AI,A_⟩:=H.mem.get Z;simp only at A' AI;subst A';obtain⟨φ',AS,Y,_,_⟩:=H.mem.cF (e':=⟨key,v,.vv ag none⟩) hm A8 rfl (L':=L) (aae _) (λ_=>rfl) AI
   (w':=w) (λ_ _ _=>rfl) (aae _) (λ_ A2=>.inl A2) rfl rfl rfl (λφ' AQ Ba=>by
    obtain⟨⟨AA,E,I⟩,O,AH,Ad⟩:jP φ w (Fo G φ S.mem) L ag (some y):=A_;refine⟨⟨AA,by simp at E⊢;omega,I⟩,O,AH,λJ=>?_⟩;obtain⟨arr,elem,g1,g2,g3,g4,g5⟩:=Ad J;refine⟨arr,elem,g1,g2,g3,λi xs o hi A2=>(g4 i xs o hi A2).mono (λd u _ hu=>hu.mono (λ_ _ _=>rfl) (aae _) (λb _ A=>?_)) (λ_ _=>rfl),λy AF=>by cases AF⟩;rcases A with A|⟨x,A9,Bc,Aa,BE⟩
    ·exact .inl A
    ·right;rcases (Mem.mem_set H.mem.nodup).1 A9 with ⟨rfl,_⟩|⟨Bd,Be⟩
     ·simp only[AQ,afh]at Aa;cases Aa;exact⟨_,hm,L,A8,BE⟩
     ·simp only[AQ,Be,acy]at Aa;exact⟨x,Bd,Bc,Aa,BE⟩)
  exact⟨φ',H.xV AS Y,Y⟩
 ·exact dy.refl S
theorem JR(S:St)(Ai j k:Nat):dy S (S.su Ai j k):=by
 unfold St.su;split
 ·rename_i key BA cs T v cont BZ Z;split
  ·rename_i A4;split
   ·exact dy.refl S
   ·rename_i AM;refine⟨rfl,rfl,λφ G a w H=>?_⟩;obtain⟨BP,BB,BC,BQ,BD,Bb⟩:=H.mem.get BZ;obtain⟨hm,A',L,A8,AI,A_⟩:=H.mem.get Z;simp only at BB BD A' AI;subst BB;subst A';have B5:∀(φ':bE)(F':Nat->Prop),φ.le φ'->φ' T=some ⟨v+1,0,1,0,0,[]⟩->(∀b,F' b->Fo G φ S.mem b)->dD φ' w F' BC (.box (cs.set j (.vec T (v+1) 0 0))):=by
     intro φ' F' hle f2 A0;obtain⟨g0,arr,elem,g1,g2,g3,g4⟩:=Bb;refine⟨by simpa using g0,arr,elem,g1,by simp[g2],g3,λi c u J hu=>?_⟩;rw[List.getElem?_set]at J;split at J
     ·rename_i Ak;subst Ak;split at J
      ·cases J;have:=g4 j _ u A4 hu;cases this;exact .vec T (v+1) 0 0 _ _ f2 (aae _) (λ_=>⟨_,_,rfl,by simp,λh=>by omega⟩) rfl
      ·cases J
     ·exact (g4 i c u J hu).mono hle (λ_ _ _=>rfl) (aae _) (λb _=>A0 b)
    obtain⟨φ',AS,Y⟩:=H.mem.VF (e1':=⟨key,BA,.box (cs.set j (.vec T (v+1) 0 0))⟩) (e2':=⟨T,v+1,.vv [] none⟩) BP hm AM BQ A8 (L1':=BC) (L2':=⟨v+1,0,1,0,0,[]⟩) rfl rfl (aae _) (by simp only;omega)
     (λ_=>rfl) (λhh=>by simp only at hh;omega) BD rfl (λb A=>.inl A) (λb A=>by
      rcases A with ⟨A,_⟩|A
      ·simp at A
      ·simp at A) (λb _ A=>by
      rcases A with ⟨A,_⟩|A
      ·simp at A
      ·simp at A) (λφ' F' hle f1 f2 A0=>⟨B5 φ' F' hle f2 A0,⟨⟨rfl,by simp,rfl⟩,λi j b hi=>by simp at hi,λb A=>by simp at A,λJ=>by simp at J⟩⟩)
    exact⟨φ',H.xV AS Y,Y⟩
  ·exact dy.refl S
 ·exact dy.refl S
theorem aaG(S:St)(g:Gh):dy S (g.go S):=by
 cases g with
 |trim k=>exact Cw S k
 |freeze k=>exact JJ S k
 |jj Ai j k sz=>exact OT S Ai j k sz
 |wj k AR=>exact OU S k AR
 |ss k AR=>exact VH S k AR
 |cls k AR=>exact VI S k AR
 |shut k=>exact Si S k
 |su Ai j k=>exact JR S Ai j k
theorem wH:∀(l:List Gh)(S:St),dy S (CJ S l)
 |[],S=>dy.refl S
 |g::r,S=>(aaG S g).trans (wH r _)
theorem rB(X:Ctx)(f:FuncId)(id:Nat)(S:St):dy S (S.leave X f id):=(Oo S _).trans (wH _ _)
def dQ(X:Ctx)(f:FuncId)(n:Nat):Code->Bool
 | .region id ops draw=>jc n ops.toList&&(!draw||Bl ops.toList (X.od f id))
 | .seq a b=>dQ X f n a&&dQ X f n b
 | .cond _ a b=>dQ X f n a&&dQ X f n b
 | .block _ c=>dQ X f n c
 | .loop c=>dQ X f n c
 |_=>true
structure jl(X:Ctx):Prop where
 ov:X.ov=none
 names:∀(g:FuncId)(fn:Func),X.P.funcs[g]?=some fn->fn.name≠ "runtime.NumGoroutine"
 VJ:∀(g:FuncId)(fn:Func)(c:Code),X.P.funcs[g]?=some fn->fn.body=some c->dQ X g fn.ntmps c=true
 mixed:X.P.follows .mixedOrders=true
 vh:∀(g:FuncId)(h:List AV->Option AV),X.vh g=some h->fW X.P g=true/\∀(Bo:List AV)(a:AV),h Bo=some a->∀(φ:bE)(F:Nat->Prop)(w:World)(vs:Array Value),ec w F X.gl->(∀b,F b->b<w.heap.size)->Bo.length=vs.size->
  (∀(i:Nat) x v,Bo[i]?=some x->vs[i]?=some v->az φ w F x v)->Calls X.P g vs w λe w'=>∃v,e=.returned v/\Go.RowKit.Below w.heap.size w w'/\az φ w' F a v
theorem mw.is{n:Nat}{φ:bE}{G:Fr}{m:Mem}{w:World}{e:XE}{M:St}{e':Exit}{V:Act}{w':World}(h:mw n φ G m w (Is e M) e' V w'):
 ∃φ',M.n=n/\Rel φ' G M V w'/\aO φ m w φ' M.mem w'/\(match e' with
  | .normal=>e=.normal
  | .exit id=>e=.exit id
  | .ret=>e=.ret
  | .panic chain=>∃t x v,e=.panic t x/\chain=[{v:=.iface t v,recovered:=false}]/\aI w' (Fo G φ' M.mem) x v
  |_=>False):=by
 cases e' with
 |normal=>obtain⟨φ',A3,A1,⟨E,rfl⟩,I,O⟩:=h;exact⟨φ',A1,I,O,E.symm⟩
 |exit id=>obtain⟨φ',A3,A1,⟨E,rfl⟩,I,O⟩:=h;exact⟨φ',A1,I,O,E.symm⟩
 |ret=>obtain⟨φ',A3,A1,⟨E,rfl⟩,I,O⟩:=h;exact⟨φ',A1,I,O,E.symm⟩
 |panic chain=>obtain⟨φ',A3,t,x,v,J,U,A1,⟨E,rfl⟩,I,O⟩:=h;exact⟨φ',A1,I,O,t,x,v,E.symm,J,U⟩
 |_=>exact h.elim
section
variable {X:Ctx} {Ap:bj} {f:FuncId} {n:Nat}
theorem aaH{P:Program}{c:Code}{S S1:St}{Q:XE->St->Prop}(t:dy S S1)(h:lE P c S1 Q):lE P c S Q:=λφ G a w H=>by
 obtain⟨B_,D4,A'⟩:=t.2.2 φ G a w H;exact wp_mono (h B_ G a w D4) λe a2 BL AD=>by rw[t.1]at AD;exact AD.weaken A'
theorem HR{P:Program}{S:St}{e:XE}{c:Code}{k:St->St}(A':∀S,dy S (k S)){r:Option (XE×St)}{M:St}(h:uz k r=some (e,M))
 (H:∀A5 S1,r=some (A5,S1)->S1.n=S.n/\S1.gl=S.gl/\lE P c S (Is A5 S1)):M.n=S.n/\M.gl=S.gl/\lE P c S (Is e M):=by
 unfold uz at h;split at h
 ·rename_i S1;cases h;obtain⟨E,I,O⟩:=H _ _ rfl;obtain⟨t1,t2,t3⟩:=A' S1;refine⟨t1.trans E,t2.trans I,λφ G a w Bp=>wp_mono (O φ G a w Bp) λe' V w' AD=>?_⟩;obtain⟨φ',A1,A6,Y,he⟩:=AD.is;cases e' with
  |normal=>
   obtain⟨AL,Ay,AE⟩:=t3 φ' G V w' A6;exact⟨AL,k S1,t1.trans A1,⟨rfl,rfl⟩,Ay,Y.trans AE⟩
  |exit id=>cases he
  |ret=>cases he
  |panic chain=>obtain⟨t,x,v,AH,_⟩:=he;cases AH
  |_=>exact he.elim
 ·exact H _ _ h
theorem aaI{P:Program}{Az:Mem->Prop}{all:List Oper}{ops:List Oper}{S:St}{ps:List aU}{S1:St}(h:Cert P Az all ops S ps S1):S1.n=S.n/\S1.gl=S.gl:=by
 induction h with
 |nil S=>exact⟨rfl,rfl⟩
 |cons o rest S p ps S1 _ _ _ _ ih=>exact⟨ih.1.trans (tC ..),ih.2.trans (qe ..)⟩
theorem HS{P:Program}{Az:Mem->Prop}{all:List Oper}:∀{ops:List Oper}{S:St}{ps:List aU}{S1:St},Cert P Az all ops S ps S1->ps.length=ops.length:=by
 intro ops S ps S1 h;induction h with
 |nil S=>rfl
 |cons o rest S p ps S1 _ _ _ _ ih=>simp[ih]
theorem Fj:∀{es:List cf},DY es=true->∀e∈es,100<=e.key
 |_::r,h,e,he=>by
  simp only[DY,Ds,aag]at h;rcases aak.1 he with rfl|he
  ·exact h.1
  ·exact Fj h.2 e he
theorem Fk{ps:List aU}:∀{CO:List Nat},yD ps CO=true->∀i∈CO,∀p,ps[i]?=some p->∀e∈p.es,100<=e.key
 |k::r,h,i,hi,p,AD,e,he=>by
  simp only[yD,Ds]at h;rcases aak.1 hi with rfl|hi
  ·have:=h.1;rw[AD]at this;exact Fj this e he
  ·exact Fk h.2 i hi p AD e he
theorem yX{all:List Oper}{Ae:List (List Nat)}(h:Bl all Ae=true){i j:Nat}(Ak:i<j)(A4:j<all.length)(A1:i∉(fT all []).getD j []):(Ae.getD i []).contains j=true/\(Ae.getD j []).contains i=true:=by
 have E:=abN.1 h j (ab3.2 A4);unfold yA at E;rw[acu A4]at E;simp only[Ds,abN,ago,ab3]at E;rcases E.2 i Ak with I|I
 ·exact absurd (by simpa using I) A1
 ·rw[acu (by omega)]at I;simp only[Ds]at I;exact I.2
theorem OV{P:Program}{S S1:St}{id:Nat}{ops:List Oper}{Ae:List (List Nat)}{ps:List aU}{j N:Nat}{t:TypeId}{x:D}(hm:P.follows .mixedOrders=true)(Af:Bl ops Ae=true)
 (J:jk (TT P ops j (Ae.getD j []) t x N S1) 0 ops S ps) (D5:nW Ae ps=true) (Bq:yD ps (Ae.getD j [])=true) (Br:S1.env=[]) (Ao:j<ops.length) (D7:N=fg S.mem+fe ps+1):
 S1.n=S.n/\S1.gl=S.gl/\∀{φ:bE}{G:Fr}{a:Act}{w:World},Rel φ G S a w->∀{Q:Exit->Act->World->Prop},
 (∀φ' V w' v,Rel φ' G S1 V w'->aO φ S.mem w φ' S1.mem w'->aI w' (Fo G φ' S1.mem) x v->Q (.panic [{v:=.iface t v,recovered:=false}]) V w')->(Code.region id ops.toArray true).wp P Q a w:=by
 have BU:=J.len;have Bs:=jk.at (ps:=ps) (S0:=S) J [] [] rfl rfl rfl rfl rfl;have AP:=RR Af D5 BU;obtain⟨Bt,CP⟩:∃Bt,ops[j]?=some Bt:=⟨ops[j],by simp[Ao]⟩;obtain⟨Bu,CQ⟩:∃Bu,ps[j]?=some Bu:=⟨ps[j]'(by omega),by simp[show j<ps.length by omega]⟩
 obtain⟨D8,AJ,A7,AU⟩:=(Bs j Bt Bu (by simp) CP CQ).2.2 rfl;rw[nk]at AJ;rw[lH]at A7;refine⟨AJ,A7,λ{φ G a w} H {Q} Bv=>wp_region_any hm ?_⟩;have D9:∀(i:Nat)(p:aU),ps[i]?=some p->∀e∈p.es,e.key∈p.ks:=λi p AD=>by
  have Ax:i<ps.length:=(aaa.1 AD).1;exact (Bs i (ops[i]'(by omega)) p (by simp) (by simp[show i<ops.length by omega]) AD).1
 have DA:Rel φ G S a {w with drawn:=w.drawn+1}:=H.grow (λ_ _=>rfl) (aae _);have CS:(gA ops.length λi=>(Array.replicate ops.length false).getD i false)=[]:=by
  rw[gA,agk];intro i hi;simp[abF,ab3.1 hi]
 refine RV (S0:=S) (S1:=S1) (φ0:=φ) (w0:=w) (G:=G) (j:=j) BU AP H.mem.nodup D9 ?_ CP CQ D8 ?_ AJ A7 Br (by rw[AU,D7];rfl) (λφ' V w' v A6 Y AC=>Bv φ' V w' v A6 Y AC) _ _ φ a _ (by simp) ?_ ?_ ?_ ?_ ?_
 ·intro i o p A2 AD Ak Bw;have Ax:i<ops.length:=(aaa.1 A2).1;refine (Bs i o p (by simp) A2 AD).2.1 Ak ?_;rcases Nat.lt_or_ge i j with h|h
  ·exact .inl h
  ·exact .inr (yX Af (by omega) Ax Bw).1
 ·intro i p AD Ak hi Bw e he;have Ax:i<ops.length:=by have:=(aaa.1 AD).1;omega
  have B4:(Ae.getD j []).contains i=true:=by
   rcases Nat.lt_or_ge i j with h|h
   ·exact (yX Af h Ao hi).2
   ·exact (yX Af (by omega) Ax Bw).1
  exact Fk Bq i (by simpa using B4) p AD e he
 ·intro j o _ A4;exfalso;simp only[abF]at A4;by_cases h:j<ops.length
  ·simp[h]at A4
  ·simp[h]at A4
 ·simp only[abF];simp[Ao]
 ·simp only[acJ];rw[CS];exact DA
 ·simp only[acJ];rw[CS];exact aO.grow (λ_ _=>rfl) (aae _) rfl rfl rfl
 ·simp only[acJ];exact aj4 (List.length_filter_le _ _) (by simp)
theorem HT(Aq:jl X)(B7:iH X Ap):∀(c:Code)(S:St)(e:XE)(M:St),den X f Ap n c S=some (e,M)->S.gl=X.gl->dQ X f S.n c=true->
 M.n=S.n/\M.gl=S.gl/\lE X.P c S (Is e M):=by
 intro c;induction c with
 |skip=>
  intro S e M h AB U;simp only[den,aas,ab8]at h;obtain⟨rfl,rfl⟩:=h;exact⟨rfl,rfl,Vj ⟨rfl,rfl⟩⟩
 |region id ops draw=>
  intro S e M h AB U;simp only[den]at h;simp only[dQ,Ds]at U;cases draw with
  |false=>
   refine HR (rB X f id) h (λA5 S1 E=>?_);obtain⟨I,O,AH⟩:=yR B7 ops.toList S A5 S1 E AB U.1;exact⟨I,O,λφ G a w H=>wp_region_lit (AH φ G a w H _ (λ_ _ _ h=>h))⟩
  |true=>
   refine HR (rB X f id) h (λA5 S1 E=>?_);have Af:Bl ops.toList (X.od f id)=true:=by simpa using U.2
   have key:(∃Az:Mem->Prop,Az S.mem/\A5=.normal/\∃ps A3,Cert X.P Az ops.toList ops.toList S ps A3/\fU S1 A3/\nW (X.od f id) ps=true)\/
    (S1.n=S.n/\S1.gl=S.gl/\∀φ G a w,Rel φ G S a w->∀Q:Exit->Act->World->Prop,(A5=.normal->∀φ' V w',Rel φ' G S1 V w'->aO φ S.mem w φ' S1.mem w'->Q .normal V w')->
     (∀t x,A5=.panic t x->∀φ' V w' v,Rel φ' G S1 V w'->aO φ S.mem w φ' S1.mem w'->aI w' (Fo G φ' S1.mem) x v->Q (.panic [{v:=.iface t v,recovered:=false}]) V w')->(Code.region id ops true).wp X.P Q a w)/\(A5=.normal\/∃t x,A5=.panic t x):=by
    cases CT:X.fl f id with
    |nil=>
     rw[CT]at E;simp only[sB]at E;rcases AT B7 ops.toList S [] A5 S1 E AB U.1 with ⟨he,ps,A3,J,heq,AP⟩|⟨t,x,j,ps,he,B6,DB,J,AP,Bq,Br⟩
     ·exact .inl ⟨_,trivial,he,ps,A3,J,heq,by simpa using AP⟩
     ·right;obtain⟨I,O,AH⟩:=OV (id:=id) Aq.mixed Af J (by simpa using AP) (by simpa using Bq) Br (by simpa using DB) rfl;exact⟨⟨I,O,λφ G a w H Q _ Bv=>AH H (λφ' V w' v Ad DC DD=>Bv t x he φ' V w' v Ad DC DD)⟩,.inr ⟨t,x,he⟩⟩
    |cons q r=>
     rw[CT]at E;simp only[sB]at E;cases BV:fw S.mem (q::r)with
     |none=>rw[BV]at E;cases E
     |some Dl=>
      rw[BV]at E;simp only[OM]at E;rcases Fi B7 ops.toList S [] A5 S1 (by simp) E AB U.1 with ⟨he,ps,A3,J,heq,AP⟩|⟨init,ol,ps,A3,CU,J,A1,AP,I,O,AH,Ad⟩
      ·exact .inl ⟨_,wF BV,he,ps,A3,J,heq,by simpa using AP⟩
      ·obtain⟨By,Ab⟩:=aaI J;refine .inr ⟨⟨I.trans By,O.trans Ab,λφ G a w H Q DE DF=>?_⟩,AH⟩;have BU:ps.length+1=ops.toList.length:=by
        have:=HS J;rw[CU];simp[this]
       refine JN (ops:=ops.toList) CU (AO Af A1) (wF BV) Aq.mixed J (VE Af BU A1 (by simpa using AP)) H (λφ' V w' A6 Y next DG=>?_);exact Ad φ' G V w' A6 next Q (λhe AL a2 BL Ay AE=>DG a2 BL (DE he AL a2 BL Ay (Y.trans AE))) (λt x he AL a2 BL v Ay AE AC=>DF t x he AL a2 BL v Ay (Y.trans AE) AC)
   rcases key with ⟨Az,DH,rfl,ps,A3,J,heq,AP⟩|⟨⟨AJ,A7,DI⟩,_⟩;rotate_left
   ·exact⟨AJ,A7,λφ G a w H=>DI φ G a w H _ (λhe φ' V w' A6 Y=>⟨φ',S1,AJ,⟨he.symm,rfl⟩,A6,Y⟩) (λt x he φ' V w' v A6 Y AC=>⟨φ',S1,t,x,v,rfl,AC,AJ,⟨he.symm,rfl⟩,A6,Y⟩)⟩
   obtain⟨AJ,A7⟩:=acq J;have AP:=RR Af AP (HS J);refine⟨heq.n.trans AJ,heq.gl.trans A7,λφ G a w H=>?_⟩;exact JM (ops:=ops.toList) DH Aq.mixed J AP H (λφ' V w' A6 Y=>⟨φ',S1,heq.n.trans AJ,⟨rfl,rfl⟩,A6.eqv heq.symm,by rw[heq.mem];exact Y⟩)
 |seq a b BW Bz=>
  intro S e M h AB U;simp only[dQ,Ds]at U;simp only[den]at h;rcases fY h with ⟨S1,E,I⟩|⟨E,I⟩
  ·obtain⟨AJ,A7,C'⟩:=BW S _ S1 E AB U.1;obtain⟨By,Ab,DJ⟩:=Bz S1 e M I (A7.trans AB) (by rw[AJ];exact U.2);refine⟨By.trans AJ,Ab.trans A7,Kp (C'.mono λA5 A3 AK=>?_)⟩;obtain⟨rfl,rfl⟩:=AK;exact DJ
  ·obtain⟨AJ,A7,C'⟩:=BW S _ M E AB U.1;refine⟨AJ,A7,Kp (C'.mono λA5 A3 AK=>?_)⟩;obtain⟨rfl,rfl⟩:=AK;cases A5 with
   |normal=>exact absurd rfl I
   |_=>exact⟨rfl,rfl⟩
 |cond c a b BW Bz=>
  intro S e M h AB U;simp only[dQ,Ds]at U;simp only[den]at h;cases J:S.aq c with
  |mk g y=>
   rw[J]at h;unfold CL at h;split at h
   ·rename_i t heq;cases heq;cases t with
    |true=>
     obtain⟨E,I,O⟩:=BW S e M (by simpa using h) AB U.1;exact⟨E,I,Ha J (λ_=>O) (λAY=>by cases AY)⟩
    |false=>
     obtain⟨E,I,O⟩:=Bz S e M (by simpa using h) AB U.2;exact⟨E,I,Ha J (λAY=>by cases AY) (λ_=>O)⟩
   ·cases h
 |block id c ih=>
  intro S e M h AB U;simp only[den]at h;have BM:=wH (X.gh f (id+2000000)) S;have ih:∀e M,den X f Ap n c (S.enter X f id)=some (e,M)->M.n=S.n/\M.gl=S.gl/\lE X.P c S (Is e M):=λe M h=>by
   obtain⟨Ag,a2,a3⟩:=ih (S.enter X f id) e M h (BM.2.1.trans AB) (by simp only[St.enter];rw[BM.1];exact U);exact⟨Ag.trans BM.1,a2.trans BM.2.1,aaH BM a3⟩
  unfold CK at h;split at h
  ·rename_i C0 S1 E;obtain⟨A1,Z,AZ⟩:=ih _ S1 E;split at h
   ·rename_i hid;cases h;refine⟨A1,Z,yk (AZ.mono λA5 A3 AK=>?_)⟩;obtain⟨rfl,rfl⟩:=AK;simp only[hid,afh];exact⟨rfl,rfl⟩
   ·rename_i hid;cases h;refine⟨A1,Z,yk (AZ.mono λA5 A3 AK=>?_)⟩;obtain⟨rfl,rfl⟩:=AK;simp only[hid,acy];exact⟨rfl,rfl⟩
  ·rename_i AM;obtain⟨A1,Z,AZ⟩:=ih _ M h;refine⟨A1,Z,yk (AZ.mono λA5 A3 AK=>?_)⟩;obtain⟨rfl,rfl⟩:=AK;cases A5 with
   |exit C0=>exact absurd h (AM C0 A3)
   |_=>exact⟨rfl,rfl⟩
 |loop c ih=>
  intro S e M h AB U;simp only[den]at h;simp only[dQ]at U;have B4:∀(k:Nat)(S1:St),iter (den X f Ap n c) k S1=some (e,M)->S1.gl=X.gl->dQ X f S1.n c=true->M.n=S1.n/\M.gl=S1.gl:=by
   intro k;induction k with
   |zero=>intro S1 E;cases E
   |succ k DK=>
    intro S1 E A7 Ar;simp only[iter]at E;rcases fY E with ⟨A3,I,O⟩|⟨I,O⟩
    ·obtain⟨Ag,a2,_⟩:=ih S1 _ A3 I A7 Ar;obtain⟨DL,DM⟩:=DK A3 O (a2.trans A7) (by rw[Ag];exact Ar);exact⟨DL.trans Ag,DM.trans a2⟩
    ·obtain⟨Ag,a2,_⟩:=ih S1 _ M I A7 Ar;exact⟨Ag,a2⟩
  obtain⟨A1,Z⟩:=B4 n S h AB U;refine⟨A1,Z,?_⟩;refine Vm (α:=Nat×St) (λx=>x.2) (λx=>iter (den X f Ap n c) x.1 x.2=some (e,M)/\x.2.gl=X.gl/\dQ X f x.2.n c=true) (λx=>x.1) (n,S) rfl ⟨h,AB,U⟩ ?_;rintro ⟨k,S1⟩ ⟨E,A7,Ar⟩;simp only at E A7 Ar⊢;cases k with
  |zero=>cases E
  |succ k=>
   simp only[iter]at E;rcases fY E with ⟨A3,I,O⟩|⟨I,O⟩
   ·obtain⟨Ag,a2,AZ⟩:=ih S1 _ A3 I A7 Ar;refine AZ.mono λA5 CV AK=>?_;obtain⟨rfl,rfl⟩:=AK;exact⟨(k,CV),rfl,⟨O,a2.trans A7,by rw[Ag];exact Ar⟩,Nat.lt_succ_self k⟩
   ·obtain⟨Ag,a2,AZ⟩:=ih S1 _ M I A7 Ar;refine AZ.mono λA5 CV AK=>?_;obtain⟨rfl,rfl⟩:=AK;cases A5 with
    |normal=>exact absurd rfl O
    |_=>exact⟨rfl,rfl⟩
 |exit id=>
  intro S e M h AB U;simp only[den,aas,ab8]at h;obtain⟨rfl,rfl⟩:=h;obtain⟨t1,t2,t3⟩:=wH (X.gh f (id+1000000)) S;refine⟨t1,t2,λφ G a w Bp=>wp_mono ((Vk (Q:=Is (.exit id) S) ⟨rfl,rfl⟩:lE X.P (.exit id) S (Is (.exit id) S)) φ G a w Bp) λe' V w' AD=>?_⟩;obtain⟨φ',A1,A6,Y,he⟩:=AD.is;cases e' with
  |exit C0=>
   cases he;obtain⟨AL,Ay,AE⟩:=t3 φ' G V w' A6;exact⟨AL,_,t1.trans A1,⟨rfl,rfl⟩,Ay,Y.trans AE⟩
  |normal=>cases he
  |ret=>cases he
  |panic chain=>obtain⟨t,x,v,AH,_⟩:=he;cases AH
  |_=>exact he.elim
 |ret=>
  intro S e M h AB U;simp only[den,aas,ab8]at h;obtain⟨rfl,rfl⟩:=h;exact⟨rfl,rfl,aaB ⟨rfl,rfl⟩⟩
 |rangeFunc _ _ _ _=>intro S e M h;simp[den]at h
 |scope _ _=>intro S e M h;simp[den]at h
 |label _=>intro S e M h;simp[den]at h
 |goto _=>intro S e M h;simp[den]at h
 |refuse _=>intro S e M h;simp[den]at h
theorem Bx:∀(cs:List ax)(i:Nat),(dq i cs).map (·.key)=List.range' i cs.length
 |[],i=>rfl
 |c::r,i=>by simp[dq,Bx r,ajX]
theorem D6:∀(cs:List ax)(i:Nat)(e:cf),e∈dq i cs->e.ak=0
 |[],i,e,he=>by simp[dq]at he
 |c::r,i,e,he=>by
  simp only[dq,aak]at he;rcases he with rfl|he
  ·rfl
  ·exact D6 r (i+1) e he
theorem a7.dv{φ:bE}{G:Fr}{m:Mem}{w:World}(h:a7 φ G m w)(dv:List Deferred):a7 φ ⟨G.g,dv⟩ m w:=
 ⟨h.nodup,h.oA,h.fw,h.apart,h.jQ,h.bound⟩
theorem Ev.dv{P:Program}{gl f args m K}(h:∀φ G w (vs:Array Value),G.dv=[]->a7 φ G m w->ec w (Fo G φ m) gl->args.length=vs.size->(∀(i:Nat) x v,args[i]?=some x->vs[i]?=some v->az φ w (Fo G φ m) x v)->
 Calls P f vs w λe w'=>∃φ' m' out,K out m'/\a7 φ' G m' w'/\aO φ m w φ' m' w'/\mL φ' w' (Fo G φ' m') out e):Ev P gl f args m K:=by
 intro φ G w vs hm Z As B8;refine (h φ ⟨G.g,[]⟩ w vs rfl (hm.dv []) Z As B8).mono ?_;rintro e w' ⟨φ',m',out,E,I,O,AH⟩;exact⟨φ',m',out,E,I.dv G.dv,O,AH⟩
theorem wI(Aq:jl X)(B7:iH X Ap){fn:Func}{c:Code}{args:List AV}{cs:List ax}{out:Out}{l:List (Nat×ax)}(AY:X.P.funcs[f]?=some fn)(A:fn.body=some c)
 (h:pJ X f Ap n fn c args cs=some (out,l)):Ev X.P X.gl f args (dq 0 cs) λo m=>o=out/\m=cZ 0 l:=by
 unfold pJ at h;split at h
 ·rename_i J;simp only[Ds,aag,abN]at J;obtain⟨⟨⟨Dm,Dn⟩,DN⟩,DO⟩:=J;refine Ev.dv ?_;intro φ G w vs BN hm DP DQ Av;have BF:∀k,k∈(dq 0 cs).map (·.key)↔k<cs.length:=λk=>by rw[Bx];simp
  have C1:∀k∈(X.fp f).sites,k∉(dq 0 cs).map (·.key):=by
   intro k A' DR;have E:=DN k A';have I:=(BF k).1 DR;omega
  have CW:∀k L,φ k=some L->k<cs.length/\L.ak=0:=λk L A8=>by
   have A':=hm.oA k L A8;obtain⟨e,he,rfl⟩:=ab9.1 A';obtain⟨L',An,AI,_⟩:=hm.fw e he;rw[A8]at An;cases An;exact⟨(BF _).1 A',by rw[AI];exact D6 cs 0 e he⟩
  have DS:=hm.add DO C1;have C2:aO φ (dq 0 cs) w (φ.add (X.fp f).sites) (dq 0 cs++(X.fp f).sites.map dead) w:=⟨Hi hm C1,λ_ _ _=>rfl,λb _ A2=>(zR C1 b).1 A2,aae _,rfl,rfl,rfl⟩;refine calls_of_wp AY A ?_;obtain⟨S0,BO⟩:∃S0,S0=entry fn.ntmps X.gl args cs (X.fp f).sites:=⟨_,rfl⟩;have H:Rel (φ.add (X.fp f).sites) G S0 {tmps:=vs++Array.replicate (fn.ntmps-vs.size) undef,defers:=[]} w:=by
   rw[BO];refine⟨by simp[entry];omega,BN.symm,λt x A9=>?_,DS,?_⟩
   ·obtain⟨j,rfl,A4⟩:=wc 0 args t _ A9;have Ao:j<vs.size:=by rw[<-DQ];exact (aaa.1 A4).1
    have e:(vs++Array.replicate (fn.ntmps-vs.size) undef).getD (0+j) undef=vs[j]:=by
     simp only[adj,abF];rw[afD Ao];simp[Ao]
    rw[e];exact C2.av (Av j x _ A4 (by simp[Ao]))
   ·exact C2.jS DP
  rw[<-BO]at h;cases C3:den X f Ap n c S0 with
  |none=>rw[C3]at h;cases h
  |some q=>
   obtain⟨e,M⟩:=q;rw[C3]at h;obtain⟨Do,Dp,AZ⟩:=HT Aq B7 c S0 e M C3 (by rw[BO];rfl) (by rw[BO];exact Aq.VJ f fn c AY A);refine wp_mono (AZ _ G _ w H) λe' V w' AD=>?_;obtain⟨φ',_,A6,Y,he⟩:=AD.is;have CX:aO φ (dq 0 cs) w φ' M.mem w':=by
    have:S0.mem=dq 0 cs++(X.fp f).sites.map dead:=by rw[BO];rfl
    rw[this]at Y;exact C2.trans Y
   have CY:finish X.P (X.fp f) cs.length fn.results.toList M=some (out,l)->
    V.defers=[]/\∃v,(results fn V.tmps).run X.P w'=.ok v w'/\∃BX m' CZ,(CZ=out/\m'=cZ 0 l)/\a7 BX G m' w'/\aO φ (dq 0 cs) w BX m' w'/\mL BX w' (Fo G BX m') CZ (.returned v):=by
    intro B9;unfold finish at B9;split at B9
    ·rename_i DT xs BI;split at B9
     ·rename_i DU;obtain⟨B',E,I,O⟩:=vZ A6 fn.results.toList DT xs BI DU;obtain⟨AL,Ah,rfl,g1,g2,g3,g4,_⟩:=rq B9 A6.mem A6.jS I O CX CW;have DV:(results fn V.tmps).run X.P w'=.ok (if h:B'.toArray.size=1 then B'.toArray[0]else .tuple B'.toArray) w':=by
       have e:results fn V.tmps=(do let vs <-fn.results.mapM (yr V.tmps);pure (if h:vs.size=1 then vs[0]else .tuple vs)):=by
        unfold results;congr 1
       rw[e,Array.mapM_eq_mapM_toList];simp only[Sem.run_bind,Sem.run_map,E,Result.andThen_ok,Sem.run_pure]
      refine⟨A6.defers.trans BN,_,DV,AL,_,_,⟨rfl,rfl⟩,g1,g2,?_⟩;show az AL w' _ (oneOf Ah) _;by_cases C4:B'.length=1
      ·obtain⟨v,rfl⟩:∃v,B'=[v]:=by
        cases B' with
        |nil=>simp at C4
        |cons v r=>exact⟨v,by cases r with|nil=>rfl|cons _ _=>simp at C4⟩
       obtain⟨y,rfl⟩:∃y,Ah=[y]:=by
        cases Ah with
        |nil=>simp at g3
        |cons v r=>exact⟨v,by cases r with|nil=>rfl|cons _ _=>simp at g3⟩
       simpa [oneOf]using g4 0 y v (by simp) (by simp)
      ·have e:oneOf Ah=.bM Ah:=by
        cases Ah with
        |nil=>rfl
        |cons y r=>cases r with|nil=>simp at g3;omega|cons _ _=>rfl
       rw[e,dif_neg (by simpa using C4)];exact .bM Ah B'.toArray (by simpa using g3) (λi y v h C5=>g4 i y v h (by simpa using C5))
     ·cases B9
    ·cases B9
   cases e' with
   |normal=>cases he;exact CY h
   |ret=>cases he;exact CY h
   |exit id=>cases he;cases h
   |panic chain=>
    obtain⟨t,x,v,rfl,rfl,U⟩:=he;have C5:o7 (X.fp f) cs.length M [] (λ_=>.panic t x)=some (out,l):=h;obtain⟨AL,Ah,rfl,g1,g2,_,_,g5⟩:=rq (vs:=[]) C5 A6.mem A6.jS rfl (by simp) CX CW;exact⟨A6.defers.trans BN,AL,_,_,⟨rfl,rfl⟩,g1,g2,v,rfl,U.mono (λ_ _ _=>rfl) (aae _) (λb _=>g5 b)⟩
   |_=>exact he.elim
 ·cases h
theorem Ev.split{P:Program}{gl f r m K}(E:Ev P gl f (.lit (.slice none 0 0)::r) m K)(I:Ev P gl f (.nn::r) m K):Ev P gl f (.d (.list [])::r) m K:=by
 intro φ G w vs hm Z As B8;have go:∀y,(∀v,vs[0]?=some v->az φ w (Fo G φ m) y v)->∀(i:Nat) x v,(y::r)[i]?=some x->vs[i]?=some v->az φ w (Fo G φ m) x v:=by
  intro y AF i x v A9 AC;cases i with
  |zero=>simp at A9;subst A9;exact AF v AC
  |succ i=>exact B8 (i+1) x v (by simpa using A9) AC
 have C_:0<vs.size:=by rw[<-As];simp
 have AA:=B8 0 (.d (.list [])) vs[0] (by simp) (by simp[C_]);generalize DW:vs[0]=v0 at AA;have C6:vs[0]?=some v0:=by rw[<-DW];simp[C_]
 cases AA with
 |d _ _ U=>
  cases U with
  |nil a cap A1=>
   cases a with
   |none=>
    have:=A1 rfl;subst this;exact E φ G w vs hm Z (by simpa using As) (go _ (λv AC=>by rw[C6]at AC;cases AC;exact .lit _ rfl))
   |some a=>exact I φ G w vs hm Z (by simpa using As) (go _ (λv AC=>by rw[C6]at AC;cases AC;exact .nn a cap))
  |list _ b off cap sz Dq=>exact I φ G w vs hm Z (by simpa using As) (go _ (λv AC=>by rw[C6]at AC;cases AC;exact .nn _ cap))
theorem eM{r:Option (Out×List (Nat×ax))}{sz:Nat}(h:np r=some sz):r=some (.ret (.vec 0 0 0 0),[(0,.vec sz [])]):=by
 unfold np at h;split at h
 ·cases h;rfl
 ·cases h
theorem JS{h:List AV->Option AV}{args:List AV}{cs:List ax}{r:Out×List (Nat×ax)}(H:lK h args cs=some r):cs=[]/\∃d,h args=some d/\r=(.ret d,[]):=by
 unfold lK at H;split at H
 ·split at H
  ·rename_i d U;cases H;exact⟨rfl,d,U,rfl⟩
  ·cases H
 ·cases H
theorem toDs_eq:∀{args:List AV}{BY:List D},toDs args=some BY->args=BY.map .d
 |[],BY,h=>by
  simp only[toDs,aas]at h;subst h;rfl
 |y::r,BY,h=>by
  cases H:toDs r with
  |none=>unfold toDs at h;rw[H]at h;cases y<;>cases h
  |some Ah=>
   unfold toDs at h;rw[H]at h;cases y<;>cases h;rw[toDs_eq H];rfl
theorem acL(Aq:jl X){g:FuncId}{h:List AV->Option AV}(Z:X.vh g=some h){args:List AV}{cs:List ax}{out:Out}{l:List (Nat×ax)}(H:lK h args cs=some (out,l)):
 fW X.P g=true/\Ev X.P X.gl g args (dq 0 cs) λo m=>o=out/\m=cZ 0 l:=by
 obtain⟨J,DX⟩:=Aq.vh g h Z;refine⟨J,?_⟩;obtain⟨rfl,d,U,he⟩:=JS H;cases he;intro φ G w vs hm AB As B8;have Cb:∀b,gQ φ (dq 0 []) b->False:=by
  rintro b ⟨e,he,_⟩;simp[dq]at he
 refine (DX args d U φ (Fo G φ (dq 0 [])) w vs AB (λb A=>A.elim (hm.bound b) λh=>(Cb b h).elim) As B8).mono ?_;rintro e w' ⟨v,rfl,A,BN⟩;refine⟨φ,dq 0 [],.ret d,⟨rfl,rfl⟩,⟨hm.nodup,hm.oA,λe he=>by simp[dq]at he,λe he=>by simp[dq]at he,λb A=>(Cb b A).elim,λb DZ=>agL (hm.bound b DZ) A.size⟩,⟨bE.le_refl _,λb Aw _=>A.block b Aw,λb _ A2=>A2,A.size,A.os,A.tape,A.output⟩,?_⟩;exact BN
end
def ahd(φ:bE)(w:World)(F:Nat->Prop)(x:DF)(d:Deferred):Prop:=
 ∃Z:Array Value,d.target=.fn (.func x.1) Z/\x.2.length=(d.args++Z).size/\∀(i:Nat) y v,x.2[i]?=some y->(d.args++Z)[i]?=some v->az φ w F y v
def mR(φ:bE)(w:World)(F:Nat->Prop):List DF->List Deferred->Prop
 |[],[]=>True
 |x::xs,d::D=>ahd φ w F x d/\mR φ w F xs D
 |_,_=>False
theorem mR.keeps{φ m w φ' m' w'}{G:Fr}(h:aO φ m w φ' m' w'):∀{xs:List DF}{D:List Deferred},mR φ w (Fo G φ m) xs D->mR φ' w' (Fo G φ' m') xs D
 |[],[],_=>trivial
 |x::xs,d::D,⟨⟨Z,A5,A2,A3⟩,A7⟩=>⟨⟨Z,A5,A2,λi y v A8 A'=>h.av (A3 i y v A8 A')⟩,mR.keeps h A7⟩
 |[],_::_,AM=>AM.elim
 |_::_,[],AM=>AM.elim
def wJ(n:Nat)(φ:bE)(g:Nat->Prop)(m:Mem)(w:World)(e:XE)(A:St)(E:List DF)(e':Exit)(J:Act)(w':World):Prop:=
 ∃φ' q,A.n=n/\Rel φ' ⟨g,q⟩ A J w'/\aO φ m w φ' A.mem w'/\mR φ' w' (Fo ⟨g,q⟩ φ' A.mem) E q/\(match e' with
  | .normal=>e=.normal
  | .exit id=>e=.exit id
  | .ret=>e=.ret
  | .panic chain=>∃t x v,e=.panic t x/\chain=[{v:=.iface t v,recovered:=false}]/\aI w' (Fo ⟨g,q⟩ φ' A.mem) x v
  |_=>False)
theorem wJ.weaken{n:Nat}{φ AV:bE}{g:Nat->Prop}{m AW:Mem}{w AX:World}{e A E e' J w'}(h:wJ n AV g AW AX e A E e' J w')(Ai:aO φ m w AV AW AX):wJ n φ g m w e A E e' J w':=by
 obtain⟨φ',q,A5,A2,A3,A7,T⟩:=h;exact⟨φ',q,A5,A2,Ai.trans A3,A7,T⟩
theorem HX{S:St}{o:Oper}{d:DF}(h:gv S o=some d):o.guard=none/\∃c A9 args AH g AC,o.op=.defer c/\c={callee:=.value A9,args,argTypes:=AH}/\S.aq A9=(true,.fn g AC)/\g<qO/\gU S args.toList=true/\d=(g,cM S args.toList++AC):=by
 unfold gv at h;split at h
 ·rename_i A9 args AH AN AO;unfold CM at h;split at h
  ·rename_i g AC AI;split at h
   ·rename_i AD;cases h;simp only[Ds,aag]at AD;exact⟨AN,_,A9,args,AH,g,AC,AO,rfl,AI,AD.2,AD.1,rfl⟩
   ·cases h
  ·cases h
 ·cases h
section
variable {X:Ctx} {A0:bj} {f:FuncId} {n:Nat}
theorem wK{md:Bool}{all:List Oper}(A4:iH X A0):∀(ops:List Oper)(S:St)(D:List DF)(e:XE)(A:St)(E:List DF),eS X A0 md all ops S D=some (e,A,E)->S.gl=X.gl->jc S.n ops=true->
 A.n=S.n/\A.gl=S.gl/\∀φ g dv a w,Rel φ ⟨g,dv⟩ S a w->mR φ w (Fo ⟨g,dv⟩ φ S.mem) D dv->∀Q:Exit->Act->World->Prop,(∀e' J w',wJ S.n φ g S.mem w e A E e' J w'->Q e' J w')->wpList X.P all.toArray Q ops a w
 |[],S,D,e,A,E,h,N,I=>by
  simp only[eS,aas,ab8]at h;obtain⟨rfl,rfl,rfl⟩:=h;exact⟨rfl,rfl,λφ g dv a w H M Q AA=>AA .normal _ _ ⟨φ,dv,rfl,H,aO.refl ..,M,rfl⟩⟩
 |o::rest,S,D,e,A,E,h,N,I=>by
  simp only[jc,ajW,Ds]at I;obtain⟨AY,I⟩:=I;have AZ:∀t,o.dst=some t->t<S.n:=λt Aj=>by rw[Aj]at AY;simpa using AY
  simp only[eS]at h;cases AP:gv S o with
  |some d=>
   rw[AP]at h;simp only at h;obtain⟨AN,c,A9,args,AH,g0,AC,AO,Ak,AI,Al,AD,rfl⟩:=HX AP;obtain⟨AE,AF,AQ⟩:=wK A4 rest (S.put o.dst true .aX) _ e A E h ((kM ..).trans N) (by rw[ll];exact I);refine⟨AE.trans (ll ..),AF.trans (kM ..),λφ g dv a w H M Q AA=>?_⟩;have AR:=H.aq A9 (by rw[AI]);rw[AI]at AR;generalize An:a.eval A9=Ax at AR;cases AR with
   |qP _ _ Z A_ Aa=>exact absurd Al (Nat.not_lt.2 (akX _ _))
   |fn _ _ Z Ay A_ Aa=>
    have Ao:(execOp a.eval o).run X.P w=.ok (.defer {target:=.fn (.func g0) Z,args:=args.map a.eval}) w:=by
     simp[execOp,AO,Ak,resolve,An,Deferred.ofValue]
    have hw:Region.wanted o (yielded all.toArray a.tmps)=true:=by simp[Region.wanted,AN]
    unfold wpList;rw[aal hw];left;unfold Oper.wp;rw[Ao,Oper.upon_defer];have Ap:Rel φ ⟨g,{target:=.fn (.func g0) Z,args:=args.map a.eval}::dv⟩ S {a with defers:={target:=.fn (.func g0) Z,args:=args.map a.eval}::a.defers} w:=
     ⟨H.size,by rw[H.defers],H.env,H.mem.dv _,H.jS⟩
    have AS:=Ap.put o.dst AZ true .aX undef (λ_=>.aX _);refine AQ φ g _ _ w AS ⟨⟨Z,rfl,?_,?_⟩,?_⟩ Q (λe' a2 AJ U=>AA e' a2 AJ ?_)
    ·rw[ab1,iz];simp[A_]
    ·intro i y v A8 A';rw[eD];by_cases hi:i<args.size
     ·rw[aao (by rw[iz];simpa using hi),uF]at A8;rw[afD (by simpa using hi)]at A';simp only[Array.getElem?_map,aaf]at A';obtain⟨z,Ab,rfl⟩:=A';obtain⟨Az,Ac,rfl⟩:=aaf.1 A8;rw[afu,Ab]at Ac;cases Ac;exact H.aq z (tp AD z (by simpa using Array.mem_of_getElem? Ab))
     ·rw[abM (by rw[iz];simpa using hi),iz]at A8;rw[Array.getElem?_append_right (by simpa using hi)]at A';simp only[Array.size_map,abZ]at A8 A';exact Aa _ _ v A8 A'
    ·rw[eD];exact M
    ·rw[ll,eD]at U;exact U
  |none=>
   rw[AP]at h;simp only at h;cases AT:l7 X A0 md all S o with
   |none=>rw[AT]at h;cases h
   |some p=>
    obtain⟨O,S1⟩:=p;rw[AT]at h;obtain⟨V,A1,Aq,Ad⟩:=sG A4 N AZ AT;rcases Aq with rfl|⟨t0,B',rfl⟩
    ·simp only[Gi]at h;obtain⟨AE,AF,AQ⟩:=wK A4 rest S1 D e A E h (A1.trans N) (by rw[V];exact I);refine⟨AE.trans V,AF.trans A1,λφ g dv a w H M Q AA=>?_⟩;have:=Ad φ ⟨g,dv⟩ a w H (wpList X.P all.toArray Q rest) Q
      (λ_ φ' J w' AG A6=>AQ φ' g dv J w' AG (M.keeps A6) Q (λe' a2 AJ U=>AA e' a2 AJ (by rw[<-V];exact U.weaken A6))) (λt x he=>by cases he)
     unfold wpList;split
     ·rename_i hw;rw[aal hw]at this;exact .inl this
     ·rename_i hw;rw[aac hw]at this;exact this
    ·simp only[Gi,aas,ab8]at h;obtain⟨rfl,rfl,rfl⟩:=h;refine⟨V,A1,λφ g dv a w H M Q AA=>?_⟩;have:=Ad φ ⟨g,dv⟩ a w H (wpList X.P all.toArray Q rest) Q
      (λhe=>by cases he) (λt x he φ' J w' v AG A6 A'=>AA (.panic _) J w' ⟨φ',dv,V,AG,A6,M.keeps A6,t,x,v,he,rfl,A'⟩)
     unfold wpList;split
     ·rename_i hw;rw[aal hw]at this;exact .inl this
     ·rename_i hw;rw[aac hw]at this;exact this
theorem Kz(AK:jl X)(A4:iH X A0){c:Code}{S:St}{D:List DF}{e:XE}{A:St}{E:List DF}(h:wC D (den X f A0 n c S)=some (e,A,E))(N:S.gl=X.gl)(I:dQ X f S.n c=true):
 A.n=S.n/\A.gl=S.gl/\∀φ g dv a w,Rel φ ⟨g,dv⟩ S a w->mR φ w (Fo ⟨g,dv⟩ φ S.mem) D dv->c.wp X.P (wJ S.n φ g S.mem w e A E) a w:=by
 cases Y:den X f A0 n c S with
 |none=>rw[Y]at h;cases h
 |some p=>
  obtain⟨O,S1⟩:=p;rw[Y]at h;simp only[wC,aas,ab8]at h;obtain⟨rfl,rfl,rfl⟩:=h;obtain⟨A5,A2,A3⟩:=HT AK A4 c S O S1 Y N I;refine⟨A5,A2,λφ g dv a w H M=>wp_mono (A3 φ ⟨g,dv⟩ a w H) λe' J w' U=>?_⟩;obtain⟨φ',Ar,AG,A6,he⟩:=U.is;exact⟨φ',dv,Ar,AG,A6,M.keeps A6,by cases e'<;>exact he⟩
theorem aaJ(AK:jl X)(A4:iH X A0)(c:Code):∀(S:St)(D:List DF)(e:XE)(A:St)(E:List DF),hU X f A0 n c S D=some (e,A,E)->S.gl=X.gl->dQ X f S.n c=true->
 A.n=S.n/\A.gl=S.gl/\∀φ g dv a w,Rel φ ⟨g,dv⟩ S a w->mR φ w (Fo ⟨g,dv⟩ φ S.mem) D dv->c.wp X.P (wJ S.n φ g S.mem w e A E) a w:=by
 induction c with
 |seq a b As At=>
  intro S D e A E h N I;simp only[dQ,Ds]at I;simp only[hU]at h;cases Y:hU X f A0 n a S D with
  |none=>rw[Y]at h;cases h
  |some p=>
   obtain⟨O,S1,AB⟩:=p;obtain⟨V,A1,AL⟩:=As S D O S1 AB Y N I.1;have stop:O≠.normal->e=O/\A=S1/\E=AB:=λhe=>by
    rw[Y]at h;cases O with
    |normal=>exact absurd rfl he
    |_=>simp only[Hy,aas,ab8]at h;exact⟨h.1.symm,h.2.1.symm,h.2.2.symm⟩
   by_cases he:O=.normal
   ·subst he;rw[Y]at h;simp only[Hy]at h;obtain⟨AE,AF,Au⟩:=At S1 AB e A E h (A1.trans N) (by rw[V];exact I.2);refine⟨AE.trans V,AF.trans A1,λφ g dv ac w H M=>wp_seq (wp_mono (AL φ g dv ac w H M) λe' J w' U=>?_)⟩;obtain⟨φ',q,A5,A2,A3,A7,T⟩:=U;cases e' with
    |normal=>exact wp_mono (Au φ' g q J w' A2 A7) λB0 a2 AJ Ae=>by rw[V]at Ae;exact Ae.weaken A3
    |exit id=>cases T
    |ret=>cases T
    |panic chain=>obtain⟨t,x,v,AU,_⟩:=T;cases AU
    |_=>exact T.elim
   ·obtain⟨rfl,rfl,rfl⟩:=stop he;refine⟨V,A1,λφ g dv ac w H M=>wp_seq (wp_mono (AL φ g dv ac w H M) λe' J w' U=>?_)⟩;cases e' with
    |normal=>obtain⟨_,_,_,_,_,_,T⟩:=U;exact absurd T he
    |_=>exact U
 |region id ops draw=>
  intro S D e A E h N I;simp only[hU]at h;split at h
  ·rename_i Af;simp only[Ds,aj8]at Af;obtain⟨rfl,_⟩:=Af;simp only[dQ,Ds]at I;have Av:jc S.n ops.toList=true:=I.1;cases Y:eS X A0 (X.md f id) ops.toList ops.toList S D with
   |none=>rw[Y]at h;cases h
   |some p=>
    obtain⟨O,S1,AB⟩:=p;rw[Y]at h;obtain⟨V,A1,AL⟩:=wK A4 ops.toList S D O S1 AB Y N Av;have Ag:∀φ g dv a w,Rel φ ⟨g,dv⟩ S a w->mR φ w (Fo ⟨g,dv⟩ φ S.mem) D dv->(Code.region id ops false).wp X.P (wJ S.n φ g S.mem w O S1 AB) a w:=
     λφ g dv a w H M=>wp_region_lit (AL φ g dv a w H M _ (λ_ _ _ h=>h))
    by_cases he:O=.normal
    ·subst he;simp only[yK,aas,ab8]at h;obtain⟨rfl,rfl,rfl⟩:=h;obtain⟨t1,t2,t3⟩:=rB X f id S1;refine⟨t1.trans V,t2.trans A1,λφ g dv a w H M=>wp_mono (Ag φ g dv a w H M) λe' J w' U=>?_⟩;obtain⟨φ',q,A5,A2,A3,A7,T⟩:=U;cases e' with
     |normal=>
      obtain⟨Aw,AS,Ah⟩:=t3 φ' ⟨g,q⟩ J w' A2;exact⟨Aw,q,t1.trans A5,AS,A3.trans Ah,A7.keeps Ah,rfl⟩
     |exit id=>cases T
     |ret=>cases T
     |panic chain=>obtain⟨t,x,v,AU,_⟩:=T;cases AU
     |_=>exact T.elim
    ·have:e=O/\A=S1/\E=AB:=by
      cases O with
      |normal=>exact absurd rfl he
      |_=>simp only[yK,aas,ab8]at h;exact⟨h.1.symm,h.2.1.symm,h.2.2.symm⟩
     obtain⟨rfl,rfl,rfl⟩:=this;exact⟨V,A1,Ag⟩
  ·exact Kz AK A4 h N I
 |_=>intro S D e A E h N I;exact Kz AK A4 (by simpa only[hU]using h) N I
end
abbrev Ru:=FuncId->Array Value->World->(Ending->World->Prop)->Prop
def HY(C:Ru):Prop:=∀f vs w R A1,C f vs w R->(∀e w',R e w'->A1 e w')->C f vs w A1
def HZ(C:Ru)(gl:List (Nat×D))(f:FuncId)(args:List AV)(m:Mem)(K:Out->Mem->Prop):Prop:=
 ∀φ G w (vs:Array Value),a7 φ G m w->ec w (Fo G φ m) gl->args.length=vs.size->(∀(i:Nat) x v,args[i]?=some x->vs[i]?=some v->az φ w (Fo G φ m) x v)->
  C f vs w λe w'=>∃φ' m' out,K out m'/\a7 φ' G m' w'/\aO φ m w φ' m' w'/\mL φ' w' (Fo G φ' m') out e
theorem HZ.frz{C:Ru}(T:HY C){gl f args}{cs:List ax}{out:Out}{A:List (Nat×ax)}(h:HZ C gl f args (dq 0 cs) λo m=>o=out/\m=cZ 0 A)(A2:cs.length<=A.length):
 HZ C gl f args (dq 0 cs) λo m=>o=DZ cs.length A out/\m=cZ 0 (dM (cZ 0 A) (List.range cs.length) (λ_=>true) (λ_ v=>v) 0 (List.range cs.length)):=by
 intro φ G w vs hm U AD AE;refine T _ _ _ _ _ (h φ G w vs hm U AD AE) ?_;rintro e w' ⟨φ',m',V,⟨rfl,rfl⟩,M,E,H⟩;obtain⟨s1,s2,AF⟩:=zQ (G1:=G) (ρ:=List.range cs.length) (bor:=λ_=>true) (nv:=λ_ v=>v) M List.nodup_range (λk N=>vo A 0 k (ak6 _) (by simp at N;omega)) (λb h=>.inl h) (λb h=>M.jQ b h.own)
  (λk e L b U _ _ Y q=>M.jQ _ ⟨e,(Mem.get_mem U).1,L,by rw[(Mem.get_mem U).2];exact Y,q⟩)
 refine⟨_,_,_,⟨rfl,rfl⟩,s1,⟨?_,E.xU,?_,E.size,E.os,E.tape,E.output⟩,?_⟩
 ·intro k L Y;have N:k<cs.length:=by
   have:=hm.oA k L Y;rw[Hj,oX]at this;simpa using this
  obtain⟨L',A',AG,AH⟩:=E.le k L Y;exact⟨L',by simp[bE.gx,N,A'],AG,AH⟩
 ·intro b AI q;exact E.own b AI ((u9 (φ:=φ') (nv:=λ_ v=>v) (bor:=λ_=>true) (λk N=>vo A 0 k (ak6 _) (by simp at N;omega)) b).1 q).own
 ·cases V with
  |ret x=>
   cases e with
   |returned v=>exact (s2 x v H).norm
   |_=>exact H.elim
  |panic t x=>
   cases e with
   |panicked chain=>
    obtain⟨v,Z,J⟩:=H;exact⟨v,Z,J.mono (λ_ _ _=>rfl) (aae _) (λb _=>AF b)⟩
   |_=>exact H.elim
theorem JT{C:Ru}(T:HY C){gl:List (Nat×D)}{A3:bj}(AK:∀g args cs out l,A3 g args cs=some (out,l)->HZ C gl g args (dq 0 cs) λo m=>o=out/\m=cZ 0 l)
 {m:Mem} {A4:Nat} {g:FuncId} {I:List AV} {mt:List Nat} {res:eA} (h:dr A3 m A4 g I mt=some res) {φ:bE} {G:Fr} {w:World} (hm:a7 φ G m w) (AL:ec w (Fo G φ m) gl)
 {vs:Array Value} (A2:I.length=vs.size) (AM:∀(i:Nat) x v,I[i]?=some x->vs[i]?=some v->az φ w (Fo G φ m) x v):
 C g vs w λe w'=>∃φ',a7 φ' G (bp m res.es) w'/\aO φ m w φ' (bp m res.es) w'/\mL φ' w' (Fo G φ' (bp m res.es)) res.out e:=by
 unfold dr kS kR at h;obtain⟨ρ,A5⟩:∃ρ,ρ=collect m 64 (j6 mt 0 I) []:=⟨_,rfl⟩;have A6:=nS m 64 (j6 mt 0 I) [] List.nodup_nil (by simp);rw[<-A5]at h A6;generalize (sy mt 0 I).filter (λk=>!ρ.contains k)=B at h;clear A5;obtain⟨A7,A8⟩:=A6;unfold eK at h;split at h
 ·rename_i out A AN;split at h
  ·rename_i Z;cases h;have A9:HZ C gl g (gn (mt.contains 1000) m ρ B I) (dq 0 (m8 (dM m ρ (λk=>B.contains k) gk 0 ρ))) λo m=>o=out/\m=cZ 0 A:=by
    obtain⟨AZ,A_,AO,A'⟩:=yN AN;have AA:=AK _ _ _ _ _ AO;rcases A' with ⟨rfl,rfl⟩|⟨Aa,rfl,rfl⟩
    ·exact AA
    ·have AB:(m8 (dM m ρ (λk=>B.contains k) gk 0 ρ)).length=ρ.length:=by rw[sF,pF]
     have:=AA.frz T (by rw[AB];omega);rw[AB]at this;exact this
   simp only[Ds,ago,aag]at Z;obtain⟨⟨Ab,AP⟩,AQ⟩:=Z;rw[yL]at A9;obtain⟨v1,v2,v3⟩:=EW (B:=B) hm A7 A8;have AR:∀(i:Nat) x v,(gn (mt.contains 1000) m ρ B I)[i]?=some x->vs[i]?=some v->az (φ.gx ρ gk) w (Fo (kz φ G m ρ B) (φ.gx ρ gk) (cZ 0 (dM m ρ (λk=>B.contains k) gk 0 ρ))) x v:=by
    intro i x v J AS;rw[wD]at J;obtain⟨y,AT,rfl⟩:=aaf.1 J;exact (v2 y v (AM i y v AT AS)).AJ
   have AU:ec w (Fo (kz φ G m ρ B) (φ.gx ρ gk) (cZ 0 (dM m ρ (λk=>B.contains k) gk 0 ρ))) gl:=
    AL.mono (λ_ _ _=>rfl) (aae _) (λb _=>v3 b)
   refine T _ _ _ _ _ (A9 (φ.gx ρ gk) (kz φ G m ρ B) w _ v1 AU (by rw[qH];exact A2) AR) ?_;rintro e w' ⟨Ac,Ad,V,⟨rfl,rfl⟩,AW,AX,H⟩;have A0:B=[]\/(yH V=true/\mP A=true):=AQ.imp (by simp) id;obtain⟨φ',M,E,AC⟩:=EX (B:=B) hm A7 A8 (fr:=List.range' (A4+1) (A.length-ρ.length)) List.nodup_range' (Bt AP) AW AX (by simp;omega) (A0.imp id λO=>wE O.2);refine⟨φ',M,E,?_⟩;cases V with
   |ret x=>
    cases e with
    |returned v=>exact AC x v (A0.imp id λO=>O.1) H
    |_=>exact H.elim
   |panic t x=>
    cases e with
    |panicked chain=>
     obtain⟨v,rfl,J⟩:=H;have:=AC (.d x) v (A0.imp id λO=>O.1) (.d _ _ J);cases this with
     |d _ _ AY=>exact⟨v,rfl,AY⟩
    |_=>exact H.elim
  ·cases h
 ·cases h
theorem Fl{P:Program}{ops:Array Oper}{Q:Exit->Act->List Frame->World->Prop}{cs:List Frame}(AB:∀a w,¬Q .outgrown a cs w):∀(l:List Nat)(a:Act)(w:World),
 wpOps P ops (λe a w=>Q e a cs w) l a w->wpOpsS P ops Q l a cs w
 |[],a,w,h=>h
 |i::rest,a,w,h=>by
  have ih:=Fl (P:=P) (ops:=ops) AB rest;unfold wpOps at h;unfold wpOpsS;split at h
  ·rename_i Y;simp only[Y];exact ih a w h
  ·rename_i o Y;simp only[Y];split at h
   ·rename_i hw;rw[aal hw];rcases h with h|⟨_,a0,w0,h⟩
    ·have U:=Oper.wp_mono (K':=λH w'=>wpOpsS P ops Q rest H cs w') ih h;unfold Oper.wp at U;split
     ·rename_i w' I;rw[I]at U;exact U.elim
     ·exact U
    ·exact absurd h (AB a0 w0)
   ·rename_i hw;rw[aac hw];exact ih _ w h
def OW(A:Frame)(D:List Frame)(v:Value)(E:FrameMode):Prop:=
 recoverD (A::D)=some (v,{A with mode:=E}::D)\/(recoverD (A::D)=none/\v=.nilIface/\E=A.mode)
theorem D7{o:Oper}(h:tE o=true):o.guard=none/\∃A4,o.op=.call {callee:=.builtin .recover,args:=#[],argTypes:=A4}:=by
 unfold tE at h;split at h
 ·rename_i args A4 A6 Y;refine⟨A6,A4,?_⟩;rw[Y];have:args=#[]:=by
   cases args with
   |mk l=>cases l with
    |nil=>rfl
    |cons a r=>simp at h
  rw[this]
 ·cases h
abbrev Gj(A:Frame)(D:List Frame)(E:FrameMode)(n:Nat)(φ:bE)(G:Fr)(m:Mem)(w:World)(e:XE)(J:St):Exit->Act->List Frame->World->Prop:=
 λe' H A0 w'=>A0={A with mode:=E}::D/\mw n φ G m w (Is e J) e' H w'
theorem wL{P:Program}{c:Code}{Q AC:Exit->Act->List Frame->World->Prop}{a:Act}{cs:List Frame}{w:World}(h:c.wpS P Q a cs w)(AL:∀e a cs w,Q e a cs w->AC e a cs w):c.wpS P AC a cs w:=
 λb k AM I=>let ⟨e,H,A0,w',q,r⟩:=h b k AM I;⟨e,H,A0,w',AL _ _ _ _ q,r⟩
section
variable {X:Ctx} {A7:bj} {f:FuncId} {n:Nat}
theorem aaK(AN:jl X)(AD:iH X A7)(A1:AV)(c:Code):∀(S:St)(e:XE)(J:St),mC X f A7 n A1 c S=some (e,J)->S.gl=X.gl->dQ X f S.n c=true->
 J.n=S.n/\J.gl=S.gl/\∀φ G a w A D v E,OW A D v E->az φ w (Fo G φ S.mem) A1 v->Rel φ G S a w->c.wpS X.P (Gj A D E S.n φ G S.mem w e J) a (A::D) w:=by
 induction c with
 |seq a b AE Ae=>
  intro S e J h A3 Z;simp only[dQ,Ds]at Z;simp only[mC]at h;rcases fY h with ⟨S1,y,U⟩|⟨y,U⟩
  ·obtain⟨N,O,T⟩:=AE S .normal S1 y A3 Z.1;obtain⟨AO,AP,AQ⟩:=HT AN AD b S1 e J U (O.trans A3) (by rw[N];exact Z.2);refine⟨AO.trans N,AP.trans O,λφ G ac w A D v E M A' I=>wpS_seq (wL (T φ G ac w A D v E M A' I) ?_)⟩;rintro e' H A0 w' ⟨rfl,V⟩;obtain⟨φ',AF,A8,A9,he⟩:=V.is;cases e' with
   |normal=>
    refine wpS_of_wp (wp_mono (AQ φ' G H w' A8) λAf a2 Ag AG=>⟨rfl,?_⟩);rw[N]at AG;exact AG.weaken A9
   |exit id=>cases he
   |ret=>cases he
   |panic chain=>obtain⟨t,x,v,AR,_⟩:=he;cases AR
   |_=>exact he.elim
  ·obtain⟨N,O,T⟩:=AE S e J y A3 Z.1;refine⟨N,O,λφ G ac w A D v E M A' I=>wpS_seq (wL (T φ G ac w A D v E M A' I) ?_)⟩;rintro e' H A0 w' ⟨rfl,V⟩;cases e' with
   |normal=>obtain⟨φ',_,_,_,he⟩:=V.is;exact absurd he U
   |_=>exact⟨rfl,V⟩
 |region id ops draw=>
  intro S e J h A3 Z;simp only[mC]at h;split at h
  ·rename_i o r AH;split at h
   ·rename_i AS;obtain⟨A6,A4,Y⟩:=D7 AS;simp only[dQ,Ds]at Z;have AA:jc S.n ops.toList=true:=Z.1;rw[AH]at AA;simp only[jc,ajW,Ds]at AA;obtain⟨AI,AT⟩:=AA;have AU:∀t,o.dst=some t->t<S.n:=λt AW=>by rw[AW]at AI;simpa using AI
    have A5:(o::r).toArray=ops:=by rw[<-AH]
    have key:∀A2 S1,eL X A7 (X.md f id) (o::r) r (S.put o.dst true A1)=some (A2,S1)->S1.n=S.n/\S1.gl=S.gl/\∀φ G a w A D v E,OW A D v E->az φ w (Fo G φ S.mem) A1 v->Rel φ G S a w->
     (Code.region id ops false).wpS X.P (Gj A D E S.n φ G S.mem w A2 S1) a (A::D) w:=by
     intro A2 S1 y;obtain⟨N,O,T⟩:=yR AD r (S.put o.dst true A1) A2 S1 y ((kM ..).trans A3) (by rw[ll];exact AT);rw[ll]at N T;rw[kM]at O;rw[eD]at T;refine⟨N,O,λφ G a w A D v E M A' I=>wpS_region ?_⟩;have AX:List.range ops.size=0::List.range' 1 r.length:=by
      rw[<-A5];simp[List.range_eq_range',ajX]
     have AY:ops[0]?=some o:=by rw[<-A5];simp
     have AZ:(execOp a.eval o).run X.P w=.ok .recover w:=by
      simp[execOp,Y,resolve,Deferred.ofValue,invoke,builtin]
     have A_:=I.put o.dst AU true A1 v (λ_=>A');have AJ:=T φ G _ w A_ (λe a w'=>Gj A D E S.n φ G S.mem w A2 S1 e a ({A with mode:=E}::D) w') (λe' H w' V=>⟨rfl,V⟩);rw[A5,<-wpOps_eq_wpList r 1 (λj=>by rw[<-A5];simp[Nat.add_comm])]at AJ;have AK:=Fl (Q:=Gj A D E S.n φ G S.mem w A2 S1) (cs:={A with mode:=E}::D) (λ_ _ hh=>hh.2) _ _ _ AJ;rw[AX];unfold wpOpsS;simp only[AY];rw[aal (by simp[Region.wanted,A6])];simp only[AZ];rcases M with M|⟨M,rfl,rfl⟩
     ·rw[M];exact AK
     ·rw[M];exact AK
    unfold uz at h;split at h
    ·rename_i S1 y;cases h;obtain⟨N,O,T⟩:=key _ _ y;obtain⟨t1,t2,t3⟩:=rB X f id S1;refine⟨t1.trans N,t2.trans O,λφ G a w A D v E M A' I=>wL (T φ G a w A D v E M A' I) ?_⟩;rintro e' H A0 w' ⟨rfl,V⟩;refine⟨rfl,?_⟩;obtain⟨φ',AF,A8,A9,he⟩:=V.is;cases e' with
     |normal=>
      obtain⟨Aa,Ab,Ac⟩:=t3 φ' G H w' A8;exact⟨Aa,_,t1.trans AF,⟨rfl,rfl⟩,Ab,A9.trans Ac⟩
     |exit id=>cases he
     |ret=>cases he
     |panic chain=>obtain⟨t,x,v,Ad,_⟩:=he;cases Ad
     |_=>exact he.elim
    ·exact key _ _ h
   ·cases h
  ·cases h
 |_=>intro S e J h;simp[mC]at h
end
section
variable {X:Ctx} {A5:bj} {f:FuncId} {n:Nat}
theorem H0{fn:Func}{args:List AV}{cs:List ax}(AK:args.length<=fn.ntmps)(AL:cs.length<=100)(A6:∀k∈(X.fp f).sites,100<=k)(A7:(X.fp f).sites.Nodup)
 {φ:bE} {G:Fr} {w:World} {vs:Array Value} (A8:G.dv=[]) (hm:a7 φ G (dq 0 cs) w) (A9:ec w (Fo G φ (dq 0 cs)) X.gl) (AA:args.length=vs.size)
 (AB:∀(i:Nat) x v,args[i]?=some x->vs[i]?=some v->az φ w (Fo G φ (dq 0 cs)) x v):
 Rel (φ.add (X.fp f).sites) G (entry fn.ntmps X.gl args cs (X.fp f).sites) {tmps:=vs++Array.replicate (fn.ntmps-vs.size) undef,defers:=[]} w/\
  aO φ (dq 0 cs) w (φ.add (X.fp f).sites) (entry fn.ntmps X.gl args cs (X.fp f).sites).mem w/\(∀k L,φ k=some L->k<cs.length/\L.ak=0):=by
 have AM:∀k,k∈(dq 0 cs).map (·.key)↔k<cs.length:=λk=>by rw[Bx];simp
 have AC:∀k∈(X.fp f).sites,k∉(dq 0 cs).map (·.key):=by
  intro k Z A_;have q:=A6 k Z;have A':=(AM k).1 A_;omega
 have T:∀k L,φ k=some L->k<cs.length/\L.ak=0:=λk L AN=>by
  have Z:=hm.oA k L AN;obtain⟨e,he,rfl⟩:=ab9.1 Z;obtain⟨L',AO,Aa,_⟩:=hm.fw e he;rw[AN]at AO;cases AO;exact⟨(AM _).1 Z,by rw[Aa];exact D6 cs 0 e he⟩
 have AD:=hm.add A7 AC;have AE:aO φ (dq 0 cs) w (φ.add (X.fp f).sites) (dq 0 cs++(X.fp f).sites.map dead) w:=⟨Hi hm AC,λ_ _ _=>rfl,λb _ Ab=>(zR AC b).1 Ab,aae _,rfl,rfl,rfl⟩;refine⟨⟨by simp[entry];omega,A8.symm,λt x U=>?_,AD,AE.jS A9⟩,AE,T⟩;obtain⟨j,rfl,AP⟩:=wc 0 args t _ U;have AF:j<vs.size:=by rw[<-AA];exact (aaa.1 AP).1
 have e:(vs++Array.replicate (fn.ntmps-vs.size) undef).getD (0+j) undef=vs[j]:=by
  simp only[adj,abF];rw[afD AF];simp[AF]
 rw[e];exact AE.av (AB j x _ AP (by simp[AF]))
theorem Fm{fn:Func}{cs:List ax}{out:Out}{l:List (Nat×ax)}{φ φ':bE}{G:Fr}{N:St}{E:Act}{w w':World}(O:Rel φ' G N E w')(AG:aO φ (dq 0 cs) w φ' N.mem w')
 (T:∀k L,φ k=some L->k<cs.length/\L.ak=0) (H:finish X.P (X.fp f) cs.length fn.results.toList N=some (out,l)):
 ∃v,(results fn E.tmps).run X.P w'=.ok v w'/\∃A m' V,(V=out/\m'=cZ 0 l)/\a7 A G m' w'/\aO φ (dq 0 cs) w A m' w'/\mL A w' (Fo G A m') V (.returned v):=by
 unfold finish at H;split at H
 ·rename_i Ac xs Ad;split at H
  ·rename_i Ae;obtain⟨J,q,A',AH⟩:=vZ O fn.results.toList Ac xs Ad Ae;obtain⟨A0,M,rfl,g1,g2,g3,g4,_⟩:=rq H O.mem O.jS A' AH AG T;have Af:(results fn E.tmps).run X.P w'=.ok (if h:J.toArray.size=1 then J.toArray[0]else .tuple J.toArray) w':=by
    have e:results fn E.tmps=(do let vs <-fn.results.mapM (yr E.tmps);pure (if h:vs.size=1 then vs[0]else .tuple vs)):=by
     unfold results;congr 1
    rw[e,Array.mapM_eq_mapM_toList];simp only[Sem.run_bind,Sem.run_map,q,Result.andThen_ok,Sem.run_pure]
   refine⟨_,Af,A0,_,_,⟨rfl,rfl⟩,g1,g2,?_⟩;show az A0 w' _ (oneOf M) _;by_cases AI:J.length=1
   ·obtain⟨v,rfl⟩:∃v,J=[v]:=by
     cases J with
     |nil=>simp at AI
     |cons v r=>exact⟨v,by cases r with|nil=>rfl|cons _ _=>simp at AI⟩
    obtain⟨y,rfl⟩:∃y,M=[y]:=by
     cases M with
     |nil=>simp at g3
     |cons v r=>exact⟨v,by cases r with|nil=>rfl|cons _ _=>simp at g3⟩
    simpa [oneOf]using g4 0 y v (by simp) (by simp)
   ·have e:oneOf M=.bM M:=by
     cases M with
     |nil=>rfl
     |cons y r=>cases r with|nil=>simp at g3;omega|cons _ _=>rfl
    rw[e,dif_neg (by simpa using AI)];exact .bM M J.toArray (by simpa using g3) (λi y v h Ag=>g4 i y v h (by simpa using Ag))
  ·cases H
 ·cases H
def Sn(u:FrameMode)(v:Value):Prop:=(v=.nilIface/\u=.returning)\/∃t x,v=.iface t x/\u=.panicking [{v:=.iface t x,recovered:=false}]
def RuR(P:Program):Ru:=λf vs w R=>∀u v,vs.back?=some v->Sn u v->CallsD P f vs.pop u w λe D w'=>settle D=.returning/\R e w'
theorem VL(P:Program):HY (RuR P):=λf vs w R Az h Ah u v I hm=>(h u v I hm).mono λe D w' hh=>⟨hh.1,Ah e w' hh.2⟩
theorem So(AQ:jl X)(Ai:iH X A5){fn:Func}{c:Code}{args:List AV}{cs:List ax}{out:Out}{l:List (Nat×ax)}(AR:X.P.funcs[f]?=some fn)(AS:fn.body=some c)
 (h:vj X f A5 n fn c args cs=some (out,l)):HZ (RuR X.P) X.gl f args (dq 0 cs) λo m=>o=out/\m=cZ 0 l:=by
 unfold vj at h;split at h
 ·rename_i A1 AT;split at h
  ·rename_i AU;simp only[Ds,aag,abN]at AU;obtain⟨⟨⟨AK,AL⟩,A6⟩,A7⟩:=AU;intro φ A2 w vs AD A9 AA AB u v I Aj;obtain⟨G,Y⟩:∃G:Fr,G=⟨A2.g,[]⟩:=⟨_,rfl⟩;have A8:G.dv=[]:=by rw[Y]
   have hm:a7 φ G (dq 0 cs) w:=by rw[Y];exact AD.dv []
   have Ak:ec w (Fo G φ (dq 0 cs)) X.gl:=by rw[Y];exact A9
   have AW:∀(i:Nat) x v,args[i]?=some x->vs[i]?=some v->az φ w (Fo G φ (dq 0 cs)) x v:=by rw[Y];exact AB
   have Al:args≠[]:=by rintro rfl;cases AT
   have B':0<args.length:=List.length_pos_iff.2 Al;have An:args.dropLast.length=vs.pop.size:=by simp;omega
   obtain⟨Ao,AX,T⟩:=H0 (fn:=fn) AK AL A6 A7 A8 hm Ak An (λi x v U I=>by
    have hi:i<args.length-1:=by have:=(aaa.1 U).1;simpa using this
    refine AW i x v ?_ ?_
    ·rw[List.dropLast_eq_take,List.getElem?_take_of_lt (by omega)]at U;exact U
    ·rw[Array.getElem?_pop]at I;rw[aal (by omega)]at I;exact I)
   have Ap:az (φ.add (X.fp f).sites) w (Fo G (φ.add (X.fp f).sites) (entry fn.ntmps X.gl args.dropLast cs (X.fp f).sites).mem) A1 v:=by
    refine AX.av (AW (args.length-1) A1 v ?_ ?_)
    ·rw[<-List.getLast?_eq_getElem?];exact AT
    ·rw[Array.back?]at I;rw[AA];exact I
   cases AJ:mC X f A5 n A1 c (entry fn.ntmps X.gl args.dropLast cs (X.fp f).sites)with
   |none=>rw[AJ]at h;cases h
   |some p=>
    obtain⟨e,N⟩:=p;rw[AJ]at h;obtain⟨B0,B1,Aq⟩:=aaK AQ Ai A1 c _ e N AJ rfl (AQ.VJ f fn c AR AS);refine callsD_of_wpS AR AS λA3 A4 hu=>?_;obtain⟨D,Ar,As⟩:∃D,OW A3 A4 v D/\settle D=.returning:=by
     rcases Aj with ⟨rfl,rfl⟩|⟨t,x,rfl,rfl⟩
     ·exact⟨.returning,.inr ⟨by simp[recoverD,hu],rfl,hu.symm⟩,rfl⟩
     ·exact⟨.panicking [{v:=.iface t x,recovered:=true}],.inl (by simp[recoverD,hu]),by simp[settle]⟩
    refine wL (Aq _ G _ w A3 A4 v D Ar Ap Ao) ?_;rintro e' E B2 w' ⟨rfl,At⟩;obtain⟨φ',_,O,Au,he⟩:=At.is;have AG:=AX.trans Au;have AY:finish X.P (X.fp f) cs.length fn.results.toList N=some (out,l)->E.defers=[]/\∃AZ,({A3 with mode:=D}::A4)={A3 with mode:=AZ}::A4/\∃v,(results fn E.tmps).run X.P w'=.ok v w'/\(settle AZ=.returning/\
     ∃A m' V,(V=out/\m'=cZ 0 l)/\a7 A A2 m' w'/\aO φ (dq 0 cs) w A m' w'/\mL A w' (Fo A2 A m') V (.returned v)):=by
     intro H;obtain⟨v,q,A0,Av,Aw,A',AH,Ax,Ay⟩:=Fm O AG T H;subst Y;exact⟨O.defers,D,rfl,v,q,As,A0,Av,Aw,A',AH.dv A2.dv,Ax,Ay⟩
    cases e' with
    |normal=>cases he;exact AY h
    |ret=>cases he;exact AY h
    |exit id=>cases he;cases h
    |panic chain=>obtain⟨t,x,v,rfl,_⟩:=he;cases h
    |_=>exact he.elim
  ·cases h
 ·cases h
end
def X0(X:Ctx)(Y:bj):Prop:=∀g args cs out l,Y g args cs=some (out,l)->fW X.P g=true/\HZ (RuR X.P) X.gl g args (dq 0 cs) λo m=>o=out/\m=cZ 0 l
theorem F9{M:bj}{m:Mem}{AN:Nat}{g:FuncId}{AD:List AV}{mt:List Nat}{res:eA}(h:dr M m AN g AD mt=some res):∃args cs out l,M g args cs=some (out,l):=by
 unfold dr kS kR eK at h;split at h
 ·rename_i out B1 N;obtain⟨B2,B3,AE,_⟩:=yN N;exact⟨_,_,_,_,AE⟩
 ·cases h
section
variable {X:Ctx} {M Y:bj} {f:FuncId} {n:Nat}
theorem Sp(A:jl X)(A8:iH X M)(AF:X0 X Y){fn:Func}{c:Code}{args:List AV}{cs:List ax}{out:Out}{l:List (Nat×ax)}(D:X.P.funcs[f]?=some fn)(E:fn.body=some c)
 (h:vk X f M Y n fn c args cs=some (out,l)):Ev X.P X.gl f args (dq 0 cs) λo m=>o=out/\m=cZ 0 l:=by
 unfold vk at h;split at h
 ·rename_i AG;simp only[Ds,aag,abN]at AG;obtain⟨⟨⟨AO,AP⟩,AQ⟩,AR⟩:=AG;refine Ev.dv ?_;intro φ G w vs A9 hm AS AT AU;obtain⟨A0,Z,AH⟩:=H0 (fn:=fn) AO AP AQ AR A9 hm AS AT AU;obtain⟨g,B4⟩:=G;simp only at A9;subst A9;cases AA:hU X f M n c (entry fn.ntmps X.gl args cs (X.fp f).sites) []with
  |none=>rw[AA]at h;cases h
  |some p=>
   obtain⟨e,q,AI⟩:=p;rw[AA]at h;obtain⟨B5,AW,AX⟩:=aaJ A A8 c _ _ e q AI AA rfl (A.VJ f fn c D E);refine calls_of_wp_defers D E (wp_mono (AX _ g [] _ w A0 trivial) λe' H w' AY=>?_);obtain⟨φ',AJ,_,J,AZ,A1,he⟩:=AY;have A2:=Z.trans AZ;have A_:q.gl=X.gl:=AW;have back:∀{T:bE}{A3:St}{I:World},Rel T ⟨g,AJ⟩ A3 H I->aO φ (dq 0 cs) w T A3.mem I->finish X.P (X.fp f) cs.length fn.results.toList A3=some (out,l)->
    ∃v,(results fn H.tmps).run X.P I=.ok v I/\∃A4 m' y,(y=out/\m'=cZ 0 l)/\a7 A4 ⟨g,[]⟩ m' I/\aO φ (dq 0 cs) w A4 m' I/\mL A4 I (Fo ⟨g,[]⟩ A4 m') y (.returned v):=by
    intro T A3 I Aa A5 Ab;obtain⟨v,Ac,Ad,Ae,Af,Ag,Ah,Ai,Aj⟩:=Fm Aa A5 AH Ab;exact⟨v,Ac,Ad,Ae,Af,Ag,Ah.dv [],Ai,Aj⟩
   match AI,AJ,A1 with
   |[],[],_=>
    have O:H.defers=[]:=J.defers;simp only[uA]at h;cases e' with
    |normal=>cases he;show Leaves _ _ _ _ H.defers _ _;rw[O];exact back J A2 h
    |ret=>cases he;show Leaves _ _ _ _ H.defers _ _;rw[O];exact back J A2 h
    |exit id=>cases he;cases h
    |panic chain=>
     obtain⟨t,x,v,rfl,rfl,AB⟩:=he;have Ak:o7 (X.fp f) cs.length q [] (λ_=>.panic t x)=some (out,l):=h;obtain⟨T,AD,rfl,g1,g2,_,_,g5⟩:=rq (vs:=[]) Ak J.mem J.jS rfl (by simp) A2 AH;show Leaves _ _ _ _ H.defers _ _;rw[O];exact⟨T,_,_,⟨rfl,rfl⟩,g1,g2,v,rfl,AB.mono (λ_ _ _=>rfl) (aae _) (λb _=>g5 b)⟩
    |_=>exact he.elim
   |[d],[U],⟨Al,_⟩=>
    have O:H.defers=[U]:=J.defers;simp only[uA]at h;have one:∀u A6 A',u≠FrameMode.run->Sn u A'->az φ' w' (Fo ⟨g,[U]⟩ φ' q.mem) A6 A'->Bq e=some A6->
     Leaves X.P fn H.tmps (λe w'=>∃φ' m' y,(y=out/\m'=cZ 0 l)/\a7 φ' ⟨g,[]⟩ m' w'/\aO φ (dq 0 cs) w φ' m' w'/\mL φ' w' (Fo ⟨g,[]⟩ φ' m') y e) [U] u w':=by
     intro u A6 A' hu An Ao Ap;rw[Ap]at h;simp only[ru]at h;cases N:dr Y q.mem 0 d.1 (d.2++[A6]) (X.fp d.1).uv with
     |none=>rw[N]at h;cases h
     |some res=>
      rw[N]at h;obtain⟨AC,AK,AL,Aq⟩:=Al;obtain⟨_,_,_,_,Ar⟩:=F9 N;have As:=(AF _ _ _ _ _ Ar).1;have At:=JT (VL X.P) (gl:=X.gl) (λg args cs out l hh=>(AF g args cs out l hh).2) N (φ:=φ') (G:=⟨g,[U]⟩) (w:=w') (vs:=(U.args++AC).push A') J.mem (by rw[<-A_];exact J.jS)
       (by simp[AL];omega) (λi x v V A7=>by
        by_cases hi:i<d.2.length
        ·rw[aao hi]at V;rw[Array.getElem?_push,aac (by omega)]at A7;exact Aq i x v V A7
        ·have:i=d.2.length:=by
          have:=(aaa.1 V).1;simp at this;omega
         subst this;rw[abM (aae _)]at V;simp at V;subst V;rw[Array.getElem?_push,aal AL]at A7;cases A7;exact Ao)
      have AM:=At u A' (by simp) An;rw[Array.pop_push]at AM;refine⟨hu,.func d.1,AC,d.1,U.args++AC,AK,by rw[AK];simp[invoke,sE As],AM.mono ?_⟩;rintro Z Au I ⟨Av,T,Aw,A5,Ax⟩;unfold sD at h;split at h
      ·rename_i x es ks heq;cases heq;cases Z with
       |returned v2=>
        show Leaves _ _ _ _ [] (settle Au) I;rw[Av];exact back (J.xV Aw A5) (A2.trans A5) h
       |_=>exact Ax.elim
      ·cases h
    cases e' with
    |normal=>cases he;show Leaves _ _ _ _ H.defers _ _;rw[O];exact one .returning _ .nilIface (by simp) (.inl ⟨rfl,rfl⟩) (.lit _ rfl) rfl
    |ret=>cases he;show Leaves _ _ _ _ H.defers _ _;rw[O];exact one .returning _ .nilIface (by simp) (.inl ⟨rfl,rfl⟩) (.lit _ rfl) rfl
    |exit id=>cases he;cases h
    |panic chain=>
     obtain⟨t,x,v,rfl,rfl,AB⟩:=he;show Leaves _ _ _ _ H.defers _ _;rw[O];exact one (.panicking [{v:=.iface t v,recovered:=false}]) _ (.iface t v) (by simp) (.inr ⟨t,v,rfl,rfl⟩) (.fL _ _ _ AB) rfl
    |_=>exact he.elim
   |_::_::_,_,_=>cases h
 ·cases h
theorem VM(A:jl X)(A8:iH X M):X0 X (l8 X n M):=by
 intro g args cs out l h;unfold l8 at h;split at h
 ·rename_i fn D;split at h
  ·rename_i c E;refine⟨?_,So A A8 D E h⟩;unfold fW;rw[D];simp[E,A.names g fn D]
  ·cases h
 ·cases h
theorem H2(A:jl X):∀n,iH X (aF X n)
 |0=>λg args cs out l h=>by cases h
 |n+1=>λg args cs out l h=>by
  have ih:=H2 A n;simp only[aF,A.ov]at h;split at h
  ·rename_i AE Ay;exact acL A Ay h
  split at h
  ·rename_i fn D;split at h
   ·rename_i c E;have N:fW X.P g=true:=by
     unfold fW;rw[D];simp[E,A.names g fn D]
    refine⟨N,?_⟩;cases A1:uB c with
    |true=>
     rw[A1]at h;exact Sp A ih (VM A ih) D E h
    |false=>
    rw[A1]at h;simp only[vm]at h;unfold fX at h;split at h
    ·split at h
     ·rename_i r;unfold jE at h;split at h
      ·rename_i a b Az B';split at h
       ·rename_i B0;subst B0;have A0:=eM Az;have Z:=eM B';rw[A0]at h;cases h;exact Ev.split (wI A ih D E A0) (wI A ih D E Z)
       ·cases h
      ·cases h
     ·exact wI A ih D E h
    ·exact wI A ih D E h
   ·cases h
  ·cases h
end
def aH{α:Type}(f:Nat->Option α):Prop:=∀n r,f n=some r->f (n+1)=some r
theorem aH.le{α:Type}{f:Nat->Option α}(h:aH f){n m:Nat}(AY:n<=m){r:α}(V:f n=some r):f m=some r:=by
 induction AY with
 |refl=>exact V
 |step _ ih=>exact h _ _ ih
theorem aH.const{α:Type}(x:Option α):aH λ_=>x:=λ_ _ h=>h
theorem aH.bind{α β:Type}{f:Nat->Option α}{g:α->Nat->Option β}(T:aH f)(Y:∀x,aH (g x)):aH λn=>(f n).bind λx=>g x n:=by
 intro n r h;obtain⟨x,AE,V⟩:=akc.1 h;simp only[T n x AE,ac7];exact Y x n r V
open Classical in
noncomputable def fK{α:Type}(f:Nat->Option α):Option α:=if h:∃n,(f n).isSome=true then f (Classical.choose h)else none
theorem df{α:Type}{f:Nat->Option α}(T:aH f){r:α}:fK f=some r↔∃n,f n=some r:=by
 unfold fK;constructor
 ·intro h;split at h
  ·exact⟨_,h⟩
  ·cases h
 ·rintro ⟨n,U⟩;have hex:∃n,(f n).isSome=true:=⟨n,by rw[U];rfl⟩;rw[dif_pos hex];have AJ:=Classical.choose_spec hex;obtain⟨Al,AK⟩:=aj9.1 AJ;rw[AK];rcases Nat.le_total n (Classical.choose hex)with I|I
  ·rw[<-AK];exact T.le I U
  ·have:=T.le I AK;rw[this]at U;exact U
theorem aM{α:Type}(x:Option α):fK (λ_=>x)=x:=by
 cases x with
 |some r=>exact (df (aH.const _)).2 ⟨0,rfl⟩
 |none=>unfold fK;rw[dif_neg];rintro ⟨_,h⟩;cases h
theorem dz{α β:Type}{f:Nat->Option α}{g:α->Nat->Option β}(T:aH f)(Y:∀x,aH (g x)):fK (λn=>(f n).bind λx=>g x n)=(fK f).bind λx=>fK (g x):=by
 apply Option.ext;intro r;rw[df (T.bind Y),akc];constructor
 ·rintro ⟨n,U⟩;obtain⟨x,AE,V⟩:=akc.1 U;exact⟨x,(df T).2 ⟨n,AE⟩,(df (Y x)).2 ⟨n,V⟩⟩
 ·rintro ⟨x,AE,V⟩;obtain⟨n,U⟩:=(df T).1 AE;obtain⟨m,hm⟩:=(df (Y x)).1 V;exact⟨max n m,by rw[T.le (Nat.le_max_left n m) U];exact (Y x).le (Nat.le_max_right n m) hm⟩
theorem tM{α:Type}{f:Nat->Option α}(T:aH f):fK (λn=>f (n+1))=fK f:=by
 have AZ:aH λn=>f (n+1):=λn r h=>T (n+1) r h;apply Option.ext;intro r;rw[df AZ,df T];exact⟨λ⟨n,h⟩=>⟨n+1,h⟩,λ⟨n,h⟩=>⟨n,T n r h⟩⟩
def aT(k:St->Option (XE×St)):XE×St->Option (XE×St)
 |(.normal,S)=>k S
 |r=>some r
theorem wO(r:Option (XE×St))(k:St->Option (XE×St)):andThen r k=r.bind (aT k):=by
 rcases r with _|⟨e,S⟩
 ·rfl
 ·cases e<;>rfl
def mT(k:St->St):XE×St->Option (XE×St)
 |(.normal,S)=>some (.normal,k S)
 |r=>some r
theorem pk(k:St->St)(r:Option (XE×St)):uz k r=r.bind (mT k):=by
 rcases r with _|⟨e,S⟩
 ·rfl
 ·cases e<;>rfl
def bT(id:Nat):XE×St->Option (XE×St)
 |(.exit AT,S)=>if AT=id then some (.normal,S)else some (.exit AT,S)
 |r=>some r
theorem H3(id:Nat)(r:Option (XE×St)):CK id r=r.bind (bT id):=by
 rcases r with _|⟨e,S⟩
 ·rfl
 ·cases e<;>rfl
def cT(m:Mem)(A0:Nat)(ρ B:List Nat)(O:Nat)(b:Bool)(p:Out×List (Nat×ax)):Option eA:=eK m A0 ρ B (pe O b (some p))
theorem uH(m:Mem)(A0:Nat)(ρ B:List Nat)(O:Nat)(b:Bool)(r:Option (Out×List (Nat×ax))):eK m A0 ρ B (pe O b r)=r.bind (cT m A0 ρ B O b):=by cases r<;>rfl
theorem D8(S:St)(d:Option Nat)(r:Option eA):sA S d r=r.bind λc=>sA S d (some c):=by cases r<;>rfl
theorem H4(b:Bool)(m:Mem)(r:Option eA):wq b m r=r.bind λc=>wq b m (some c):=by cases r<;>cases b<;>rfl
theorem Bz(S:St)(o:Oper)(r:Option eA):wu S o r=r.bind λc=>wu S o (some c):=by cases r<;>rfl
theorem lN(D:List aU)(r:Option (St×aU))(k:St->List aU->Option (XE×St)):wA D r k=r.bind λp=>k p.1 (p.2::D):=by cases r<;>rfl
theorem H5(P:Program)(p:aw)(O:Nat)(rs:List ResultVar)(r:Option (XE×St)):fin P p O rs r=r.bind λq=>fin P p O rs (some q):=by cases r<;>rfl
def dX(C:Nat->bj):Prop:=∀g a c,aH λk=>C k g a c
section
variable {X:Ctx} {C:Nat->bj} {S:St} {o:Oper} {md:Bool}
theorem mU(A:dX C)(m:Mem)(A0:Nat)(g:FuncId)(AH:List AV)(mt:List Nat):aH (λk=>dr (C k) m A0 g AH mt):=by
 unfold dr kS kR;simp only[uH];exact (A _ _ _).bind λ_=>aH.const _
theorem j8(A:dX C)(args:List Operand)(J:Bool×AV):aH (λk=>cg X (C k) S o args J):=by
 unfold cg;split
 ·split
  ·simp only[H4 _ _ (dr _ _ _ _ _ _)];exact (mU A _ _ _ _ _).bind λ_=>aH.const _
  ·exact aH.const _
 ·exact aH.const _
theorem JU(A:dX C):aH (λk=>qj X (C k) S o):=by
 unfold qj;split
 ·rename_i J args A8 A5;have I:(λk=>sA S o.dst (cg X (C k) S o args.toList (S.aq J)))=λk=>(cg X (C k) S o args.toList (S.aq J)).bind λc=>sA S o.dst (some c):=by
   funext k;exact D8 ..
  rw[I];exact (j8 A args.toList (S.aq J)).bind (λ_=>aH.const _)
 ·exact aH.const _
 ·exact aH.const _
theorem uI(A:dX C)(r:cP):aH (λk=>gr X (C k) S o r):=by
 cases r with
 |no=>exact JU A
 |val c x=>exact aH.const _
 |cF c x e=>exact aH.const _
theorem H6(A:dX C)(b:Bool)(r:cP):aH (λk=>nF X (C k) S o b r):=by
 have other:∀r,aH (λk=>if b=true then gr X (C k) S o r else some (.normal,S.put o.dst true .aX)):=by
  intro r;split
  ·exact uI A r
  ·exact aH.const _
 cases r with
 |no=>exact other .no
 |val c x=>exact aH.const _
 |cF c x e=>exact other (.cF c x e)
theorem rD(A:dX C)(all:List Oper):aH (λk=>l7 X (C k) md all S o):=by
 unfold l7;split
 ·exact uI A _
 ·split
  ·split
   ·exact H6 A _ _
   ·split
    ·exact uI A _
    ·exact aH.const _
  ·exact aH.const _
  ·exact aH.const _
theorem n9{F:Nat->Option (XE×St)}{K:St->Nat->Option (XE×St)}(A2:aH F)(AF:∀S,aH (K S)):aH (λn=>andThen (F n) (λS=>K S n)):=by
 simp only[wO];refine A2.bind (g:=λx n=>aT (λS=>K S n) x) λx=>?_;obtain⟨e,S⟩:=x;cases e with
 |normal=>exact AF S
 |_=>exact aH.const _
theorem jF(A:dX C)(all:List Oper):∀(ops:List Oper)(S:St),aH (λk=>eL X (C k) md all ops S)
 |[],S=>aH.const _
 |o::r,S=>n9 (rD A all) (λZ=>jF A all r Z)
theorem OY(A:dX C):aH (λk=>m9 X (C k) S o):=by
 unfold m9;split
 ·rename_i J args A8 A5;have I:(λk=>wu S o (cg X (C k) S o args.toList (S.aq J)))=λk=>(cg X (C k) S o args.toList (S.aq J)).bind λc=>wu S o (some c):=by
   funext k;exact Bz ..
  rw[I];exact (j8 A args.toList (S.aq J)).bind (λ_=>aH.const _)
 ·exact aH.const _
theorem wP(A:dX C)(r:cP):aH (λk=>eF X (C k) S o r):=by
 cases r with
 |no=>exact OY A
 |val c x=>exact aH.const _
 |cF c x e=>exact aH.const _
theorem JV(A:dX C)(b:Bool)(r:cP):aH (λk=>qk X (C k) S o b r):=by
 have other:∀r,aH (λk=>if b=true then eF X (C k) S o r else some (S.put o.dst true .aX,⟨[],[],true,.aX⟩)):=by
  intro r;split
  ·exact wP A r
  ·exact aH.const _
 cases r with
 |no=>exact other .no
 |val c x=>exact aH.const _
 |cF c x e=>exact other (.cF c x e)
theorem kT(A:dX C)(all:List Oper):aH (λk=>ea X (C k) md all S o):=by
 unfold ea;split
 ·exact wP A _
 ·split
  ·split
   ·exact JV A _ _
   ·split
    ·exact wP A _
    ·exact aH.const _
  ·exact aH.const _
  ·exact aH.const _
theorem D9(S:St)(r:Option eA):uy S r=r.bind λc=>uy S (some c):=by cases r<;>rfl
theorem Fp(A:dX C):aH (λk=>j7 X (C k) S o):=by
 unfold j7;split
 ·unfold Bo;split
  ·unfold Hx;split
   ·rename_i J args A8 A5;have I:(λk=>uy S (cg X (C k) S o args.toList (S.aq J)))=λk=>(cg X (C k) S o args.toList (S.aq J)).bind λc=>uy S (some c):=by
     funext k;exact D9 ..
    rw[I];exact (j8 A args.toList (S.aq J)).bind (λ_=>aH.const _)
   ·exact aH.const _
  ·exact aH.const _
 ·exact aH.const _
theorem BA{AL:bj}{all:List Oper}{q:St×aU}(h:ea X AL md all S o=some q):j7 X AL S o=none:=by
 cases A3:j7 X AL S o with
 |none=>rfl
 |some p=>
  obtain⟨Y,A_,J,args,A8,A5,AJ,_⟩:=Fc A3;unfold ea at h;rw[Y]at h;simp only[eF,m9,A_,A5,AJ]at h;cases h
theorem Sr(A:dX C)(E:Nat×List (List Nat))(all r:List Oper)(D:List aU){K:Nat->St->List aU->Option (XE×St)}(AF:∀S D,aH λk=>K k S D):aH (λk=>mA X (C k) md E all r S o D (K k) (j7 X (C k) S o)):=by
 intro n y h;simp only at h⊢;cases A3:j7 X (C n) S o with
 |some q=>
  rw[A3]at h;have Aa:j7 X (C (n+1)) S o=some q:=Fp A n q A3;rw[Aa];exact h
 |none=>
  rw[A3]at h;simp only[mA,lN]at h;cases Y:ea X (C n) md all S o with
  |none=>rw[Y]at h;cases h
  |some p=>
   have AU:ea X (C (n+1)) md all S o=some p:=kT A all n p Y;rw[BA AU];simp only[mA,lN];rw[Y]at h;rw[AU];exact AF _ _ n y h
theorem mV(A:dX C)(E:Nat×List (List Nat))(all:List Oper):∀(ops:List Oper)(S:St)(D:List aU),aH (λk=>gK X (C k) md E all ops S D)
 |[],S,D=>aH.const _
 |o::r,S,D=>Sr A E all r D λS D=>mV A E all r S D
def OZ(N:List Cl)(p:St×aU):Option (St×aU):=if CI N p.2.es=true then some p else none
theorem KA(N:List Cl)(r:Option (St×aU)):Vz N r=r.bind (OZ N):=by
 rcases r with _|⟨S,p⟩<;>rfl
theorem tN(A:dX C)(E:List (List Nat))(N:List Cl)(all:List Oper):∀(ops:List Oper)(S:St)(D:List aU),aH (λk=>pg X (C k) md E N all ops S D)
 |[],S,D=>aH.const _
 |o::r,S,D=>by
  simp only[pg,lN];cases vi (E.getD D.length []) r with
  |true=>
   simp only[OL];split
   ·exact jF A all [o] S
   ·exact aH.const _
  |false=>
  simp only
  cases zZ X.P N S o with
  |some x=>
   simp only[wB,ac7];exact tN A E N all r _ _
  |none=>
   simp only[wB,KA];exact ((kT A all).bind (g:=λp _=>OZ N p) λp=>aH.const _).bind (g:=λp n=>pg X (C n) md E N all r p.1 (p.2::D)) λp=>tN A E N all r p.1 (p.2::D)
theorem Fq(A:dX C)(E:List (List Nat))(all:List Oper)(S:St)(fl:List (Nat×Nat)):aH (λk=>sB X (C k) md E all S fl):=by
 cases fl with
 |nil=>exact mV A _ all all S []
 |cons q r=>
  simp only[sB];cases fw S.mem (q::r)with
  |none=>exact aH.const _
  |some N=>exact tN A E N all all S []
theorem Ft(f:St->Option (XE×St)):∀(j:Nat)(S:St)(r:XE×St),iter f j S=some r->iter f (j+1) S=some r
 |0,S,r,h=>by cases h
 |j+1,S,r,h=>by
  simp only[iter]at h;rw[iter];rcases fY h with ⟨S1,I,A'⟩|⟨I,A'⟩
  ·rw[I];exact Ft f j S1 r A'
  ·rw[I];obtain⟨e,S1⟩:=r;cases e with
   |normal=>exact absurd rfl A'
   |_=>rfl
theorem sK(f:St->Option (XE×St)){j k:Nat}(h:j<=k){S:St}{r:XE×St}(V:iter f j S=some r):iter f k S=some r:=by
 induction h with
 |refl=>exact V
 |step _ ih=>exact Ft f _ S r ih
theorem tO{F:Nat->St->Option (XE×St)}(A2:∀S,aH (λk=>F k S)):∀(j:Nat)(S:St),aH (λk=>iter (F k) j S)
 |0,S=>aH.const _
 |j+1,S=>n9 (A2 S) (λZ=>tO A2 j Z)
theorem wQ(A:dX C)(f:FuncId){m:Nat->Nat}(hm:∀k,m k<=m (k+1)):∀(c:Code)(S:St),aH (λk=>den X f (C k) (m k) c S):=by
 intro c;induction c with
 |region id ops draw=>
  intro S;cases draw with
  |false=>
   simp only[den,pk];exact (jF A _ _ _).bind λ_=>aH.const _
  |true=>
   simp only[den,pk];exact (Fq A _ _ _ _).bind λ_=>aH.const _
 |seq a b A6 A9=>intro S;exact n9 (A6 S) (λZ=>A9 Z)
 |cond c a b A6 A9=>
  intro S;simp only[den];unfold CL;split
  ·split
   ·exact A6 S
   ·exact A9 S
  ·exact aH.const _
 |block id c ih=>
  intro S;simp only[den,H3];exact (ih _).bind λ_=>aH.const _
 |loop c ih=>
  intro S n r h;simp only[den]at h⊢;have I:=tO (F:=λk=>den X f (C k) (m k) c) ih (m n) S n r h;exact sK _ (hm n) I
 |skip=>intro S;exact aH.const _
 |exit id=>intro S;exact aH.const _
 |ret=>intro S;exact aH.const _
 |rangeFunc _ _ _ _=>intro S;exact aH.const _
 |scope _ _=>intro S;exact aH.const _
 |label _=>intro S;exact aH.const _
 |goto _=>intro S;exact aH.const _
 |refuse _=>intro S;exact aH.const _
theorem CW(A:dX C)(f:FuncId){m:Nat->Nat}(hm:∀k,m k<=m (k+1))(fn:Func)(c:Code)(args:List AV)(cs:List ax):aH (λk=>pJ X f (C k) (m k) fn c args cs):=by
 unfold pJ;split
 ·simp only[H5 X.P (X.fp f) cs.length fn.results.toList (den _ _ _ _ _ _)];exact (wQ A f hm c _).bind λ_=>aH.const _
 ·exact aH.const _
theorem xJ{F G:Nat->Option (Out×List (Nat×ax))}(A2:aH F)(Ab:aH G):aH (λn=>jE (F n) (G n)):=by
 intro n r h;replace h:jE (F n) (G n)=some r:=h;show jE (F (n+1)) (G (n+1))=some r;unfold jE at h;split at h
 ·rename_i a b A7 AA;have AB:=eM A7;have Ac:=eM AA;have f1:=A2 n _ AB;have f2:=Ab n _ Ac;rw[AB]at h;rw[f1,f2];simp only[jE,np];exact h
 ·cases h
theorem Ga{R:Nat->List AV->Option (Out×List (Nat×ax))}(AC:∀a,aH (λn=>R n a))(args:List AV)(b:Bool):aH (λn=>fX (R n) args b):=by
 unfold fX;split
 ·split
  ·exact xJ (AC _) (AC _)
  ·exact AC _
 ·exact AC _
def nT(k:St->XD)(H:List DF):XE×St->XD
 |(.normal,S)=>k S
 |(e,S)=>some (e,S,H)
theorem BB(k:St->XD)(H:List DF)(r:Option (XE×St)):Gi k H r=r.bind (nT k H):=by
 rcases r with _|⟨e,S⟩
 ·rfl
 ·cases e<;>rfl
def lT(k:St->St):XE×St×List DF->XD
 |(.normal,S,H)=>some (.normal,k S,H)
 |r=>some r
theorem yY(k:St->St)(r:XD):yK k r=r.bind (lT k):=by
 rcases r with _|⟨e,S,H⟩
 ·rfl
 ·cases e<;>rfl
def dT(H:List DF)(p:XE×St):XD:=some (p.1,p.2,H)
theorem Ea(H:List DF)(r:Option (XE×St)):wC H r=r.bind (dT H):=by
 rcases r with _|⟨e,S⟩<;>rfl
def sT(k:St->List DF->XD):XE×St×List DF->XD
 |(.normal,S,H)=>k S H
 |r=>some r
theorem KB(k:St->List DF->XD)(r:XD):Hy k r=r.bind (sT k):=by
 rcases r with _|⟨e,S,H⟩
 ·rfl
 ·cases e<;>rfl
theorem lO(A:dX C)(all:List Oper):∀(ops:List Oper)(S:St)(H:List DF),aH (λk=>eS X (C k) md all ops S H)
 |[],S,H=>aH.const _
 |o::r,S,H=>by
  simp only[eS];cases gv S o with
  |some d=>exact lO A all r _ _
  |none=>
   simp only[BB];refine (rD A all).bind (g:=λx n=>nT (λS1=>eS X (C n) md all r S1 H) H x) λx=>?_;obtain⟨e,S1⟩:=x;cases e with
   |normal=>exact lO A all r S1 H
   |_=>exact aH.const _
theorem Fu(A:dX C)(f:FuncId){m:Nat->Nat}(hm:∀k,m k<=m (k+1)):∀(c:Code)(S:St)(H:List DF),aH (λk=>hU X f (C k) (m k) c S H):=by
 have add:∀(c:Code)(S:St)(H:List DF),aH (λk=>wC H (den X f (C k) (m k) c S)):=λc S H=>by
  simp only[Ea];exact (wQ A f hm c S).bind λ_=>aH.const _
 intro c;induction c with
 |seq a b A6 A9=>
  intro S H;simp only[hU,KB];refine (A6 S H).bind (g:=λx n=>sT (hU X f (C n) (m n) b) x) λx=>?_;obtain⟨e,S1,Ad⟩:=x;cases e with
  |normal=>exact A9 S1 Ad
  |_=>exact aH.const _
 |region id ops draw=>
  intro S H;simp only[hU];split
  ·simp only[yY];exact (lO A _ _ _ _).bind λ_=>aH.const _
  ·exact add _ _ _
 |_=>intro S H;simp only[hU];exact add _ _ _
theorem yZ(A:dX C)(f:FuncId){m:Nat->Nat}(hm:∀k,m k<=m (k+1))(AG:AV):∀(c:Code)(S:St),aH (λk=>mC X f (C k) (m k) AG c S):=by
 intro c;induction c with
 |seq a b A6 A9=>intro S;exact n9 (A6 S) (λZ=>wQ A f hm b Z)
 |region id ops draw=>
  intro S;simp only[mC];split
  ·split
   ·simp only[pk];exact (jF A _ _ _).bind λ_=>aH.const _
   ·exact aH.const _
  ·exact aH.const _
 |_=>intro S;simp only[mC];exact aH.const _
theorem KC(P:Program)(p:aw)(O:Nat)(rs:List ResultVar)(r:Option (XE×St)):ON P p O rs r=r.bind λq=>ON P p O rs (some q):=by cases r<;>rfl
theorem JW(A:dX C)(f:FuncId){m:Nat->Nat}(hm:∀k,m k<=m (k+1))(fn:Func)(c:Code)(args:List AV)(cs:List ax):aH (λk=>vj X f (C k) (m k) fn c args cs):=by
 unfold vj;split
 ·split
  ·simp only[KC X.P (X.fp f) cs.length fn.results.toList (mC _ _ _ _ _ _ _)];exact (yZ A f hm _ c _).bind λ_=>aH.const _
  ·exact aH.const _
 ·exact aH.const _
theorem CX(A:dX C){m:Nat->Nat}(hm:∀k,m k<=m (k+1)):dX (λk=>l8 X (m k) (C k)):=by
 intro g args cs;simp only[l8];split
 ·split
  ·exact JW A g hm _ _ _ _
  ·exact aH.const _
 ·exact aH.const _
theorem KD(S:St)(r:Option eA):sD S r=r.bind λc=>sD S (some c):=by cases r<;>rfl
theorem KE(X:Ctx)(p:aw)(O:Nat)(rs:List ResultVar)(r:Option St):Br X p O rs r=r.bind λS=>finish X.P p O rs S:=by cases r<;>rfl
theorem KG(X:Ctx)(p:aw)(O:Nat)(rs:List ResultVar)(AW:bj)(r:XD):uA X p O rs AW r=r.bind λq=>uA X p O rs AW (some q):=by cases r<;>rfl
theorem O0{CR:Nat->bj}(A:dX CR)(p:aw)(O:Nat)(rs:List ResultVar)(S:St)(d:DF)(AG:Option AV):aH (λk=>ru X p O rs (CR k) S d AG):=by
 cases AG with
 |none=>exact aH.const _
 |some AG=>
  simp only[ru,KE,KD S (dr _ _ _ _ _ _)];exact ((mU A _ _ _ _ _).bind (g:=λc _=>sD S (some c)) λ_=>aH.const _).bind (g:=λS _=>finish X.P p O rs S) λ_=>aH.const _
theorem CY{CR:Nat->bj}(A:dX CR)(p:aw)(O:Nat)(rs:List ResultVar)(q:XE×St×List DF):aH (λk=>uA X p O rs (CR k) (some q)):=by
 obtain⟨e,S,H⟩:=q;match H with
 |[]=>exact aH.const _
 |[d]=>exact O0 A p O rs S d (Bq e)
 |_::_::_=>exact aH.const _
theorem JX(A:dX C){CR:Nat->bj}(AC:dX CR)(f:FuncId){m:Nat->Nat}(hm:∀k,m k<=m (k+1))(fn:Func)(c:Code)(args:List AV)(cs:List ax):aH (λk=>vk X f (C k) (CR k) (m k) fn c args cs):=by
 unfold vk;split
 ·simp only[KG X (X.fp f) cs.length fn.results.toList _ (hU _ _ _ _ _ _ _)];exact (Fu A f hm c _ _).bind (g:=λq n=>uA X (X.fp f) cs.length fn.results.toList (CR n) (some q)) λq=>CY AC _ _ _ q
 ·exact aH.const _
theorem CZ(X:Ctx):∀n g a c r,aF X n g a c=some r->aF X (n+1) g a c=some r
 |0,g,a,c,r,h=>by cases h
 |n+1,g,a,c,r,h=>by
  have ih:=CZ X n;have A:dX λk=>if k=0 then aF X n else aF X (n+1):=by
   intro g a c k r h;by_cases M:k=0
   ·subst M;exact ih g a c r h
   ·simp only[M,acy]at h;simpa using h
  have hm:∀k,(if k=0 then n else n+1)<=(if k+1=0 then n else n+1):=by
   intro k;by_cases M:k=0<;>simp[M]
  cases A1:X.ov with
  |some An=>simp only[aF,A1]at h⊢;exact h
  |none=>
  cases A4:X.vh g with
  |some Ao=>simp only[aF,A1,A4]at h⊢;exact h
  |none=>
  cases T:X.P.funcs[g]? with
  |none=>simp only[aF,A1,A4,T]at h;cases h
  |some fn=>
   cases AA:fn.body with
   |none=>simp only[aF,A1,A4,T,AA]at h;cases h
   |some code=>
    have AB:∀k,aF X (k+1) g a c=vm X g (aF X k) k fn code a c (uB code):=by
     intro k;simp only[aF,A1,A4,T,AA]
    rw[AB]at h⊢;cases AI:uB code with
    |true=>
     rw[AI]at h;exact JX (X:=X) (C:=λk=>if k=0 then aF X n else aF X (n+1)) (CR:=λk=>l8 X (if k=0 then n else n+1) (if k=0 then aF X n else aF X (n+1))) A (CX A hm) g hm fn code a c 0 r h
    |false=>
    rw[AI]at h;exact Ga (R:=λk args=>pJ X g ((λk=>if k=0 then aF X n else aF X (n+1)) k) ((λk=>if k=0 then n else n+1) k) fn code args c) (λargs=>CW A g hm fn code args c) a _ 0 r h
theorem bo(X:Ctx):dX (aF X):=λg a c n r h=>CZ X n g a c r h
end
noncomputable def ah(X:Ctx):bj:=λg a c=>fK λk=>aF X k g a c
noncomputable def eZ(X:Ctx)(f:FuncId)(c:Code)(S:St):Option (XE×St):=fK λk=>den X f (aF X k) k c S
theorem bk{X:Ctx}{g a c r}(n:Nat)(h:aF X n g a c=some r):ah X g a c=some r:=(df (bo X g a c)).2 ⟨n,h⟩
theorem VN{X:Ctx}(Ae:jl X):iH X (ah X):=λg args cs out l h=>by
 obtain⟨n,U⟩:=(df (bo X g args cs)).1 h;exact H2 Ae n g args cs out l U
section
variable {X:Ctx} {S:St} {o:Oper} {f:FuncId} {md:Bool}
theorem dm(c:Code)(S:St):aH (λk=>den X f (aF X k) k c S):=wQ (bo X) f (m:=λk=>k) (λk=>ake k) c S
theorem O1(m:Mem)(A0:Nat)(g:FuncId)(AH:List AV)(mt:List Nat):fK (λk=>dr (aF X k) m A0 g AH mt)=dr (ah X) m A0 g AH mt:=by
 unfold dr kS kR;simp only[uH];rw[dz (bo X _ _ _) (λ_=>aH.const _)];simp only[aM];rfl
theorem uJ(args:List Operand)(J:Bool×AV):fK (λk=>cg X (aF X k) S o args J)=cg X (ah X) S o args J:=by
 unfold cg;split
 ·split
  ·simp only[H4 _ _ (dr _ _ _ _ _ _)];rw[dz (mU (bo X) _ _ _ _ _) (λ_=>aH.const _),O1];simp only[aM]
  ·exact aM _
 ·exact aM _
theorem O2:fK (λk=>qj X (aF X k) S o)=qj X (ah X) S o:=by
 unfold qj;split
 ·rename_i J args A8 A5;have I:(λk=>sA S o.dst (cg X (aF X k) S o args.toList (S.aq J)))=λk=>(cg X (aF X k) S o args.toList (S.aq J)).bind λc=>sA S o.dst (some c):=by
   funext k;exact D8 ..
  rw[I,dz (j8 (bo X) _ _) (λ_=>aH.const _),uJ,D8];simp only[aM]
 ·exact aM _
 ·exact aM _
theorem wR(r:cP):fK (λk=>gr X (aF X k) S o r)=gr X (ah X) S o r:=by
 cases r with
 |no=>exact O2
 |val c x=>exact aM _
 |cF c x e=>exact aM _
theorem JY(b:Bool)(r:cP):fK (λk=>nF X (aF X k) S o b r)=nF X (ah X) S o b r:=by
 have other:∀r,fK (λk=>if b=true then gr X (aF X k) S o r else some (.normal,S.put o.dst true .aX))=if b=true then gr X (ah X) S o r else some (.normal,S.put o.dst true .aX):=by
  intro r;split
  ·exact wR r
  ·exact aM _
 cases r with
 |no=>exact other .no
 |val c x=>exact aM _
 |cF c x e=>exact other (.cF c x e)
theorem Fx(all:List Oper):fK (λk=>l7 X (aF X k) md all S o)=l7 X (ah X) md all S o:=by
 unfold l7;split
 ·exact wR _
 ·split
  ·split
   ·exact JY _ _
   ·split
    ·exact wR _
    ·exact aM _
  ·exact aM _
  ·exact aM _
theorem uK{F:Nat->Option (XE×St)}{K:St->Nat->Option (XE×St)}(A2:aH F)(AF:∀S,aH (K S)):fK (λn=>andThen (F n) (λS=>K S n))=andThen (fK F) (λS=>fK (K S)):=by
 simp only[wO];rw[dz (g:=λx n=>aT (λS=>K S n) x) A2 (λx=>by
  obtain⟨e,S⟩:=x;cases e with
  |normal=>exact AF S
  |_=>exact aH.const _)]
 congr 1;funext x;obtain⟨e,S⟩:=x;cases e<;>first|rfl|exact aM _
theorem rE(all:List Oper):∀(ops:List Oper)(S:St),fK (λk=>eL X (aF X k) md all ops S)=eL X (ah X) md all ops S
 |[],S=>aM _
 |o::r,S=>by
  simp only[eL];have:=uK (F:=λk=>l7 X (aF X k) md all S o) (K:=λZ k=>eL X (aF X k) md all r Z) (rD (bo X) all) (λZ=>jF (bo X) all r Z);rw[Fx]at this;simp only[rE all r]at this;exact this
theorem Ss:fK (λk=>m9 X (aF X k) S o)=m9 X (ah X) S o:=by
 unfold m9;split
 ·rename_i J args A8 A5;have I:(λk=>wu S o (cg X (aF X k) S o args.toList (S.aq J)))=λk=>(cg X (aF X k) S o args.toList (S.aq J)).bind λc=>wu S o (some c):=by
   funext k;exact Bz ..
  rw[I,dz (j8 (bo X) _ _) (λ_=>aH.const _),uJ,Bz];simp only[aM]
 ·exact aM _
theorem y9(r:cP):fK (λk=>eF X (aF X k) S o r)=eF X (ah X) S o r:=by
 cases r with
 |no=>exact Ss
 |val c x=>exact aM _
 |cF c x e=>exact aM _
theorem O3(b:Bool)(r:cP):fK (λk=>qk X (aF X k) S o b r)=qk X (ah X) S o b r:=by
 have other:∀r,fK (λk=>if b=true then eF X (aF X k) S o r else some (S.put o.dst true .aX,(⟨[],[],true,.aX⟩:aU)))=if b=true then eF X (ah X) S o r else some (S.put o.dst true .aX,⟨[],[],true,.aX⟩):=by
  intro r;split
  ·exact y9 r
  ·exact aM _
 cases r with
 |no=>exact other .no
 |val c x=>exact aM _
 |cF c x e=>exact other (.cF c x e)
theorem C0(all:List Oper):fK (λk=>ea X (aF X k) md all S o)=ea X (ah X) md all S o:=by
 unfold ea;split
 ·exact y9 _
 ·split
  ·split
   ·exact O3 _ _
   ·split
    ·exact y9 _
    ·exact aM _
  ·exact aM _
  ·exact aM _
theorem VO:fK (λk=>j7 X (aF X k) S o)=j7 X (ah X) S o:=by
 unfold j7;split
 ·unfold Bo;split
  ·unfold Hx;split
   ·rename_i J args A8 A5;have I:(λk=>uy S (cg X (aF X k) S o args.toList (S.aq J)))=λk=>(cg X (aF X k) S o args.toList (S.aq J)).bind λc=>uy S (some c):=by
     funext k;exact D9 ..
    rw[I,dz (j8 (bo X) _ _) (λ_=>aH.const _),uJ,D9];simp only[aM]
   ·exact aM _
  ·exact aM _
 ·exact aM _
theorem C1(E:Nat×List (List Nat))(all:List Oper):∀(ops:List Oper)(S:St)(D:List aU),fK (λk=>gK X (aF X k) md E all ops S D)=gK X (ah X) md E all ops S D
 |[],S,D=>aM _
 |o::r,S,D=>by
  have A3:∀q,j7 X (ah X) S o=some q↔∃k,j7 X (aF X k) S o=some q:=λq=>by rw[<-VO];exact df (Fp (bo X))
  have Y:∀q,ea X (ah X) md all S o=some q↔∃k,ea X (aF X k) md all S o=some q:=λq=>by rw[<-C0];exact df (kT (bo X) all)
  have V:∀S D y,gK X (ah X) md E all r S D=some y↔∃k,gK X (aF X k) md E all r S D=some y:=λS D y=>by rw[<-C1 E all r S D];exact df (mV (bo X) E all r S D)
  apply Option.ext;intro y;rw[df (mV (bo X) E all (o::r) S D)];simp only[gK];constructor
  ·rintro ⟨k,M⟩;cases AM:j7 X (aF X k) S o with
   |some q=>
    rw[AM]at M;rw[(A3 q).2 ⟨k,AM⟩];exact M
   |none=>
    rw[AM]at M;simp only[mA,lN]at M;cases AN:ea X (aF X k) md all S o with
    |none=>rw[AN]at M;cases M
    |some p=>
     rw[AN]at M;have AD:=(Y p).2 ⟨k,AN⟩;rw[BA AD];simp only[mA,lN,AD,ac7]at M⊢;exact (V _ _ y).2 ⟨k,M⟩
  ·intro h;cases AO:j7 X (ah X) S o with
   |some q=>
    rw[AO]at h;obtain⟨k,M⟩:=(A3 q).1 AO;exact⟨k,by rw[M];exact h⟩
   |none=>
    rw[AO]at h;simp only[mA,lN]at h;cases AD:ea X (ah X) md all S o with
    |none=>rw[AD]at h;cases h
    |some p=>
     rw[AD]at h;simp only[ac7]at h;obtain⟨AP,Af⟩:=(Y p).1 AD;obtain⟨AQ,Ag⟩:=(V _ _ y).1 h;refine⟨max AP AQ,?_⟩;have AX:=(kT (X:=X) (S:=S) (o:=o) (md:=md) (bo X) all).le (Nat.le_max_left AP AQ) Af;have Ah:=(mV (X:=X) (md:=md) (bo X) E all r p.1 (p.2::D)).le (Nat.le_max_right AP AQ) Ag;rw[BA AX];simp only[mA,lN,AX,ac7];exact Ah
theorem BC(E:List (List Nat))(N:List Cl)(all:List Oper):∀(ops:List Oper)(S:St)(D:List aU),fK (λk=>pg X (aF X k) md E N all ops S D)=pg X (ah X) md E N all ops S D
 |[],S,D=>aM _
 |o::r,S,D=>by
  simp only[pg,lN];cases vi (E.getD D.length []) r with
  |true=>
   simp only[OL];split
   ·exact rE all [o] S
   ·exact aM _
  |false=>
  simp only
  cases zZ X.P N S o with
  |some x=>
   simp only[wB,ac7];exact BC E N all r _ _
  |none=>
   simp only[wB,KA];rw[dz (g:=λp n=>pg X (aF X n) md E N all r p.1 (p.2::D)) ((kT (bo X) all).bind (g:=λp _=>OZ N p) λp=>aH.const _) (λp=>tN (bo X) E N all r p.1 (p.2::D)),
    dz (g:=λp _=>OZ N p) (kT (bo X) all) (λp=>aH.const _),C0]
   simp only[BC E N all r,aM]
theorem VP(E:List (List Nat))(all:List Oper)(S:St)(fl:List (Nat×Nat)):fK (λk=>sB X (aF X k) md E all S fl)=sB X (ah X) md E all S fl:=by
 cases fl with
 |nil=>exact C1 _ all all S []
 |cons q r=>
  simp only[sB];cases fw S.mem (q::r)with
  |none=>exact aM _
  |some N=>exact BC E N all all S []
theorem Su:eZ X f .skip S=some (.normal,S):=aM _
theorem Sv{id:Nat}:eZ X f (.exit id) S=some (.exit id,CJ S (X.gh f (id+1000000))):=aM _
theorem VQ:eZ X f .ret S=some (.ret,S):=aM _
theorem VR{a b:Code}:eZ X f (.seq a b) S=andThen (eZ X f a S) (eZ X f b):=uK (dm a S) (λZ=>dm b Z)
theorem Sw{c:Operand}{a b:Code}:eZ X f (.cond c a b) S=CL (eZ X f a S) (eZ X f b S) (S.aq c):=by
 unfold eZ;simp only[den];unfold CL;split
 ·split<;>rfl
 ·exact aM _
theorem O4{id:Nat}{c:Code}:eZ X f (.block id c) S=CK id (eZ X f c (S.enter X f id)):=by
 unfold eZ;simp only[den,H3];rw[dz (dm c _) (λ_=>aH.const _)];simp only[aM]
theorem JZ{id:Nat}{ops:Array Oper}:eZ X f (.region id ops false) S=uz (St.leave X f id) (eL X (ah X) (X.md f id) ops.toList ops.toList S):=by
 unfold eZ;simp only[den,pk];rw[dz (jF (bo X) _ _ _) (λ_=>aH.const _),rE];simp only[aM]
theorem Sx{id:Nat}{ops:Array Oper}:eZ X f (.region id ops true) S=uz (St.leave X f id) (sB X (ah X) (X.md f id) (X.od f id) ops.toList S (X.fl f id)):=by
 unfold eZ;simp only[den,pk];rw[dz (Fq (bo X) _ _ _ _) (λ_=>aH.const _),VP];simp only[aM]
theorem Sy{c:Code}:eZ X f (.loop c) S=andThen (eZ X f c S) (eZ X f (.loop c)):=by
 apply Option.ext;intro r;have AR:∀S r,eZ X f (.loop c) S=some r↔∃k,iter (den X f (aF X k) k c) k S=some r:=λS r=>df (dm (.loop c) S);have hi:∀{k j i:Nat}{S r},k<=j->i<=j->iter (den X f (aF X k) k c) i S=some r->iter (den X f (aF X j) j c) j S=some r:=by
  intro k j i S r M Ai h;exact sK _ Ai ((tO (F:=λk=>den X f (aF X k) k c) (λS=>dm c S) i S).le M h)
 rw[AR];constructor
 ·rintro ⟨k,M⟩;cases k with
  |zero=>cases M
  |succ k=>
   simp only[iter]at M;rcases fY M with ⟨S1,I,A'⟩|⟨I,A'⟩
   ·have:eZ X f c S=some (.normal,S1):=(df (dm c S)).2 ⟨k+1,I⟩;rw[this];exact (AR S1 r).2 ⟨k+1,hi (aae _) (ake k) A'⟩
   ·have:eZ X f c S=some r:=(df (dm c S)).2 ⟨k+1,I⟩;rw[this];obtain⟨e,S1⟩:=r;cases e with
    |normal=>exact absurd rfl A'
    |_=>rfl
 ·intro h;rcases fY h with ⟨S1,I,A'⟩|⟨I,A'⟩
  ·obtain⟨k,M⟩:=(df (dm c S)).1 I;obtain⟨j,Aj⟩:=(AR S1 r).1 A';refine⟨max k j+1,?_⟩;rw[iter,(dm c S).le (show k<=max k j+1 by omega) M];have:=(tO (F:=λk=>den X f (aF X k) k c) (λS=>dm c S) j S1).le (show j<=max k j+1 by omega) Aj;exact sK _ (show j<=max k j by omega) this
  ·obtain⟨k,M⟩:=(df (dm c S)).1 I;refine⟨k+1,?_⟩;rw[iter,(dm c S).le (ake k) M];obtain⟨e,S1⟩:=r;cases e with
   |normal=>exact absurd rfl A'
   |_=>rfl
noncomputable def vq(X:Ctx)(f:FuncId)(fn:Func)(c:Code)(cs:List ax)(args:List AV):Option (Out×List (Nat×ax)):=
 if (decide (args.length<=fn.ntmps)&&decide (cs.length<=100)&&(X.fp f).sites.all (λk=>decide (100<=k))&&decide (X.fp f).sites.Nodup)=true then
  fin X.P (X.fp f) cs.length fn.results.toList (eZ X f c (entry fn.ntmps X.gl args cs (X.fp f).sites))
 else none
theorem za{h:List AV->Option AV}{args:List AV}{cs:List ax}(A1:X.ov=none)(A4:X.vh f=some h):ah X f args cs=lK h args cs:=by
 unfold ah;rw[<-tM (bo X f args cs)];have:(λn=>aF X (n+1) f args cs)=λ_=>lK h args cs:=by funext n;simp only[aF,A1,A4]
 rw[this,aM]
theorem H7{fn:Func}{c:Code}{args:List AV}{cs:List ax}(A1:X.ov=none)(A4:X.vh f=none)(T:X.P.funcs[f]?=some fn)(AA:fn.body=some c)(AI:uB c=false):
 ah X f args cs=fX (vq X f fn c cs) args (X.fp f).split:=by
 have hm:∀args,aH (λk=>pJ X f (aF X k) k fn c args cs):=λargs=>CW (bo X) f (m:=λk=>k) (λk=>ake k) fn c args cs;have V:∀args,fK (λk=>pJ X f (aF X k) k fn c args cs)=vq X f fn c cs args:=by
  intro args;unfold pJ vq;split
  ·rename_i h;have I:(λk=>fin X.P (X.fp f) cs.length fn.results.toList (den X f (aF X k) k c (entry fn.ntmps X.gl args cs (X.fp f).sites)))=λk=>(den X f (aF X k) k c (entry fn.ntmps X.gl args cs (X.fp f).sites)).bind λq=>fin X.P (X.fp f) cs.length fn.results.toList (some q):=by
    funext k;exact H5 ..
   rw[I,dz (dm c _) (λ_=>aH.const _),H5];simp only[aM];rfl
  ·exact aM _
 have AB:ah X f args cs=fK (λk=>fX (λargs=>pJ X f (aF X k) k fn c args cs) args (X.fp f).split):=by
  unfold ah;rw[<-tM (bo X f args cs)];congr 1;funext k;rw[aF,A1,A4,T];simp only[AA,AI,vm]
 rw[AB];unfold fX;split
 ·split
  ·rename_i r;apply Option.ext;intro y;rw[df (xJ (hm _) (hm _)),<-V,<-V];constructor
   ·rintro ⟨n,U⟩;unfold jE at U⊢;split at U
    ·rename_i a b A7 AS;have f1:=(df (hm _)).2 ⟨n,eM A7⟩;have f2:=(df (hm _)).2 ⟨n,eM AS⟩;rw[f1,f2];rw[eM A7]at U;exact U
    ·cases U
   ·intro h;unfold jE at h;split at h
    ·rename_i a b A7 AS;obtain⟨n,U⟩:=(df (hm _)).1 (eM A7);obtain⟨m,Ak⟩:=(df (hm _)).1 (eM AS);refine⟨max n m,?_⟩;rw[(hm _).le (Nat.le_max_left n m) U,(hm _).le (Nat.le_max_right n m) Ak];rw[eM A7]at h;exact h
    ·cases h
  ·exact V _
 ·exact V _
end
abbrev bW:=Option (Out×List (Nat×ax))
abbrev Kt:=XE->St->bW
noncomputable def aK(X:Ctx)(f:FuncId)(c:Code)(S:St)(k:Kt):bW:=(eZ X f c S).bind λp=>k p.1 p.2
noncomputable def runK(X:Ctx)(md:Bool)(all ops:List Oper)(S:St)(k:Kt):bW:=(eL X (ah X) md all ops S).bind λp=>k p.1 p.2
noncomputable def j9(X:Ctx)(md:Bool)(A:Nat×List (List Nat))(all ops:List Oper)(S:St)(E:List aU)(k:Kt):bW:=(gK X (ah X) md A all ops S E).bind λp=>k p.1 p.2
noncomputable def zb(X:Ctx)(f:FuncId)(b:Code)(k:Kt):Kt
 | .normal,S=>aK X f b S k
 |e,S=>k e S
def BD(id:Nat)(k:Kt):Kt
 | .exit N,S=>if N=id then k .normal S else k (.exit N) S
 |e,S=>k e S
noncomputable def C2(X:Ctx)(f:FuncId)(c:Code)(k:Kt):Kt
 | .normal,S=>aK X f (.loop c) S k
 |e,S=>k e S
def zc(X:Ctx)(f:FuncId)(id:Nat)(k:Kt):Kt
 | .normal,S=>k .normal (S.leave X f id)
 |e,S=>k e S
def uL(P:Program)(p:aw)(J:Nat)(rs:List ResultVar):Kt
 | .normal,S=>finish P p J rs S
 | .ret,S=>finish P p J rs S
 | .panic t x,S=>we p J t x S
 | .exit _,_=>none
def Sz:Bool×AV->Bool
 |(true,.d (.bool _))=>true
 |_=>false
def ze:Bool×AV->Bool
 |(_,.d (.bool b))=>b
 |_=>false
def Env.kn:Env->Nat->Bool->Env
 |[],_,_=>[]
 |(t,x)::r,c,b=>if t=c then (t,true,.d (.bool b))::r else (t,x)::Env.kn r c b
def St.kn(S:St)(c:Nat)(b:Bool):St:={S with env:=Env.kn S.env c b}
section
variable {X:Ctx} {f:FuncId} {S:St} {k:Kt}
theorem sM(r:Option (XE×St))(g:St->Option (XE×St)):(andThen r g).bind (λp=>k p.1 p.2)=r.bind λp=>match p with
 |(.normal,S)=>(g S).bind λp=>k p.1 p.2
 |(e,S)=>k e S:=by
 rcases r with _|⟨e,S⟩
 ·rfl
 ·cases e<;>rfl
theorem SA:aK X f .skip S k=k .normal S:=by simp only[aK,Su,ac7]
theorem SB{id:Nat}:aK X f (.exit id) S k=k (.exit id) (CJ S (X.gh f (id+1000000))):=by simp only[aK,Sv,ac7]
theorem VS:aK X f .ret S k=k .ret S:=by simp only[aK,VQ,ac7]
theorem fB{a b:Code}:aK X f (.seq a b) S k=aK X f a S (zb X f b k):=by
 simp only[aK,VR,sM];congr 1;funext p;obtain⟨e,S⟩:=p;cases e<;>rfl
theorem ai{c:Code}:aK X f (.loop c) S k=aK X f c S (C2 X f c k):=by
 rw[aK,Sy,sM,aK];congr 1;funext p;obtain⟨e,S⟩:=p;cases e<;>rfl
theorem O5{id:Nat}{c:Code}:aK X f (.block id c) S k=aK X f c (S.enter X f id) (BD id k):=by
 simp only[aK,O4];rcases eZ X f c (S.enter X f id)with _|⟨e,S⟩
 ·rfl
 ·cases e with
  |exit N=>
   simp only[CK,ac7,BD];split<;>rfl
  |_=>rfl
theorem Fy{c:Operand}{a b:Code}:aK X f (.cond c a b) S k=if Sz (S.aq c)=true then (if ze (S.aq c)=true then aK X f a S k else aK X f b S k)else none:=by
 simp only[aK,Sw];generalize S.aq c=v;obtain⟨g,x⟩:=v;cases g with
 |false=>rfl
 |true=>
  cases x with
  |d x=>
   cases x with
   |bool t=>cases t<;>rfl
   |_=>rfl
  |_=>rfl
theorem X7{b:Bool}:∀{env:Env}{c:Nat},Env.lk env c=some (true,.d (.bool b))->Env.kn env c b=env
 |[],c,h=>by cases h
 |(t,x)::r,c,h=>by
  simp only[Env.lk]at h;simp only[Env.kn];split
  ·rename_i A';rw[aal A']at h;cases h;rfl
  ·rename_i A';rw[aac A']at h;rw[X7 h]
theorem acU{c:Tmp}{b:Bool}(h:S.aq (.tmp c)=(true,.d (.bool b))):Env.lk S.env c=some (true,.d (.bool b)):=by
 simp only[St.aq]at h;cases Y:Env.lk S.env c with
 |none=>rw[Y]at h;simp at h
 |some x=>rw[Y]at h;simp only[acR]at h;rw[h]
theorem O6{c:Tmp}{a b:Code}:aK X f (.cond (.tmp c) a b) S k=if Sz (S.aq (.tmp c))=true then (if ze (S.aq (.tmp c))=true then aK X f a (S.kn c true) k else aK X f b (S.kn c false) k)else none:=by
 rw[Fy];generalize AD:S.aq (.tmp c)=v;obtain⟨g,x⟩:=v;cases g with
 |false=>rfl
 |true=>
  cases x with
  |d x=>
   cases x with
   |bool t=>
    have:S.kn c t=S:=by
     unfold St.kn;rw[X7 (acU AD)]
    cases t with
    |true=>rw[this];rfl
    |false=>rw[this];rfl
   |_=>rfl
  |_=>rfl
theorem O7{v:Value}{a b:Code}:aK X f (.cond (.const v) a b) S k=if Sz (S.aq (.const v))=true then (if ze (S.aq (.const v))=true then aK X f a S k else aK X f b S k)else none:=Fy
theorem J0{id:Nat}{l:List Oper}:aK X f (.region id ⟨l⟩ false) S k=runK X (X.md f id) l l S (zc X f id k):=by
 simp only[aK,JZ,runK];rcases eL X (ah X) (X.md f id) l l S with _|⟨e,S⟩
 ·rfl
 ·cases e<;>rfl
noncomputable def Gl(X:Ctx)(md:Bool)(A:List (List Nat))(l:List Oper)(S:St)(k:Kt):List (Nat×Nat)->bW
 |[]=>j9 X md (fg S.mem,A) l l S [] k
 |q::r=>(OM X (ah X) md A l S (fw S.mem (q::r))).bind λp=>k p.1 p.2
theorem SC{id:Nat}{l:List Oper}:aK X f (.region id ⟨l⟩ true) S k=Gl X (X.md f id) (X.od f id) l S (zc X f id k) (X.fl f id):=by
 simp only[aK,Sx];cases X.fl f id with
 |nil=>
  simp only[sB,Gl,j9];rcases gK X (ah X) (X.md f id) (fg S.mem,X.od f id) l l S []with _|⟨e,S⟩
  ·rfl
  ·cases e<;>rfl
 |cons q r=>
  simp only[sB,Gl];rcases OM X (ah X) (X.md f id) (X.od f id) l S (fw S.mem (q::r))with _|⟨e,S⟩
  ·rfl
  ·cases e<;>rfl
theorem aaL{md:Bool}{A:List (List Nat)}{l:List Oper}:Gl X md A l S k []=j9 X md (fg S.mem,A) l l S [] k:=rfl
theorem iI{b:Code}:zb X f b k .normal S=aK X f b S k:=rfl
theorem acV{b:Code}{id:Nat}:zb X f b k (.exit id) S=k (.exit id) S:=rfl
theorem acW{b:Code}:zb X f b k .ret S=k .ret S:=rfl
theorem acX{b:Code}{t:TypeId}{x:D}:zb X f b k (.panic t x) S=k (.panic t x) S:=rfl
theorem acY{id:Nat}:BD id k .normal S=k .normal S:=rfl
theorem acZ{id N:Nat}:BD id k (.exit N) S=if N=id then k .normal S else k (.exit N) S:=rfl
theorem ac0{id:Nat}:BD id k .ret S=k .ret S:=rfl
theorem ac1{id:Nat}{t:TypeId}{x:D}:BD id k (.panic t x) S=k (.panic t x) S:=rfl
theorem aaM{c:Code}:C2 X f c k .normal S=aK X f (.loop c) S k:=rfl
theorem aaN{c:Code}{id:Nat}:C2 X f c k (.exit id) S=k (.exit id) S:=rfl
theorem aaO{c:Code}:C2 X f c k .ret S=k .ret S:=rfl
theorem aaP{c:Code}{t:TypeId}{x:D}:C2 X f c k (.panic t x) S=k (.panic t x) S:=rfl
theorem VT{id:Nat}:zc X f id k .normal S=k .normal (S.leave X f id):=rfl
theorem VU{id:Nat}{t:TypeId}{x:D}:zc X f id k (.panic t x) S=k (.panic t x) S:=rfl
theorem ac2{P:Program}{p:aw}{J:Nat}{rs:List ResultVar}:uL P p J rs .normal S=finish P p J rs S:=rfl
theorem ac3{P:Program}{p:aw}{J:Nat}{rs:List ResultVar}:uL P p J rs .ret S=finish P p J rs S:=rfl
theorem ac4{P:Program}{p:aw}{J:Nat}{rs:List ResultVar}{t:TypeId}{x:D}:uL P p J rs (.panic t x) S=we p J t x S:=rfl
end
def wS(all:List Oper)(o:Oper):Option Nat:=
 match o.guard with
 |some (j,_)=>kD all j
 |none=>none
noncomputable def pK(X:Ctx)(md:Bool)(S:St)(d:Option Nat)(all r:List Oper)(k:Kt):Option eA->bW
 |some ⟨.ret x,es,_⟩=>runK X md all r (({S with mem:=bp S.mem es}:St).put d true x) k
 |some ⟨.panic t x,es,_⟩=>k (.panic t x) {S with mem:=bp S.mem es}
 |none=>none
def H8(S:St)(k:Kt):Bool×AV->bW
 |(true,.fL t d)=>k (.panic t d) S
 |_=>none
noncomputable def tP(X:Ctx)(md:Bool)(S:St)(o:Oper)(all r:List Oper)(k:Kt):Op->bW
 | .call {callee:=.value M,args,..}=>pK X md S o.dst all r k (cg X (ah X) S o args.toList (S.aq M))
 | .panic x=>H8 S k (S.aq x)
 |_=>none
noncomputable def pL(X:Ctx)(md:Bool)(S:St)(o:Oper)(all r:List Oper)(k:Kt):cP->bW
 | .val c x=>if (fI S o&&c)=true then runK X md all r (S.put o.dst true x) k else none
 | .cF c x e=>if (fI S o&&c)=true then runK X md all r (({S with mem:=Mem.set S.mem e}:St).put o.dst true x) k else none
 | .no=>tP X md S o all r k o.op
noncomputable def sN(X:Ctx)(md:Bool)(S:St)(o:Oper)(all r:List Oper)(k:Kt)(b:Bool):cP->bW
 | .val c x=>if b=true->(fI S o&&c)=true then runK X md all r (S.put o.dst b x) k else none
 | .cF c x e=>if b=true then pL X md S o all r k (.cF c x e)else runK X md all r (S.put o.dst true .aX) k
 | .no=>if b=true then tP X md S o all r k o.op else runK X md all r (S.put o.dst true .aX) k
noncomputable def C3(X:Ctx)(S:St)(o:Oper)(all r:List Oper)(k:Kt)(H t:Bool):Bool->bW
 |false=>sN X false S o all r k (t == H) (cJ X.P S o)
 |true=>if (t == H)=true then pL X true (S.cz (wS all o) H) o all r k (cJ X.P (S.cz (wS all o) H) o)else runK X true all r ((S.cz (wS all o) (!H)).put o.dst true (.bM [])) k
noncomputable def H9(X:Ctx)(md:Bool)(S:St)(o:Oper)(all r:List Oper)(k:Kt)(H:Bool):GV->bW
 | .qY t=>C3 X S o all r k H t md
 | .skip=>runK X md all r (S.put o.dst true (.bM [])) k
 | .bad=>none
section
variable {X:Ctx} {f:FuncId} {S:St} {k:Kt} {all r:List Oper} {md:Bool}
theorem wT(o:Oper)(res:cP):(andThen (gr X (ah X) S o res) (eL X (ah X) md all r)).bind (λp=>k p.1 p.2)=pL X md S o all r k res:=by
 cases res with
 |val c x=>simp only[gr,pL];split<;>rfl
 |cF c x e=>simp only[gr,pL];split<;>rfl
 |no=>
  simp only[gr,pL,qj];split
  ·rename_i M args AB O;rw[O];simp only[tP];rcases cg X (ah X) S o args.toList (S.aq M)with _|⟨out,es,ks⟩
   ·rfl
   ·cases out<;>rfl
  ·rename_i x O;rw[O];simp only[tP];generalize S.aq x=v;obtain⟨g,y⟩:=v;cases g<;>cases y<;>rfl
  ·rename_i V AE;unfold tP;split
   ·rename_i heq;exact absurd heq (V _ _ _)
   ·rename_i heq;exact absurd heq (AE _)
   ·rfl
theorem VV:runK X md all [] S k=k .normal S:=rfl
theorem SD{d:Option Tmp}{op:Op}{ty:TypeId}{pos:String}{I:Array Edge}:runK X md all (⟨d,op,ty,pos,I,none⟩::r) S k=pL X md S ⟨d,op,ty,pos,I,none⟩ all r k (cJ X.P S ⟨d,op,ty,pos,I,none⟩):=
 wT _ _
theorem O8{d:Option Tmp}{op:Op}{ty:TypeId}{pos:String}{I:Array Edge}{j:Nat}{w:Bool}:runK X md all (⟨d,op,ty,pos,I,some (j,w)⟩::r) S k=H9 X md S ⟨d,op,ty,pos,I,some (j,w)⟩ all r k w (n7 (nO all S j)):=by
 simp only[runK,eL,l7];generalize n7 (nO all S j)=g;cases g with
 |skip=>rfl
 |bad=>rfl
 |qY t=>
  simp only[H9];cases md with
  |true=>
   simp only[C3,wS];split
   ·exact wT _ _
   ·rfl
  |false=>
  simp only[C3];generalize T:cJ X.P S _=res;cases res with
  |val c x=>simp only[nF,sN];split<;>rfl
  |cF c x e=>
   simp only[nF,sN];split
   ·exact wT _ (.cF c x e)
   ·rfl
  |no=>
   simp only[nF,sN];split
   ·exact wT _ .no
   ·rfl
theorem SF{d:Option Nat}{c:Prop}[Decidable c]{a b:Option eA}:pK X md S d all r k (if c then a else b)=if c then pK X md S d all r k a else pK X md S d all r k b:=by split<;>rfl
end
theorem Ia{m:Mem}{A0:Nat}{ρ B:List Nat}{c:Prop}[Decidable c]{a b:Option (Out×List (Nat×ax))}:eK m A0 ρ B (if c then a else b)=if c then eK m A0 ρ B a else eK m A0 ρ B b:=by split<;>rfl
noncomputable def kN(X:Ctx)(md:Bool)(A:Nat×List (List Nat))(S:St)(d:Option Nat)(all r:List Oper)(E:List aU)(k:Kt):Option eA->bW
 |some ⟨.ret x,es,ks⟩=>j9 X md A all r (({S with mem:=bp S.mem es}:St).put d true x) (⟨ks,es,true,x⟩::E) k
 |some ⟨.panic t x,es,ks⟩=>(OJ X md A all r d E ⟨{S with mem:=bp S.mem es},t,x,es,ks⟩).bind λp=>k p.1 p.2
 |none=>none
noncomputable def zh(X:Ctx)(md:Bool)(A:Nat×List (List Nat))(S:St)(o:Oper)(all r:List Oper)(E:List aU)(k:Kt):Op->bW
 | .call {callee:=.value M,args,..}=>kN X md A S o.dst all r E k (cg X (ah X) S o args.toList (S.aq M))
 |_=>none
noncomputable def sO(X:Ctx)(md:Bool)(A:Nat×List (List Nat))(S:St)(o:Oper)(all r:List Oper)(E:List aU)(k:Kt):cP->bW
 | .val c x=>if (fI S o&&c)=true then j9 X md A all r (S.put o.dst true x) (⟨ik S o,[],true,x⟩::E) k else none
 | .cF c x e=>if (fI S o&&c&&(ik S o).contains e.key)=true then j9 X md A all r (({S with mem:=Mem.set S.mem e}:St).put o.dst true x) (⟨ik S o,[e],true,x⟩::E) k else none
 | .no=>zh X md A S o all r E k o.op
noncomputable def oa(X:Ctx)(md:Bool)(A:Nat×List (List Nat))(S:St)(d:Option Nat)(all r:List Oper)(E:List aU)(k:Kt):Option eA->bW
 |some ⟨.ret x,es,ks⟩=>j9 X md A all r (({S with mem:=bp S.mem es}:St).put d true x) (⟨ks,es,true,x⟩::E) k
 |_=>none
noncomputable def vt(X:Ctx)(md:Bool)(A:Nat×List (List Nat))(S:St)(o:Oper)(all r:List Oper)(E:List aU)(k:Kt):Op->bW
 | .call {callee:=.value M,args,..}=>oa X md A S o.dst all r E k (cg X (ah X) S o args.toList (S.aq M))
 |_=>none
noncomputable def ob(X:Ctx)(md:Bool)(A:Nat×List (List Nat))(S:St)(o:Oper)(all r:List Oper)(E:List aU)(k:Kt):cP->bW
 | .val c x=>if (fI S o&&c)=true then j9 X md A all r (S.put o.dst true x) (⟨ik S o,[],true,x⟩::E) k else none
 | .cF c x e=>if (fI S o&&c&&(ik S o).contains e.key)=true then j9 X md A all r (({S with mem:=Mem.set S.mem e}:St).put o.dst true x) (⟨ik S o,[e],true,x⟩::E) k else none
 | .no=>vt X md A S o all r E k o.op
noncomputable def pn(X:Ctx)(md:Bool)(A:Nat×List (List Nat))(S:St)(o:Oper)(all r:List Oper)(E:List aU)(k:Kt)(b:Bool):cP->bW
 | .val c x=>if b=true->(fI S o&&c)=true then j9 X md A all r (S.put o.dst b x) (⟨ik S o,[],b,x⟩::E) k else none
 | .cF c x e=>if b=true then ob X md A S o all r E k (.cF c x e)else j9 X md A all r (S.put o.dst true .aX) (⟨[],[],true,.aX⟩::E) k
 | .no=>if b=true then vt X md A S o all r E k o.op else j9 X md A all r (S.put o.dst true .aX) (⟨[],[],true,.aX⟩::E) k
noncomputable def zi(X:Ctx)(A:Nat×List (List Nat))(S:St)(o:Oper)(all r:List Oper)(E:List aU)(k:Kt)(H t:Bool):Bool->bW
 |false=>pn X false A S o all r E k (t == H) (cJ X.P S o)
 |true=>if (t == H)=true then ob X true A (S.cz (wS all o) H) o all r E k (cJ X.P (S.cz (wS all o) H) o)else j9 X true A all r ((S.cz (wS all o) (!H)).put o.dst true (.bM [])) (⟨[],[],true,.bM []⟩::E) k
noncomputable def C4(X:Ctx)(md:Bool)(A:Nat×List (List Nat))(S:St)(o:Oper)(all r:List Oper)(E:List aU)(k:Kt)(H:Bool):GV->bW
 | .qY t=>zi X A S o all r E k H t md
 | .skip=>j9 X md A all r (S.put o.dst true (.bM [])) (⟨[],[],true,.bM []⟩::E) k
 | .bad=>none
section
variable {X:Ctx} {f:FuncId} {S:St} {k:Kt} {all r:List Oper} {md:Bool} {A:Nat×List (List Nat)} {E:List aU}
theorem qq(o:Oper)(res:cP):(wA E (eF X (ah X) S o res) (gK X (ah X) md A all r)).bind (λp=>k p.1 p.2)=ob X md A S o all r E k res:=by
 cases res with
 |val c x=>simp only[eF,ob];split<;>rfl
 |cF c x e=>simp only[eF,ob];split<;>rfl
 |no=>
  simp only[eF,ob,m9];split
  ·rename_i M args AB O;rw[O];simp only[vt];rcases cg X (ah X) S o args.toList (S.aq M)with _|⟨out,es,ks⟩
   ·rfl
   ·cases out<;>rfl
  ·rename_i V;unfold vt;split
   ·rename_i heq;exact absurd heq (V _ _ _)
   ·rfl
def BE:List aU->List aU->List aU
 |[],r=>r
 |x::l,r=>BE l (x::r)
theorem Eb:∀(l r:List aU),BE l r=l.reverse++r
 |[],_=>rfl
 |x::l,r=>by rw[BE,Eb l];simp
theorem aj:j9 X md A all [] S E k=if nW A.2 (BE E [])=true then k .normal S else none:=by
 rw[Eb,afn];simp only[j9,gK];split<;>rfl
theorem SG{d:Option Tmp}{op:Op}{ty:TypeId}{pos:String}{I:Array Edge}:j9 X md A all (⟨d,op,ty,pos,I,none⟩::r) S E k=sO X md A S ⟨d,op,ty,pos,I,none⟩ all r E k (cJ X.P S ⟨d,op,ty,pos,I,none⟩):=by
 simp only[j9,gK,j7];generalize O:(⟨d,op,ty,pos,I,none⟩:Oper)=o;have AF:o.guard=none:=by subst O;rfl
 have U:ea X (ah X) md all S o=eF X (ah X) S o (cJ X.P S o):=by unfold ea;rw[AF]
 generalize T:cJ X.P S o=res;rw[T]at U;cases res with
 |val c x=>simp only[Bo,mA,U,sO];exact qq _ (.val c x)
 |cF c x e=>simp only[Bo,mA,U,sO];exact qq _ (.cF c x e)
 |no=>
  simp only[Bo,Hx,sO];split
  ·rename_i M args AB A1;rw[A1];simp only[zh];cases AC:cg X (ah X) S o args.toList (S.aq M)with
   |none=>
    simp only[uy,mA,U,eF,m9,A1,AC,kN];rfl
   |some res=>
    obtain⟨out,es,ks⟩:=res;cases out with
    |ret x=>
     simp only[uy,mA,U,eF,m9,A1,AC,kN];rfl
    |panic t x=>rfl
  ·rename_i V;simp only[mA,U,eF,m9];unfold zh;split
   ·rename_i heq;exact absurd heq (V _ _ _)
   ·rfl
theorem O9{d:Option Tmp}{op:Op}{ty:TypeId}{pos:String}{I:Array Edge}{j:Nat}{w:Bool}:j9 X md A all (⟨d,op,ty,pos,I,some (j,w)⟩::r) S E k=C4 X md A S ⟨d,op,ty,pos,I,some (j,w)⟩ all r E k w (n7 (nO all S j)):=by
 simp only[j9,gK,j7,mA,ea];generalize n7 (nO all S j)=g;cases g with
 |skip=>rfl
 |bad=>rfl
 |qY t=>
  simp only[C4];cases md with
  |true=>
   simp only[zi,wS];split
   ·exact qq _ _
   ·rfl
  |false=>
  simp only[zi];generalize T:cJ X.P S _=res;cases res with
  |val c x=>simp only[qk,pn];split<;>rfl
  |cF c x e=>
   simp only[qk,pn];split
   ·exact qq _ (.cF c x e)
   ·rfl
  |no=>
   simp only[qk,pn];split
   ·exact qq _ .no
   ·rfl
theorem Pa{d:Option Nat}{c:Prop}[Decidable c]{a b:Option eA}:kN X md A S d all r E k (if c then a else b)=if c then kN X md A S d all r E k a else kN X md A S d all r E k b:=by split<;>rfl
theorem Pb{d:Option Nat}{c:Prop}[Decidable c]{a b:Option eA}:oa X md A S d all r E k (if c then a else b)=if c then oa X md A S d all r E k a else oa X md A S d all r E k b:=by split<;>rfl
end
def iJ(n:Nat)(p:aw)(args:List AV)(cs:List ax):Bool:=
 decide (args.length<=n)&&decide (cs.length<=100)&&p.sites.all (λk=>decide (100<=k))&&decide p.sites.Nodup
theorem ay{X:Ctx}{f:FuncId}{fn:Func}{c:Code}{args:List AV}{cs:List ax}{n:Nat}{rs:List ResultVar}{p:aw}(A2:X.ov=none)(A3:X.vh f=none)(A4:X.P.funcs[f]?=some fn)(A5:fn.body=some c)(A6:uB c=false)(A7:fn.ntmps=n)(A8:fn.results.toList=rs)
 (A9:X.fp f=p) (T:p.split=false) (AA:iJ n p args cs=true):ah X f args cs=aK X f c (entry n X.gl args cs p.sites) (uL X.P p cs.length rs):=by
 subst A9;rw[H7 A2 A3 A4 A5 A6,T];simp only[fX,vq];subst A7;subst A8;rw[aal (by simpa only[iJ]using AA)];simp only[aK];rcases eZ X f c _ with _|⟨e,S⟩
 ·rfl
 ·cases e<;>rfl
theorem Ec{X:Ctx}{f:FuncId}{fn:Func}{c:Code}{args:List AV}{cs:List ax}{n:Nat}{rs:List ResultVar}{p:aw}(A2:X.ov=none)(A3:X.vh f=none)(A4:X.P.funcs[f]?=some fn)(A5:fn.body=some c)(A6:uB c=false)(A7:fn.ntmps=n)(A8:fn.results.toList=rs)
 (A9:X.fp f=p) (T:p.split=true) (AA:iJ n p args cs=true):ah X f args cs=fX (λargs=>aK X f c (entry n X.gl args cs p.sites) (uL X.P p cs.length rs)) args true:=by
 subst A9;rw[H7 A2 A3 A4 A5 A6,T];subst A7;subst A8;have key:∀Z:List AV,Z.length=args.length->vq X f fn c cs Z=aK X f c (entry fn.ntmps X.gl Z cs (X.fp f).sites) (uL X.P (X.fp f) cs.length fn.results.toList):=by
  intro Z Y;simp only[vq];rw[aal (by rw[Y];simpa only[iJ]using AA)];simp only[aK];rcases eZ X f c _ with _|⟨e,S⟩
  ·rfl
  ·cases e<;>rfl
 simp only[fX];split
 ·rename_i r;rw[key _ (by simp),key _ (by simp)]
 ·exact key _ rfl
attribute [simp] cJ.eq_1
attribute [simp] fI.eq_1
attribute [simp] gU.eq_1 gU.eq_2
attribute [simp] Go.Op.operands.eq_1 Go.Op.operands.eq_2 Go.Op.operands.eq_3 Go.Op.operands.eq_4 Go.Op.operands.eq_5 Go.Op.operands.eq_6 Go.Op.operands.eq_7 Go.Op.operands.eq_8 Go.Op.operands.eq_9 Go.Op.operands.eq_10 Go.Op.operands.eq_11 Go.Op.operands.eq_12 Go.Op.operands.eq_13 Go.Op.operands.eq_14 Go.Op.operands.eq_15 Go.Op.operands.eq_16 Go.Op.operands.eq_17 Go.Op.operands.eq_18 Go.Op.operands.eq_19 Go.Op.operands.eq_20 Go.Op.operands.eq_21 Go.Op.operands.eq_22 Go.Op.operands.eq_23 Go.Op.operands.eq_24 Go.Op.operands.eq_25 Go.Op.operands.eq_26 Go.Op.operands.eq_27 Go.Op.operands.eq_28 Go.Op.operands.eq_29 Go.Op.operands.eq_30 Go.Op.operands.eq_31 Go.Op.operands.eq_32 Go.Op.operands.eq_33 Go.Op.operands.eq_34 Go.Op.operands.eq_35 Go.Op.operands.eq_36 Go.Op.operands.eq_37 Go.Op.operands.eq_38 Go.Op.operands.eq_39 Go.Op.operands.eq_40 Go.Op.operands.eq_41 Go.Op.operands.eq_42 Go.Op.operands.eq_43
attribute [simp] St.aq.eq_1 St.aq.eq_2 St.aq.eq_3 St.aq.eq_4
attribute [simp] Env.lk.eq_1 Env.lk.eq_2
attribute [simp] St.put.eq_1 St.put.eq_2
attribute [simp] Mem.get.eq_1 Mem.get.eq_2
attribute [simp] Mem.set.eq_1 Mem.set.eq_2
attribute [simp] AV.kp.eq_1 AV.kp.eq_2 AV.kp.eq_3
attribute [simp] lW.eq_1 lW.eq_2 lW.eq_3 lW.eq_4 lW.eq_5 lW.eq_6
attribute [simp] AV.cells.eq_1 AV.cells.eq_2 AV.cells.eq_3
attribute [simp] lf.eq_1 lf.eq_2 lf.eq_3 lf.eq_4 lf.eq_5
attribute [simp] nL.eq_1 nL.eq_2 nL.eq_3
attribute [simp] ny.eq_1 iw.eq_1 iw.eq_2 iw.eq_3
attribute [simp] lB.eq_1 lB.eq_2
attribute [simp] p8.eq_1 p8.eq_2 p8.eq_3 p8.eq_4
attribute [simp] yj.eq_1 yj.eq_2 yj.eq_3 yj.eq_4
attribute [simp] oU.eq_1 oU.eq_2 oU.eq_3 oU.eq_4 oU.eq_5 oU.eq_6 oU.eq_7 oU.eq_8 oU.eq_9
attribute [simp] ej.eq_1 ej.eq_2 ej.eq_3 ej.eq_4 ej.eq_5 ej.eq_6 ej.eq_7 ej.eq_8 ej.eq_9 ej.eq_10 ej.eq_11 ej.eq_12 ej.eq_13 ej.eq_14 ej.eq_15 ej.eq_16
attribute [simp] lD.eq_1 lD.eq_2 lD.eq_3 lD.eq_4 lD.eq_5 lD.eq_6 lD.eq_7 lD.eq_8
attribute [simp] Ge.eq_1
attribute [simp] sg.eq_1 sg.eq_2
attribute [simp] Cg.eq_1 Cg.eq_2
attribute [simp] nO.eq_1
attribute [simp] zO.eq_1
def Pc{α:Type}(y:α):Option (List α)->Option (List α)
 |some E=>some (y::E)
 |none=>none
@[simp] theorem ahh{α:Type}(y:α)(E:List α):Pc y (some E)=some (y::E):=rfl
@[simp] theorem ahi{α:Type}(y:α):Pc y none=none:=rfl
@[simp] theorem toDs_nil:toDs []=some []:=rfl
@[simp] theorem toDs_d(y r):toDs (.d y::r)=Pc y (toDs r):=by
 cases h:toDs r with
 |none=>exact toDs.eq_3 _ _ (λ_ _ _ H=>by rw[h]at H;cases H)
 |some E=>exact toDs.eq_2 _ _ _ h
@[simp] theorem toDs_vec(a b c d r):toDs (.vec a b c d::r)=none:=by rw[toDs.eq_def]
@[simp] theorem toDs_ptr(a b c r):toDs (.ptr a b c::r)=none:=by rw[toDs.eq_def]
@[simp] theorem toDs_lit(a r):toDs (.lit a::r)=none:=by rw[toDs.eq_def]
@[simp] theorem toDs_fn(a b r):toDs (.fn a b::r)=none:=by rw[toDs.eq_def]
@[simp] theorem toDs_nn(r):toDs (.nn::r)=none:=by rw[toDs.eq_def]
@[simp] theorem toDs_junk(r):toDs (.aX::r)=none:=by rw[toDs.eq_def]
attribute [simp] rm.eq_1 rm.eq_2
attribute [simp] GW.eq_1 GW.eq_2 GW.eq_3 GW.eq_4
attribute [simp] kr.eq_1 kr.eq_2 kr.eq_3 kr.eq_4 kr.eq_5 kr.eq_6 Ol.eq_1
attribute [simp] m4.eq_1 m4.eq_2 m4.eq_3 m4.eq_4 m4.eq_5
attribute [simp] qF.eq_1
attribute [simp] x9.eq_1 N8.eq_1 N8.eq_2 U8.eq_1 U8.eq_2
attribute [simp] tr.eq_1 tr.eq_2
attribute [simp] gf.eq_1 gf.eq_2 gf.eq_3 gf.eq_4 gf.eq_5
attribute [simp] vT.eq_1
attribute [simp] vU.eq_1
attribute [simp] DS.eq_1 DS.eq_2
attribute [simp] lX.eq_1 lX.eq_2 lX.eq_3 lX.eq_4
attribute [simp] Ci.eq_1
attribute [simp] pD.eq_1 pD.eq_2
attribute [simp] jz.eq_1
attribute [simp] p5.eq_1 p5.eq_2
attribute [simp] rn.eq_1 rn.eq_2
attribute [simp] lj.eq_1 lj.eq_2 lj.eq_3 lj.eq_4 lj.eq_5 lj.eq_6
attribute [simp] rl.eq_1
attribute [simp] nB.eq_1 nB.eq_2 nB.eq_3
attribute [simp] sh.eq_1 sh.eq_2 u7.eq_1 u7.eq_2 zP.eq_1
attribute [simp] oV.eq_1 oV.eq_2 oV.eq_3 oV.eq_4
attribute [simp] jZ.eq_1 jZ.eq_2 jZ.eq_3 jZ.eq_4 jZ.eq_5
attribute [simp] bound.eq_1 bound.eq_2 bound.eq_3
attribute [simp] a8.eq_1 a8.eq_2
attribute [simp] iU.eq_1 iU.eq_2 iU.eq_3 iU.eq_4 iU.eq_5 iU.eq_6 iU.eq_7 iU.eq_8 iU.eq_9 iU.eq_10 iU.eq_11 iU.eq_12
attribute [simp] D.cells.eq_1 D.cells.eq_2
attribute [simp] D.size.eq_1 D.size.eq_2
attribute [simp] D.flat.eq_1 D.flat.eq_2
mutual
@[simp] theorem VW:∀x:D,yI x x=true
 | .int ..=>by simp[yI]
 | .bool _=>by simp[yI]
 | .str _=>by simp[yI]
 | .list xs=>by simp[yI,zj xs]
 | .agg xs=>by simp[yI,zj xs]
 | .xz=>by simp[yI]
@[simp] theorem zj:∀x:List D,wo x x=true
 |[]=>by simp[wo]
 |x::r=>by simp[wo,VW x,zj r]
end
attribute [simp] D0.eq_1 D0.eq_2 D0.eq_3 zW.eq_1 zW.eq_2 yJ.eq_1 yJ.eq_2 Gg.eq_1 Gg.eq_2 pf.eq_1 pf.eq_2 OH.eq_1 OH.eq_2 wq.eq_1 wq.eq_2 wq.eq_3
attribute [simp] cg.eq_1 cg.eq_2
attribute [simp] cM.eq_1 cM.eq_2 mz.eq_1 gJ.eq_1 zV.eq_1 rR.eq_1 qO.eq_1
attribute [simp] collect.eq_1 collect.eq_2 collect.eq_3
attribute [simp] j6.eq_1 j6.eq_2
attribute [simp] sy.eq_1 sy.eq_2
attribute [simp] ib.eq_1 ib.eq_2 ib.eq_3 ib.eq_4 ib.eq_5 ib.eq_6 ib.eq_7 ib.eq_8 ib.eq_9 ib.eq_10 ib.eq_11 ib.eq_12
attribute [simp] l6.eq_1 l6.eq_2 l6.eq_3 l6.eq_4 l6.eq_5 l6.eq_6 l6.eq_7
attribute [simp] rQ.eq_1 rQ.eq_2 rQ.eq_3 rQ.eq_4
attribute [simp] kC.eq_1 kC.eq_2
attribute [simp] gn.eq_1 gn.eq_2 AJ.eq_1 AJ.eq_2
attribute [simp] m8.eq_1 m8.eq_2
attribute [simp] ur.eq_1 ur.eq_2 ur.eq_3
attribute [simp] uu.eq_1 uu.eq_2
attribute [simp] jL.eq_1 jL.eq_2
attribute [simp] eK.eq_1 eK.eq_2
attribute [simp] wm.eq_1 wm.eq_2
attribute [simp] yH.eq_1 yH.eq_2
attribute [simp] mP.eq_1 mP.eq_2 mP.eq_1 mP.eq_2
attribute [simp] kL.eq_1 kL.eq_2 kL.eq_3
attribute [simp] di.eq_1 di.eq_2 di.eq_3 di.eq_4 di.eq_5 di.eq_6 di.eq_7 di.eq_8 di.eq_9 di.eq_10 di.eq_11 di.eq_12
attribute [simp] gI.eq_1 gI.eq_2 gI.eq_3 gI.eq_4 gI.eq_5 gI.eq_6
attribute [simp] upO.eq_1 upO.eq_2
attribute [simp] up.eq_1 up.eq_2 up.eq_3 up.eq_4 up.eq_5 up.eq_6 up.eq_7 up.eq_8 up.eq_9 up.eq_10 up.eq_11 up.eq_12
attribute [simp] Cq.eq_1 Cq.eq_2 Cq.eq_3
attribute [simp] gV.eq_1 gV.eq_2
attribute [simp] base.eq_1 base.eq_2
attribute [simp] bp.eq_1 bp.eq_2
attribute [simp] CJ.eq_1 CJ.eq_2
attribute [simp] Gh.go.eq_1 Gh.go.eq_2 Gh.go.eq_3 Gh.go.eq_4
attribute [simp] St.wj.eq_1 D3.eq_1 D3.eq_2 sC.eq_1 sC.eq_2 Vn.eq_1 Vn.eq_2 tu.eq_1 tu.eq_2
attribute [simp] finish.eq_1
attribute [simp] so.eq_1 so.eq_2
attribute [simp] yq.eq_1 yq.eq_2
attribute [simp] o6.eq_1
attribute [simp] St.v7.eq_1
attribute [simp] vd.eq_1 vd.eq_2 vd.eq_3
attribute [simp] Cv.eq_1 Cv.eq_2
attribute [simp] ln.eq_1 ln.eq_2 ln.eq_3 ln.eq_4 ln.eq_5 ln.eq_6 ln.eq_7 ln.eq_8 ln.eq_9 ln.eq_10 ln.eq_11 ln.eq_12
attribute [simp] St.trim.eq_1
attribute [simp] mO.eq_1 mO.eq_2
attribute [simp] mapM.eq_1 mapM.eq_2
attribute [simp] oZ.eq_1 oZ.eq_2 oZ.eq_3
attribute [simp] kA.eq_1 kA.eq_2 kA.eq_3 kA.eq_4 kA.eq_5 kA.eq_6 kA.eq_7 kA.eq_8 kA.eq_9 kA.eq_10 kA.eq_11 kA.eq_12
attribute [simp] kQ.eq_1 kQ.eq_2
attribute [simp] oneOf.eq_1 oneOf.eq_2
attribute [simp] AV.norm.eq_1 AV.norm.eq_2 AV.norm.eq_3 AV.norm.eq_4
attribute [simp] toD1.eq_1 toD1.eq_2 toD1.eq_3 toD1.eq_4
attribute [simp] toDsN.eq_1 toDsN.eq_2
attribute [simp] vw.eq_1 vw.eq_2 vw.eq_3 vw.eq_4 vw.eq_5 vw.eq_6 vw.eq_7 vw.eq_8 vw.eq_9 vw.eq_10 vw.eq_11 vw.eq_12
attribute [simp] dM.eq_1 dM.eq_2
attribute [simp] TK.agg.eq_1 TK.agg.eq_2 TK.agg.eq_3
attribute [simp] pL.eq_1 pL.eq_2 pL.eq_3
attribute [simp] sN.eq_1 sN.eq_2 sN.eq_3
attribute [simp] H9.eq_1 H9.eq_2 H9.eq_3
attribute [simp] tP.eq_1 tP.eq_2 tP.eq_3
attribute [simp] pK.eq_1 pK.eq_2 pK.eq_3
attribute [simp] H8.eq_1 H8.eq_2
attribute [simp] Sz.eq_1 Sz.eq_2
attribute [simp] ze.eq_1 ze.eq_2
attribute [simp] qD.eq_1
attribute [simp] sj.eq_1 G7.eq_1 Rq.eq_1 Rq.eq_2 zeroOf.eq_1 zeroOf.eq_2 zeroOf.eq_3
attribute [simp] St.wb.eq_1 St.wb.eq_2
attribute [simp] qa.eq_1 qa.eq_2
attribute [simp] jB.eq_1 jB.eq_2
attribute [simp] iX.eq_1 iX.eq_2
attribute [simp] tw.eq_1 tw.eq_2
attribute [simp] qd.eq_1 qd.eq_2
attribute [simp] lY.eq_1 lY.eq_2
attribute [simp] j3.eq_1 j3.eq_2
attribute [simp] sw.eq_1 sw.eq_2
attribute [simp] sx.eq_1 sx.eq_2
attribute [simp] gu.eq_1 gu.eq_2
attribute [simp] dq.eq_1 dq.eq_2
attribute [simp] fX.eq_1 fX.eq_2 fX.eq_3
attribute [simp] np.eq_1 np.eq_2
attribute [simp] jE.eq_1
attribute [simp] ik.eq_1 CB.eq_1 CB.eq_2 CB.eq_3
attribute [simp] rP.eq_1 rP.eq_2
attribute [simp] bP.eq_1 bP.eq_2 bP.eq_3 bP.eq_4
attribute [simp] sO.eq_1 sO.eq_2 sO.eq_3
attribute [simp] pn.eq_1 pn.eq_2 pn.eq_3
attribute [simp] C4.eq_1 C4.eq_2 C4.eq_3
attribute [simp] zh.eq_1 zh.eq_2 ob.eq_1 ob.eq_2 ob.eq_3 vt.eq_1 vt.eq_2 oa.eq_1 oa.eq_2
attribute [simp] kN.eq_1 kN.eq_2 kN.eq_3
attribute [simp] kB.eq_1 kB.eq_2 kB.eq_3 kB.eq_4 kB.eq_5 kB.eq_6 kB.eq_7 kB.eq_8 kB.eq_9 kB.eq_10 kB.eq_11 kB.eq_12
attribute [simp] m5.eq_1 m5.eq_2
attribute [simp] St.freeze.eq_1
attribute [simp] St.jj.eq_1
attribute [simp] Go.Call.operands.eq_1
attribute [simp] D.isByte.eq_1 D.isByte.eq_2
attribute [simp] sd.eq_1 sd.eq_2 sd.eq_3 sd.eq_4
attribute [simp] dJ.eq_1 dJ.eq_2 dJ.eq_3
attribute [simp] EE.eq_1 EE.eq_2
attribute [simp] SA SB VS fB O5 O6 O7 J0 SC aaL iI acV acW acX acY acZ ac0 ac1 aaM aaN aaO aaP VT VU ac2 ac3 ac4 VV SD O8 SF Ia SG O9 Pa Pb
attribute [simp] DZ.eq_1 DZ.eq_2 pe.eq_1 pe.eq_2 cZ.eq_1 cZ.eq_2
attribute [simp] C3.eq_1 C3.eq_2
attribute [simp] zi.eq_1 zi.eq_2
attribute [simp] wS.eq_1
attribute [simp] Env.kn.eq_1 Env.kn.eq_2 St.kn.eq_1
attribute [simp] nW.eq_1 wh.eq_1 wh.eq_2 wh.eq_3 DX.eq_1 DX.eq_2 DW.eq_1 DW.eq_2 BE.eq_1 BE.eq_2 o9.eq_1
attribute [simp] lK.eq_1 lK.eq_2 na.eq_1
@[simp] theorem ate(t:Bool):n7 (some (true,.d (.bool t)))=.qY t:=rfl
@[simp] theorem atf:n7 (some (true,.bM []))=.skip:=rfl
attribute [simp] kD.eq_1
attribute [simp] St.cz St.prune keyOf St.leave St.enter o7 zS Hk St.yp Cy gk iJ entry dead dr kS kR D.at D.cell D.setCells we
@[simp] theorem ahj(m ρ bor nv):∀A:List D,qa m ρ bor nv (A.map .d)=A.map .d
 |[]=>rfl
 |d::r=>by simp[ahj m ρ bor nv r]
@[simp] theorem ahk(ρ I):∀A:List D,tw ρ I (A.map .d)=A.map .d
 |[]=>rfl
 |d::r=>by simp[ahk ρ I r]
@[simp] theorem SH:∀A:List D,j3 (A.map .d)=[]
 |[]=>rfl
 |d::r=>by simp[SH r]
@[simp] theorem VX(k v):∀A:List D,qd k v (A.map .d)=none
 |[]=>rfl
 |d::r=>by simp[VX k v r]
@[simp] theorem aaQ(k v o l):∀A:List D,lY k v o l (A.map .d)=A.map .d
 |[]=>rfl
 |d::r=>by simp[aaQ k v o l r]
@[simp] theorem Pd:∀A:List D,jB (A.map .d)=iX A
 |[]=>rfl
 |d::r=>by simp[Pd r]
attribute [simp] List.take_of_length_le
@[simp] def Code.at:Code->List Nat->Code
 |c,[]=>c
 | .seq a b,i::p=>if i=0 then Code.at a p else Code.at b p
 | .cond _ a b,i::p=>if i=0 then Code.at a p else Code.at b p
 | .block _ c,_::p=>Code.at c p
 | .loop c,_::p=>Code.at c p
 |c,_=>c
@[simp] theorem aqA:List.range 2=[0,1]:=rfl
@[simp] theorem aqB:List.range 3=[0,1,2]:=rfl
@[simp] theorem aqC:List.range 4=[0,1,2,3]:=rfl
@[simp] theorem aqD:List.range 5=[0,1,2,3,4]:=rfl
@[simp] theorem aqE:List.range 6=[0,1,2,3,4,5]:=rfl
@[simp] theorem aqF(a b:Int):(a == b)=decide (a=b):=by by_cases h:a=b<;>simp[h]
def aG(n:Int):Prop:= -9223372036854775808<=n/\n<=9223372036854775807
theorem aE{n:Int}(h:aG n):IntKind.i64.wrap n=n:=IntWalk.i64_in _ (by unfold aG at h;omega)
def q1(m:Nat):Nat:=m/4294967296%4294967296
def q2(m:Nat):Nat:=m/18446744073709551616%4294967296
def q3(m:Nat):Nat:=m/79228162514264337593543950336%4294967296
def q0(m:Nat):Nat:=m%4294967296
def kE(z:Int):Int×Bool:=if-9223372036854775808<=z/\z<=9223372036854775807 then (z,true)else (0,false)
def Ed(a b:Int):Int×Int:=if b=0 then (0,3)else if a= -9223372036854775808/\b= -1 then (0,2)else (a.tdiv b,0)
def Ee(a b:Int):Int×Int:=if b=0 then (0,3)else (a.tmod b,0)
theorem BF(a b:Int):a.tdiv b=(if decide (a<0)=decide (b<0)then ((a.natAbs/b.natAbs:Nat):Int)else-((a.natAbs/b.natAbs:Nat):Int)):=by
 rcases Int.lt_or_le a 0 with D|D<;>rcases Int.lt_or_le b 0 with A|A
 ·rw[aal (by simp[D,A])];obtain⟨m,rfl⟩:∃m:Nat,a= -(m:Int):=⟨a.natAbs,by omega⟩;obtain⟨n,rfl⟩:∃n:Nat,b= -(n:Int):=⟨b.natAbs,by omega⟩;simp[Int.neg_tdiv,Int.tdiv_neg]
 ·rw[aac (by simp[D];omega)];obtain⟨m,rfl⟩:∃m:Nat,a= -(m:Int):=⟨a.natAbs,by omega⟩;obtain⟨n,rfl⟩:∃n:Nat,b=(n:Int):=⟨b.natAbs,by omega⟩;simp[Int.neg_tdiv]
 ·rw[aac (by simp[A];omega)];obtain⟨m,rfl⟩:∃m:Nat,a=(m:Int):=⟨a.natAbs,by omega⟩;obtain⟨n,rfl⟩:∃n:Nat,b= -(n:Int):=⟨b.natAbs,by omega⟩;simp[Int.tdiv_neg]
 ·rw[aal (by simp;omega)];obtain⟨m,rfl⟩:∃m:Nat,a=(m:Int):=⟨a.natAbs,by omega⟩;obtain⟨n,rfl⟩:∃n:Nat,b=(n:Int):=⟨b.natAbs,by omega⟩;simp
theorem VY(a b:Int):a.tmod b=(if a<0 then-((a.natAbs%b.natAbs:Nat):Int)else ((a.natAbs%b.natAbs:Nat):Int)):=by
 have A:a.tmod b=a.tmod (b.natAbs:Int):=by
  rcases Int.lt_or_le b 0 with A|A
  ·obtain⟨n,rfl⟩:∃n:Nat,b= -(n:Int):=⟨b.natAbs,by omega⟩;simp[Int.tmod_neg]
  ·obtain⟨n,rfl⟩:∃n:Nat,b=(n:Int):=⟨b.natAbs,by omega⟩;simp
 rw[A];split
 ·obtain⟨m,rfl⟩:∃m:Nat,a= -(m:Int):=⟨a.natAbs,by omega⟩;rw[Int.neg_tmod,Int.natAbs_neg];simp only[Int.natAbs_natCast];rw[<-Int.ofNat_tmod]
 ·obtain⟨m,rfl⟩:∃m:Nat,a=(m:Int):=⟨a.natAbs,by omega⟩;simp only[Int.natAbs_natCast];rw[<-Int.ofNat_tmod]
theorem aaR(a b:Int):a*b=(if decide (a<0)=decide (b<0)then ((a.natAbs*b.natAbs:Nat):Int)else-((a.natAbs*b.natAbs:Nat):Int)):=by
 rcases Int.lt_or_le a 0 with D|D<;>rcases Int.lt_or_le b 0 with A|A
 ·rw[aal (by simp[D,A])];obtain⟨m,rfl⟩:∃m:Nat,a= -(m:Int):=⟨a.natAbs,by omega⟩;obtain⟨n,rfl⟩:∃n:Nat,b= -(n:Int):=⟨b.natAbs,by omega⟩;simp[Int.neg_mul,Int.mul_neg]
 ·rw[aac (by simp[D];omega)];obtain⟨m,rfl⟩:∃m:Nat,a= -(m:Int):=⟨a.natAbs,by omega⟩;obtain⟨n,rfl⟩:∃n:Nat,b=(n:Int):=⟨b.natAbs,by omega⟩;simp[Int.neg_mul]
 ·rw[aac (by simp[A];omega)];obtain⟨m,rfl⟩:∃m:Nat,a=(m:Int):=⟨a.natAbs,by omega⟩;obtain⟨n,rfl⟩:∃n:Nat,b= -(n:Int):=⟨b.natAbs,by omega⟩;simp[Int.mul_neg]
 ·rw[aal (by simp;omega)];obtain⟨m,rfl⟩:∃m:Nat,a=(m:Int):=⟨a.natAbs,by omega⟩;obtain⟨n,rfl⟩:∃n:Nat,b=(n:Int):=⟨b.natAbs,by omega⟩;simp
def dG(b:Bool):Int:=if b=true then 1 else 0
@[simp] def AU(p:Int×Bool×Int):AV:=.bM [.d (.int .i64 p.1),.d (.bool p.2.1),.d (.int .i64 p.2.2)]
def iV:Int×Bool×Int:=(0,false, -1)
def qJ(p:Int×Bool):Int×Bool×Int:=if p.2=true then (p.1,false,0)else (0,false,2)
def uM(p:Int×Int):Int×Bool×Int:=if p.2=3 then (0,false,1)else if p.2=0 then (p.1,false,0)else (0,false,2)
def mW(op a:Int)(t:Bool):Int×Bool×Int:=
 if t=true then (if a≠0/\a≠1 then iV else if op=7 then (dG (decide (a=0)),true,0)else iV)
 else if op=6 then qJ (kE (0-a))else iV
def BG(op a b:Int):Int×Bool×Int:=
 if op=13 then (dG (decide (a=b)),true,0)else if op=14\/op=20 then (dG (decide (a≠b)),true,0)
 else if op=19 then (dG (decide (a=1/\b=1)),true,0)else if op=21 then (dG (decide (a=1\/b=1)),true,0)else iV
def zn(op a b:Int):Int×Bool×Int:=
 if op=8 then qJ (kE (a+b))else if op=9 then qJ (kE (a-b))else if op=10 then qJ (kE (a*b))else if op=11 then uM (Ed a b)else if op=12 then uM (Ee a b)
 else if op=13 then (dG (decide (a=b)),true,0)else if op=14 then (dG (decide (a≠b)),true,0)else if op=15 then (dG (decide (a<b)),true,0)
 else if op=16 then (dG (decide (b<a)),true,0)else if op=17 then (dG (decide (a<=b)),true,0)else if op=18 then (dG (decide (b<=a)),true,0)else iV
def jJ(op a b:Int)(t:Bool):Int×Bool×Int:=
 if t=true then (if (a≠0/\a≠1)\/(b≠0/\b≠1)then iV else BG op a b)else zn op a b
def xK(e b:Int):Int:=if e<b then e+1 else e
def rF(k a b q e:Int):List Int:=
 if k=10 then (if a=0 then [a,b,0,0]else [a,b,dG (decide (b<=xK e b)),xK e b])
 else if k=11 then (if a=0 then (if q=0 then [a,b,q,e]else [a,b,dG (decide (xK e b<b)),xK e b])else [a,b,1,0])
 else [a,b,q,e]
def Ya(a b q e p r:Int):List Int:=
 let E:=if a≠0/\p=0/\r=0 then 1 else r
 let D:=if a≠0/\p=0/\r=0 then 0 else e
 if E=0 then [a,b,q,D,dG (decide (a≠0)),E]else [a,b,dG (decide (D<b)),xK D b,dG (decide (a≠0)),dG (decide (D<b))]
def Yb(a s v q c p:Int):List Int:=
 let A:=if s≠0 then 0 else if a≠0/\p=0/\c<9223372036854775807 then c+1 else c
 [a,s,v,dG (decide (v<=A)),A,dG (decide (a≠0))]
def Yc(a s v q c p:Int):List Int:=
 let A:=if s≠0 then v else if a≠0/\p=0/\ -9223372036854775808<c then c-1 else c
 [a,s,v,dG (decide (A<=0)),A,dG (decide (a≠0))]
def nb(k a b q e p r:Int):List Int:=
 if k=12 then Ya a b q e p r else if k=13 then Yb a b q e p r else if k=14 then Yc a b q e p r else [a,b,q,e,p,r]
def rG(k a b q:Int):List Int:=
 if k=15 then [a,dG (decide (a≠0/\q=0)),dG (decide (a≠0))]else if k=16 then [a,dG (decide (a=0/\q≠0)),dG (decide (a≠0))]
 else if k=17 then [a,b,dG (decide (a≠0\/(q≠0/\b=0)))]else if k=18 then [a,b,dG (decide (b=0/\(q≠0\/a≠0)))]else [a,b,q]
def fZ(k:Int):List Int->List Int
 |[a,b,q]=>rG k a b q
 |[a,b,q,e]=>rF k a b q e
 |[a,b,q,e,p,r]=>nb k a b q e p r
 |c=>c
end Go.Am
end
section
namespace Go.Am
inductive Ends(succ:Nat->List Nat):Nat->Prop
 |mk (i:Nat) (h:∀j∈succ i,Ends succ j):Ends succ i
inductive Way(succ:Nat->List Nat):Nat->Nat->Prop
 |one {i j} (h:j∈succ i):Way succ i j
 |more {i j k} (h:Way succ i j) (J:k∈succ j):Way succ i k
theorem Way.trans{succ:Nat->List Nat}{i j k:Nat}(h:Way succ i j)(J:Way succ j k):Way succ i k:=by
 induction J with
 |one M=>exact .more h M
 |more _ M ih=>exact .more ih M
def fresh(A:List Nat):Nat:=A.countP (·== 0)
structure Ac(succ:Nat->List Nat)(A H:List Nat):Prop where
 len:H.length=A.length
 ac5:∀i,H.getD i 0=1↔A.getD i 0=1
 black:∀i,A.getD i 0=2->H.getD i 0=2
 ac6:(∀i,A.getD i 0<=2)->∀i,H.getD i 0<=2
 ends:(∀i,A.getD i 0=2->Ends succ i)->∀i,H.getD i 0=2->Ends succ i
 fresh:fresh H<=fresh A
theorem Ac.refl(succ:Nat->List Nat)(s:List Nat):Ac succ s s:=⟨rfl,λ_=>Iff.rfl,λ_ h=>h,λh=>h,λh=>h,aae _⟩
theorem Ac.trans{succ:Nat->List Nat}{a b c:List Nat}(h:Ac succ a b)(k:Ac succ b c):Ac succ a c:=
 ⟨by rw[k.len,h.len],λi=>(k.ac5 i).trans (h.ac5 i),λi hi=>k.black i (h.black i hi),λN=>k.ac6 (h.ac6 N),λhe=>k.ends (h.ends he),aj4 k.fresh h.fresh⟩
def left(g:List Bool):Nat:=g.countP (·== false)
structure wU(succ:Nat->List Nat)(s D:List Bool×Bool):Prop where
 len:D.1.length=s.1.length
 ends:(∀i<s.1.length,s.1.getD i true=true->Ends succ i)->∀i<s.1.length,D.1.getD i true=true->Ends succ i
 less:D.2=true->s.2=false->left D.1<left s.1
 le:left D.1<=left s.1
 more:s.2=true->D.2=true
 same:D.2=false->D=s
theorem wU.trans{succ:Nat->List Nat}{a b c:List Bool×Bool}(h:wU succ a b)(k:wU succ b c):wU succ a c:=
 ⟨by
  rw[k.len,h.len],λhe=>by have:=k.ends;rw[h.len]at this;exact this (h.ends he),λE J=>by
  cases I:b.2 with
  |true=>exact Nat.lt_of_le_of_lt k.le (h.less I J)
  |false=>exact agL (k.less E I) h.le,aj4 k.le h.le,λE=>k.more (h.more E),λE=>by
  cases I:b.2 with
  |true=>rw[k.more I]at E;cases E
  |false=>rw[k.same E,h.same I]⟩
structure aS where
 op:Int
 a:Int
 b:Int
 n:Int
 m:Int
def nf(cells at_ n:Int):Bool:=decide (0<=at_)&&decide (0<=n)&&decide (n<=cells)&&decide (at_<=cells-n)
def ahl(x:aS):Bool:=
 if x.a=0 then decide (x.b=6)||decide (8<=x.b)&&decide (x.b<=18)
 else if x.a=1 then decide (x.b=7)||decide (x.b=13)||decide (x.b=14)||decide (19<=x.b)&&decide (x.b<=21)
 else false
def Pe(cells:Int)(x:aS):Bool:=decide (0<=x.n)&&decide (x.n<=x.m)&&decide (x.m<=255)&&nf cells x.a (x.m-x.n+1)
def Yd(A:Int->Nat)(cells last at_:Int)(x:aS):Bool:=
 if x.op=1\/x.op=11 then true
 else if x.op=2\/x.op=3\/x.op=6\/x.op=14 then nf cells x.a 1
 else if x.op=13 then nf cells x.a 1&&nf cells x.b 2
 else if x.op=4\/x.op=5\/x.op=7 then Pe cells x
 else if x.op=8 then ahl x
 else if x.op=9\/x.op=10 then decide (0<=x.a)&&decide (x.a<=last)
 else if x.op=12 then decide (0<A x.b)&&nf cells x.a (A x.b)
 else if x.op=15 then decide (at_=last)
 else false
def Ef(n:Nat)(t:Bool)(S:List Bool):Option (List Bool):=
 if S.length<n then none else if t&&(S.drop (S.length-n)).any (λb=>!b)then none else some (S.take (S.length-n))
def Ae(t:Bool)(S:List Bool):Option (List Bool):=if S.length<64 then some (S++[t])else none
def SI(S:List Bool):Option (List Bool):=if S=[]then some []else none
def qt(x:aS)(S:List Bool):Option (List Bool):=
 if x.op=1 then Ae (decide (x.n=0)||decide (x.n=1)) S
 else if x.op=2 then Ae false S
 else if x.op=3\/x.op=13\/x.op=14 then Ae true S
 else if x.op=4 then (Ef 1 false S).bind (Ae false)
 else if x.op=5 then (Ef 1 false S).bind (Ae true)
 else if x.op=6 then Ef 1 false S
 else if x.op=7 then Ef 2 false S
 else if x.op=8 then (Ef (if x.b=6\/x.b=7 then 1 else 2) (decide (x.a=1)) S).bind (Ae (decide (x.b=7)||decide (13<=x.b)))
 else if x.op=10 then (Ef 1 true S).bind SI
 else SI S
def ahm(ins:List aS)(i:Nat):List Nat:=
 match ins[i]? with
 |none=>[]
 |some x=>if x.op=9 then [x.a.toNat]else if x.op=10 then [i+1,x.a.toNat]else if x.op=15 then []else [i+1]
end Go.Am
end
section
namespace Go.Am
open Go
noncomputable def oc(X:Ctx)(f:FuncId)(c:Code)(S:St)(A:List DF):XD:=fK λk=>hU X f (aF X k) k c S A
noncomputable def C5(X:Ctx)(f:FuncId)(E:AV)(c:Code)(S:St):Option (XE×St):=fK λk=>mC X f (aF X k) k E c S
noncomputable def wV(X:Ctx):bj:=λg args cs=>fK λk=>l8 X k (aF X k) g args cs
abbrev zq:=XE->St->List DF->bW
noncomputable def iQ(X:Ctx)(f:FuncId)(c:Code)(S:St)(A:List DF)(k:zq):bW:=(oc X f c S A).bind λp=>k p.1 p.2.1 p.2.2
noncomputable def wW(X:Ctx)(md:Bool)(all ops:List Oper)(S:St)(A:List DF)(k:zq):bW:=(eS X (ah X) md all ops S A).bind λp=>k p.1 p.2.1 p.2.2
noncomputable def C6(X:Ctx)(f:FuncId)(b:Code)(k:zq):zq
 | .normal,S,A=>iQ X f b S A k
 |e,S,A=>k e S A
def Eg(X:Ctx)(f:FuncId)(id:Nat)(k:zq):zq
 | .normal,S,A=>k .normal (S.leave X f id) A
 |e,S,A=>k e S A
noncomputable def Ib(X:Ctx)(md:Bool)(all r:List Oper)(A:List DF)(k:zq):Kt
 | .normal,S=>wW X md all r S A k
 |e,S=>k e S A
noncomputable def Gn(X:Ctx)(md:Bool)(all r:List Oper)(o:Oper)(S:St)(A:List DF)(k:zq):Option DF->bW
 |some d=>wW X md all r (S.put o.dst true .aX) (d::A) k
 |none=>runK X md all [o] S (Ib X md all r A k)
section
variable {X:Ctx} {f:FuncId} {S:St} {A:List DF} {md:Bool}
theorem uN(all:List Oper):∀(ops:List Oper)(S:St)(A:List DF),fK (λk=>eS X (aF X k) md all ops S A)=eS X (ah X) md all ops S A
 |[],S,A=>aM _
 |o::r,S,A=>by
  simp only[eS];cases gv S o with
  |some d=>exact uN all r _ _
  |none=>
   simp only[BB];rw[dz (g:=λx n=>nT (λS1=>eS X (aF X n) md all r S1 A) A x) (rD (bo X) all) (λx=>by
    obtain⟨e,S1⟩:=x;cases e with
    |normal=>exact lO (bo X) all r S1 A
    |_=>exact aH.const _),Fx]
   congr 1;funext x;obtain⟨e,S1⟩:=x;cases e with
   |normal=>exact uN all r S1 A
   |_=>exact aM _
theorem dmD(c:Code)(S:St)(A:List DF):aH (λk=>hU X f (aF X k) k c S A):=Fu (bo X) f (m:=λk=>k) (λk=>ake k) c S A
theorem SJ{a b:Code}:oc X f (.seq a b) S A=Hy (oc X f b) (oc X f a S A):=by
 unfold oc;simp only[hU,KB];rw[dz (g:=λx n=>sT (hU X f (aF X n) n b) x) (dmD a S A) (λx=>by
  obtain⟨e,S1,D⟩:=x;cases e with
  |normal=>exact dmD b S1 D
  |_=>exact aH.const _)]
 congr 1;funext x;obtain⟨e,S1,D⟩:=x;cases e<;>first|rfl|exact aM _
theorem lP{c:Code}(h:∀k,hU X f (aF X k) k c S A=wC A (den X f (aF X k) k c S)):oc X f c S A=wC A (eZ X f c S):=by
 unfold oc eZ;have:(λk=>hU X f (aF X k) k c S A)=λk=>(den X f (aF X k) k c S).bind λq=>dT A q:=by
  funext k;rw[h,Ea]
 rw[this,dz (dm c S) (λ_=>aH.const _),Ea];simp only[aM]
theorem SL{id:Nat}{ops:Array Oper}(h:lL ops.toList=true):oc X f (.region id ops false) S A=yK (St.leave X f id) (eS X (ah X) (X.md f id) ops.toList ops.toList S A):=by
 unfold oc;have:(λk=>hU X f (aF X k) k (.region id ops false) S A)=λk=>(eS X (aF X k) (X.md f id) ops.toList ops.toList S A).bind λq=>lT (St.leave X f id) q:=by
  funext k;simp only[hU,h,Bool.not_false,Bool.and_self,yY]
 rw[this,dz (lO (bo X) _ _ _ _) (λ_=>aH.const _),uN,yY];simp only[aM]
variable {k:zq}
theorem SM{a b:Code}:iQ X f (.seq a b) S A k=iQ X f a S A (C6 X f b k):=by
 simp only[iQ,SJ];rcases oc X f a S A with _|⟨e,S1,D⟩
 ·rfl
 ·cases e<;>rfl
theorem lQ{c:Code}(h:oc X f c S A=wC A (eZ X f c S)):iQ X f c S A k=aK X f c S λe S=>k e S A:=by
 simp only[iQ,aK,h];rcases eZ X f c S with _|⟨e,S1⟩<;>rfl
theorem Pf{o:Operand}{a b:Code}:iQ X f (.cond o a b) S A k=aK X f (.cond o a b) S λe S=>k e S A:=lQ (lP λ_=>rfl)
theorem SN:iQ X f .ret S A k=aK X f .ret S λe S=>k e S A:=lQ (lP λ_=>rfl)
theorem Ph:iQ X f .skip S A k=aK X f .skip S λe S=>k e S A:=lQ (lP λ_=>rfl)
theorem Pj{c:Code}:iQ X f (.loop c) S A k=aK X f (.loop c) S λe S=>k e S A:=lQ (lP λ_=>rfl)
theorem J1{id:Nat}{c:Code}:iQ X f (.block id c) S A k=aK X f (.block id c) S λe S=>k e S A:=lQ (lP λ_=>rfl)
theorem Pk{id:Nat}{ops:Array Oper}:iQ X f (.region id ops true) S A k=aK X f (.region id ops true) S λe S=>k e S A:=lQ (lP λ_=>rfl)
theorem SO{id:Nat}{l:List Oper}:iQ X f (.region id ⟨l⟩ false) S A k=if lL l=true then wW X (X.md f id) l l S A (Eg X f id k)else aK X f (.region id ⟨l⟩ false) S λe S=>k e S A:=by
 split
 ·rename_i h;simp only[iQ,wW,SL (ops:=⟨l⟩) h];rcases eS X (ah X) (X.md f id) l l S A with _|⟨e,S1,D⟩
  ·rfl
  ·cases e<;>rfl
 ·rename_i h;exact lQ (lP λ_=>by simp[hU,h])
theorem SP{all:List Oper}:wW X md all [] S A k=k .normal S A:=rfl
theorem Pl{all r:List Oper}{o:Oper}:wW X md all (o::r) S A k=Gn X md all r o S A k (gv S o):=by
 simp only[wW,eS];cases gv S o with
 |some d=>rfl
 |none=>
  simp only[Gn,runK,eL,BB,wO];rcases l7 X (ah X) md all S o with _|⟨e,S1⟩
  ·rfl
  ·cases e<;>rfl
end
noncomputable def Af(X:Ctx)(p:aw)(D:Nat)(rs:List ResultVar):zq
 |e,S,[]=>uL X.P p D rs e S
 |e,S,[d]=>ru X p D rs (wV X) S d (Bq e)
 |_,_,_=>none
noncomputable def rH(X:Ctx)(f:FuncId)(A:AV)(c:Code)(S:St)(k:Kt):bW:=(C5 X f A c S).bind λp=>k p.1 p.2
def C7(P:Program)(p:aw)(D:Nat)(rs:List ResultVar):Kt
 | .normal,S=>finish P p D rs S
 | .ret,S=>finish P p D rs S
 |_,_=>none
section
variable {X:Ctx} {f:FuncId} {S:St}
theorem pM(X:Ctx):dX λk=>l8 X k (aF X k):=CX (bo X) (m:=λk=>k) (λk=>ake k)
theorem J2{C:Nat->bj}(Y:dX C)(m:Mem)(V:Nat)(g:FuncId)(E:List AV)(mt:List Nat):fK (λk=>dr (C k) m V g E mt)=dr (λg a c=>fK λk=>C k g a c) m V g E mt:=by
 unfold dr kS kR;simp only[uH];rw[dz (Y _ _ _) (λ_=>aH.const _)];simp only[aM]
theorem SQ(p:aw)(D:Nat)(rs:List ResultVar)(d:DF)(A:Option AV):fK (λk=>ru X p D rs (l8 X k (aF X k)) S d A)=ru X p D rs (wV X) S d A:=by
 cases A with
 |none=>exact aM _
 |some A=>
  simp only[ru,KE,KD S (dr _ _ _ _ _ _)];rw[dz (g:=λS _=>finish X.P p D rs S) ((mU (pM X) _ _ _ _ _).bind (g:=λc _=>sD S (some c)) λ_=>aH.const _) (λ_=>aH.const _),
   dz (g:=λc _=>sD S (some c)) (mU (pM X) _ _ _ _ _) (λ_=>aH.const _),J2 (pM X)]
  simp only[aM];rfl
theorem Fz{fn:Func}{c:Code}{args:List AV}{cs:List ax}{n:Nat}{rs:List ResultVar}{p:aw}(Z:X.ov=none)(y:X.vh f=none)(H:X.P.funcs[f]?=some fn)(I:fn.body=some c)(A':uB c=true)(J:fn.ntmps=n)(M:fn.results.toList=rs)
 (N:X.fp f=p) (O:iJ n p args cs=true):ah X f args cs=iQ X f c (entry n X.gl args cs p.sites) [] (Af X p cs.length rs):=by
 subst N;subst J;subst M;unfold ah;rw[<-tM (bo X f args cs)];have T:(λk=>aF X (k+1) f args cs)=λk=>(hU X f (aF X k) k c (entry fn.ntmps X.gl args cs (X.fp f).sites) []).bind λq=>uA X (X.fp f) cs.length fn.results.toList (l8 X k (aF X k)) (some q):=by
  funext k;rw[aF,Z,y,H];simp only[I,A',vm,vk];rw[aal (by simpa only[iJ]using O),KG]
 rw[T,dz (g:=λq k=>uA X (X.fp f) cs.length fn.results.toList (l8 X k (aF X k)) (some q)) (dmD c _ _) (λq=>CY (pM X) _ _ _ q)];simp only[iQ];congr 1;funext q;obtain⟨e,S1,A0⟩:=q;match A0 with
 |[]=>
  simp only[uA,Af,aM];cases e<;>rfl
 |[d]=>exact SQ _ _ _ _ _
 |_::_::_=>exact aM _
theorem KI{fn:Func}{c:Code}{args E:List AV}{A:AV}{cs:List ax}{n:Nat}{rs:List ResultVar}{p:aw}(H:X.P.funcs[f]?=some fn)(I:fn.body=some c)(J:fn.ntmps=n)(M:fn.results.toList=rs)
 (N:X.fp f=p) (A1:args.getLast?=some A) (A2:args.dropLast=E) (O:iJ n p E cs=true):wV X f args cs=rH X f A c (entry n X.gl E cs p.sites) (C7 X.P p cs.length rs):=by
 subst N;subst J;subst M;subst A2;unfold wV;have T:(λk=>l8 X k (aF X k) f args cs)=λk=>(mC X f (aF X k) k A c (entry fn.ntmps X.gl args.dropLast cs (X.fp f).sites)).bind λq=>ON X.P (X.fp f) cs.length fn.results.toList (some q):=by
  funext k;simp only[l8,H,I,vj,A1];rw[aal (by simpa only[iJ]using O),KC]
 rw[T,dz (yZ (bo X) f (m:=λk=>k) (λk=>ake k) A c _) (λ_=>aH.const _)];simp only[rH,aM];congr 1;funext q;obtain⟨e,S1⟩:=q;cases e<;>rfl
variable {k:Kt} {A:AV}
theorem SR{a b:Code}:rH X f A (.seq a b) S k=rH X f A a S (zb X f b k):=by
 have h:C5 X f A (.seq a b) S=andThen (C5 X f A a S) (eZ X f b):=
  uK (F:=λn=>mC X f (aF X n) n A a S) (K:=λU n=>den X f (aF X n) n b U) (yZ (bo X) f (m:=λk=>k) (λk=>ake k) A a S) (λU=>dm b U)
 simp only[rH,h,sM];congr 1;funext q;obtain⟨e,S1⟩:=q;cases e<;>rfl
theorem zr{id:Nat}{o:Oper}{r:List Oper}(h:tE o=true):rH X f A (.region id ⟨o::r⟩ false) S k=runK X (X.md f id) (o::r) r (S.put o.dst true A) (zc X f id k):=by
 have A3:C5 X f A (.region id ⟨o::r⟩ false) S=uz (St.leave X f id) (eL X (ah X) (X.md f id) (o::r) r (S.put o.dst true A)):=by
  unfold C5;have:(λk=>mC X f (aF X k) k A (.region id ⟨o::r⟩ false) S)=λk=>(eL X (aF X k) (X.md f id) (o::r) r (S.put o.dst true A)).bind λq=>mT (St.leave X f id) q:=by
   funext k;simp only[mC,h,afh,pk]
  rw[this,dz (jF (bo X) _ _ _) (λ_=>aH.const _),rE,pk];simp only[aM]
 simp only[rH,runK,A3];rcases eL X (ah X) (X.md f id) (o::r) r (S.put o.dst true A)with _|⟨e,S1⟩
 ·rfl
 ·cases e<;>rfl
end
def Ctx.over(X:Ctx)(E:bj):Ctx:={X with ov:=some E}
section
variable {X:Ctx} {E C:bj} {f:FuncId}
@[simp] theorem atg:(X.over E).P=X.P:=rfl
@[simp] theorem aqG:(X.over E).gl=X.gl:=rfl
@[simp] theorem akg:(X.over E).oW=X.oW:=rfl
@[simp] theorem aqH:(X.over E).gh=X.gh:=rfl
@[simp] theorem aqI:(X.over E).md=X.md:=rfl
@[simp] theorem aqJ:(X.over E).fp=X.fp:=rfl
@[simp] theorem aqK:(X.over E).od=X.od:=rfl
@[simp] theorem aqL:(X.over E).fl=X.fl:=rfl
@[simp] theorem ahn:ah (X.over E)=E:=by
 funext g a c;unfold ah;rw[<-tM (bo (X.over E) g a c)];have:(λn=>aF (X.over E) (n+1) g a c)=λ_=>E g a c:=rfl;rw[this,aM]
end
inductive PR(D A α:Type) where
 |ok (a:α) (s:A)
 |bad (e:D) (s:A)
 |out
section
variable {D A α β H:Type}
def PR.el(r:PR D A α)(f:α->A->Option β)(g:D->A->Option β):Option β:=
 match r with
 | .ok a s=>f a s
 | .bad e s=>g e s
 | .out=>none
@[simp] theorem av8{a:α}{s:A}{f:α->A->Option β}{g:D->A->Option β}:(PR.ok a s).el f g=f a s:=rfl
@[simp] theorem ath{e:D}{s:A}{f:α->A->Option β}{g:D->A->Option β}:(PR.bad e s).el f g=g e s:=rfl
@[simp] theorem ati{f:α->A->Option β}{g:D->A->Option β}:(PR.out:PR D A α).el f g=none:=rfl
@[simp] theorem atj{c:Prop}[Decidable c]{a b:PR D A α}{f:α->A->Option β}{g:D->A->Option β}:(if c then a else b).el f g=if c then a.el f g else b.el f g:=by split<;>rfl
def PR.bind(r:PR D A α)(k:α->A->PR D A H):PR D A H:=
 match r with
 | .ok a s=>k a s
 | .bad e s=>.bad e s
 | .out=>.out
@[simp] theorem aqM{a:α}{s:A}{k:α->A->PR D A H}:(PR.ok a s).bind k=k a s:=rfl
@[simp] theorem al5{e:D}{s:A}{k:α->A->PR D A H}:(PR.bad e s:PR D A α).bind k=.bad e s:=rfl
@[simp] theorem al6{k:α->A->PR D A H}:(PR.out:PR D A α).bind k=.out:=rfl
@[simp] theorem aqN{r:PR D A α}{k:α->A->PR D A H}{f:H->A->Option β}{g:D->A->Option β}:(r.bind k).el f g=r.el (λa s=>(k a s).el f g) g:=by cases r<;>rfl
@[simp] theorem av9{r:PR D A α}{f:α->A->Option β}{g:D->A->Option β}:r.el (λa s=>f a s) (λe s=>g e s)=r.el f g:=rfl
theorem ac8{I:Nat}{b:Bool}{r:PR D A α}{f:α->A->bW}{g:D->A->bW}:pe I b (r.el f g)=r.el (λa s=>pe I b (f a s)) (λe s=>pe I b (g e s)):=by cases r<;>rfl
theorem aaS{m:Mem}{J:Nat}{ρ B:List Nat}{r:PR D A α}{f:α->A->bW}{g:D->A->bW}:eK m J ρ B (r.el f g)=r.el (λa s=>eK m J ρ B (f a s)) (λe s=>eK m J ρ B (g e s)):=by cases r<;>rfl
theorem VZ{X:Ctx}{md:Bool}{S:St}{d:Option Nat}{all q:List Oper}{k:Kt}{r:PR D A α}{f:α->A->Option eA}{g:D->A->Option eA}:pK X md S d all q k (r.el f g)=r.el (λa s=>pK X md S d all q k (f a s)) (λe s=>pK X md S d all q k (g e s)):=by cases r<;>rfl
theorem SU{X:Ctx}{md:Bool}{M:Nat×List (List Nat)}{S:St}{d:Option Nat}{all q:List Oper}{N:List aU}{k:Kt}{r:PR D A α}{f:α->A->Option eA}{g:D->A->Option eA}:kN X md M S d all q N k (r.el f g)=r.el (λa s=>kN X md M S d all q N k (f a s)) (λe s=>kN X md M S d all q N k (g e s)):=by cases r<;>rfl
def Le(a b:Option β):Prop:=∀r,a=some r->b=some r
theorem Le.refl(a:Option β):Le a a:=λ_ h=>h
theorem Le.trans{a b c:Option β}(h:Le a b)(k:Le b c):Le a c:=λr Y=>k r (h r Y)
theorem Le.none{b:Option β}:Le none b:=λ_ h=>by cases h
theorem Le.el{r:PR D A α}{f O:α->A->Option β}{g T:D->A->Option β}(Z:∀a s,Le (f a s) (O a s))(y:∀e s,Le (g e s) (T e s)):Le (r.el f g) (r.el O T):=by
 cases r with
 |ok a s=>exact Z a s
 |bad e s=>exact y e s
 |out=>exact Le.none
theorem Le.ite{c:Prop}[Decidable c]{a b U V:Option β}(h:c->Le a U)(A':¬c->Le b V):Le (if c then a else b) (if c then U else V):=by
 split
 ·exact h ‹_›
 ·exact A' ‹_›
end
end Go.Am
end
section
namespace Go.Am
abbrev Tx:=List UInt8
def po(c:UInt8):Bool:=decide (65<=c.toNat)&&decide (c.toNat<=90)||decide (97<=c.toNat)&&decide (c.toNat<=122)
def oe(c:UInt8):Bool:=decide (48<=c.toNat)&&decide (c.toNat<=57)
def en(c:UInt8):Bool:=po c||oe c||decide (c.toNat=95)
def vu(c:UInt8):Bool:=decide (c.toNat=32)||decide (c.toNat=10)||decide (c.toNat=9)
def fh(c:UInt8):Nat:=if oe c then c.toNat-48 else if 65<=c.toNat/\c.toNat<=70 then c.toNat-65+10 else 99
def jm(p:Int×Int)(c:UInt8):Int×Int:=if c=10 then (p.1+1,1)else (p.1,p.2+1)
def fi(s:Tx):Int×Int:=s.foldl jm (1,1)
theorem C8:∀(s:Tx)(p:Int×Int)(n:Nat),1<=p.1->p.1<=n->1<=p.2->p.2<=n->1<=(s.foldl jm p).1/\(s.foldl jm p).1<=n+s.length/\1<=(s.foldl jm p).2/\(s.foldl jm p).2<=n+s.length
 |[],p,n,D,I,J,M=>by simp;omega
 |c::r,p,n,D,I,J,M=>by
  have h:=C8 r (jm p c) (n+1) (by unfold jm;split<;>simp<;>omega) (by unfold jm;split<;>simp<;>omega) (by unfold jm;split<;>simp<;>omega) (by unfold jm;split<;>simp<;>omega);simp only[af4,ab2];omega
theorem SV{s:Tx}{i:Nat}:1<=(fi (s.take i)).1/\(fi (s.take i)).1<=s.length+1/\1<=(fi (s.take i)).2/\(fi (s.take i)).2<=s.length+1:=by
 have h:=C8 (s.take i) (1,1) 1 (by simp) (by simp) (by simp) (by simp);have N:(s.take i).length<=s.length:=by simp;omega
 unfold fi;omega
theorem zt{s:Tx}{i:Nat}(h:i<s.length):fi (s.take (i+1))=jm (fi (s.take i)) s[i]:=by
 unfold fi;rw[List.take_add_one,acu h,List.foldl_append];rfl
def l9:Tx->Option Nat
 |[]=>none
 |c::r=>if c=42/\r.head?=some 41 then some 0 else (l9 r).map (·+1)
def gW(s:Tx):Nat:=(s.takeWhile (·≠10)).length
theorem Ic(s:Tx):gW s<=s.length:=by unfold gW;exact (aj1 _).length_le
theorem Ye(a c:UInt8):(a == c)=decide (c=a):=by
 by_cases h:c=a
 ·simp[h]
 ·simp[h];exact λe=>h e.symm
theorem vy:∀(t:Tx),Go.Lib.indexByte t 10=if gW t<t.length then (gW t:Int)else-1
 |[]=>rfl
 |c::r=>by
  have ih:=vy r;unfold Go.Lib.indexByte;by_cases A:c=10
  ·subst A;simp[gW]
  ·have e:gW (c::r)=gW r+1:=by simp[gW,A]
   rw[e,ih];simp only[beq_iff_eq,A,acy,ab2];by_cases h:gW r<r.length
   ·simp only[aal h];rw[aac (by omega),aal (by omega)];omega
   ·simp[h]
theorem wX:∀{t:Tx}{m:Nat},l9 t=some m->m+2<=t.length
 |[],m,h=>by cases h
 |c::r,m,h=>by
  unfold l9 at h;split at h
  ·rename_i A;cases h;cases r with
   |nil=>simp at A
   |cons d r=>simp
  ·cases E:l9 r with
   |none=>rw[E]at h;cases h
   |some n=>
    rw[E]at h;cases h;have:=wX E;simp;omega
theorem FA:∀(t:Tx),Go.Lib.index t [42,41]=match l9 t with|none=> -1|some m=>(m:Int)
 |[]=>rfl
 |c::r=>by
  have ih:=FA r;unfold Go.Lib.index l9;have e:(([42,41]:Tx).isPrefixOf (c::r))=decide (c=42/\r.head?=some 41):=by
   cases r with
   |nil=>simp[List.isPrefixOf]
   |cons d r=>simp[List.isPrefixOf,Ye]
  rw[e,ih];by_cases A:c=42/\r.head?=some 41
  ·simp[A]
  ·rw[aac A];simp only[A,decide_false,akh,acy];cases E:l9 r with
   |none=>simp
   |some n=>simp
theorem C9(a b c:UInt8)(r:Tx):Go.Lib.hasPrefix (c::r) [a,b]=(decide (c=a)&&decide (r.head?=some b)):=by
 unfold Go.Lib.hasPrefix;cases r with
 |nil=>simp[List.isPrefixOf]
 |cons d r=>simp[List.isPrefixOf,Ye]
def eT:Nat->Tx->Nat×Bool
 |0,_=>(0,true)
 |_+1,[]=>(0,true)
 |f+1,c::r=>
  if vu c then (1+(eT f r).1,(eT f r).2)
  else if c=47/\r.head?=some 47 then (gW (c::r)+(eT f ((c::r).drop (gW (c::r)))).1,(eT f ((c::r).drop (gW (c::r)))).2)
  else if c=40/\r.head?=some 42 then match l9 r.tail with
   |none=>(0,false)
   |some m=>(m+4+(eT f ((c::r).drop (m+4))).1,(eT f ((c::r).drop (m+4))).2)
  else (0,true)
def ng(s:Tx):Nat×Nat:=if [49,54,35].isPrefixOf s then (16,3)else if [56,35].isPrefixOf s then (8,2)else if [50,35].isPrefixOf s then (2,2)else (10,0)
def Eh(base:Nat):Nat->Tx->Option Nat
 |x,[]=>some x
 |x,c::r=>if (9223372036854775807-fh c)/base<x then none else Eh base (x*base+fh c) r
def BI(s:Tx)(b h:Nat)(H:Tx):Nat×Nat×Nat:=
 if H=[]\/(∃c,s[h+H.length]?=some c/\(en c=true\/c=35))then (0,0,5)
 else match Eh b 0 H with
  |none=>(0,0,2)
  |some x=>(h+H.length,x,0)
def mD(s:Tx):Nat×Nat×Nat:=BI s (ng s).1 (ng s).2 ((s.drop (ng s).2).takeWhile (λc=>decide (fh c<(ng s).1)))
def zu:Tx:=[43,45,42,47,40,41,91,93,46,44,59,58,60,62,61]
def Ie:List Tx:=[[58,61],[60,61],[62,61],[60,62],[46,46]]
def rI(s:Tx):Nat:=if Ie.any (λp=>p.isPrefixOf s)then 2 else match s with
 |[]=>0
 |c::_=>if c∈zu then 1 else 0
theorem Ag:∀(f:Nat)(t:Tx),(eT f t).1<=t.length
 |0,_=>by simp[eT]
 |_+1,[]=>by simp[eT]
 |f+1,c::r=>by
  unfold eT;split
  ·have:=Ag f r;simp;omega
  ·split
   ·have D:=Ag f ((c::r).drop (gW (c::r)));have I:=Ic (c::r);simp only[acK]at D;simp only;omega
   ·split
    ·split
     ·simp
     ·rename_i m hm;have D:=Ag f ((c::r).drop (m+4));have I:=wX hm;have J:r.tail.length=r.length-1:=by simp
      simp only[acK,ab2]at D⊢;omega
    ·simp
def SW:Tx:=[80,82,79,71,82,65,77,32,69,78,68,95,80,82,79,71,82,65,77,32,86,65,82,32,86,65,82,95,73,78,80,85,84,32,86,65,82,95,79,85,84,80,85,84,32,69,78,68,95,86,65,82,32,73,78,84,32,66,79,79,76,32,65,82,82,65,89,32,79,70,32,84,82,85,69,32,70,65,76,83,69,32,73,70,32,84,72,69,78,32,69,76,83,73,70,32,69,76,83,69,32,69,78,68,95,73,70,32,67,65,83,69,32,69,78,68,95,67,65,83,69,32,70,79,82,32,84,79,32,66,89,32,68,79,32,69,78,68,95,70,79,82,32,87,72,73,76,69,32,69,78,68,95,87,72,73,76,69,32,82,69,80,69,65,84,32,85,78,84,73,76,32,69,78,68,95,82,69,80,69,65,84,32,69,88,73,84,32,82,69,84,85,82,78,32,65,78,68,32,79,82,32,88,79,82,32,78,79,84,32,77,79,68]
def jo:List Tx:=[[80,82,79,71,82,65,77],[69,78,68,95,80,82,79,71,82,65,77],[86,65,82],[86,65,82,95,73,78,80,85,84],[86,65,82,95,79,85,84,80,85,84],[69,78,68,95,86,65,82],[73,78,84],[66,79,79,76],[65,82,82,65,89],[79,70],[84,82,85,69],[70,65,76,83,69],[73,70],[84,72,69,78],[69,76,83,73,70],[69,76,83,69],[69,78,68,95,73,70],[67,65,83,69],[69,78,68,95,67,65,83,69],[70,79,82],[84,79],[66,89],[68,79],[69,78,68,95,70,79,82],[87,72,73,76,69],[69,78,68,95,87,72,73,76,69],[82,69,80,69,65,84],[85,78,84,73,76],[69,78,68,95,82,69,80,69,65,84],[69,88,73,84],[82,69,84,85,82,78],[65,78,68],[79,82],[88,79,82],[78,79,84],[77,79,68]]
def tQ(s:Tx):Bool:=decide (s∈jo)
structure eE where
 kind:Int
 text:Tx
 n:Int
 line:Int
 Da:Int
 deriving DecidableEq
def jO(s:Tx):Nat×Nat×Nat×Nat:=
 match s with
 |[]=>(5,0,0,0)
 |c::_=>
  if po c then
   if tQ (s.take (s.takeWhile en).length)then (0,2,(s.takeWhile en).length,0)
   else if 16<(s.takeWhile en).length then (9,1,0,0)else (0,1,(s.takeWhile en).length,0)
  else if oe c then
   if (mD s).2.2=0 then (0,3,(mD s).1,(mD s).2.1)else ((mD s).2.2,0,0,0)
  else if rI s=0 then (5,0,0,0)else (0,4,rI s,0)
def here(p:Int×Int):eE:=⟨0,[],0,p.1,p.2⟩
def BJ(s:Tx):Nat->Nat->List eE->List eE×Nat×eE
 |0,_,_=>([],5,⟨0,[],0,0,0⟩)
 |f+1,i,out=>
  if (eT (s.length+1) (s.drop i)).2=false then ([],5,here (fi (s.take (i+(eT (s.length+1) (s.drop i)).1))))
  else if s.drop (i+(eT (s.length+1) (s.drop i)).1)=[]then (out++[here (fi (s.take (i+(eT (s.length+1) (s.drop i)).1)))],0,⟨0,[],0,0,0⟩)
  else if (jO (s.drop (i+(eT (s.length+1) (s.drop i)).1))).1≠0 then ([],(jO (s.drop (i+(eT (s.length+1) (s.drop i)).1))).1,here (fi (s.take (i+(eT (s.length+1) (s.drop i)).1))))
  else BJ s f (i+(eT (s.length+1) (s.drop i)).1+(jO (s.drop (i+(eT (s.length+1) (s.drop i)).1))).2.2.1)
   (out++[⟨(jO (s.drop (i+(eT (s.length+1) (s.drop i)).1))).2.1,(s.drop (i+(eT (s.length+1) (s.drop i)).1)).take (jO (s.drop (i+(eT (s.length+1) (s.drop i)).1))).2.2.1,(jO (s.drop (i+(eT (s.length+1) (s.drop i)).1))).2.2.2,
    (fi (s.take (i+(eT (s.length+1) (s.drop i)).1))).1,(fi (s.take (i+(eT (s.length+1) (s.drop i)).1))).2⟩])
def Ei(s:Tx):List eE×Nat×eE:=if 16384<s.length then ([],13,⟨0,[],0,1,1⟩)else BJ s (s.length+1) 0 []
end Go.Am
end
