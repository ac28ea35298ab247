/-
  Texts of one proof, one behind the other.
-/
import Derived.Test.YtccmboenpbjhnaaGreatDoorB2
import Derived.Below
import Derived.Recover
import Derived.Orders
import Derived.Laws.BitsLemmas
import Derived.Laws.Bits64
import Derived.Lib.Mul64
import Derived.Lib.Bytealg
import Derived.Lib.Index
import Derived.Lib.Strings
set_option linter.all false
section
namespace Go.Am
open Go
abbrev Is(e:XE)(A:St):XE->St->Prop:=λe' B4=>e'=e/\B4=A
def Mb(P:Program)(S:St)(o:Oper)(e:XE)(A:St):Prop:=
 A.n=S.n/\A.gl=S.gl/\(e=.normal\/∃t x,e=.panic t x)/\∀φ G a w,Rel φ G S a w->∀(next:Act->World->Prop)(R:Exit->Act->World->Prop),
  (e=.normal->∀φ' AH w',Rel φ' G A AH w'->aS φ S.mem w φ' A.mem w'->next AH w')->
  (∀t x,e=.panic t x->∀φ' AH w' v,Rel φ' G A AH w'->aS φ S.mem w φ' A.mem w'->aO w' (Fo G φ' A.mem) x v->R (.panic [{v:=.iface t v,recovered:=false}]) AH w')->o.wp P a w next R
theorem lQ(S:St)(d g x):(S.put d g x).gl=S.gl:=by cases d<;>rfl
section
variable {X:Ctx} {AA:br} {S A:St} {o:Oper} {e:XE}
theorem A4{c:Bool}{x:AV}{gb:Bool}(AF:di X.P S o=.val c x)(AD:(gn S o&&c)=true)(H:∀t,o.dst=some t->t<S.n):Mb X.P S o .normal (S.put o.dst gb x):=by
 simp only[Ds]at AD;have:=Im X.P S o AD.1;rw[AF]at this;refine⟨mg ..,lQ ..,.inl rfl,λφ G a w E next R AB _=>?_⟩;exact WR this AD.2 E H (λAH w' AL AM=>AB rfl φ AH w' AL (by rw[ff];exact AM))
theorem Md{c:Bool}{x:AV}{Ai:cB}(AF:di X.P S o=.dg c x Ai)(AD:(gn S o&&c)=true)(H:∀t,o.dst=some t->t<S.n):Mb X.P S o .normal (({S with mem:=Mem.set S.mem Ai}:St).put o.dst true x):=by
 simp only[Ds]at AD;have:=Im X.P S o AD.1;rw[AF]at this;refine⟨mg ..,lQ ..,.inl rfl,λφ G a w E next R AB _=>?_⟩;exact WS this AD.2 E H (λφ' AH w' AL AM=>AB rfl φ' AH w' AL (by rw[ff];exact AM))
theorem Lh{m:Mem}{B5:Nat}{g:FuncId}{BR:List AV}{mt:List Nat}{out:Out}{es:List cB}{ks:List Nat}(h:dO AA m B5 g BR mt=some ⟨out,es,ks⟩):∀e∈es,e.key∈ks:=by
 unfold dO lX lW fA at h;split at h
 ·rename_i out BA _;split at h
  ·rename_i AC;simp only[Ds,abQ]at AC;simp only[abX,eZ.mk.injEq]at h;obtain⟨_,rfl,rfl⟩:=h;intro e he;obtain⟨j,v,c,AQ,rfl⟩:=uC.1 he;have BB:=(abM.1 AQ).1;simp only[aeF];generalize collect m 64 (kO mt 0 BR) []=ρ at AC BB⊢;have B6:j<(ρ++List.range' (B5+1) (BA.length-ρ.length)).length:=by simp;omega
   have hm:=aep B6;have Ar:(ρ++List.range' (B5+1) (BA.length-ρ.length)).getD j 0=(ρ++List.range' (B5+1) (BA.length-ρ.length))[j]:=by
    rw[ag4,ad2 B6];rfl
   rw[Ar];rcases ab3.1 hm with I|I
   ·exact amf _ (amf _ I)
   ·exact List.mem_append_right _ I
  ·cases h
 ·cases h
mutual
theorem TM:∀{x y:D},zQ x y=true->x=y
 |x,y,h=>by
  unfold zQ at h;split at h
  ·simp only[Ds,abQ]at h;obtain⟨rfl,rfl⟩:=h;rfl
  ·rw[ad7 h]
  ·rw[ad7 h]
  ·rw[A5 h]
  ·rw[A5 h]
  ·rfl
  ·cases h
theorem A5:∀{x y:List D},xC x y=true->x=y
 |x,y,h=>by
  unfold xC at h;split at h
  ·rfl
  ·simp only[Ds]at h;rw[TM h.1,A5 h.2]
  ·cases h
end
theorem acw{x y:AV}(h:Fp x y=true):x=y:=by
 unfold Fp at h;split at h
 ·rw[TM h]
 ·simp only[Ds,abQ]at h;obtain⟨rfl,rfl,rfl⟩:=h;rfl
 ·simp only[Ds,abQ]at h;obtain⟨rfl,rfl,rfl,rfl⟩:=h;rfl
 ·cases h
theorem IX:∀{x y:List AV},A0 x y=true->x=y
 |[],[],_=>rfl
 |[],_::_,h=>by cases h
 |_::_,[],h=>by cases h
 |a::r,b::s,h=>by
  simp only[A0,Ds]at h;rw[acw h.1,IX h.2]
theorem TN{x y:ay}(h:zR x y=true):x=y:=by
 unfold zR at h;split at h
 ·rw[IX h]
 ·simp only[Ds,abQ]at h;rw[h.1,A5 h.2]
 ·cases h
theorem IY:∀{m:Mem}{e:cB},Mem.get m e.key=some e->Mem.set m e=m
 |[],_,_=>rfl
 |x::r,e,h=>by
  simp only[Mem.get]at h;simp only[Mem.set];split at h
  ·rename_i Y;cases h;rw[abT rfl]
  ·rename_i Y;rw[abN Y,IY h]
theorem BV:∀{es:List cB}{m m':Mem}{ks:List Nat},qh m es=true->(∀e∈es,e.key∈ks)->(∀k∈ks,Mem.get m' k=Mem.get m k)->bB m' es=m'
 |[],_,_,_,_,_,_=>rfl
 |e::r,m,m',ks,h,Y,hm=>by
  simp only[qh,Ds]at h;have I:Mem.get m' e.key=some e:=by
   rw[hm _ (Y e (by simp))];obtain⟨h,_⟩:=h;cases O:Mem.get m e.key with
   |none=>rw[O]at h;cases h
   |some x=>
    rw[O]at h;simp only[Hx,Ds,abQ]at h;have V:=(Mem.get_mem O).2;obtain⟨k,v,c⟩:=x;obtain⟨C4,C5,C6⟩:=e;simp only at h V;rw[h.1,TN h.2,V]
  rw[bB,IY I];exact BV h.2 (λe he=>Y e (ael _ he)) hm
theorem mH{args:List Operand}{AK:Bool×AV}{out:Out}{es:List cB}{ks:List Nat}(h:cF X AA S o args AK=some ⟨out,es,ks⟩):∃g AU Ae,AK=(true,.fn g AU)/\iB S args=true/\
 dO AA S.mem (keyOf o) (ny g) (ig g (dp S args) AU) (X.fp (ny g)).vm=some ⟨out,Ae,ks⟩/\(∀e∈es,e.key∈ks)/\∀m',(∀k∈ks,Mem.get m' k=Mem.get S.mem k)->bB m' Ae=bB m' es:=by
 unfold cF at h;split at h
 ·rename_i g AU;split at h
  ·rename_i AD;generalize (X.fp (ny g)).vm.contains 2000=b at h;cases AC:dO AA S.mem (keyOf o) (ny g) (ig g (dp S args) AU) (X.fp (ny g)).vm with
   |none=>rw[AC]at h;cases b<;>cases h
   |some res=>
    obtain⟨C7,Ae,C8⟩:=res;have Y:=Lh AC;rw[AC]at h;cases b with
    |false=>cases h;exact⟨g,AU,es,rfl,AD,AC,Y,λ_ _=>rfl⟩
    |true=>
     simp only[xD,abX]at h;cases AF:qh S.mem Ae with
     |false=>rw[AF]at h;cases h;exact⟨g,AU,es,rfl,AD,AC,Y,λ_ _=>rfl⟩
     |true=>rw[AF]at h;cases h;exact⟨g,AU,Ae,rfl,AD,AC,by simp,λm' hm=>BV AF Y hm⟩
  ·cases h
 ·cases h
theorem W8(AI:jk X AA){AK:Operand}{args:Array Operand}{A_:Array TypeId}(U:o.op=.call {callee:=.value AK,args,argTypes:=A_})(A9:S.gl=X.gl)(H:∀t,o.dst=some t->t<S.n)
 (h:tJ S o.dst (cF X AA S o args.toList (S.aq AK))=some (e,A)):Mb X.P S o e A:=by
 cases Af:cF X AA S o args.toList (S.aq AK)with
 |none=>rw[Af]at h;cases h
 |some res=>
  rw[Af]at h;obtain⟨out,es,ks⟩:=res;obtain⟨g,AU,Ae,As,AD,At,_,Aa⟩:=mH Af;have Aa:=Aa S.mem (λ_ _=>rfl);cases out with
  |ret x=>
   simp only[tJ,abX,adL]at h;obtain⟨rfl,rfl⟩:=h;refine⟨mg ..,lQ ..,.inl rfl,λφ G a w E next R AB _=>?_⟩;refine uI AI U As rfl AD At A9 E (λAo V φ' w' v AL AM AR=>?_) (λt Ao V=>by cases V);cases V;rw[Aa]at AL AM AR;exact AB rfl φ' _ w' (AL.put o.dst H true x v (λ_=>AR)) (by rw[ff];exact AM)
  |panic t x=>
   simp only[tJ,abX,adL]at h;obtain⟨rfl,rfl⟩:=h;refine⟨rfl,rfl,.inr ⟨t,x,rfl⟩,λφ G a w E next R _ AT=>?_⟩;refine uI AI U As rfl AD At A9 E (λAo V=>by cases V) (λBi Ao V φ' w' v AL AM AR=>?_);cases V;rw[Aa]at AL AM AR;exact AT t x rfl φ' a w' v AL AM AR
theorem TO{x:Operand}(U:o.op=.panic x)(h:Ct S (S.aq x)=some (e,A)):Mb X.P S o e A:=by
 cases V:S.aq x with
 |mk g y=>
  rw[V]at h;unfold Ct at h;split at h
  ·rename_i t d heq;cases heq;simp only[abX,adL]at h;obtain⟨rfl,rfl⟩:=h;refine⟨rfl,rfl,.inr ⟨t,d,rfl⟩,λφ G a w E next R _ AT=>?_⟩;have AR:=E.aq x (by rw[V]);rw[V]at AR;generalize Bj:a.eval x=u at AR;cases AR with
   |gw _ _ v H=>
    have BC:(execOp a.eval o).run X.P w=.halt (.panic (.iface t v)) w:=by
     simp[execOp,U,Bj,Instr.panic]
    unfold Oper.wp;rw[BC];exact AT t d rfl φ a w v E (aS.refl ..) H
  ·cases h
theorem zW(AI:jk X AA)(A9:S.gl=X.gl)(H:∀t,o.dst=some t->t<S.n)(h:gR X AA S o (di X.P S o)=some (e,A)):Mb X.P S o e A:=by
 generalize AF:di X.P S o=r at h;cases r with
 |val c x=>
  simp only[gR]at h;split at h
  ·rename_i AD;cases h;exact A4 AF AD H
  ·cases h
 |dg c x Ai=>
  simp only[gR]at h;split at h
  ·rename_i AD;cases h;exact Md AF AD H
  ·cases h
 |no=>
  simp only[gR,rr]at h;split at h
  ·rename_i AK args A_ U;exact W8 AI U A9 H h
  ·rename_i x U;exact TO U h
  ·cases h
def zX(P:Program)(all:List Oper)(S:St)(o:Oper)(e:XE)(A:St):Prop:=
 A.n=S.n/\A.gl=S.gl/\(e=.normal\/∃t x,e=.panic t x)/\∀φ G a w,Rel φ G S a w->∀(next:Act->World->Prop)(R:Exit->Act->World->Prop),
  (e=.normal->∀φ' AH w',Rel φ' G A AH w'->aS φ S.mem w φ' A.mem w'->next AH w')->
  (∀t x,e=.panic t x->∀φ' AH w' v,Rel φ' G A AH w'->aS φ S.mem w φ' A.mem w'->aO w' (Fo G φ' A.mem) x v->R (.panic [{v:=.iface t v,recovered:=false}]) AH w')->
  if Region.wanted o (yielded all.toArray a.tmps)then o.wp P a w next R else next (a.put o.dst undef) w
theorem A6{all:List Oper}(h:Mb X.P S o e A)(hw:∀φ G a w,Rel φ G S a w->Region.wanted o (yielded all.toArray a.tmps)=true):zX X.P all S o e A:=by
 obtain⟨I,J,AN,AW⟩:=h;refine⟨I,J,AN,λφ G a w E next R AB AT=>?_⟩;rw[abT (hw φ G a w E)];exact AW φ G a w E next R AB AT
theorem zY{φ:bN}{w:World}{F:Nat->Prop}{x:AV}(V:x=.bf\/x=.bY []):aB φ w F x undef:=by
 rcases V with rfl|rfl
 ·exact .bf _
 ·exact .bY [] #[] rfl (λi c v h=>by simp at h)
theorem D3{all:List Oper}{j:Nat}{φ G a w}(h:Rel φ G S a w)(O:oV all S j=some (true,.bY [])):yielded all.toArray a.tmps j=none:=by
 unfold oV at O;split at O
 ·rename_i o U;split at O
  ·rename_i t AJ;have I:=h.env t _ O;unfold yielded;simp only[aeG,U,aeE,AJ];rw[abY]at I;cases AE:a.tmps[t]? with
   |none=>rfl
   |some v=>
    rw[AE]at I;simp only[aer]at I;cases I;rfl
  ·cases O
 ·cases O
theorem IZ{all:List Oper}{gb:Bool}{x:AV}(V:gb=true->x=.bf\/x=.bY [])(H:∀t,o.dst=some t->t<S.n)(hw:∀φ G a w,Rel φ G S a w->Region.wanted o (yielded all.toArray a.tmps)=false):zX X.P all S o .normal (S.put o.dst gb x):=by
 refine⟨mg ..,lQ ..,.inl rfl,λφ G a w E next R AB _=>?_⟩;rw[abN (by rw[hw φ G a w E];simp)];exact AB rfl φ _ w (E.put o.dst H gb x undef (λO=>zY (V O))) (by rw[ff];exact aS.refl ..)
theorem Gw{all:List Oper}{j:Nat}{AO t:Bool}(O:o.guard=some (j,AO))(AG:oV all S j=some (true,.d (.bool t))){φ G a w}(E:Rel φ G S a w):Region.wanted o (yielded all.toArray a.tmps)=(t == AO):=by
 have Ay:=To E AG;simp only[Region.wanted,O,Ay];cases t<;>cases AO<;>rfl
theorem CB(S:St)(d b):(S.cz d b).n=S.n:=mg ..
theorem A7(S:St)(d b):(S.cz d b).gl=S.gl:=lQ ..
theorem D4(S:St)(d b):(S.cz d b).mem=S.mem:=ff ..
theorem ZG{all:List Oper}{S:St}{j:Nat}{t b:Bool}(AG:oV all S j=some (true,.d (.bool t)))(Z:t=b)(u:Nat):Env.lk (S.cz (lG all j) b).env u=Env.lk S.env u:=by
 subst Z;unfold oV at AG;unfold St.cz lG;split at AG
 ·rename_i Bk AQ;split at AG
  ·rename_i d H;simp only[AQ,H,St.put,Env.lk];split
   ·rename_i hu;subst hu;exact AG.symm
   ·rfl
  ·cases AG
 ·cases AG
theorem aez{all:List Oper}{S:St}{j:Nat}{t b:Bool}(AG:oV all S j=some (true,.d (.bool t)))(Z:t=b){φ G a w}(E:Rel φ G S a w):Rel φ G (S.cz (lG all j) b) a w:=
 Rel.eqv E ⟨(CB ..).symm,(A7 ..).symm,(D4 ..).symm,λu=>(ZG AG Z u).symm⟩
theorem tP{all:List Oper}(AI:jk X AA)(A9:S.gl=X.gl)(H:∀t,o.dst=some t->t<S.n){md:Bool}(h:m5 X AA md all S o=some (e,A)):zX X.P all S o e A:=by
 unfold m5 at h;split at h
 ·rename_i O;exact A6 (zW AI A9 H h) (λ_ _ _ _ _=>by simp[Region.wanted,O])
 ·rename_i j AO O;split at h
  ·rename_i t AG;replace AG:=IJ AG;have hw:∀φ G a w,Rel φ G S a w->Region.wanted o (yielded all.toArray a.tmps)=(t == AO):=λφ G a w E=>Gw O AG E;have other:∀{r:du},di X.P S o=r->(if (t == AO)=true then gR X AA S o r else some (.normal,S.put o.dst true .bf))=some (e,A)->zX X.P all S o e A:=by
    intro r AF h;split at h
    ·rename_i Z;exact A6 (zW AI A9 H (by rw[AF];exact h)) (λφ G a w E=>by rw[hw φ G a w E];exact Z)
    ·rename_i Z;cases h;exact IZ (λ_=>.inl rfl) H (λφ G a w E=>by rw[hw φ G a w E];simpa using Z)
   cases md with
   |true=>
    simp only at h;have BU:∀b,t=b->∀φ G a w,Rel φ G S a w->Rel φ G (S.cz (lG all j) b) a w:=λb Z φ G a w E=>aez AG Z E;split at h
    ·rename_i Z;have Ap:t=AO:=by simpa using Z
     have:=zW (S:=S.cz (lG all j) AO) AI (by rw[A7];exact A9) (λt AJ=>by rw[CB];exact H t AJ) h;obtain⟨I,J,AN,AW⟩:=this;refine A6 ⟨by rw[I,CB],by rw[J,A7],AN,λφ G a w E next R AB AT=>?_⟩ (λφ G a w E=>by rw[hw φ G a w E];exact Z);have BW:=AW φ G a w (BU AO Ap φ G a w E) next R
     rw[D4]at BW;exact BW AB AT
    ·rename_i Z;have Ap:t=!AO:=by cases t<;>cases AO<;>simp_all
     cases h;refine⟨by rw[mg,CB],by rw[lQ,A7],.inl rfl,λφ G a w E next R AB _=>?_⟩;rw[abN (by rw[hw φ G a w E];simpa using Z)];exact AB rfl φ _ w ((BU _ Ap φ G a w E).put o.dst (λt AJ=>by rw[CB];exact H t AJ) true (.bY []) undef (λ_=>zY (.inr rfl))) (by rw[ff,D4];exact aS.refl ..)
   |false=>
   simp only at h;unfold oL at h;split at h
   ·rename_i c x AF;split at h
    ·rename_i AC;cases h;cases Z:(t == AO)
     ·exact IZ (by simp) H (λφ G a w E=>by rw[hw φ G a w E];exact Z)
     ·exact A6 (A4 AF (AC Z) H) (λφ G a w E=>by rw[hw φ G a w E];exact Z)
    ·cases h
   ·rename_i r E;exact other rfl h
  ·rename_i AG;replace AG:=Gu AG;cases h;exact IZ (λ_=>.inr rfl) H (λφ G a w E=>by
    simp only[Region.wanted,O,D3 E AG];cases AO<;>rfl)
  ·cases h
theorem gG{r:Option (XE×St)}{k:St->Option (XE×St)}{y:XE×St}(h:andThen r k=some y):(∃S1,r=some (.normal,S1)/\k S1=some y)\/(r=some y/\y.1≠.normal):=by
 unfold andThen at h;split at h
 ·rename_i S1;exact .inl ⟨S1,rfl,h⟩
 ·rename_i E;refine .inr ⟨h,λhe=>?_⟩;obtain⟨e,S1⟩:=y;simp only at he;subst he;exact E S1 h
theorem aS.post{n:Nat}{φ φ':bN}{G:Fr}{m:Mem}{w w':World}{e:XE}{A:St}{AH:Act}(AB:A.n=n)(E:Rel φ' G A AH w')(Y:aS φ m w φ' A.mem w')(he:e=.normal):nw n φ G m w (Is e A) .normal AH w':=
 ⟨φ',A,AB,⟨he.symm,rfl⟩,E,Y⟩
theorem zZ{md:Bool}{all:List Oper}(AI:jk X AA):∀(ops:List Oper)(S:St)(e:XE)(A:St),fB X AA md all ops S=some (e,A)->S.gl=X.gl->jM S.n ops=true->
 A.n=S.n/\A.gl=S.gl/\∀φ G a w,Rel φ G S a w->∀Q:Exit->Act->World->Prop,(∀e' AH w',nw S.n φ G S.mem w (Is e A) e' AH w'->Q e' AH w')->wpList X.P all.toArray Q ops a w
 |[],S,e,A,h,A9,H=>by
  simp only[fB,abX,adL]at h;obtain⟨rfl,rfl⟩:=h;exact⟨rfl,rfl,λφ G a w E Q Az=>Az _ _ _ (aS.post rfl E (aS.refl ..) rfl)⟩
 |o::rest,S,e,A,h,A9,H=>by
  simp only[jM,aia,Ds]at H;obtain⟨Ac,H⟩:=H;have Ad:∀t,o.dst=some t->t<S.n:=λt AJ=>by rw[AJ]at Ac;simpa using Ac
  simp only[fB]at h;rcases gG h with ⟨S1,I,J⟩|⟨I,J⟩
  ·obtain⟨Au,B7,_,BD⟩:=tP AI A9 Ad I;obtain⟨Bl,Bm,Bn⟩:=zZ AI rest S1 e A J (B7.trans A9) (by rw[Au];exact H);refine⟨Bl.trans Au,Bm.trans B7,λφ G a w E Q Az=>?_⟩;have:=BD φ G a w E (wpList X.P all.toArray Q rest) Q
    (λ_ φ' AH w' AL AM=>Bn φ' G AH w' AL Q (λe' a2 Bo AT=>Az e' a2 Bo (by rw[<-Au];exact AT.weaken AM))) (λt x he=>by cases he)
   unfold wpList;split
   ·rename_i hw;rw[abT hw]at this;exact .inl this
   ·rename_i hw;rw[abN hw]at this;exact this
  ·obtain⟨Au,B7,C9,BD⟩:=tP AI A9 Ad I;refine⟨Au,B7,λφ G a w E Q Az=>?_⟩;have:=BD φ G a w E (wpList X.P all.toArray Q rest) Q
    (λhe=>absurd he J) (λt x he φ' AH w' v AL AM AR=>Az _ _ _ ⟨φ',A,t,x,v,rfl,AR,Au,⟨he.symm,rfl⟩,AL,AM⟩)
   unfold wpList;split
   ·rename_i hw;rw[abT hw]at this;exact .inl this
   ·rename_i hw;rw[abN hw]at this;exact this
theorem rC{all:List Oper}{ks:List Nat}{A S:St}(h:kl all o ks A S){x:Operand}(V:x∈o.op.operands.toList):A.aq x=S.aq x:=by
 cases x with
 |tmp t=>
  simp only[St.aq];rw[h.env t (by simp only[looks,ab3,List.mem_filterMap];exact .inl ⟨.tmp t,V,rfl⟩)]
 |global g=>simp only[St.aq,h.gl]
 |_=>rfl
theorem Gx{all:List Oper}{ks:List Nat}{A S:St}(h:kl all o ks A S){j AO}(O:o.guard=some (j,AO)):Am.oV all A j=Am.oV all S j:=by
 unfold Am.oV;split
 ·rename_i Bk AQ;split
  ·rename_i t AJ;exact h.env t (by simp only[looks,ab3,O,Zy,AQ,AJ];exact .inr (by simp))
  ·rfl
 ·rfl
theorem uK{A S:St}:∀{l:List Operand},(∀x∈l,A.aq x=S.aq x)->iB A l=iB S l
 |[],_=>rfl
 |x::r,h=>by simp only[iB,h x (by simp),uK (l:=r) (λy Ay=>h y (ael _ Ay))]
theorem vD{A S:St}:∀{l:List Operand},(∀x∈l,A.aq x=S.aq x)->dp A l=dp S l
 |[],_=>rfl
 |x::r,h=>by simp only[dp,h x (by simp),vD (l:=r) (λy Ay=>h y (ael _ Ay))]
theorem I0{A S:St}(h:∀x∈o.op.operands.toList,A.aq x=S.aq x):gn A o=gn S o:=by
 unfold gn;split
 ·rfl
 ·exact uK h
theorem Gy{all:List Oper}{c:Bool}{x:AV}{gb:Bool}(H:∀t,o.dst=some t->t<S.n)(AF:di X.P S o=.val c x)(AD:(gn S o&&c)=true)
 (hw:∀A,kl all o (iS S o) A S->∀φ G a w,Rel φ G A a w->Region.wanted o (yielded all.toArray a.tmps)=true):km X.P all S o ⟨iS S o,[],gb,x⟩:=by
 intro A M φ G a w E next R AB
 rw[abT (hw A M φ G a w E)];have V:∀x∈o.op.operands.toList,A.aq x=S.aq x:=λx V=>rC M V;have B':di X.P A o=.val c x:=by rw[Gp V M.mem];exact AF
 obtain⟨_,_,_,AW⟩:=A4 (gb:=gb) B' (by rw[I0 V];exact AD) (λt AJ=>by rw[M.n];exact H t AJ);exact AW φ G a w E next R (λ_ φ' AH w' AL AM=>AB φ' AH w' AL AM) (λt x he=>by cases he)
theorem TP{all:List Oper}{c:Bool}{x:AV}{Ai:cB}(H:∀t,o.dst=some t->t<S.n)(AF:di X.P S o=.dg c x Ai)(AD:(gn S o&&c)=true)
 (hw:∀A,kl all o (iS S o) A S->∀φ G a w,Rel φ G A a w->Region.wanted o (yielded all.toArray a.tmps)=true):km X.P all S o ⟨iS S o,[Ai],true,x⟩:=by
 intro A M φ G a w E next R AB
 rw[abT (hw A M φ G a w E)];have V:∀x∈o.op.operands.toList,A.aq x=S.aq x:=λx V=>rC M V;have B':di X.P A o=.dg c x Ai:=by rw[Gp V M.mem];exact AF
 obtain⟨_,_,_,AW⟩:=Md B' (by rw[I0 V];exact AD) (λt AJ=>by rw[M.n];exact H t AJ);exact AW φ G a w E next R (λ_ φ' AH w' AL AM=>AB φ' AH w' AL AM) (λt x he=>by cases he)
theorem sB{all:List Oper}{ks:List Nat}{gb:Bool}{x:AV}(H:∀t,o.dst=some t->t<S.n)(V:gb=true->x=.bf\/x=.bY [])
 (hw:∀A,kl all o ks A S->∀φ G a w,Rel φ G A a w->Region.wanted o (yielded all.toArray a.tmps)=false):km X.P all S o ⟨ks,[],gb,x⟩:=by
 intro A M φ G a w E next R AB
 rw[abN (by rw[hw A M φ G a w E];simp)];exact AB φ _ w (E.put o.dst (λt AJ=>by rw[M.n];exact H t AJ) gb x undef (λO=>zY (V O))) (by simp only[aX.app,ff];exact aS.refl ..)
theorem Qq{all:List Oper}(AI:jk X AA)(A9:S.gl=X.gl)(H:∀t,o.dst=some t->t<S.n){AK:Operand}{args:Array Operand}{A_:Array TypeId}(U:o.op=.call {callee:=.value AK,args,argTypes:=A_})
 {x:AV} {es:List cB} {ks:List Nat} (h:cF X AA S o args.toList (S.aq AK)=some ⟨.ret x,es,ks⟩)
 (hw:∀A,kl all o ks A S->∀φ G a w,Rel φ G A a w->Region.wanted o (yielded all.toArray a.tmps)=true):km X.P all S o ⟨ks,es,true,x⟩:=by
 intro A M φ G a w E next R AB
 rw[abT (hw A M φ G a w E)];have V:∀x∈o.op.operands.toList,A.aq x=S.aq x:=λx V=>rC M V;have B0:∀x∈args.toList,A.aq x=S.aq x:=λx BE=>V x (by simp[U,Op.operands,Call.operands];exact .inr (by simpa using BE));obtain⟨g,AU,Ae,As,AD,At,_,Aa⟩:=mH h;have Aa:=Aa A.mem (λk Y=>M.mem k Y);have BF:A.aq AK=(true,.fn g AU):=by rw[V AK (by simp[U,Op.operands,Call.operands])];exact As
 have BG:dO AA A.mem (keyOf o) (ny g) (ig g (dp A args.toList) AU) (X.fp (ny g)).vm=some ⟨.ret x,Ae,ks⟩:=by
  rw[vD B0];exact D0 M.keys At (λk Y=>M.mem k Y)
 refine uI AI U BF rfl (by rw[uK B0];exact AD) BG (M.gl.trans A9) E (λAo Aq φ' w' v AL AM AR=>?_) (λt Ao Aq=>by cases Aq);cases Aq;rw[Aa]at AL AM AR;exact AB φ' _ w' (AL.put o.dst (λt AJ=>by show t<A.n;rw[M.n];exact H t AJ) true x v (λ_=>AR)) (by simp only[aX.app,ff];exact AM)
theorem I2{all:List Oper}{S1:St}{p:aX}(AI:jk X AA)(A9:S.gl=X.gl)(H:∀t,o.dst=some t->t<S.n){r:du}(AF:di X.P S o=r)(h:fi X AA S o r=some (S1,p))
 (hw:∀(ks:List Nat) A,kl all o ks A S->∀φ G a w,Rel φ G A a w->Region.wanted o (yielded all.toArray a.tmps)=true):S1=p.app o S/\(∀e∈p.es,e.key∈p.ks)/\km X.P all S o p:=by
 cases r with
 |val c x=>
  simp only[fi]at h;split at h
  ·rename_i AD;cases h;exact⟨rfl,by simp,Gy H AF AD (hw _)⟩
  ·cases h
 |dg c x Ai=>
  simp only[fi]at h;split at h
  ·rename_i AD;cases h;simp only[Ds,List.contains_eq_mem,abQ]at AD;exact⟨rfl,by simpa using AD.2,TP H AF (by simpa using AD.1) (hw _)⟩
  ·cases h
 |no=>
  simp only[fi,n8]at h;split at h
  ·rename_i AK args A_ U;cases Af:cF X AA S o args.toList (S.aq AK)with
   |none=>rw[Af]at h;cases h
   |some res=>
    rw[Af]at h;obtain⟨out,es,ks⟩:=res;cases out with
    |panic=>cases h
    |ret x=>
     cases h;refine⟨rfl,?_,Qq AI A9 H U Af (hw _)⟩;obtain⟨_,_,_,_,_,_,Y,_⟩:=mH Af;exact Y
  ·cases h
theorem gD.refl(S:St):gD S S:=⟨rfl,rfl,rfl,λ_=>rfl⟩
theorem gD.symm{S A:St}(h:gD S A):gD A S:=⟨h.n.symm,h.gl.symm,h.mem.symm,λt=>(h.env t).symm⟩
theorem gD.trans{S A B4:St}(h:gD S A)(k:gD A B4):gD S B4:=⟨h.n.trans k.n,h.gl.trans k.gl,h.mem.trans k.mem,λt=>(h.env t).trans (k.env t)⟩
theorem gD.app{S A:St}(h:gD S A)(p:aX)(o:Oper):gD (p.app o S) (p.app o A):=
 ⟨by rw[uE,uE,h.n],by rw[rm,rm,h.gl],by simp only[aX.app,ff,h.mem],λt=>by rw[tD,tD,h.env]⟩
theorem kl.eqv{all:List Oper}{ks:List Nat}{A S S0:St}(h:kl all o ks A S)(he:gD S S0):kl all o ks A S0:=
 ⟨h.n.trans he.n,h.gl.trans he.gl,by rw[h.keys,he.mem],λt AJ=>(h.env t AJ).trans (he.env t),λk Y=>by rw[h.mem k Y,he.mem]⟩
theorem km.eqv{P:Program}{all:List Oper}{S S0:St}{p:aX}(h:km P all S o p)(he:gD S S0):km P all S0 o p:=λA M=>h A (M.eqv he.symm)
theorem sy.eqv{P:Program}{Aj:Mem->Prop}{all:List Oper}{S S0:St}{p:aX}(h:sy P Aj all S o p)(he:gD S S0):sy P Aj all S0 o p:=λA M=>h A (M.eqv he.symm)
theorem CC{P:Program}{Aj:Mem->Prop}{all ops:List Oper}{S S1:St}{ps:List aX}(h:Cert P Aj all ops S ps S1):∀{S0:St},gD S S0->∃AS,Cert P Aj all ops S0 ps AS/\gD S1 AS:=by
 induction h with
 |nil S=>exact λhe=>⟨_,.nil _,he⟩
 |cons o rest S p ps S1 Y Av h E ih=>
  intro S0 he;obtain⟨AS,J,AN⟩:=ih (he.app p o);exact⟨AS,.cons o rest S0 p ps AS Y Av (h.eqv he) J,AN⟩
theorem TR{all:List Oper}{S:St}{j:Nat}{t b:Bool}(AG:oV all S j=some (true,.d (.bool t)))(Z:t=b):gD (S.cz (lG all j) b) S:=
 ⟨CB ..,A7 ..,D4 ..,λu=>ZG AG Z u⟩
theorem z6{md:Bool}{all:List Oper}{S1:St}{p:aX}(AI:jk X AA)(A9:S.gl=X.gl)(H:∀t,o.dst=some t->t<S.n)(h:eE X AA md all S o=some (S1,p)):gD S1 (p.app o S)/\(∀e∈p.es,e.key∈p.ks)/\km X.P all S o p:=by
 have yes:∀{r:du},di X.P S o=r->fi X AA S o r=some (S1,p)->(∀(ks:List Nat) A,kl all o ks A S->∀φ G a w,Rel φ G A a w->Region.wanted o (yielded all.toArray a.tmps)=true)->gD S1 (p.app o S)/\(∀e∈p.es,e.key∈p.ks)/\km X.P all S o p:=by
  intro r AF h hw;obtain⟨I,J,AN⟩:=I2 AI A9 H AF h hw;exact⟨by rw[I];exact gD.refl _,J,AN⟩
 unfold eE at h;split at h
 ·rename_i O;exact yes rfl h (λ_ _ _ _ _ _ _ _=>by simp[Region.wanted,O])
 ·rename_i j AO O;split at h
  ·rename_i t AG;replace AG:=IJ AG;have hw:∀(ks:List Nat) A,kl all o ks A S->∀φ G a w,Rel φ G A a w->Region.wanted o (yielded all.toArray a.tmps)=(t == AO):=
    λks A M φ G a w E=>Gw O (by rw[Gx M O];exact AG) E
   have other:∀{r:du},di X.P S o=r->(if (t == AO)=true then fi X AA S o r else some (S.put o.dst true .bf,⟨[],[],true,.bf⟩))=some (S1,p)->gD S1 (p.app o S)/\(∀e∈p.es,e.key∈p.ks)/\km X.P all S o p:=by
    intro r AF h;split at h
    ·rename_i Z;exact yes AF h (λks A M φ G a w E=>by rw[hw ks A M φ G a w E];exact Z)
    ·rename_i Z;cases h;exact⟨gD.refl _,by simp,sB H (λ_=>.inl rfl) (λA M φ G a w E=>by rw[hw _ A M φ G a w E];simpa using Z)⟩
   cases md with
   |true=>
    simp only at h;split at h
    ·rename_i Z;have Ap:t=AO:=by simpa using Z
     have he:=TR AG Ap;obtain⟨I,J,AN⟩:=I2 (S:=S.cz (lG all j) AO) AI (by rw[A7];exact A9) (λt AJ=>by rw[CB];exact H t AJ) rfl h
      (λks A M φ G a w E=>by rw[hw ks A (M.eqv he) φ G a w E];exact Z)
     exact⟨by rw[I];exact he.app p o,J,AN.eqv he⟩
    ·rename_i Z;have Ap:t=!AO:=by cases t<;>cases AO<;>simp_all
     cases h;have he:=TR AG Ap;exact⟨he.app ⟨[],[],true,.bY []⟩ o,by simp,sB H (λ_=>.inr rfl) (λA M φ G a w E=>by rw[hw _ A M φ G a w E];simpa using Z)⟩
   |false=>
   simp only at h;unfold rA at h;split at h
   ·rename_i c x AF;split at h
    ·rename_i AC;cases h;refine⟨gD.refl _,by simp,?_⟩;cases Z:(t == AO)
     ·exact sB H (by simp) (λA M φ G a w E=>by rw[hw _ A M φ G a w E];exact Z)
     ·exact Gy H AF (AC Z) (λA M φ G a w E=>by rw[hw _ A M φ G a w E];exact Z)
    ·cases h
   ·exact other rfl h
  ·rename_i AG;replace AG:=Gu AG;cases h;exact⟨gD.refl _,by simp,sB H (λ_=>.inr rfl) (λA M φ G a w E=>by
    have:=D3 E (by rw[Gx M O];exact AG);simp only[Region.wanted,O,this];cases AO<;>rfl)⟩
  ·cases h
inductive jT(T:Nat->St->Oper->aX->Prop):Nat->List Oper->St->List aX->Prop
 |nil (i S):jT T i [] S []
 |cons (i o rest S p ps) (h:T i S o p) (E:jT T (i+1) rest (p.app o S) ps):jT T i (o::rest) S (p::ps)
theorem jT.eqv{T:Nat->St->Oper->aX->Prop}(Aw:∀i S S0 o p,gD S S0->T i S o p->T i S0 o p){i:Nat}{ops:List Oper}{S:St}{ps:List aX}(h:jT T i ops S ps):∀{S0:St},gD S S0->jT T i ops S0 ps:=by
 induction h with
 |nil i S=>exact λ_=>.nil _ _
 |cons i o rest S p ps h E ih=>exact λhe=>.cons _ _ _ _ _ _ (Aw _ _ _ _ _ he h) (ih (he.app p o))
theorem jT.mono{T BY:Nat->St->Oper->aX->Prop}{i:Nat}{ops:List Oper}{S:St}{ps:List aX}(h:jT T i ops S ps):(∀k S o p,i<=k->T k S o p->BY k S o p)->jT BY i ops S ps:=by
 induction h with
 |nil i S=>exact λ_=>.nil _ _
 |cons i o rest S p ps h E ih=>exact λY=>.cons _ _ _ _ _ _ (Y _ _ _ _ (abO _) h) (ih λk S o p hi=>Y k S o p (by omega))
theorem jT.len{T:Nat->St->Oper->aX->Prop}{i:Nat}{ops:List Oper}{S:St}{ps:List aX}(h:jT T i ops S ps):ps.length=ops.length:=by
 induction h with
 |nil i S=>rfl
 |cons i o rest S p ps h E ih=>simp[ih]
theorem jT.at{T:Nat->St->Oper->aX->Prop}{all:List Oper}{ps:List aX}{i:Nat}{rest:List Oper}{S0 S:St}{Ab:List aX}(h:jT T i rest S Ab):∀(pre:List Oper)(pp:List aX),pre.length=i->pre.length=pp.length->all=pre++rest->ps=pp++Ab->aF all ps S0 (List.range pre.length)=S->
 ∀j o p,pre.length<=j->all[j]?=some o->ps[j]?=some p->T j (aF all ps S0 (List.range j)) o p:=by
 induction h with
 |nil i S=>
  intro pre pp hi AZ M BH BI j o p AQ U;simp only[aeP]at M;subst M;rw[afa (by omega)]at U;cases U
 |cons i o rest S p Ab Aw E ih=>
  intro pre pp hi AZ M BH BI j BZ Bp AQ BJ BK;have Ak:all[pre.length]?=some o:=by rw[M];simp
  have Ar:ps[pre.length]?=some p:=by rw[BH,AZ];simp
  rcases Nat.eq_or_lt_of_le AQ with rfl|AQ
  ·rw[Ak]at BJ;rw[Ar]at BK;cases BJ;cases BK;rw[BI,hi];exact Aw
  ·exact ih (pre++[o]) (pp++[p]) (by simp[hi]) (by simp[AZ]) (by rw[M];simp) (by rw[BH];simp) (by
    rw[acg,aeu,List.range_succ,n6,BI];simp[aF,Ak,Ar]) j BZ Bp (by simp;omega) BJ BK
theorem AY.eqv{P:Program}{all:List Oper}{S S0:St}{p:aX}{t:TypeId}{x:D}(h:AY P all S o p t x)(he:gD S S0):AY P all S0 o p t x:=λA M=>h A (M.eqv he.symm)
def TT(P:Program)(all:List Oper)(j:Nat)(Al:List Nat)(t:TypeId)(x:D)(N:Nat)(S1:St)(i:Nat)(S:St)(o:Oper)(p:aX):Prop:=
 (∀e∈p.es,e.key∈p.ks)/\(i≠j->(i<j\/Al.contains i=true)->km P all S o p)/\(i=j->AY P all S o p t x/\S1.n=S.n/\S1.gl=S.gl/\S1.mem=jR N (bB S.mem p.es))
theorem TT.eqv{P:Program}{all:List Oper}{j:Nat}{Al:List Nat}{t:TypeId}{x:D}{N:Nat}{S1:St}(i:Nat)(S S0:St)(o:Oper)(p:aX)(he:gD S S0)(h:TT P all j Al t x N S1 i S o p):TT P all j Al t x N S1 i S0 o p:=
 ⟨h.1,λa b=>(h.2.1 a b).eqv he,λa=>⟨(h.2.2 a).1.eqv he,(h.2.2 a).2.1.trans he.n,(h.2.2 a).2.2.1.trans he.gl,by rw[<-he.mem];exact (h.2.2 a).2.2.2⟩⟩
theorem aeA{X:Ctx}:jk X (λ_ _ _=>none):=λg args cs out l h=>by cases h
theorem z7{md:Bool}{all:List Oper}{Al:List Nat}:∀(ops:List Oper)(i:Nat)(S:St)(A8 Ab:List aX),rV X md all Al i ops S A8=some Ab->S.gl=X.gl->jM S.n ops=true->
 ∃ps,Ab=A8.reverse++ps/\jT (λi S o p=>(∀e∈p.es,e.key∈p.ks)/\(Al.contains i=true->km X.P all S o p)) i ops S ps
 |[],i,S,A8,Ab,h,A9,H=>by
  simp only[rV,abX]at h;exact⟨[],by simp[h],.nil _ _⟩
 |o::rest,i,S,A8,Ab,h,A9,H=>by
  simp only[jM,aia,Ds]at H;obtain⟨Ac,H⟩:=H;have Ad:∀t,o.dst=some t->t<S.n:=λt AJ=>by rw[AJ]at Ac;simpa using Ac
  simp only[rV]at h;cases AQ:Al.contains i with
  |true=>
   rw[AQ]at h;simp only at h;cases O:eE X (λ_ _ _=>none) md all S o with
   |none=>rw[O]at h;cases h
   |some q=>
    obtain⟨AS,p⟩:=q;rw[O]at h;simp only at h;obtain⟨heq,Ax,Ag⟩:=z6 aeA A9 Ad O;obtain⟨ps,I,J⟩:=z7 rest (i+1) AS (p::A8) Ab h (by rw[heq.gl,rm];exact A9) (by rw[heq.n,uE];exact H);exact⟨p::ps,by rw[I];simp,.cons _ _ _ _ _ _ ⟨Ax,λ_=>Ag⟩ (J.eqv (λ_ _ _ _ _ he h=>⟨h.1,λa=>(h.2 a).eqv he⟩) heq)⟩
  |false=>
   rw[AQ]at h;simp only at h;obtain⟨ps,I,J⟩:=z7 rest (i+1) (S.put o.dst false .bf) _ Ab h (by rw[lQ];exact A9) (by rw[mg];exact H);exact⟨⟨[],[],false,.bf⟩::ps,by rw[I];simp,.cons _ _ _ _ _ _ ⟨by simp,λhh=>by rw[AQ]at hh;cases hh⟩ J⟩
theorem Gz{q:IK}(h:kP X AA S o=some q):o.guard=none/\di X.P S o=.no/\∃AK args A_,o.op=.call {callee:=.value AK,args,argTypes:=A_}/\cF X AA S o args.toList (S.aq AK)=some ⟨.panic q.t q.x,q.es,q.ks⟩/\q.S={S with mem:=bB S.mem q.es}:=by
 unfold kP at h;split at h
 ·rename_i O;unfold Cu at h;split at h
  ·rename_i AF;refine⟨O,AF,?_⟩;unfold IL at h;split at h
   ·rename_i AK args A_ U;unfold vq at h;split at h
    ·rename_i t x es ks AC;cases h;exact⟨AK,args,A_,U,AC,rfl⟩
    ·cases h
   ·cases h
  ·cases h
 ·cases h
theorem I3{args:List Operand}{AK:Bool×AV}{out:Out}{es:List cB}{ks:List Nat}(Af:cF X AA S o args AK=some ⟨out,es,ks⟩):∀e∈es,e.key∈ks:=by
 obtain⟨_,_,_,_,_,_,Y,_⟩:=mH Af;exact Y
theorem Qr{all:List Oper}(AI:jk X AA)(A9:S.gl=X.gl){AK:Operand}{args:Array Operand}{A_:Array TypeId}(O:o.guard=none)(U:o.op=.call {callee:=.value AK,args,argTypes:=A_})
 {t:TypeId} {x:D} {es:List cB} {ks:List Nat} (h:cF X AA S o args.toList (S.aq AK)=some ⟨.panic t x,es,ks⟩):AY X.P all S o ⟨ks,es,true,.bf⟩ t x:=by
 intro A M φ G a w E next R AB
 rw[abT (by simp[Region.wanted,O])];have V:∀x∈o.op.operands.toList,A.aq x=S.aq x:=λx V=>rC M V;have B0:∀x∈args.toList,A.aq x=S.aq x:=λx BE=>V x (by simp[U,Op.operands,Call.operands];exact .inr (by simpa using BE));obtain⟨g,AU,Ae,As,AD,At,_,Aa⟩:=mH h;have Aa:=Aa A.mem (λk Y=>M.mem k Y);have BF:A.aq AK=(true,.fn g AU):=by rw[V AK (by simp[U,Op.operands,Call.operands])];exact As
 have BG:dO AA A.mem (keyOf o) (ny g) (ig g (dp A args.toList) AU) (X.fp (ny g)).vm=some ⟨.panic t x,Ae,ks⟩:=by
  rw[vD B0];exact D0 M.keys At (λk Y=>M.mem k Y)
 refine uI AI U BF rfl (by rw[uK B0];exact AD) BG (M.gl.trans A9) E (λAo Aq=>by cases Aq) (λBi Ao Aq φ' w' v AL AM AR=>?_);cases Aq;rw[Aa]at AL AM AR;exact AB φ' a w' v AL AM AR
theorem BX{md:Bool}{AP:Nat×List (List Nat)}{all:List Oper}(AI:jk X AA):∀(ops:List Oper)(S:St)(A8:List aX)(e:XE)(S1:St),ij X AA md AP all ops S A8=some (e,S1)->S.gl=X.gl->jM S.n ops=true->
 (e=.normal/\∃ps AS,Cert X.P (λ_=>True) all ops S ps AS/\gD S1 AS/\o8 AP.2 (A8.reverse++ps)=true)\/
 (∃t x j ps,e=.panic t x/\A8.length<=j/\j<A8.length+ops.length/\jT (TT X.P all j (AP.2.getD j []) t x (AP.1+fQ (A8.reverse++ps)+1) S1) A8.length ops S ps/\o8 AP.2 (A8.reverse++ps)=true/\zL (A8.reverse++ps) (AP.2.getD j [])=true/\S1.env=[])
 |[],S,A8,e,S1,h,A9,H=>by
  simp only[ij]at h;split at h
  ·rename_i AX;cases h;exact .inl ⟨rfl,[],S,.nil S,gD.refl _,by simpa using AX⟩
  ·cases h
 |o::rest,S,A8,e,S1,h,A9,H=>by
  have Bq:=H;simp only[jM,aia,Ds]at H;obtain⟨Ac,H⟩:=H;have Ad:∀t,o.dst=some t->t<S.n:=λt AJ=>by rw[AJ]at Ac;simpa using Ac
  simp only[ij]at h;cases AT:kP X AA S o with
  |some q=>
   right;rw[AT]at h;simp only[nz,Qk]at h;obtain⟨O,AF,AK,args,A_,U,AC,B_⟩:=Gz AT;obtain⟨CA,t,x,es,ks⟩:=q;simp only at AC B_ h;subst B_;cases BL:rV X md all (AP.2.getD A8.length []) (A8.length+1) rest (({S with mem:=bB S.mem es}:St).put o.dst true .bf) (⟨ks,es,true,.bf⟩::A8)with
   |none=>rw[BL]at h;cases h
   |some Ab=>
    rw[BL]at h;simp only[Qj]at h;split at h
    ·rename_i B8;simp only[Ds]at B8;obtain⟨rfl,rfl⟩:XE.panic t x=e/\St.kill {S with mem:=bB S.mem es} (AP.1+fQ Ab+1)=S1:=by simpa using h
     obtain⟨ps,rfl,Br⟩:=z7 rest (A8.length+1) _ _ _ BL (by rw[lQ];exact A9) (by rw[mg];exact H);have Ak:(⟨ks,es,true,.bf⟩::A8:List aX).reverse++ps=A8.reverse++(⟨ks,es,true,.bf⟩::ps):=by simp
     rw[Ak]at B8⊢;refine⟨t,x,A8.length,⟨ks,es,true,.bf⟩::ps,rfl,abO _,by simp,.cons _ _ _ _ _ _ ⟨I3 AC,λhh=>absurd rfl hh,λ_=>⟨Qr AI A9 O U AC,rfl,rfl,rfl⟩⟩ (Br.mono λk S o p Y Aw=>?_),B8.1,B8.2,rfl⟩;exact⟨Aw.1,λ_ hh=>Aw.2 (hh.resolve_left (by omega)),λhh=>by omega⟩
    ·cases h
  |none=>
   rw[AT]at h;simp only[nz]at h;cases O:eE X AA md all S o with
   |none=>rw[O]at h;cases h
   |some q=>
    obtain⟨AS,p⟩:=q;rw[O]at h;simp only[xF]at h;obtain⟨heq,Ax,Ag⟩:=z6 AI A9 Ad O;rcases BX AI rest AS (p::A8) e S1 h (by rw[heq.gl,rm];exact A9) (by rw[heq.n,uE];exact H)with ⟨he,ps,BM,AC,BN,AX⟩|⟨t,x,j,ps,he,Bs,Bt,AC,AX,Ba,Bu⟩
    ·left;obtain⟨An,B1,B2⟩:=CC AC heq;exact⟨he,p::ps,An,.cons o rest S p ps An Ax (λ_ _=>trivial) Ag.toI B1,BN.trans B2,by simpa using AX⟩
    ·right;have Ak:(p::A8).reverse++ps=A8.reverse++(p::ps):=by simp
     rw[Ak]at AX Ba AC;simp only[ach]at Bs Bt AC;exact⟨t,x,j,p::ps,he,by omega,by simp;omega,.cons _ _ _ _ _ _ ⟨Ax,λ_ _=>Ag,λhh=>by omega⟩ (AC.eqv TT.eqv heq),AX,Ba,Bu⟩
def cellOf:Bool->ay->Nat->Option AV
 |false,.box cs,j=>cs[j]?
 |true,.vv ai (some x),j=>if ai.length=j then some x else none
 |_,_,_=>none
def rX(A':List Cl)(m:Mem):Prop:=∀q∈A',∃c,Mem.get m q.k=some ⟨q.k,q.v,c⟩/\cellOf q.vv c q.j=some q.x
theorem Qs{c:ay}{j:Nat}{x:AV}(h:cellOf false c j=some x):∃cs,c=.box cs/\cs[j]?=some x:=by
 cases c with
 |box cs=>exact⟨cs,rfl,h⟩
 |dead=>cases h
 |vec _ _=>cases h
 |vv _ _=>cases h
theorem TV{c:ay}{j:Nat}{x:AV}(h:cellOf true c j=some x):∃ai,c=.vv ai (some x)/\ai.length=j:=by
 cases c with
 |box cs=>cases h
 |dead=>cases h
 |vec _ _=>cases h
 |vv ai y=>
  cases y with
  |none=>cases h
  |some y=>
   simp only[cellOf]at h;split at h
   ·rename_i AQ;cases h;exact⟨ai,rfl,AQ⟩
   ·cases h
theorem TW:∀{x y:AV},ZA x y=true->x=y:=by
 intro x y h;unfold ZA at h;split at h
 ·simp only[Ds,abQ]at h;obtain⟨⟨⟨rfl,rfl⟩,rfl⟩,rfl⟩:=h;rfl
 ·simp only[Ds,abQ]at h;obtain⟨⟨rfl,rfl⟩,rfl⟩:=h;rfl
 ·simp only[Ds,abQ]at h;obtain⟨rfl,rfl⟩:=h;rfl
 ·simp only[abQ]at h;subst h;rfl
 ·cases h
theorem xK{m:Mem}:∀{fl:List (Nat×Nat)}{A':List Cl},fY m fl=some A'->rX A' m
 |[],A',h=>by simp[fY]at h;subst h;exact λq AE=>by simp at AE
 |(k,j)::r,A',h=>by
  unfold fY at h;split at h
  ·rename_i key v cs l O AZ;split at h
   ·rename_i x V;cases h;have Y:key=k:=(Mem.get_mem O).2;subst Y;intro q AE;rcases abV.1 AE with rfl|AE
    ·exact⟨.box cs,O,V⟩
    ·exact xK AZ q AE
   ·cases h
  ·rename_i key v ai x l O AZ;cases h;have Y:key=k:=(Mem.get_mem O).2;subst Y;intro q AE;rcases abV.1 AE with rfl|AE
   ·exact⟨.vv ai (some x),O,by simp[cellOf]⟩
   ·exact xK AZ q AE
  ·cases h
theorem Xa{q:Cl}{v:Nat}{c:ay}(h:clE q v c=true):v=q.v/\cellOf q.vv c q.j=some q.x:=by
 unfold clE at h;split at h
 ·rename_i cs;simp only[Ds,abQ,ahy]at h;obtain⟨⟨I,J⟩,AN⟩:=h;refine⟨J,?_⟩;rw[I];simp only[cellOf];unfold clB at AN;split at AN
  ·rename_i x V;rw[V,TW AN]
  ·cases AN
 ·rename_i ai x;simp only[Ds,abQ]at h;obtain⟨⟨⟨I,J⟩,AN⟩,AW⟩:=h;refine⟨J,?_⟩;rw[I];simp only[cellOf,AN,aes,TW AW]
 ·cases h
theorem I5{e:cB}:∀{A':List Cl},Ql e A'=true->∀q∈A',e.key=q.k->∃c,e=⟨q.k,q.v,c⟩/\cellOf q.vv c q.j=some q.x
 |[],_,q,AE,_=>by simp at AE
 |p::r,h,q,AE,Y=>by
  simp only[Ql,Ds]at h;rcases abV.1 AE with rfl|AE
  ·have I:=h.1;simp only[Y,decide_true]at I;obtain⟨key,ak,cont⟩:=e;simp only at Y I;subst Y;obtain⟨rfl,J⟩:=Xa I;exact⟨cont,rfl,J⟩
  ·exact I5 h.2 q AE Y
theorem GC{A':List Cl}:∀{es:List cB},DU A' es=true->∀m,rX A' m->rX A' (bB m es)
 |[],_,m,hm=>hm
 |e::r,h,m,hm=>by
  simp only[DU,Ds]at h;refine GC h.2 _ (λq AE=>?_);obtain⟨cs,I,J⟩:=hm q AE;by_cases Y:e.key=q.k
  ·obtain⟨Bv,he,V⟩:=I5 h.1 q AE Y;refine⟨Bv,?_,V⟩;have Bw:e.key∈m.map (·.key):=by
    obtain⟨AN,AW⟩:=Mem.get_mem I;rw[Y];exact ab7 AN
   rw[<-Y,Mem.oP Bw,he]
  ·exact⟨cs,by rw[Mem.oQ Y];exact I,J⟩
theorem z8{b:Bool}{k v j:Nat}{x:AV}:∀{A':List Cl},A1 b k v j A'=some x->∃q∈A',q.vv=b/\q.k=k/\q.v=v/\q.j=j/\q.x=x
 |[],h=>by simp[A1]at h
 |q::r,h=>by
  unfold A1 at h;split at h
  ·rename_i Z;simp only[Ds,abQ]at Z;cases h;exact⟨q,by simp,Z.1.1.1.symm,Z.1.1.2.symm,Z.1.2.symm,Z.2.symm,rfl⟩
  ·obtain⟨BO,I,J⟩:=z8 h;exact⟨BO,by simp[I],J⟩
theorem xL{b:Bool}{k v:Nat}:∀{A':List Cl},Cv b k v A'=true->∃q∈A',q.vv=b/\q.k=k/\q.v=v
 |[],h=>by simp[Cv]at h
 |q::r,h=>by
  unfold Cv at h;split at h
  ·rename_i Z;simp only[Ds,abQ]at Z;exact⟨q,by simp,Z.1.1.symm,Z.1.2.symm,Z.2.symm⟩
  ·obtain⟨BO,I,J⟩:=xL h;exact⟨BO,by simp[I],J⟩
theorem Fu{A':List Cl}{m:Mem}(hm:rX A' m){q:Cl}(AE:q∈A')(AR:q.vv=false):∃cs,Mem.get m q.k=some ⟨q.k,q.v,.box cs⟩/\cs[q.j]?=some q.x:=by
 obtain⟨c,I,J⟩:=hm q AE;rw[AR]at J;obtain⟨cs,rfl,AN⟩:=Qs J;exact⟨cs,I,AN⟩
theorem TX{A':List Cl}{m:Mem}(hm:rX A' m){q:Cl}(AE:q∈A')(AR:q.vv=true):∃ai,Mem.get m q.k=some ⟨q.k,q.v,.vv ai (some q.x)⟩/\ai.length=q.j:=by
 obtain⟨c,I,J⟩:=hm q AE;rw[AR]at J;obtain⟨cs,rfl,AN⟩:=TV J;exact⟨cs,I,AN⟩
theorem Xb{P:Program}{A':List Cl}{S:St}{x:AV}(h:A2 P A' S o.op=some x)(hm:rX A' S.mem):∃c,di P S o=.val c x/\(gn S o&&c)=true:=by
 unfold A2 at h;split at h
 ·rename_i t y U;unfold ZB at h;split at h
  ·rename_i k v off heq;split at h
   ·rename_i BP B3;obtain⟨q,AE,Ah,rfl,rfl,rfl,rfl⟩:=z8 h;obtain⟨cs,I,J⟩:=Fu hm AE Ah;have B6:q.j<cs.length:=(abM.1 J).1;refine⟨true,?_,by simp[gn,U,iB,Op.operands,heq]⟩;unfold di;rw[U];simp only[heq,mb,I,BP,J,aer];simp only[aeB]at B3;simp[B3,B6]
   ·cases h
  ·rename_i k v i j heq;split at h
   ·rename_i BP B3 AQ;obtain⟨q,AE,Ah,rfl,rfl,rfl,rfl⟩:=z8 h;obtain⟨ai,I,J⟩:=TX hm AE Ah;simp only[abQ]at AQ;subst AQ;refine⟨true,?_,by simp[gn,U,iB,Op.operands,heq]⟩;unfold di;rw[U];simp only[heq,mb,I,BP];simp only[aeB]at B3;simp[B3,J]
   ·cases h
  ·cases h
 ·rename_i s y f U;unfold ZC at h;split at h
  ·rename_i n k v off AB heq;split at h
   ·rename_i AC;cases h;obtain⟨q,AE,Ah,rfl,rfl⟩:=xL AC;obtain⟨cs,I,J⟩:=Fu hm AE Ah;refine⟨true,?_,by simp[gn,U,iB,Op.operands,heq]⟩;unfold di;rw[U];simp[heq,oD,AB,I]
   ·cases h
  ·cases h
 ·rename_i y U;unfold ZD at h;split at h
  ·rename_i k v off heq;split at h
   ·rename_i AC;cases h;obtain⟨q,AE,Ah,rfl,rfl⟩:=xL AC;obtain⟨cs,I,J⟩:=Fu hm AE Ah;refine⟨true,?_,by simp[gn,U,iB,Op.operands,heq]⟩;unfold di;rw[U];simp[heq,iZ,I]
   ·cases h
  ·cases h
 ·rename_i t y z U;unfold ZE at h;split at h
  ·rename_i e k v off len CD n Bx heq Bb;split at h
   ·rename_i Bc AC Bd Be;cases h;simp only[abQ]at Bc Bd Be;obtain⟨q,AE,Ah,rfl,rfl⟩:=xL AC;obtain⟨ai,I,J⟩:=TX hm AE Ah;refine⟨true,?_,by simp[gn,U,iB,Op.operands,heq,Bb]⟩;unfold di;rw[U];simp[heq,Bb,mr,Bx,Bc,I,Bd,Be]
   ·cases h
  ·cases h
 ·cases h
theorem TY{P:Program}{A':List Cl}{A S:St}(h:∀x∈o.op.operands.toList,A.aq x=S.aq x):A2 P A' A o.op=A2 P A' S o.op:=by
 unfold A2;split
 ·rename_i t y U;rw[h y (by simp[U,Op.operands])]
 ·rename_i s y f U;rw[h y (by simp[U,Op.operands])]
 ·rename_i y U;rw[h y (by simp[U,Op.operands])]
 ·rename_i t y z U;rw[h y (by simp[U,Op.operands]),h z (by simp[U,Op.operands])]
 ·rfl
theorem Qt{all:List Oper}{A':List Cl}{x:AV}(H:∀t,o.dst=some t->t<S.n)(h:A3 X.P A' S o=some x):sy X.P (rX A') all S o ⟨[],[],true,x⟩:=by
 intro A M Av φ G a w E next R AB
 unfold A3 at h;split at h
 ·rename_i O;rw[abT (by simp[Region.wanted,O])];have V:∀x∈o.op.operands.toList,A.aq x=S.aq x:=λx V=>rC M V;obtain⟨c,B',AD⟩:=Xb (by rw[TY V];exact h) Av;obtain⟨_,_,_,AW⟩:=A4 (gb:=true) B' AD (λt AJ=>by rw[M.n];exact H t AJ);exact AW φ G a w E next R (λ_ φ' AH w' AL AM=>AB φ' AH w' AL AM) (λt x he=>by cases he)
 ·cases h
theorem Li{l:List Nat}{r:List Oper}(h:wo l r=true):l=[]/\r=[]:=by
 cases l<;>cases r<;>simp_all [wo]
theorem Xc{all:List Oper}{AP:List (List Nat)}{ps:List aX}(AF:Cr all AP=true)(AZ:ps.length+1=all.length)(AB:AP.getD (all.length-1) []=[])(H:o8 AP ps=true):mX all (ps++[BT])=true:=by
 have By:=BS AF AB;unfold mX;refine ab2.2 λj AQ=>?_;have I:=ab2.1 AF j AQ;have Bz:j<all.length:=adF.1 AQ;unfold zI at I;unfold Hv;have C':(ps++[BT])[j]?=some ((ps++[BT])[j]'(by simp;omega)):=by simp[AZ,Bz]
 rw[C'];cases U:all[j]? with
 |none=>rw[U]at I;cases I
 |some o=>
  rw[U]at I;simp only[Ds,ab2,abQ,ahz,adF]at I⊢;refine⟨I.1,λi hi=>?_⟩;by_cases BB:j+1=all.length
  ·left;have:=By i (by omega);rw[<-BB]at this;simpa using this
  ·rcases I.2 i hi with J|J
   ·exact .inl J
   ·right;have B9:j<ps.length:=by omega
    have C0:(ps++[BT])[i]?=some (ps[i]'(by omega)):=by rw[abW (by omega)];simp[show i<ps.length by omega]
    have C1:(ps++[BT])[j]'(by simp;omega)=ps[j]'B9:=List.getElem_append_left B9
    rw[C1];cases Bf:all[i]? with
    |none=>rw[Bf]at J;cases J
    |some BZ=>
     rw[Bf]at J;rw[C0];simp only[Ds]at J;simp only[zC];have Ak:=xz (qe H i _ (ad2 (show i<ps.length by omega))) j (by simpa using J.2.1) _ (ad2 B9);have Ar:=xz (qe H j _ (ad2 B9)) i (by simpa using J.2.2) _ (ad2 (show i<ps.length by omega));have Bg:=J.1;simp only[Cq,Ds]at Bg;simp only[Ds];exact⟨⟨Bg,Ak⟩,Ar⟩
def TZ(P:Program)(Aj:Mem->Prop)(AP:List (List Nat))(all ops:List Oper)(S:St)(A8:List aX)(e:XE)(S1:St):Prop:=
 (e=.normal/\∃ps AS,Cert P Aj all ops S ps AS/\gD S1 AS/\o8 AP (A8.reverse++ps)=true)\/
  (∃init ol ps AS,ops=init++[ol]/\Cert P Aj all init S ps AS/\AP.getD (all.length-1) []=[]/\o8 AP (A8.reverse++ps)=true/\zX P all AS ol e S1)
theorem zX.eqv{P:Program}{all:List Oper}{S S0 S1:St}{e:XE}(h:zX P all S o e S1)(he:gD S S0):zX P all S0 o e S1:=by
 obtain⟨I,J,AN,AW⟩:=h;refine⟨I.trans he.n,J.trans he.gl,AN,λφ G a w E next R AB AT=>?_⟩;have:=AW φ G a w (E.eqv he.symm) next R
 rw[he.mem]at this;exact this AB AT
theorem GD{md:Bool}{AP:List (List Nat)}{A':List Cl}{all:List Oper}(AI:jk X AA):∀(ops:List Oper)(S:St)(A8:List aX)(e:XE)(S1:St),A8.length+ops.length=all.length->qj X AA md AP A' all ops S A8=some (e,S1)->S.gl=X.gl->jM S.n ops=true->
 TZ X.P (rX A') AP all ops S A8 e S1
 |[],S,A8,e,S1,_,h,A9,H=>by
  simp only[qj]at h;split at h
  ·rename_i AX;cases h;exact .inl ⟨rfl,[],S,.nil S,gD.refl _,by simpa using AX⟩
  ·cases h
 |o::rest,S,A8,e,S1,Bh,h,A9,H=>by
  have Bq:=H;simp only[jM,aia,Ds]at H;obtain⟨Ac,H⟩:=H;have Ad:∀t,o.dst=some t->t<S.n:=λt AJ=>by rw[AJ]at Ac;simpa using Ac
  simp only[ach]at Bh;simp only[qj]at h;cases BQ:wo (AP.getD A8.length []) rest with
  |true=>
   rw[BQ]at h;simp only[Qm]at h;obtain⟨C2,rfl⟩:=Li BQ;split at h
   ·rename_i AX;right;refine⟨[],o,[],S,rfl,.nil S,?_,by simpa using AX,?_⟩
    ·have:all.length-1=A8.length:=by simp at Bh;omega
     rw[this];exact C2
    ·simp only[fB]at h;rcases gG h with ⟨BM,I,J⟩|⟨I,J⟩
     ·cases J;exact tP AI A9 Ad I
     ·exact tP AI A9 Ad I
   ·cases h
  |false=>
  rw[BQ]at h;simp only at h;have glue:∀(p:aX)(A:St),(∀e∈p.es,e.key∈p.ks)->(∀m,rX A' m->rX A' (bB m p.es))->sy X.P (rX A') all S o p->gD A (p.app o S)->qj X AA md AP A' all rest A (p::A8)=some (e,S1)->TZ X.P (rX A') AP all (o::rest) S A8 e S1:=by
   intro p A Y Av Ag heq BC;rcases GD AI rest A (p::A8) e S1 (by simp;omega) BC (by rw[heq.gl,rm];exact A9) (by rw[heq.n,uE];exact H)with ⟨he,ps,BM,AC,BN,AX⟩|⟨init,ol,ps,BM,E,AC,AB,AX,C3⟩
   ·obtain⟨An,B1,B2⟩:=CC AC heq;exact .inl ⟨he,p::ps,An,.cons o rest S p ps An Y Av Ag B1,BN.trans B2,by simpa using AX⟩
   ·obtain⟨An,B1,B2⟩:=CC AC heq;exact .inr ⟨o::init,ol,p::ps,An,by rw[E];rfl,.cons o init S p ps An Y Av Ag B1,AB,by simpa using AX,C3.eqv B2⟩
  cases AZ:A3 X.P A' S o with
  |some x=>
   rw[AZ]at h;simp only[xG,xF]at h;exact glue ⟨[],[],true,x⟩ _ (by simp) (λ_ h=>h) (Qt (X:=X) (all:=all) Ad AZ) (gD.refl _) h
  |none=>
   rw[AZ]at h;simp only[xG]at h;cases O:eE X AA md all S o with
   |none=>rw[O]at h;cases h
   |some q=>
    obtain⟨AS,p⟩:=q;rw[O]at h;simp only[W7]at h;split at h
    ·rename_i hinv;simp only[xF]at h;obtain⟨heq,Ax,Ag⟩:=z6 AI A9 Ad O;exact glue p AS Ax (GC hinv) Ag.toI heq h
    ·cases h
end
theorem bh.Xd{φ:bN}{G:Fr}{m:Mem}{w:World}(h:bh φ G m w){E H e1' e2':cB}(A3:E∈m)(A4:H∈m)(AK:E.key≠H.key){V Y L1' L2':Loc}(A5:φ E.key=some V)(A6:φ H.key=some Y)
 (A':e1'.key=E.key) (A0:e2'.key=H.key) (AL:V.ak<=L1'.ak) (AM:Y.ak<=L2'.ak) (AN:L1'.ak=V.ak->L1'={V with cZ:=L1'.cZ}) (AO:L2'.ak=Y.ak->L2'={Y with cZ:=L2'.cZ})
 (AP:L1'.ak=e1'.ak) (AQ:L2'.ak=e2'.ak) (A7:∀b,e1'.cont.da L1' b->E.cont.da V b\/H.cont.da Y b) (A8:∀b,e2'.cont.da L2' b->E.cont.da V b\/H.cont.da Y b)
 (AF:∀b,e1'.cont.da L1' b->e2'.cont.da L2' b->False)
 (AR:∀(φ':bN)(F':Nat->Prop),φ.le φ'->φ' E.key=some L1'->φ' H.key=some L2'->(∀b,F' b->Fo G φ m b)->dX φ' w F' L1' e1'.cont/\dX φ' w F' L2' e2'.cont):
 ∃φ',bh φ' G (Mem.set (Mem.set m e1') e2') w/\aS φ m w φ' (Mem.set (Mem.set m e1') e2') w:=by
 obtain⟨m',A9⟩:∃m',m'=Mem.set (Mem.set m e1') e2':=⟨_,rfl⟩;rw[<-A9];have AS:((Mem.set m e1').map (·.key)).Nodup:=by rw[Mem.gx];exact h.nodup
 have AG:m'.map (·.key)=m.map (·.key):=by rw[A9,Mem.gx,Mem.gx]
 have A1:∀y,y∈m'->y=e2'\/y=e1'\/(y∈m/\y.key≠E.key/\y.key≠H.key):=by
  intro y T;rw[A9]at T;rcases (Mem.mem_set AS).1 T with ⟨A,_⟩|⟨A,I⟩
  ·exact .inl A
  ·rcases (Mem.mem_set h.nodup).1 A with ⟨A,_⟩|⟨A,U⟩
   ·exact .inr (.inl A)
   ·exact .inr (.inr ⟨A,by rw[<-A'];exact U,by rw[<-A0];exact I⟩)
 obtain⟨φ',AA⟩:∃φ':bN,φ'=λj=>if j=E.key then some L1' else if j=H.key then some L2' else φ j:=⟨_,rfl⟩
 have f1:φ' E.key=some L1':=by simp[AA]
 have f2:φ' H.key=some L2':=by simp[AA,show ¬H.key=E.key from λh=>AK h.symm]
 have f3:∀j,j≠E.key->j≠H.key->φ' j=φ j:=λj A I=>by simp[AA,A,I]
 have hle:φ.le φ':=by
  intro j AB Z;by_cases A:j=E.key
  ·subst A;rw[A5]at Z;cases Z;exact⟨_,f1,AL,AN⟩
  ·by_cases I:j=H.key
   ·subst I;rw[A6]at Z;cases Z;exact⟨_,f2,AM,AO⟩
   ·exact⟨AB,by rw[f3 j A I];exact Z,abO _,λ_=>rfl⟩
 have AH:∀b,E.cont.da V b\/H.cont.da Y b->iw φ m b:=λb J=>J.elim (λJ=>⟨E,A3,V,A5,J⟩) (λJ=>⟨H,A4,Y,A6,J⟩);have AC:∀b,iw φ' m' b->iw φ m b:=by
  rintro b ⟨y,T,O,D,M⟩;rcases A1 y T with rfl|rfl|⟨A,I,U⟩
  ·rw[A0,f2]at D;cases D;exact AH b (A8 b M)
  ·rw[A',f1]at D;cases D;exact AH b (A7 b M)
  ·rw[f3 _ I U]at D;exact⟨y,A,O,D,M⟩
 have AI:∀b,Fo G φ' m' b->Fo G φ m b:=λb=>Or.imp id (AC b);have AJ:=AR φ' (Fo G φ' m') hle f1 f2 AI;have A2:∀y∈m,y.key≠E.key->y.key≠H.key->∀O,φ y.key=some O->∀b,y.cont.da O b->E.cont.da V b\/H.cont.da Y b->False:=by
  intro y T I U O D b M J;rcases J with J|J
  ·exact I (h.apart y T E A3 O V D A5 ⟨b,M,J⟩)
  ·exact U (h.apart y T H A4 O Y D A6 ⟨b,M,J⟩)
 refine⟨φ',⟨by rw[AG];exact h.nodup,?_,?_,?_,λb J=>h.ku b (AC b J),h.bound⟩,⟨hle,λ_ _ _=>rfl,λb _ J=>AC b J,abO _,rfl,rfl,rfl⟩⟩
 ·intro j AB Z;rw[AG];by_cases A:j=E.key
  ·subst A;exact ab7 A3
  ·by_cases I:j=H.key
   ·subst I;exact ab7 A4
   ·rw[f3 j A I]at Z;exact h.pE j AB Z
 ·intro y T;rcases A1 y T with rfl|rfl|⟨A,I,U⟩
  ·exact⟨L2',by rw[A0];exact f2,AQ,AJ.2⟩
  ·exact⟨L1',by rw[A'];exact f1,AP,AJ.1⟩
  ·obtain⟨O,D,AT,AU⟩:=h.fY y A;exact⟨O,by rw[f3 _ I U];exact D,AT,AU.mono hle (λ_ _ _=>rfl) (abO _) (λb _=>AI b) (λ_ _=>rfl)⟩
 ·rintro y T z AD O AE D N ⟨b,M,q⟩;rcases A1 y T with rfl|rfl|⟨A,I,U⟩
  ·rw[A0,f2]at D;cases D;rcases A1 z AD with rfl|rfl|⟨g1,g2,g3⟩
   ·rfl
   ·rw[A',f1]at N;cases N;exact (AF b q M).elim
   ·rw[f3 _ g2 g3]at N;exact (A2 z g1 g2 g3 AE N b q (A8 b M)).elim
  ·rw[A',f1]at D;cases D;rcases A1 z AD with rfl|rfl|⟨g1,g2,g3⟩
   ·rw[A0,f2]at N;cases N;exact (AF b M q).elim
   ·rfl
   ·rw[f3 _ g2 g3]at N;exact (A2 z g1 g2 g3 AE N b q (A7 b M)).elim
  ·rw[f3 _ I U]at D;rcases A1 z AD with rfl|rfl|⟨g1,g2,g3⟩
   ·rw[A0,f2]at N;cases N;exact (A2 y A I U O D b M (A8 b q)).elim
   ·rw[A',f1]at N;cases N;exact (A2 y A I U O D b M (A7 b q)).elim
   ·rw[f3 _ g2 g3]at N;exact h.apart y A z g1 O AE D N ⟨b,M,q⟩
theorem Qu(S:St)(Aj j k sz:Nat):dU S (S.jS Aj j k sz):=by
 unfold St.jS;split
 ·rename_i key BB cs T v cont Bb Z;split
  ·rename_i A4;split
   ·exact dU.refl S
   ·rename_i AM;refine⟨rfl,rfl,λφ G a w H=>?_⟩;obtain⟨hm,A',L,A8,AI,AZ⟩:=H.mem.get Z;simp only at A' AI;subst A';obtain⟨Bc,AS,Ca,Cb,DZ⟩:=H.mem.dg (e':=⟨T,v+1,.vec sz []⟩) hm A8 rfl (L':=⟨v+1,0,sz,0,0,[]⟩) (by simp only;omega) (λhh=>by simp only at hh;omega) rfl
     (w':=w) (λ_ _ _=>rfl) (abO _) (λ_ A2=>absurd A2.1 (by simp)) rfl rfl rfl (λφ' AP Bd=>⟨rfl,by simp,by simp,λJ=>by simp at J⟩)
    have Cc:Mem.get (Mem.set S.mem ⟨T,v+1,.vec sz []⟩) Aj=some ⟨key,BB,.box cs⟩:=by
     rw[Mem.oQ (by simpa using λh=>AM h.symm)];exact Bb
    obtain⟨BQ,BC,BD,BR,BE,Be⟩:=AS.get Cc;simp only at BC BE;subst BC;obtain⟨AL,Ak,AE,D_,Da⟩:=AS.dg (e':=⟨key,BB,.box (cs.set j (.vec T (v+1) 0 0))⟩) BQ BR rfl (L':=BD) (abO _) (λ_=>rfl) BE
     (w':=w) (λ_ _ _=>rfl) (abO _) (λ_ A2=>.inl A2) rfl rfl rfl (λφ' AP Bd=>by
      obtain⟨g0,arr,elem,g1,g2,g3,g4⟩:=Be;have Cd:∀b,Fo G φ' (Mem.set (Mem.set S.mem ⟨T,v+1,.vec sz []⟩) ⟨key,BB,.box (cs.set j (.vec T (v+1) 0 0))⟩) b->Fo G Bc (Mem.set S.mem ⟨T,v+1,.vec sz []⟩) b:=by
       rintro b (h|⟨x,A9,Bf,A_,BF⟩)
       ·exact .inl h
       ·right;rcases (Mem.mem_set AS.nodup).1 A9 with ⟨rfl,_⟩|⟨Bg,Bh⟩
        ·simp only[AP,aes]at A_;cases A_;exact⟨_,BQ,BD,BR,BF⟩
        ·simp only[AP,Bh,ad0]at A_;exact⟨x,Bg,Bf,A_,BF⟩
      refine⟨by simpa using g0,arr,elem,g1,by simp[g2],g3,λi c u J hu=>?_⟩;rw[List.getElem?_set]at J;split at J
      ·rename_i Al;subst Al;split at J
       ·cases J;have:=g4 j _ u A4 hu;cases this;refine .vec T (v+1) 0 0 _ ⟨v+1,0,sz,0,0,[]⟩ ?_ (abO _) (λ_=>⟨_,_,rfl,by simp,λh=>by omega⟩) rfl;rw[AP];simp only
        rw[abN (λh=>AM h.symm)];exact Cb
       ·cases J
      ·exact (g4 i c u J hu).mono Bd (λ_ _ _=>rfl) (abO _) (λb _=>Cd b))
    have C8:=Ca.trans AE;exact⟨AL,H.yX Ak C8,C8⟩
  ·exact dU.refl S
 ·exact dU.refl S
theorem Aa(AN:AV->AV):∀m:Mem,(tL AN m).map (·.key)=m.map (·.key)
 |[]=>rfl
 |e::r=>by simp[tL,Aa AN r]
theorem I6{AN:AV->AV}:∀{m:Mem}{x:cB},x∈tL AN m↔∃e∈m,x=⟨e.key,e.ak,p8 AN e.cont⟩
 |[],x=>by simp[tL]
 |e::r,x=>by simp[tL,I6 (m:=r)]
theorem Qv(S:St)(k AQ:Nat):dU S (S.xA k AQ):=by
 unfold St.xA;split
 ·rename_i key v sz ai T v2 cont Z Ab;split
  ·exact dU.refl S
  ·rename_i AM;refine⟨rfl,rfl,λφ G a w H=>?_⟩;obtain⟨hm,A',L,A8,AI,AZ⟩:=H.mem.get Z;obtain⟨Ak,AE,AT,Au,B1,_⟩:=H.mem.get Ab;simp only at A' AI AE B1;subst A';subst AE;have Ce:¬T=key:=λh=>AM h.symm;obtain⟨AN,C9⟩:∃AN,AN=Fq key v T (v2+1):=⟨_,rfl⟩;rw[<-C9];obtain⟨BT,AS⟩:∃BT,BT=Mem.set (tL AN S.mem) ⟨key,v+1,.dead⟩:=⟨_,rfl⟩;have CA:((tL AN S.mem).map (·.key)).Nodup:=by rw[Aa];exact H.mem.nodup
   have AJ:(BT.map (·.key)).Nodup:=by rw[AS,Mem.gx];exact CA
   obtain⟨m',AR⟩:∃m',m'=Mem.set BT ⟨T,v2+1,.vec sz ai⟩:=⟨_,rfl⟩;rw[<-AS,<-AR];have BG:m'.map (·.key)=S.mem.map (·.key):=by rw[AR,Mem.gx,AS,Mem.gx,Aa]
   have BH:∀y,y∈m'->y=⟨T,v2+1,.vec sz ai⟩\/y=⟨key,v+1,.dead⟩\/(∃z∈S.mem,y=⟨z.key,z.ak,p8 AN z.cont⟩/\z.key≠key/\z.key≠T):=by
    intro y AF;rw[AR]at AF;rcases (Mem.mem_set AJ).1 AF with ⟨h,_⟩|⟨h,I⟩
    ·exact .inl h
    ·rw[AS]at h;rcases (Mem.mem_set CA).1 h with ⟨h,_⟩|⟨h,O⟩
     ·exact .inr (.inl h)
     ·obtain⟨z,BU,rfl⟩:=I6.1 h;exact .inr (.inr ⟨z,BU,rfl,O,I⟩)
   obtain⟨φ',AP⟩:∃φ':bN,φ'=λj=>if j=key then some {L with ak:=v+1} else if j=T then some {L with ak:=v2+1} else φ j:=⟨_,rfl⟩
   have f1:φ' key=some {L with ak:=v+1}:=by simp[AP]
   have f2:φ' T=some {L with ak:=v2+1}:=by simp[AP,Ce]
   have f3:∀j,j≠key->j≠T->φ' j=φ j:=λj E I=>by simp[AP,E,I]
   have hle:φ.le φ':=by
    intro j Bi AA;by_cases E:j=key
    ·subst E;rw[A8]at AA;cases AA;exact⟨_,f1,by simp only;omega,λhh=>by simp only at hh;omega⟩
    ·by_cases I:j=T
     ·subst I;rw[Au]at AA;cases AA;exact⟨_,f2,by simp only;omega,λhh=>by simp only at hh;omega⟩
     ·exact⟨Bi,by rw[f3 j E I];exact AA,abO _,λ_=>rfl⟩
   have Bj:∀b,iw φ' m' b->iw φ S.mem b:=by
    rintro b ⟨y,AF,B2,AG,An⟩;rcases BH y AF with rfl|rfl|⟨Av,E,rfl,I,O⟩
    ·simp only at AG;rw[f2]at AG;cases AG;exact⟨_,hm,L,A8,An⟩
    ·exact An.elim
    ·simp only at AG;rw[f3 _ I O]at AG;exact⟨Av,E,B2,AG,lf.1 An⟩
   have A0:∀b,Fo G φ' m' b->Fo G φ S.mem b:=λb=>Or.imp id (Bj b);have Aw:∀x u,aB φ w (Fo G φ S.mem) x u->aB φ' w (Fo G φ' m') (AN x) u:=by
    intro y u AA;have CB:=AA.mono (φ':=φ') (F':=Fo G φ' m') hle (λ_ _ _=>rfl) (abO _) (λb _=>A0 b);rw[C9];unfold Fq;split
    ·rename_i Db v0 o l;split
     ·rename_i hh;obtain⟨rfl,rfl⟩:=hh;cases AA with
      |vec _ _ _ _ _ L' Ao _ h E=>
       rw[A8]at Ao;cases Ao;exact .vec T (v2+1) o l _ _ f2 (abO _) (λ_=>h AI.symm) E
     ·exact CB
    ·exact CB
   refine⟨φ',⟨H.size,H.defers,?_,⟨?_,?_,?_,?_,?_,?_⟩,H.kz.mono (λ_ _ _=>rfl) (abO _) (λb _=>A0 b)⟩,Iu Bj hle⟩
   ·intro t x A9;obtain⟨y,AF,rfl⟩:=zx _ S.env t true x A9;exact Aw _ _ (H.env t y AF)
   ·show (m'.map (·.key)).Nodup;rw[BG];exact H.mem.nodup
   ·intro j Bi AA;show j∈m'.map (·.key);rw[BG];by_cases E:j=key
    ·subst E;exact ab7 hm
    ·by_cases I:j=T
     ·subst I;exact ab7 Ak
     ·rw[f3 j E I]at AA;exact H.mem.pE j Bi AA
   ·intro y AF;rcases BH y AF with rfl|rfl|⟨Av,E,rfl,I,O⟩
    ·refine⟨_,f2,rfl,?_⟩;have:=AZ.mono (φ':=φ') (F':=Fo G φ' m') hle (λ_ _ _=>rfl) (abO _) (λb _=>A0 b) (λ_ _=>rfl);exact this
    ·exact⟨_,f1,rfl,trivial⟩
    ·obtain⟨B2,AG,Cf,B3⟩:=H.mem.fY Av E;refine⟨B2,by simp only;rw[f3 _ I O];exact AG,Cf,?_⟩;cases Bk:Av.cont with
     |dead=>trivial
     |box cs=>
      rw[Bk]at B3;obtain⟨g0,arr,elem,g1,g2,g3,g4⟩:=B3;refine⟨by simpa using g0,arr,elem,g1,by simp[g2],g3,λi c u CC hu=>?_⟩;rw[adK]at CC;obtain⟨x,A9,rfl⟩:=abS.1 CC;exact Aw x u (g4 i x u A9 hu)
     |vec Dc Cg=>
      rw[Bk]at B3;exact B3.mono hle (λ_ _ _=>rfl) (abO _) (λb _=>A0 b) (λ_ _=>rfl)
     |vv Cg Dd=>
      rw[Bk]at B3;exact kr.mono AN B3 (λ_ _ _ _ u hu=>hu.mono (λ_ _ _=>rfl) (abO _) (λb _=>A0 b)) (λx _ v A9=>Aw x v A9) (λ_ _=>rfl)
   ·rintro y AF z BU B2 CE AG Ad ⟨b,An,BI⟩;rcases BH y AF with rfl|rfl|⟨Av,E,rfl,I,O⟩
    ·rcases BH z BU with rfl|rfl|⟨z0,g1,rfl,g2,g3⟩
     ·rfl
     ·exact BI.elim
     ·simp only at AG;rw[f2]at AG;cases AG;simp only at Ad;rw[f3 _ g2 g3]at Ad;exact absurd (H.mem.apart _ hm z0 g1 L CE A8 Ad ⟨b,An,lf.1 BI⟩).symm g2
    ·exact An.elim
    ·rcases BH z BU with rfl|rfl|⟨z0,g1,rfl,g2,g3⟩
     ·simp only at Ad;rw[f2]at Ad;cases Ad;simp only at AG;rw[f3 _ I O]at AG;exact absurd (H.mem.apart Av E _ hm B2 L AG A8 ⟨b,lf.1 An,BI⟩) I
     ·exact BI.elim
     ·simp only at AG Ad;rw[f3 _ I O]at AG;rw[f3 _ g2 g3]at Ad;exact H.mem.apart Av E z0 g1 B2 CE AG Ad ⟨b,lf.1 An,lf.1 BI⟩
   ·intro b A;exact H.mem.ku b (Bj b A)
   ·exact H.mem.bound
 ·exact dU.refl S
theorem T4{α:Type}{l:List α}{n:Nat}(h:l.length=n+1):∃(r:List α)(o:α),l=r++[o]/\r.length=n:=by
 refine⟨l.dropLast,l.getLast (by intro hh;simp[hh]at h),(List.dropLast_concat_getLast _).symm,by simp[h]⟩
theorem Xf(S:St)(k AQ:Nat):dU S (S.tE k AQ):=by
 unfold St.tE;split
 ·rename_i key v ai T v2 cont Z Ab;split
  ·rename_i xs BJ;split
   ·exact dU.refl S
   ·rename_i AM;refine⟨rfl,rfl,λφ G a w H=>?_⟩;obtain⟨hm,A',L,A8,AI,AZ⟩:=H.mem.get Z;obtain⟨Ak,AE,AT,Au,B1,_⟩:=H.mem.get Ab;simp only at A' AI AE B1;subst A';subst AE;have CF:ai=ai.dropLast++[xs]:=by
     rcases List.eq_nil_or_concat ai with rfl|⟨r,x,rfl⟩
     ·simp at BJ
     ·simp at BJ;subst BJ;simp
    obtain⟨r,Ch⟩:∃r,r=ai.dropLast:=⟨_,rfl⟩;rw[<-Ch]at CF⊢;subst CF;obtain⟨⟨AA,E,I⟩,O,AH,Ae⟩:kr φ w (Fo G φ S.mem) L (r++[xs]) none:=AZ;simp only[acg,aeu,Option.toList_none,aeI,agR]at E I;obtain⟨arr,elem,g1,g2,g3,g4,_⟩:=Ae (by omega);obtain⟨cZ,o,B4,Bl⟩:=T4 I;have CG:=g4 r.length xs o (by simp) (by rw[B4,<-Bl];simp);have B5:∀b,some b∈cZ->some b∈L.cZ:=λb A=>by rw[B4];simp[A]
    have AW:∀(i:Nat)(x:Option Nat),cZ[i]?=some x->L.cZ[i]?=some x:=λi x A9=>by
     rw[B4,abW (abM.1 A9).1];exact A9
    have Ci:∀b,o=some b->some b∉cZ:=λb A hm=>by
     obtain⟨i,hi⟩:=anj hm;have Ax:=(abM.1 hi).1;have:=O i r.length b (AW i _ hi) (by rw[B4,<-Bl,<-A];simp);omega
    have base:∀(L2':Loc)(x:Value),(L2'.ak=v2+1/\L2'.sz=1)->arr[L.base+r.length]?=some x->(∀(φ':bN)(F':Nat->Prop),φ' T=some L2'->aB φ' w F' (.vec T (v2+1) 0 xs.length) x)->
     (∀b,0<L2'.cap->L2'.dw=b->o=some b)->
     (∀(φ':bN)(F':Nat->Prop),φ.le φ'->(∀b,F' b->Fo G φ S.mem b)->dX φ' w F' L2' (.vec 1 xs))->
     ∃φ',Rel φ' G {S with mem:=Mem.set (Mem.set S.mem ⟨key,v,.vv r (some (.vec T (v2+1) 0 xs.length))⟩) ⟨T,v2+1,.vec 1 xs⟩} a w/\aS φ S.mem w φ' (Mem.set (Mem.set S.mem ⟨key,v,.vv r (some (.vec T (v2+1) 0 xs.length))⟩) ⟨T,v2+1,.vec 1 xs⟩) w:=by
     intro L2' x Bm A9 Aw CH Cj;have B6:∀(φ':bN)(F':Nat->Prop),φ.le φ'->φ' T=some L2'->(∀b,F' b->Fo G φ S.mem b)->dX φ' w F' {L with cZ:=cZ} (.vv r (some (.vec T (v2+1) 0 xs.length))):=by
      intro φ' F' hle f2 A0;refine⟨⟨AA,by simp;omega,Bl⟩,λi j b hi A4=>O i j b (AW _ _ hi) (AW _ _ A4),λb A=>AH b (B5 b A),λ_=>⟨arr,elem,g1,g2,g3,λi Bn Bo hi A2=>?_,λy AF=>?_⟩⟩
      ·have Ay:=(abM.1 hi).1;exact (g4 i Bn Bo (by rw[abW Ay];exact hi) (AW _ _ A2)).mono (λd u _ hu=>hu.mono (λ_ _ _=>rfl) (abO _) (λb _=>A0 b)) (λ_ _=>rfl)
      ·cases AF;exact⟨x,A9,Aw φ' F' f2⟩
     obtain⟨φ',AR,Y⟩:=H.mem.Xd (e1':=⟨key,v,.vv r (some (.vec T (v2+1) 0 xs.length))⟩) (e2':=⟨T,v2+1,.vec 1 xs⟩) hm Ak AM A8 Au (L1':={L with cZ:=cZ}) (L2':=L2') rfl rfl (abO _) (by rw[Bm.1];omega)
      (λ_=>rfl) (λhh=>by rw[Bm.1]at hh;omega) AI Bm.1 (λb A=>.inl (by
       rcases A with A|A
       ·exact .inl A
       ·exact .inr (B5 b A))) (λb A=>.inl (.inr (by rw[B4,CH b A.1 A.2];simp))) (λb BK BV=>by
       have CI:=CH b BV.1 BV.2;rcases BK with ⟨_,BK⟩|BK
       ·exact (AH b (by rw[B4,CI];simp)).2 BK.symm
       ·exact Ci b CI BK) (λφ' F' hle f1 f2 A0=>⟨B6 φ' F' hle f2 A0,Cj φ' F' hle A0⟩)
     exact⟨φ',H.yX AR Y,Y⟩
    cases o with
    |none=>
     obtain⟨rfl,b,AC⟩:=CG;exact base ⟨v2+1,0,1,0,0,[]⟩ _ ⟨rfl,rfl⟩ AC (λφ' F' AX=>.vec T _ 0 0 _ _ AX (abO _) (λ_=>⟨_,_,rfl,by simp,λh=>by omega⟩) rfl) (λb A=>by simp at A) (λφ' F' hle A0=>⟨rfl,by simp,by simp,λJ=>by simp at J⟩)
    |some b=>
     obtain⟨row,Ck,off,cap,q1,q2,q3,De,Cl,Cm,CJ⟩:=CG;refine base ⟨v2+1,b,1,row.size-off,off,[]⟩ _ ⟨rfl,rfl⟩ q1 (λφ' F' AX=>.vec T _ 0 _ _ _ AX (abO _) (λ_=>⟨_,cap,rfl,q3,λh=>⟨by simp,by simp only;omega⟩⟩) rfl) (λDf _ A=>by simp only at A;rw[A]) (λφ' F' hle A0=>?_);refine⟨rfl,by simp only;omega,λd U=>?_,λJ=>⟨row,Ck,Cl,by simp only;omega,Cm,λi d hi=>?_⟩⟩
     ·obtain⟨i,hi⟩:=anj U;exact (CJ i d hi).1
     ·obtain⟨_,u,hu,A4⟩:=CJ i d hi;exact⟨u,hu.mono (λ_ _ _=>rfl) (abO _) (λb _=>A0 b),A4⟩
  ·exact dU.refl S
 ·exact dU.refl S
theorem Xg(S:St)(k AQ:Nat):dU S (S.cls k AQ):=by
 unfold St.cls;split
 ·rename_i key v ai Dg v3 len T v2 xs Z Ab;split
  ·exact dU.refl S
  ·rename_i AM;split
   ·rename_i Cn;obtain⟨rfl,rfl,rfl⟩:=Cn;refine⟨rfl,rfl,λφ G a w H=>?_⟩;obtain⟨hm,A',L,A8,AI,AZ⟩:=H.mem.get Z;obtain⟨Ak,AE,AT,Au,B1,Co⟩:=H.mem.get Ab;simp only at A' AI AE B1;subst A';subst AE;obtain⟨⟨AA,E,I⟩,O,AH,Ae⟩:kr φ w (Fo G φ S.mem) L ai (some (.vec T v3 0 xs.length)):=AZ;simp only[Option.toList_some,aeu]at E;obtain⟨arr,elem,g1,g2,g3,g4,g5⟩:=Ae (by omega);obtain⟨y,Cp,Cq⟩:=g5 _ rfl;obtain⟨z0,Dh,z2,z3⟩:=Co;have Bp:∀b,0<AT.cap->AT.dw=b->(L.dw=b\/some b∈L.cZ)->False:=by
     intro b J A hh;refine AM (H.mem.apart _ hm _ Ak L AT A8 Au ⟨b,?_,⟨J,A⟩⟩);rcases hh with hh|hh
     ·exact .inl ⟨by omega,hh⟩
     ·exact .inr hh
    have base:∀(o:Option Nat),(∀b,o=some b->0<AT.cap/\AT.dw=b)->(∀F':Nat->Prop,(∀b,F' b->Fo G φ S.mem b)->yV w F' (some y) xs o)->
     ∃φ',Rel φ' G {S with mem:=Mem.set (Mem.set S.mem ⟨key,v,.vv (ai++[xs]) none⟩) ⟨T,v3+1,.dead⟩} a w/\aS φ S.mem w φ' (Mem.set (Mem.set S.mem ⟨key,v,.vv (ai++[xs]) none⟩) ⟨T,v3+1,.dead⟩) w:=by
     intro o A2 Cs;have CK:∀(i b:Nat),(L.cZ++[o])[i]?=some (some b)->(L.cZ[i]?=some (some b)/\i<L.cZ.length)\/(i=L.cZ.length/\o=some b):=by
      intro i b hi;rcases Nat.lt_trichotomy i L.cZ.length with Ax|heq|Dj
      ·rw[abW Ax]at hi;exact .inl ⟨hi,Ax⟩
      ·subst heq;simp at hi;exact .inr ⟨rfl,hi⟩
      ·rw[ab1 (by omega)]at hi;have:i-L.cZ.length=(i-L.cZ.length-1)+1:=by omega
       rw[this]at hi;simp at hi
     have B6:∀(φ':bN)(F':Nat->Prop),(∀b,F' b->Fo G φ S.mem b)->dX φ' w F' {L with cZ:=L.cZ++[o]} (.vv (ai++[xs]) none):=by
      intro φ' F' A0;refine⟨⟨AA,by simp;omega,by simp[I]⟩,λi j b hi A4=>?_,λb A=>?_,λ_=>⟨arr,elem,g1,g2,g3,λi Bn Bo hi BL=>?_,λy AF=>by cases AF⟩⟩
      ·rcases CK i b hi with ⟨AW,Ay⟩|⟨Ct,AW⟩<;>rcases CK j b A4 with ⟨B7,Ap⟩|⟨Cu,B7⟩
       ·exact O i j b AW B7
       ·exact (Bp b (A2 b B7).1 (A2 b B7).2 (.inr (abU AW))).elim
       ·exact (Bp b (A2 b AW).1 (A2 b AW).2 (.inr (abU B7))).elim
       ·rw[Ct,Cu]
      ·simp only[ab3,List.mem_singleton]at A;refine⟨by simp only;omega,?_⟩;rcases A with A|A
       ·exact (AH b A).2
       ·exact λhh=>Bp b (A2 b A.symm).1 (A2 b A.symm).2 (.inl hh.symm)
      ·rcases Nat.lt_or_ge i ai.length with Ax|Di
       ·rw[abW Ax]at hi;rw[abW (by omega)]at BL;exact (g4 i Bn Bo hi BL).mono (λd u _ hu=>hu.mono (λ_ _ _=>rfl) (abO _) (λb _=>A0 b)) (λ_ _=>rfl)
       ·have Cv:i=ai.length:=by have:=(abM.1 hi).1;simp at this;omega
        subst Cv;simp at hi;subst hi;rw[<-I]at BL;simp at BL;subst BL;simp only
        rw[Cp];exact Cs F' A0
     obtain⟨φ',AR,Y⟩:=H.mem.Xd (e1':=⟨key,v,.vv (ai++[xs]) none⟩) (e2':=⟨T,v3+1,.dead⟩) hm Ak AM A8 Au (L1':={L with cZ:=L.cZ++[o]}) (L2':={AT with ak:=v3+1}) rfl rfl (abO _) (by simp only;omega)
      (λ_=>rfl) (λhh=>by simp only at hh;omega) AI rfl (λb A=>by
       rcases A with A|A
       ·exact .inl (.inl A)
       ·simp only[ab3,List.mem_singleton]at A;rcases A with A|A
        ·exact .inl (.inr A)
        ·exact .inr (A2 b A.symm)) (λb A=>A.elim) (λb _ BV=>BV) (λφ' F' hle f1 f2 A0=>⟨B6 φ' F' A0,trivial⟩)
     exact⟨φ',H.yX AR Y,Y⟩
    cases Cq with
    |vec _ _ _ _ _ L' Ao Dk AK B6=>
     rw[Au]at Ao;cases Ao;obtain⟨Cw,cap,rfl,Cx,Cy⟩:=AK B1.symm;by_cases CL:0<cap
     ·obtain⟨rfl,B8⟩:=Cy CL;obtain⟨Cz,D',t1,t2,t3,t4⟩:=z3 (by omega);refine base (some AT.dw) (λb A=>by cases A;exact⟨by omega,rfl⟩) (λF' A0=>⟨Cz,D',AT.base,cap,by simp,CL,Cx,by rw[t2,z0];omega,t1,t3,λi d U=>?_⟩);obtain⟨u,hu,A4⟩:=t4 i d U;rw[z0]at A4;exact⟨by rw[z2 d (abU U),z0],u,hu.mono (λ_ _ _=>rfl) (abO _) (λb _=>A0 b),A4⟩
     ·have CM:xs=[]:=List.length_eq_zero_iff.1 (by omega);have D0:cap=0:=by omega
      subst D0;refine base none (λb A=>by cases A) (λF' A0=>⟨CM,Cw,by rw[CM];rfl⟩)
   ·exact dU.refl S
 ·exact dU.refl S
theorem T6(S:St)(k:Nat):dU S (S.shut k):=by
 unfold St.shut;split
 ·rename_i key v ai y Z;refine⟨rfl,rfl,λφ G a w H=>?_⟩;obtain⟨hm,A',L,A8,AI,AZ⟩:=H.mem.get Z;simp only at A' AI;subst A';obtain⟨φ',AR,Y,_,_⟩:=H.mem.dg (e':=⟨key,v,.vv ai none⟩) hm A8 rfl (L':=L) (abO _) (λ_=>rfl) AI
   (w':=w) (λ_ _ _=>rfl) (abO _) (λ_ A2=>.inl A2) rfl rfl rfl (λφ' AP Bd=>by
    obtain⟨⟨AA,E,I⟩,O,AH,Ae⟩:kr φ w (Fo G φ S.mem) L ai (some y):=AZ;refine⟨⟨AA,by simp at E⊢;omega,I⟩,O,AH,λJ=>?_⟩;obtain⟨arr,elem,g1,g2,g3,g4,g5⟩:=Ae J;refine⟨arr,elem,g1,g2,g3,λi xs o hi A2=>(g4 i xs o hi A2).mono (λd u _ hu=>hu.mono (λ_ _ _=>rfl) (abO _) (λb _ A=>?_)) (λ_ _=>rfl),λy AF=>by cases AF⟩;rcases A with A|⟨x,A9,Bf,A_,BF⟩
    ·exact .inl A
    ·right;rcases (Mem.mem_set H.mem.nodup).1 A9 with ⟨rfl,_⟩|⟨Bg,Bh⟩
     ·simp only[AP,aes]at A_;cases A_;exact⟨_,hm,L,A8,BF⟩
     ·simp only[AP,Bh,ad0]at A_;exact⟨x,Bg,Bf,A_,BF⟩)
  exact⟨φ',H.yX AR Y,Y⟩
 ·exact dU.refl S
theorem Lj(S:St)(Aj j k:Nat):dU S (S.tF Aj j k):=by
 unfold St.tF;split
 ·rename_i key BB cs T v cont Bb Z;split
  ·rename_i A4;split
   ·exact dU.refl S
   ·rename_i AM;refine⟨rfl,rfl,λφ G a w H=>?_⟩;obtain⟨BQ,BC,BD,BR,BE,Be⟩:=H.mem.get Bb;obtain⟨hm,A',L,A8,AI,AZ⟩:=H.mem.get Z;simp only at BC BE A' AI;subst BC;subst A';have B6:∀(φ':bN)(F':Nat->Prop),φ.le φ'->φ' T=some ⟨v+1,0,1,0,0,[]⟩->(∀b,F' b->Fo G φ S.mem b)->dX φ' w F' BD (.box (cs.set j (.vec T (v+1) 0 0))):=by
     intro φ' F' hle f2 A0;obtain⟨g0,arr,elem,g1,g2,g3,g4⟩:=Be;refine⟨by simpa using g0,arr,elem,g1,by simp[g2],g3,λi c u J hu=>?_⟩;rw[List.getElem?_set]at J;split at J
     ·rename_i Al;subst Al;split at J
      ·cases J;have:=g4 j _ u A4 hu;cases this;exact .vec T (v+1) 0 0 _ _ f2 (abO _) (λ_=>⟨_,_,rfl,by simp,λh=>by omega⟩) rfl
      ·cases J
     ·exact (g4 i c u J hu).mono hle (λ_ _ _=>rfl) (abO _) (λb _=>A0 b)
    obtain⟨φ',AR,Y⟩:=H.mem.Xd (e1':=⟨key,BB,.box (cs.set j (.vec T (v+1) 0 0))⟩) (e2':=⟨T,v+1,.vv [] none⟩) BQ hm AM BR A8 (L1':=BD) (L2':=⟨v+1,0,1,0,0,[]⟩) rfl rfl (abO _) (by simp only;omega)
     (λ_=>rfl) (λhh=>by simp only at hh;omega) BE rfl (λb A=>.inl A) (λb A=>by
      rcases A with ⟨A,_⟩|A
      ·simp at A
      ·simp at A) (λb _ A=>by
      rcases A with ⟨A,_⟩|A
      ·simp at A
      ·simp at A) (λφ' F' hle f1 f2 A0=>⟨B6 φ' F' hle f2 A0,⟨⟨rfl,by simp,rfl⟩,λi j b hi=>by simp at hi,λb A=>by simp at A,λJ=>by simp at J⟩⟩)
    exact⟨φ',H.yX AR Y,Y⟩
  ·exact dU.refl S
 ·exact dU.refl S
theorem acx(S:St)(g:Gh):dU S (g.go S):=by
 cases g with
 |trim k=>exact DI S k
 |freeze k=>exact K9 S k
 |jS Aj j k sz=>exact Qu S Aj j k sz
 |xA k AQ=>exact Qv S k AQ
 |tE k AQ=>exact Xf S k AQ
 |cls k AQ=>exact Xg S k AQ
 |shut k=>exact T6 S k
 |tF Aj j k=>exact Lj S Aj j k
theorem xM:∀(l:List Gh)(S:St),dU S (DV S l)
 |[],S=>dU.refl S
 |g::r,S=>(acx S g).trans (xM r _)
theorem sC(X:Ctx)(f:FuncId)(id:Nat)(S:St):dU S (S.leave X f id):=(P1 S _).trans (xM _ _)
def ek(X:Ctx)(f:FuncId)(n:Nat):Code->Bool
 | .region id ops draw=>jM n ops.toList&&(!draw||Cr ops.toList (X.od f id))
 | .seq a b=>ek X f n a&&ek X f n b
 | .cond _ a b=>ek X f n a&&ek X f n b
 | .block _ c=>ek X f n c
 | .loop c=>ek X f n c
 |_=>true
structure jU(X:Ctx):Prop where
 ov:X.ov=none
 names:∀(g:FuncId)(fn:Func),X.P.funcs[g]?=some fn->fn.name≠ "runtime.NumGoroutine"
 Xh:∀(g:FuncId)(fn:Func)(c:Code),X.P.funcs[g]?=some fn->fn.body=some c->ek X g fn.ntmps c=true
 mixed:X.P.follows .mixedOrders=true
 wm:∀(g:FuncId)(h:List AV->Option AV),X.wm g=some h->gE X.P g=true/\∀(Bq:List AV)(a:AV),h Bq=some a->∀(φ:bN)(F:Nat->Prop)(w:World)(vs:Array Value),eG w F X.gl->(∀b,F b->b<w.heap.size)->Bq.length=vs.size->
  (∀(i:Nat) x v,Bq[i]?=some x->vs[i]?=some v->aB φ w F x v)->Calls X.P g vs w λe w'=>∃v,e=.returned v/\Go.RowKit.Below w.heap.size w w'/\aB φ w' F a v
theorem nw.is{n:Nat}{φ:bN}{G:Fr}{m:Mem}{w:World}{e:XE}{M:St}{e':Exit}{V:Act}{w':World}(h:nw n φ G m w (Is e M) e' V w'):
 ∃φ',M.n=n/\Rel φ' G M V w'/\aS φ m w φ' M.mem w'/\(match e' with
  | .normal=>e=.normal
  | .exit id=>e=.exit id
  | .ret=>e=.ret
  | .panic chain=>∃t x v,e=.panic t x/\chain=[{v:=.iface t v,recovered:=false}]/\aO w' (Fo G φ' M.mem) x v
  |_=>False):=by
 cases e' with
 |normal=>obtain⟨φ',A3,A1,⟨E,rfl⟩,I,O⟩:=h;exact⟨φ',A1,I,O,E.symm⟩
 |exit id=>obtain⟨φ',A3,A1,⟨E,rfl⟩,I,O⟩:=h;exact⟨φ',A1,I,O,E.symm⟩
 |ret=>obtain⟨φ',A3,A1,⟨E,rfl⟩,I,O⟩:=h;exact⟨φ',A1,I,O,E.symm⟩
 |panic chain=>obtain⟨φ',A3,t,x,v,J,U,A1,⟨E,rfl⟩,I,O⟩:=h;exact⟨φ',A1,I,O,t,x,v,E.symm,J,U⟩
 |_=>exact h.elim
section
variable {X:Ctx} {Aq:br} {f:FuncId} {n:Nat}
theorem acy{P:Program}{c:Code}{S S1:St}{Q:XE->St->Prop}(t:dU S S1)(h:my P c S1 Q):my P c S Q:=λφ G a w H=>by
 obtain⟨Bc,D1,A'⟩:=t.2.2 φ G a w H;exact wp_mono (h Bc G a w D1) λe a2 BM AD=>by rw[t.1]at AD;exact AD.weaken A'
theorem I7{P:Program}{S:St}{e:XE}{c:Code}{k:St->St}(A':∀S,dU S (k S)){r:Option (XE×St)}{M:St}(h:vt k r=some (e,M))
 (H:∀A5 S1,r=some (A5,S1)->S1.n=S.n/\S1.gl=S.gl/\my P c S (Is A5 S1)):M.n=S.n/\M.gl=S.gl/\my P c S (Is e M):=by
 unfold vt at h;split at h
 ·rename_i S1;cases h;obtain⟨E,I,O⟩:=H _ _ rfl;obtain⟨t1,t2,t3⟩:=A' S1;refine⟨t1.trans E,t2.trans I,λφ G a w Br=>wp_mono (O φ G a w Br) λe' V w' AD=>?_⟩;obtain⟨φ',A1,A6,Y,he⟩:=AD.is;cases e' with
  |normal=>
   obtain⟨AL,Az,AE⟩:=t3 φ' G V w' A6;exact⟨AL,k S1,t1.trans A1,⟨rfl,rfl⟩,Az,Y.trans AE⟩
  |exit id=>cases he
  |ret=>cases he
  |panic chain=>obtain⟨t,x,v,AH,_⟩:=he;cases AH
  |_=>exact he.elim
 ·exact H _ _ h
theorem acz{P:Program}{B':Mem->Prop}{all:List Oper}{ops:List Oper}{S:St}{ps:List aX}{S1:St}(h:Cert P B' all ops S ps S1):S1.n=S.n/\S1.gl=S.gl:=by
 induction h with
 |nil S=>exact⟨rfl,rfl⟩
 |cons o rest S p ps S1 _ _ _ _ ih=>exact⟨ih.1.trans (uE ..),ih.2.trans (rm ..)⟩
theorem I8{P:Program}{B':Mem->Prop}{all:List Oper}:∀{ops:List Oper}{S:St}{ps:List aX}{S1:St},Cert P B' all ops S ps S1->ps.length=ops.length:=by
 intro ops S ps S1 h;induction h with
 |nil S=>rfl
 |cons o rest S p ps S1 _ _ _ _ ih=>simp[ih]
theorem GF:∀{es:List cB},Fl es=true->∀e∈es,100<=e.key
 |_::r,h,e,he=>by
  simp only[Fl,Ds,abQ]at h;rcases abV.1 he with rfl|he
  ·exact h.1
  ·exact GF h.2 e he
theorem GG{ps:List aX}:∀{CN:List Nat},zL ps CN=true->∀i∈CN,∀p,ps[i]?=some p->∀e∈p.es,100<=e.key
 |k::r,h,i,hi,p,AD,e,he=>by
  simp only[zL,Ds]at h;rcases abV.1 hi with rfl|hi
  ·have:=h.1;rw[AD]at this;exact GF this e he
  ·exact GG h.2 i hi p AD e he
theorem Ac{all:List Oper}{Af:List (List Nat)}(h:Cr all Af=true){i j:Nat}(Al:i<j)(A4:j<all.length)(A1:i∉(gC all []).getD j []):(Af.getD i []).contains j=true/\(Af.getD j []).contains i=true:=by
 have E:=ab2.1 h j (adF.2 A4);unfold zI at E;rw[ad2 A4]at E;simp only[Ds,ab2,ahz,adF]at E;rcases E.2 i Al with I|I
 ·exact absurd (by simpa using I) A1
 ·rw[ad2 (by omega)]at I;simp only[Ds]at I;exact I.2
theorem Qw{P:Program}{S S1:St}{id:Nat}{ops:List Oper}{Af:List (List Nat)}{ps:List aX}{j N:Nat}{t:TypeId}{x:D}(hm:P.follows .mixedOrders=true)(Ag:Cr ops Af=true)
 (J:jT (TT P ops j (Af.getD j []) t x N S1) 0 ops S ps) (D2:o8 Af ps=true) (Bs:zL ps (Af.getD j [])=true) (Bt:S1.env=[]) (Ap:j<ops.length) (D3:N=fS S.mem+fQ ps+1):
 S1.n=S.n/\S1.gl=S.gl/\∀{φ:bN}{G:Fr}{a:Act}{w:World},Rel φ G S a w->∀{Q:Exit->Act->World->Prop},
 (∀φ' V w' v,Rel φ' G S1 V w'->aS φ S.mem w φ' S1.mem w'->aO w' (Fo G φ' S1.mem) x v->Q (.panic [{v:=.iface t v,recovered:=false}]) V w')->(Code.region id ops.toArray true).wp P Q a w:=by
 have BW:=J.len;have Bu:=jT.at (ps:=ps) (S0:=S) J [] [] rfl rfl rfl rfl rfl;have AO:=TF Ag D2 BW;obtain⟨Bv,CO⟩:∃Bv,ops[j]?=some Bv:=⟨ops[j],by simp[Ap]⟩;obtain⟨Bw,CP⟩:∃Bw,ps[j]?=some Bw:=⟨ps[j]'(by omega),by simp[show j<ps.length by omega]⟩
 obtain⟨D4,AJ,A7,AS⟩:=(Bu j Bv Bw (by simp) CO CP).2.2 rfl;rw[om]at AJ;rw[mC]at A7;refine⟨AJ,A7,λ{φ G a w} H {Q} Bx=>wp_region_any hm ?_⟩;have D5:∀(i:Nat)(p:aX),ps[i]?=some p->∀e∈p.es,e.key∈p.ks:=λi p AD=>by
  have Ay:i<ps.length:=(abM.1 AD).1;exact (Bu i (ops[i]'(by omega)) p (by simp) (by simp[show i<ops.length by omega]) AD).1
 have D6:Rel φ G S a {w with drawn:=w.drawn+1}:=H.grow (λ_ _=>rfl) (abO _);have CQ:(hU ops.length λi=>(Array.replicate ops.length false).getD i false)=[]:=by
  rw[hU,ahw];intro i hi;simp[abY,adF.1 hi]
 refine TH (S0:=S) (S1:=S1) (φ0:=φ) (w0:=w) (G:=G) (j:=j) BW AO H.mem.nodup D5 ?_ CO CP D4 ?_ AJ A7 Bt (by rw[AS,D3];rfl) (λφ' V w' v A6 Y AC=>Bx φ' V w' v A6 Y AC) _ _ φ a _ (by simp) ?_ ?_ ?_ ?_ ?_
 ·intro i o p A2 AD Al By;have Ay:i<ops.length:=(abM.1 A2).1;refine (Bu i o p (by simp) A2 AD).2.1 Al ?_;rcases Nat.lt_or_ge i j with h|h
  ·exact .inl h
  ·exact .inr (Ac Ag (by omega) Ay By).1
 ·intro i p AD Al hi By e he;have Ay:i<ops.length:=by have:=(abM.1 AD).1;omega
  have B5:(Af.getD j []).contains i=true:=by
   rcases Nat.lt_or_ge i j with h|h
   ·exact (Ac Ag h Ap hi).2
   ·exact (Ac Ag (by omega) Ay By).1
  exact GG Bs i (by simpa using B5) p AD e he
 ·intro j o _ A4;exfalso;simp only[abY]at A4;by_cases h:j<ops.length
  ·simp[h]at A4
  ·simp[h]at A4
 ·simp only[abY];simp[Ap]
 ·simp only[aem];rw[CQ];exact D6
 ·simp only[aem];rw[CQ];exact aS.grow (λ_ _=>rfl) (abO _) rfl rfl rfl
 ·simp only[aem];exact ahI (List.length_filter_le _ _) (by simp)
theorem I9(Ar:jU X)(B8:jk X Aq):∀(c:Code)(S:St)(e:XE)(M:St),den X f Aq n c S=some (e,M)->S.gl=X.gl->ek X f S.n c=true->
 M.n=S.n/\M.gl=S.gl/\my X.P c S (Is e M):=by
 intro c;induction c with
 |skip=>
  intro S e M h AB U;simp only[den,abX,adL]at h;obtain⟨rfl,rfl⟩:=h;exact⟨rfl,rfl,WT ⟨rfl,rfl⟩⟩
 |region id ops draw=>
  intro S e M h AB U;simp only[den]at h;simp only[ek,Ds]at U;cases draw with
  |false=>
   refine I7 (sC X f id) h (λA5 S1 E=>?_);obtain⟨I,O,AH⟩:=zZ B8 ops.toList S A5 S1 E AB U.1;exact⟨I,O,λφ G a w H=>wp_region_lit (AH φ G a w H _ (λ_ _ _ h=>h))⟩
  |true=>
   refine I7 (sC X f id) h (λA5 S1 E=>?_);have Ag:Cr ops.toList (X.od f id)=true:=by simpa using U.2
   have key:(∃B':Mem->Prop,B' S.mem/\A5=.normal/\∃ps A3,Cert X.P B' ops.toList ops.toList S ps A3/\gD S1 A3/\o8 (X.od f id) ps=true)\/
    (S1.n=S.n/\S1.gl=S.gl/\∀φ G a w,Rel φ G S a w->∀Q:Exit->Act->World->Prop,(A5=.normal->∀φ' V w',Rel φ' G S1 V w'->aS φ S.mem w φ' S1.mem w'->Q .normal V w')->
     (∀t x,A5=.panic t x->∀φ' V w' v,Rel φ' G S1 V w'->aS φ S.mem w φ' S1.mem w'->aO w' (Fo G φ' S1.mem) x v->Q (.panic [{v:=.iface t v,recovered:=false}]) V w')->(Code.region id ops true).wp X.P Q a w)/\(A5=.normal\/∃t x,A5=.panic t x):=by
    cases CS:X.fl f id with
    |nil=>
     rw[CS]at E;simp only[tK]at E;rcases BX B8 ops.toList S [] A5 S1 E AB U.1 with ⟨he,ps,A3,J,heq,AO⟩|⟨t,x,j,ps,he,B7,D7,J,AO,Bs,Bt⟩
     ·exact .inl ⟨_,trivial,he,ps,A3,J,heq,by simpa using AO⟩
     ·right;obtain⟨I,O,AH⟩:=Qw (id:=id) Ar.mixed Ag J (by simpa using AO) (by simpa using Bs) Bt (by simpa using D7) rfl;exact⟨⟨I,O,λφ G a w H Q _ Bx=>AH H (λφ' V w' v Ae D8 D9=>Bx t x he φ' V w' v Ae D8 D9)⟩,.inr ⟨t,x,he⟩⟩
    |cons q r=>
     rw[CS]at E;simp only[tK]at E;cases BY:fY S.mem (q::r)with
     |none=>rw[BY]at E;cases E
     |some Dl=>
      rw[BY]at E;simp only[Qn]at E;rcases GD B8 ops.toList S [] A5 S1 (by simp) E AB U.1 with ⟨he,ps,A3,J,heq,AO⟩|⟨init,ol,ps,A3,CT,J,A1,AO,I,O,AH,Ae⟩
      ·exact .inl ⟨_,xK BY,he,ps,A3,J,heq,by simpa using AO⟩
      ·obtain⟨Bz,Ab⟩:=acz J;refine .inr ⟨⟨I.trans Bz,O.trans Ab,λφ G a w H Q DA DB=>?_⟩,AH⟩;have BW:ps.length+1=ops.toList.length:=by
        have:=I8 J;rw[CT];simp[this]
       refine Lf (ops:=ops.toList) CT (BS Ag A1) (xK BY) Ar.mixed J (Xc Ag BW A1 (by simpa using AO)) H (λφ' V w' A6 Y next DC=>?_);exact Ae φ' G V w' A6 next Q (λhe AL a2 BM Az AE=>DC a2 BM (DA he AL a2 BM Az (Y.trans AE))) (λt x he AL a2 BM v Az AE AC=>DB t x he AL a2 BM v Az (Y.trans AE) AC)
   rcases key with ⟨B',DD,rfl,ps,A3,J,heq,AO⟩|⟨⟨AJ,A7,DE⟩,_⟩;rotate_left
   ·exact⟨AJ,A7,λφ G a w H=>DE φ G a w H _ (λhe φ' V w' A6 Y=>⟨φ',S1,AJ,⟨he.symm,rfl⟩,A6,Y⟩) (λt x he φ' V w' v A6 Y AC=>⟨φ',S1,t,x,v,rfl,AC,AJ,⟨he.symm,rfl⟩,A6,Y⟩)⟩
   obtain⟨AJ,A7⟩:=aen J;have AO:=TF Ag AO (I8 J);refine⟨heq.n.trans AJ,heq.gl.trans A7,λφ G a w H=>?_⟩;exact Ld (ops:=ops.toList) DD Ar.mixed J AO H (λφ' V w' A6 Y=>⟨φ',S1,heq.n.trans AJ,⟨rfl,rfl⟩,A6.eqv heq.symm,by rw[heq.mem];exact Y⟩)
 |seq a b BZ C'=>
  intro S e M h AB U;simp only[ek,Ds]at U;simp only[den]at h;rcases gG h with ⟨S1,E,I⟩|⟨E,I⟩
  ·obtain⟨AJ,A7,C0⟩:=BZ S _ S1 E AB U.1;obtain⟨Bz,Ab,DF⟩:=C' S1 e M I (A7.trans AB) (by rw[AJ];exact U.2);refine⟨Bz.trans AJ,Ab.trans A7,L3 (C0.mono λA5 A3 AK=>?_)⟩;obtain⟨rfl,rfl⟩:=AK;exact DF
  ·obtain⟨AJ,A7,C0⟩:=BZ S _ M E AB U.1;refine⟨AJ,A7,L3 (C0.mono λA5 A3 AK=>?_)⟩;obtain⟨rfl,rfl⟩:=AK;cases A5 with
   |normal=>exact absurd rfl I
   |_=>exact⟨rfl,rfl⟩
 |cond c a b BZ C'=>
  intro S e M h AB U;simp only[ek,Ds]at U;simp only[den]at h;cases J:S.aq c with
  |mk g y=>
   rw[J]at h;unfold DX at h;split at h
   ·rename_i t heq;cases heq;cases t with
    |true=>
     obtain⟨E,I,O⟩:=BZ S e M (by simpa using h) AB U.1;exact⟨E,I,Io J (λ_=>O) (λAX=>by cases AX)⟩
    |false=>
     obtain⟨E,I,O⟩:=C' S e M (by simpa using h) AB U.2;exact⟨E,I,Io J (λAX=>by cases AX) (λ_=>O)⟩
   ·cases h
 |block id c ih=>
  intro S e M h AB U;simp only[den]at h;have BN:=xM (X.gh f (id+2000000)) S;have ih:∀e M,den X f Aq n c (S.enter X f id)=some (e,M)->M.n=S.n/\M.gl=S.gl/\my X.P c S (Is e M):=λe M h=>by
   obtain⟨Ah,a2,a3⟩:=ih (S.enter X f id) e M h (BN.2.1.trans AB) (by simp only[St.enter];rw[BN.1];exact U);exact⟨Ah.trans BN.1,a2.trans BN.2.1,acy BN a3⟩
  unfold DW at h;split at h
  ·rename_i C1 S1 E;obtain⟨A1,Z,AY⟩:=ih _ S1 E;split at h
   ·rename_i hid;cases h;refine⟨A1,Z,zu (AY.mono λA5 A3 AK=>?_)⟩;obtain⟨rfl,rfl⟩:=AK;simp only[hid,aes];exact⟨rfl,rfl⟩
   ·rename_i hid;cases h;refine⟨A1,Z,zu (AY.mono λA5 A3 AK=>?_)⟩;obtain⟨rfl,rfl⟩:=AK;simp only[hid,ad0];exact⟨rfl,rfl⟩
  ·rename_i AM;obtain⟨A1,Z,AY⟩:=ih _ M h;refine⟨A1,Z,zu (AY.mono λA5 A3 AK=>?_)⟩;obtain⟨rfl,rfl⟩:=AK;cases A5 with
   |exit C1=>exact absurd h (AM C1 A3)
   |_=>exact⟨rfl,rfl⟩
 |loop c ih=>
  intro S e M h AB U;simp only[den]at h;simp only[ek]at U;have B5:∀(k:Nat)(S1:St),iter (den X f Aq n c) k S1=some (e,M)->S1.gl=X.gl->ek X f S1.n c=true->M.n=S1.n/\M.gl=S1.gl:=by
   intro k;induction k with
   |zero=>intro S1 E;cases E
   |succ k DG=>
    intro S1 E A7 As;simp only[iter]at E;rcases gG E with ⟨A3,I,O⟩|⟨I,O⟩
    ·obtain⟨Ah,a2,_⟩:=ih S1 _ A3 I A7 As;obtain⟨DH,DJ⟩:=DG A3 O (a2.trans A7) (by rw[Ah];exact As);exact⟨DH.trans Ah,DJ.trans a2⟩
    ·obtain⟨Ah,a2,_⟩:=ih S1 _ M I A7 As;exact⟨Ah,a2⟩
  obtain⟨A1,Z⟩:=B5 n S h AB U;refine⟨A1,Z,?_⟩;refine WV (α:=Nat×St) (λx=>x.2) (λx=>iter (den X f Aq n c) x.1 x.2=some (e,M)/\x.2.gl=X.gl/\ek X f x.2.n c=true) (λx=>x.1) (n,S) rfl ⟨h,AB,U⟩ ?_;rintro ⟨k,S1⟩ ⟨E,A7,As⟩;simp only at E A7 As⊢;cases k with
  |zero=>cases E
  |succ k=>
   simp only[iter]at E;rcases gG E with ⟨A3,I,O⟩|⟨I,O⟩
   ·obtain⟨Ah,a2,AY⟩:=ih S1 _ A3 I A7 As;refine AY.mono λA5 CU AK=>?_;obtain⟨rfl,rfl⟩:=AK;exact⟨(k,CU),rfl,⟨O,a2.trans A7,by rw[Ah];exact As⟩,Nat.lt_succ_self k⟩
   ·obtain⟨Ah,a2,AY⟩:=ih S1 _ M I A7 As;refine AY.mono λA5 CU AK=>?_;obtain⟨rfl,rfl⟩:=AK;cases A5 with
    |normal=>exact absurd rfl O
    |_=>exact⟨rfl,rfl⟩
 |exit id=>
  intro S e M h AB U;simp only[den,abX,adL]at h;obtain⟨rfl,rfl⟩:=h;obtain⟨t1,t2,t3⟩:=xM (X.gh f (id+1000000)) S;refine⟨t1,t2,λφ G a w Br=>wp_mono ((WU (Q:=Is (.exit id) S) ⟨rfl,rfl⟩:my X.P (.exit id) S (Is (.exit id) S)) φ G a w Br) λe' V w' AD=>?_⟩;obtain⟨φ',A1,A6,Y,he⟩:=AD.is;cases e' with
  |exit C1=>
   cases he;obtain⟨AL,Az,AE⟩:=t3 φ' G V w' A6;exact⟨AL,_,t1.trans A1,⟨rfl,rfl⟩,Az,Y.trans AE⟩
  |normal=>cases he
  |ret=>cases he
  |panic chain=>obtain⟨t,x,v,AH,_⟩:=he;cases AH
  |_=>exact he.elim
 |ret=>
  intro S e M h AB U;simp only[den,abX,adL]at h;obtain⟨rfl,rfl⟩:=h;exact⟨rfl,rfl,acr ⟨rfl,rfl⟩⟩
 |rangeFunc _ _ _ _=>intro S e M h;simp[den]at h
 |scope _ _=>intro S e M h;simp[den]at h
 |label _=>intro S e M h;simp[den]at h
 |goto _=>intro S e M h;simp[den]at h
 |refuse _=>intro S e M h;simp[den]at h
theorem CD:∀(cs:List ay)(i:Nat),(dN i cs).map (·.key)=List.range' i cs.length
 |[],i=>rfl
 |c::r,i=>by simp[dN,CD r,aih]
theorem Fx:∀(cs:List ay)(i:Nat)(e:cB),e∈dN i cs->e.ak=0
 |[],i,e,he=>by simp[dN]at he
 |c::r,i,e,he=>by
  simp only[dN,abV]at he;rcases he with rfl|he
  ·rfl
  ·exact Fx r (i+1) e he
theorem bh.dv{φ:bN}{G:Fr}{m:Mem}{w:World}(h:bh φ G m w)(dv:List Deferred):bh φ ⟨G.g,dv⟩ m w:=
 ⟨h.nodup,h.pE,h.fY,h.apart,h.ku,h.bound⟩
theorem Ev.dv{P:Program}{gl f args m K}(h:∀φ G w (vs:Array Value),G.dv=[]->bh φ G m w->eG w (Fo G φ m) gl->args.length=vs.size->(∀(i:Nat) x v,args[i]?=some x->vs[i]?=some v->aB φ w (Fo G φ m) x v)->
 Calls P f vs w λe w'=>∃φ' m' out,K out m'/\bh φ' G m' w'/\aS φ m w φ' m' w'/\nI φ' w' (Fo G φ' m') out e):Ev P gl f args m K:=by
 intro φ G w vs hm Z At B9;refine (h φ ⟨G.g,[]⟩ w vs rfl (hm.dv []) Z At B9).mono ?_;rintro e w' ⟨φ',m',out,E,I,O,AH⟩;exact⟨φ',m',out,E,I.dv G.dv,O,AH⟩
theorem xN(Ar:jU X)(B8:jk X Aq){fn:Func}{c:Code}{args:List AV}{cs:List ay}{out:Out}{l:List (Nat×ay)}(AX:X.P.funcs[f]?=some fn)(A:fn.body=some c)
 (h:qH X f Aq n fn c args cs=some (out,l)):Ev X.P X.gl f args (dN 0 cs) λo m=>o=out/\m=dB 0 l:=by
 unfold qH at h;split at h
 ·rename_i J;simp only[Ds,abQ,ab2]at J;obtain⟨⟨⟨Dm,Dn⟩,DK⟩,DL⟩:=J;refine Ev.dv ?_;intro φ G w vs BO hm DM DN Aw;have BG:∀k,k∈(dN 0 cs).map (·.key)↔k<cs.length:=λk=>by rw[CD];simp
  have C2:∀k∈(X.fp f).sites,k∉(dN 0 cs).map (·.key):=by
   intro k A' DO;have E:=DK k A';have I:=(BG k).1 DO;omega
  have CV:∀k L,φ k=some L->k<cs.length/\L.ak=0:=λk L A8=>by
   have A':=hm.pE k L A8;obtain⟨e,he,rfl⟩:=ab4.1 A';obtain⟨L',Ao,AI,_⟩:=hm.fY e he;rw[A8]at Ao;cases Ao;exact⟨(BG _).1 A',by rw[AI];exact Fx cs 0 e he⟩
  have DP:=hm.add DL C2;have C3:aS φ (dN 0 cs) w (φ.add (X.fp f).sites) (dN 0 cs++(X.fp f).sites.map dead) w:=⟨Ix hm C2,λ_ _ _=>rfl,λb _ A2=>(AU C2 b).1 A2,abO _,rfl,rfl,rfl⟩;refine calls_of_wp AX A ?_;obtain⟨S0,BP⟩:∃S0,S0=entry fn.ntmps X.gl args cs (X.fp f).sites:=⟨_,rfl⟩;have H:Rel (φ.add (X.fp f).sites) G S0 {tmps:=vs++Array.replicate (fn.ntmps-vs.size) undef,defers:=[]} w:=by
   rw[BP];refine⟨by simp[entry];omega,BO.symm,λt x A9=>?_,DP,?_⟩
   ·obtain⟨j,rfl,A4⟩:=xu 0 args t _ A9;have Ap:j<vs.size:=by rw[<-DN];exact (abM.1 A4).1
    have e:(vs++Array.replicate (fn.ntmps-vs.size) undef).getD (0+j) undef=vs[j]:=by
     simp only[aeF,abY];rw[ag6 Ap];simp[Ap]
    rw[e];exact C3.av (Aw j x _ A4 (by simp[Ap]))
   ·exact C3.kz DM
  rw[<-BP]at h;cases C4:den X f Aq n c S0 with
  |none=>rw[C4]at h;cases h
  |some q=>
   obtain⟨e,M⟩:=q;rw[C4]at h;obtain⟨Do,Dp,AY⟩:=I9 Ar B8 c S0 e M C4 (by rw[BP];rfl) (by rw[BP];exact Ar.Xh f fn c AX A);refine wp_mono (AY _ G _ w H) λe' V w' AD=>?_;obtain⟨φ',_,A6,Y,he⟩:=AD.is;have CW:aS φ (dN 0 cs) w φ' M.mem w':=by
    have:S0.mem=dN 0 cs++(X.fp f).sites.map dead:=by rw[BP];rfl
    rw[this]at Y;exact C3.trans Y
   have CX:finish X.P (X.fp f) cs.length fn.results.toList M=some (out,l)->
    V.defers=[]/\∃v,(results fn V.tmps).run X.P w'=.ok v w'/\∃B_ m' CY,(CY=out/\m'=dB 0 l)/\bh B_ G m' w'/\aS φ (dN 0 cs) w B_ m' w'/\nI B_ w' (Fo G B_ m') CY (.returned v):=by
    intro BA;unfold finish at BA;split at BA
    ·rename_i DQ xs BJ;split at BA
     ·rename_i DR;obtain⟨B0,E,I,O⟩:=xp A6 fn.results.toList DQ xs BJ DR;obtain⟨AL,Ai,rfl,g1,g2,g3,g4,_⟩:=sx BA A6.mem A6.kz I O CW CV;have DS:(results fn V.tmps).run X.P w'=.ok (if h:B0.toArray.size=1 then B0.toArray[0]else .tuple B0.toArray) w':=by
       have e:results fn V.tmps=(do let vs <-fn.results.mapM (zB V.tmps);pure (if h:vs.size=1 then vs[0]else .tuple vs)):=by
        unfold results;congr 1
       rw[e,Array.mapM_eq_mapM_toList];simp only[Sem.run_bind,Sem.run_map,E,Result.andThen_ok,Sem.run_pure]
      refine⟨A6.defers.trans BO,_,DS,AL,_,_,⟨rfl,rfl⟩,g1,g2,?_⟩;show aB AL w' _ (oneOf Ai) _;by_cases C5:B0.length=1
      ·obtain⟨v,rfl⟩:∃v,B0=[v]:=by
        cases B0 with
        |nil=>simp at C5
        |cons v r=>exact⟨v,by cases r with|nil=>rfl|cons _ _=>simp at C5⟩
       obtain⟨y,rfl⟩:∃y,Ai=[y]:=by
        cases Ai with
        |nil=>simp at g3
        |cons v r=>exact⟨v,by cases r with|nil=>rfl|cons _ _=>simp at g3⟩
       simpa [oneOf]using g4 0 y v (by simp) (by simp)
      ·have e:oneOf Ai=.bY Ai:=by
        cases Ai with
        |nil=>rfl
        |cons y r=>cases r with|nil=>simp at g3;omega|cons _ _=>rfl
       rw[e,dif_neg (by simpa using C5)];exact .bY Ai B0.toArray (by simpa using g3) (λi y v h C6=>g4 i y v h (by simpa using C6))
     ·cases BA
    ·cases BA
   cases e' with
   |normal=>cases he;exact CX h
   |ret=>cases he;exact CX h
   |exit id=>cases he;cases h
   |panic chain=>
    obtain⟨t,x,v,rfl,rfl,U⟩:=he;have C6:qa (X.fp f) cs.length M [] (λ_=>.panic t x)=some (out,l):=h;obtain⟨AL,Ai,rfl,g1,g2,_,_,g5⟩:=sx (vs:=[]) C6 A6.mem A6.kz rfl (by simp) CW CV;exact⟨A6.defers.trans BO,AL,_,_,⟨rfl,rfl⟩,g1,g2,v,rfl,U.mono (λ_ _ _=>rfl) (abO _) (λb _=>g5 b)⟩
   |_=>exact he.elim
 ·cases h
theorem Ev.split{P:Program}{gl f r m K}(E:Ev P gl f (.lit (.slice none 0 0)::r) m K)(I:Ev P gl f (.nn::r) m K):Ev P gl f (.d (.list [])::r) m K:=by
 intro φ G w vs hm Z At B9;have go:∀y,(∀v,vs[0]?=some v->aB φ w (Fo G φ m) y v)->∀(i:Nat) x v,(y::r)[i]?=some x->vs[i]?=some v->aB φ w (Fo G φ m) x v:=by
  intro y AF i x v A9 AC;cases i with
  |zero=>simp at A9;subst A9;exact AF v AC
  |succ i=>exact B9 (i+1) x v (by simpa using A9) AC
 have CZ:0<vs.size:=by rw[<-At];simp
 have AA:=B9 0 (.d (.list [])) vs[0] (by simp) (by simp[CZ]);generalize DT:vs[0]=v0 at AA;have C7:vs[0]?=some v0:=by rw[<-DT];simp[CZ]
 cases AA with
 |d _ _ U=>
  cases U with
  |nil a cap A1=>
   cases a with
   |none=>
    have:=A1 rfl;subst this;exact E φ G w vs hm Z (by simpa using At) (go _ (λv AC=>by rw[C7]at AC;cases AC;exact .lit _ rfl))
   |some a=>exact I φ G w vs hm Z (by simpa using At) (go _ (λv AC=>by rw[C7]at AC;cases AC;exact .nn a cap))
  |list _ b off cap sz Dq=>exact I φ G w vs hm Z (by simpa using At) (go _ (λv AC=>by rw[C7]at AC;cases AC;exact .nn _ cap))
theorem fC{r:Option (Out×List (Nat×ay))}{sz:Nat}(h:oo r=some sz):r=some (.ret (.vec 0 0 0 0),[(0,.vec sz [])]):=by
 unfold oo at h;split at h
 ·cases h;rfl
 ·cases h
theorem Lk{h:List AV->Option AV}{args:List AV}{cs:List ay}{r:Out×List (Nat×ay)}(H:mF h args cs=some r):cs=[]/\∃d,h args=some d/\r=(.ret d,[]):=by
 unfold mF at H;split at H
 ·split at H
  ·rename_i d U;cases H;exact⟨rfl,d,U,rfl⟩
  ·cases H
 ·cases H
theorem toDs_eq:∀{args:List AV}{Ba:List D},toDs args=some Ba->args=Ba.map .d
 |[],Ba,h=>by
  simp only[toDs,abX]at h;subst h;rfl
 |y::r,Ba,h=>by
  cases H:toDs r with
  |none=>unfold toDs at h;rw[H]at h;cases y<;>cases h
  |some Ai=>
   unfold toDs at h;rw[H]at h;cases y<;>cases h;rw[toDs_eq H];rfl
theorem aeH(Ar:jU X){g:FuncId}{h:List AV->Option AV}(Z:X.wm g=some h){args:List AV}{cs:List ay}{out:Out}{l:List (Nat×ay)}(H:mF h args cs=some (out,l)):
 gE X.P g=true/\Ev X.P X.gl g args (dN 0 cs) λo m=>o=out/\m=dB 0 l:=by
 obtain⟨J,DU⟩:=Ar.wm g h Z;refine⟨J,?_⟩;obtain⟨rfl,d,U,he⟩:=Lk H;cases he;intro φ G w vs hm AB At B9;have C_:∀b,iw φ (dN 0 []) b->False:=by
  rintro b ⟨e,he,_⟩;simp[dN]at he
 refine (DU args d U φ (Fo G φ (dN 0 [])) w vs AB (λb A=>A.elim (hm.bound b) λh=>(C_ b h).elim) At B9).mono ?_;rintro e w' ⟨v,rfl,A,BO⟩;refine⟨φ,dN 0 [],.ret d,⟨rfl,rfl⟩,⟨hm.nodup,hm.pE,λe he=>by simp[dN]at he,λe he=>by simp[dN]at he,λb A=>(C_ b A).elim,λb DY=>ahA (hm.bound b DY) A.size⟩,⟨bN.le_refl _,λb Ax _=>A.block b Ax,λb _ A2=>A2,A.size,A.os,A.tape,A.output⟩,?_⟩;exact BO
end
def ajm(φ:bN)(w:World)(F:Nat->Prop)(x:DF)(d:Deferred):Prop:=
 ∃Z:Array Value,d.target=.fn (.func x.1) Z/\x.2.length=(d.args++Z).size/\∀(i:Nat) y v,x.2[i]?=some y->(d.args++Z)[i]?=some v->aB φ w F y v
def nO(φ:bN)(w:World)(F:Nat->Prop):List DF->List Deferred->Prop
 |[],[]=>True
 |x::xs,d::D=>ajm φ w F x d/\nO φ w F xs D
 |_,_=>False
theorem nO.keeps{φ m w φ' m' w'}{G:Fr}(h:aS φ m w φ' m' w'):∀{xs:List DF}{D:List Deferred},nO φ w (Fo G φ m) xs D->nO φ' w' (Fo G φ' m') xs D
 |[],[],_=>trivial
 |x::xs,d::D,⟨⟨Z,A5,A2,A3⟩,A7⟩=>⟨⟨Z,A5,A2,λi y v A8 A'=>h.av (A3 i y v A8 A')⟩,nO.keeps h A7⟩
 |[],_::_,AM=>AM.elim
 |_::_,[],AM=>AM.elim
def xO(n:Nat)(φ:bN)(g:Nat->Prop)(m:Mem)(w:World)(e:XE)(A:St)(E:List DF)(e':Exit)(J:Act)(w':World):Prop:=
 ∃φ' q,A.n=n/\Rel φ' ⟨g,q⟩ A J w'/\aS φ m w φ' A.mem w'/\nO φ' w' (Fo ⟨g,q⟩ φ' A.mem) E q/\(match e' with
  | .normal=>e=.normal
  | .exit id=>e=.exit id
  | .ret=>e=.ret
  | .panic chain=>∃t x v,e=.panic t x/\chain=[{v:=.iface t v,recovered:=false}]/\aO w' (Fo ⟨g,q⟩ φ' A.mem) x v
  |_=>False)
theorem xO.weaken{n:Nat}{φ AV:bN}{g:Nat->Prop}{m AW:Mem}{w AX:World}{e A E e' J w'}(h:xO n AV g AW AX e A E e' J w')(Ai:aS φ m w AV AW AX):xO n φ g m w e A E e' J w':=by
 obtain⟨φ',q,A5,A2,A3,A7,T⟩:=h;exact⟨φ',q,A5,A2,Ai.trans A3,A7,T⟩
theorem Jd{S:St}{o:Oper}{d:DF}(h:gV S o=some d):o.guard=none/\∃c A9 args AH g AC,o.op=.defer c/\c={callee:=.value A9,args,argTypes:=AH}/\S.aq A9=(true,.fn g AC)/\g<r8/\iB S args.toList=true/\d=(g,dp S args.toList++AC):=by
 unfold gV at h;split at h
 ·rename_i A9 args AH AN AO;unfold DY at h;split at h
  ·rename_i g AC AI;split at h
   ·rename_i AD;cases h;simp only[Ds,abQ]at AD;exact⟨AN,_,A9,args,AH,g,AC,AO,rfl,AI,AD.2,AD.1,rfl⟩
   ·cases h
  ·cases h
 ·cases h
section
variable {X:Ctx} {A0:br} {f:FuncId} {n:Nat}
theorem xP{md:Bool}{all:List Oper}(A4:jk X A0):∀(ops:List Oper)(S:St)(D:List DF)(e:XE)(A:St)(E:List DF),fI X A0 md all ops S D=some (e,A,E)->S.gl=X.gl->jM S.n ops=true->
 A.n=S.n/\A.gl=S.gl/\∀φ g dv a w,Rel φ ⟨g,dv⟩ S a w->nO φ w (Fo ⟨g,dv⟩ φ S.mem) D dv->∀Q:Exit->Act->World->Prop,(∀e' J w',xO S.n φ g S.mem w e A E e' J w'->Q e' J w')->wpList X.P all.toArray Q ops a w
 |[],S,D,e,A,E,h,N,I=>by
  simp only[fI,abX,adL]at h;obtain⟨rfl,rfl,rfl⟩:=h;exact⟨rfl,rfl,λφ g dv a w H M Q AA=>AA .normal _ _ ⟨φ,dv,rfl,H,aS.refl ..,M,rfl⟩⟩
 |o::rest,S,D,e,A,E,h,N,I=>by
  simp only[jM,aia,Ds]at I;obtain⟨AY,I⟩:=I;have AZ:∀t,o.dst=some t->t<S.n:=λt Aj=>by rw[Aj]at AY;simpa using AY
  simp only[fI]at h;cases AP:gV S o with
  |some d=>
   rw[AP]at h;simp only at h;obtain⟨AN,c,A9,args,AH,g0,AC,AO,Ak,AI,Al,AD,rfl⟩:=Jd AP;obtain⟨AE,AF,AQ⟩:=xP A4 rest (S.put o.dst true .bf) _ e A E h ((lQ ..).trans N) (by rw[mg];exact I);refine⟨AE.trans (mg ..),AF.trans (lQ ..),λφ g dv a w H M Q AA=>?_⟩;have AR:=H.aq A9 (by rw[AI]);rw[AI]at AR;generalize An:a.eval A9=Ax at AR;cases AR with
   |r9 _ _ Z A_ Aa=>exact absurd Al (Nat.not_lt.2 (amp _ _))
   |fn _ _ Z Ay A_ Aa=>
    have Ao:(execOp a.eval o).run X.P w=.ok (.defer {target:=.fn (.func g0) Z,args:=args.map a.eval}) w:=by
     simp[execOp,AO,Ak,resolve,An,Deferred.ofValue]
    have hw:Region.wanted o (yielded all.toArray a.tmps)=true:=by simp[Region.wanted,AN]
    unfold wpList;rw[abT hw];left;unfold Oper.wp;rw[Ao,Oper.upon_defer];have Ap:Rel φ ⟨g,{target:=.fn (.func g0) Z,args:=args.map a.eval}::dv⟩ S {a with defers:={target:=.fn (.func g0) Z,args:=args.map a.eval}::a.defers} w:=
     ⟨H.size,by rw[H.defers],H.env,H.mem.dv _,H.kz⟩
    have AS:=Ap.put o.dst AZ true .bf undef (λ_=>.bf _);refine AQ φ g _ _ w AS ⟨⟨Z,rfl,?_,?_⟩,?_⟩ Q (λe' a2 AJ U=>AA e' a2 AJ ?_)
    ·rw[acg,jc];simp[A_]
    ·intro i y v A8 A';rw[ff];by_cases hi:i<args.size
     ·rw[abW (by rw[jc];simpa using hi),vC]at A8;rw[ag6 (by simpa using hi)]at A';simp only[Array.getElem?_map,abS]at A';obtain⟨z,Ab,rfl⟩:=A';obtain⟨Az,Ac,rfl⟩:=abS.1 A8;rw[afk,Ab]at Ac;cases Ac;exact H.aq z (uw AD z (by simpa using Array.mem_of_getElem? Ab))
     ·rw[ab1 (by rw[jc];simpa using hi),jc]at A8;rw[Array.getElem?_append_right (by simpa using hi)]at A';simp only[Array.size_map,ace]at A8 A';exact Aa _ _ v A8 A'
    ·rw[ff];exact M
    ·rw[mg,ff]at U;exact U
  |none=>
   rw[AP]at h;simp only at h;cases AT:m5 X A0 md all S o with
   |none=>rw[AT]at h;cases h
   |some p=>
    obtain⟨O,S1⟩:=p;rw[AT]at h;obtain⟨V,A1,Aq,Ad⟩:=tP A4 N AZ AT;rcases Aq with rfl|⟨t0,B',rfl⟩
    ·simp only[Hy]at h;obtain⟨AE,AF,AQ⟩:=xP A4 rest S1 D e A E h (A1.trans N) (by rw[V];exact I);refine⟨AE.trans V,AF.trans A1,λφ g dv a w H M Q AA=>?_⟩;have:=Ad φ ⟨g,dv⟩ a w H (wpList X.P all.toArray Q rest) Q
      (λ_ φ' J w' AG A6=>AQ φ' g dv J w' AG (M.keeps A6) Q (λe' a2 AJ U=>AA e' a2 AJ (by rw[<-V];exact U.weaken A6))) (λt x he=>by cases he)
     unfold wpList;split
     ·rename_i hw;rw[abT hw]at this;exact .inl this
     ·rename_i hw;rw[abN hw]at this;exact this
    ·simp only[Hy,abX,adL]at h;obtain⟨rfl,rfl,rfl⟩:=h;refine⟨V,A1,λφ g dv a w H M Q AA=>?_⟩;have:=Ad φ ⟨g,dv⟩ a w H (wpList X.P all.toArray Q rest) Q
      (λhe=>by cases he) (λt x he φ' J w' v AG A6 A'=>AA (.panic _) J w' ⟨φ',dv,V,AG,A6,M.keeps A6,t,x,v,he,rfl,A'⟩)
     unfold wpList;split
     ·rename_i hw;rw[abT hw]at this;exact .inl this
     ·rename_i hw;rw[abN hw]at this;exact this
theorem Me(AK:jU X)(A4:jk X A0){c:Code}{S:St}{D:List DF}{e:XE}{A:St}{E:List DF}(h:xH D (den X f A0 n c S)=some (e,A,E))(N:S.gl=X.gl)(I:ek X f S.n c=true):
 A.n=S.n/\A.gl=S.gl/\∀φ g dv a w,Rel φ ⟨g,dv⟩ S a w->nO φ w (Fo ⟨g,dv⟩ φ S.mem) D dv->c.wp X.P (xO S.n φ g S.mem w e A E) a w:=by
 cases Y:den X f A0 n c S with
 |none=>rw[Y]at h;cases h
 |some p=>
  obtain⟨O,S1⟩:=p;rw[Y]at h;simp only[xH,abX,adL]at h;obtain⟨rfl,rfl,rfl⟩:=h;obtain⟨A5,A2,A3⟩:=I9 AK A4 c S O S1 Y N I;refine⟨A5,A2,λφ g dv a w H M=>wp_mono (A3 φ ⟨g,dv⟩ a w H) λe' J w' U=>?_⟩;obtain⟨φ',Ar,AG,A6,he⟩:=U.is;exact⟨φ',dv,Ar,AG,A6,M.keeps A6,by cases e'<;>exact he⟩
theorem acA(AK:jU X)(A4:jk X A0)(c:Code):∀(S:St)(D:List DF)(e:XE)(A:St)(E:List DF),iH X f A0 n c S D=some (e,A,E)->S.gl=X.gl->ek X f S.n c=true->
 A.n=S.n/\A.gl=S.gl/\∀φ g dv a w,Rel φ ⟨g,dv⟩ S a w->nO φ w (Fo ⟨g,dv⟩ φ S.mem) D dv->c.wp X.P (xO S.n φ g S.mem w e A E) a w:=by
 induction c with
 |seq a b As At=>
  intro S D e A E h N I;simp only[ek,Ds]at I;simp only[iH]at h;cases Y:iH X f A0 n a S D with
  |none=>rw[Y]at h;cases h
  |some p=>
   obtain⟨O,S1,AB⟩:=p;obtain⟨V,A1,AL⟩:=As S D O S1 AB Y N I.1;have stop:O≠.normal->e=O/\A=S1/\E=AB:=λhe=>by
    rw[Y]at h;cases O with
    |normal=>exact absurd rfl he
    |_=>simp only[IM,abX,adL]at h;exact⟨h.1.symm,h.2.1.symm,h.2.2.symm⟩
   by_cases he:O=.normal
   ·subst he;rw[Y]at h;simp only[IM]at h;obtain⟨AE,AF,Au⟩:=At S1 AB e A E h (A1.trans N) (by rw[V];exact I.2);refine⟨AE.trans V,AF.trans A1,λφ g dv ac w H M=>wp_seq (wp_mono (AL φ g dv ac w H M) λe' J w' U=>?_)⟩;obtain⟨φ',q,A5,A2,A3,A7,T⟩:=U;cases e' with
    |normal=>exact wp_mono (Au φ' g q J w' A2 A7) λB0 a2 AJ Ae=>by rw[V]at Ae;exact Ae.weaken A3
    |exit id=>cases T
    |ret=>cases T
    |panic chain=>obtain⟨t,x,v,AU,_⟩:=T;cases AU
    |_=>exact T.elim
   ·obtain⟨rfl,rfl,rfl⟩:=stop he;refine⟨V,A1,λφ g dv ac w H M=>wp_seq (wp_mono (AL φ g dv ac w H M) λe' J w' U=>?_)⟩;cases e' with
    |normal=>obtain⟨_,_,_,_,_,_,T⟩:=U;exact absurd T he
    |_=>exact U
 |region id ops draw=>
  intro S D e A E h N I;simp only[iH]at h;split at h
  ·rename_i Af;simp only[Ds,ahy]at Af;obtain⟨rfl,_⟩:=Af;simp only[ek,Ds]at I;have Av:jM S.n ops.toList=true:=I.1;cases Y:fI X A0 (X.md f id) ops.toList ops.toList S D with
   |none=>rw[Y]at h;cases h
   |some p=>
    obtain⟨O,S1,AB⟩:=p;rw[Y]at h;obtain⟨V,A1,AL⟩:=xP A4 ops.toList S D O S1 AB Y N Av;have Ag:∀φ g dv a w,Rel φ ⟨g,dv⟩ S a w->nO φ w (Fo ⟨g,dv⟩ φ S.mem) D dv->(Code.region id ops false).wp X.P (xO S.n φ g S.mem w O S1 AB) a w:=
     λφ g dv a w H M=>wp_region_lit (AL φ g dv a w H M _ (λ_ _ _ h=>h))
    by_cases he:O=.normal
    ·subst he;simp only[zS,abX,adL]at h;obtain⟨rfl,rfl,rfl⟩:=h;obtain⟨t1,t2,t3⟩:=sC X f id S1;refine⟨t1.trans V,t2.trans A1,λφ g dv a w H M=>wp_mono (Ag φ g dv a w H M) λe' J w' U=>?_⟩;obtain⟨φ',q,A5,A2,A3,A7,T⟩:=U;cases e' with
     |normal=>
      obtain⟨Aw,AS,Ah⟩:=t3 φ' ⟨g,q⟩ J w' A2;exact⟨Aw,q,t1.trans A5,AS,A3.trans Ah,A7.keeps Ah,rfl⟩
     |exit id=>cases T
     |ret=>cases T
     |panic chain=>obtain⟨t,x,v,AU,_⟩:=T;cases AU
     |_=>exact T.elim
    ·have:e=O/\A=S1/\E=AB:=by
      cases O with
      |normal=>exact absurd rfl he
      |_=>simp only[zS,abX,adL]at h;exact⟨h.1.symm,h.2.1.symm,h.2.2.symm⟩
     obtain⟨rfl,rfl,rfl⟩:=this;exact⟨V,A1,Ag⟩
  ·exact Me AK A4 h N I
 |_=>intro S D e A E h N I;exact Me AK A4 (by simpa only[iH]using h) N I
end
abbrev Ru:=FuncId->Array Value->World->(Ending->World->Prop)->Prop
def Je(C:Ru):Prop:=∀f vs w R A1,C f vs w R->(∀e w',R e w'->A1 e w')->C f vs w A1
def Jg(C:Ru)(gl:List (Nat×D))(f:FuncId)(args:List AV)(m:Mem)(K:Out->Mem->Prop):Prop:=
 ∀φ G w (vs:Array Value),bh φ G m w->eG w (Fo G φ m) gl->args.length=vs.size->(∀(i:Nat) x v,args[i]?=some x->vs[i]?=some v->aB φ w (Fo G φ m) x v)->
  C f vs w λe w'=>∃φ' m' out,K out m'/\bh φ' G m' w'/\aS φ m w φ' m' w'/\nI φ' w' (Fo G φ' m') out e
theorem Jg.frz{C:Ru}(T:Je C){gl f args}{cs:List ay}{out:Out}{A:List (Nat×ay)}(h:Jg C gl f args (dN 0 cs) λo m=>o=out/\m=dB 0 A)(A2:cs.length<=A.length):
 Jg C gl f args (dN 0 cs) λo m=>o=Fm cs.length A out/\m=dB 0 (ef (dB 0 A) (List.range cs.length) (λ_=>true) (λ_ v=>v) 0 (List.range cs.length)):=by
 intro φ G w vs hm U AD AE;refine T _ _ _ _ _ (h φ G w vs hm U AD AE) ?_;rintro e w' ⟨φ',m',V,⟨rfl,rfl⟩,M,E,H⟩;obtain⟨s1,s2,AF⟩:=AT (G1:=G) (ρ:=List.range cs.length) (bor:=λ_=>true) (nv:=λ_ v=>v) M List.nodup_range (λk N=>wC A 0 k (ang _) (by simp at N;omega)) (λb h=>.inl h) (λb h=>M.ku b h.own)
  (λk e L b U _ _ Y q=>M.ku _ ⟨e,(Mem.get_mem U).1,L,by rw[(Mem.get_mem U).2];exact Y,q⟩)
 refine⟨_,_,_,⟨rfl,rfl⟩,s1,⟨?_,E.yW,?_,E.size,E.os,E.tape,E.output⟩,?_⟩
 ·intro k L Y;have N:k<cs.length:=by
   have:=hm.pE k L Y;rw[Iy,p5]at this;simpa using this
  obtain⟨L',A',AG,AH⟩:=E.le k L Y;exact⟨L',by simp[bN.gZ,N,A'],AG,AH⟩
 ·intro b AI q;exact E.own b AI ((wg (φ:=φ') (nv:=λ_ v=>v) (bor:=λ_=>true) (λk N=>wC A 0 k (ang _) (by simp at N;omega)) b).1 q).own
 ·cases V with
  |ret x=>
   cases e with
   |returned v=>exact (s2 x v H).norm
   |_=>exact H.elim
  |panic t x=>
   cases e with
   |panicked chain=>
    obtain⟨v,Z,J⟩:=H;exact⟨v,Z,J.mono (λ_ _ _=>rfl) (abO _) (λb _=>AF b)⟩
   |_=>exact H.elim
theorem Ll{C:Ru}(T:Je C){gl:List (Nat×D)}{A3:br}(AJ:∀g args cs out l,A3 g args cs=some (out,l)->Jg C gl g args (dN 0 cs) λo m=>o=out/\m=dB 0 l)
 {m:Mem} {A4:Nat} {g:FuncId} {I:List AV} {mt:List Nat} {res:eZ} (h:dO A3 m A4 g I mt=some res) {φ:bN} {G:Fr} {w:World} (hm:bh φ G m w) (AK:eG w (Fo G φ m) gl)
 {vs:Array Value} (A2:I.length=vs.size) (AL:∀(i:Nat) x v,I[i]?=some x->vs[i]?=some v->aB φ w (Fo G φ m) x v):
 C g vs w λe w'=>∃φ',bh φ' G (bB m res.es) w'/\aS φ m w φ' (bB m res.es) w'/\nI φ' w' (Fo G φ' (bB m res.es)) res.out e:=by
 unfold dO lX lW at h;obtain⟨ρ,A5⟩:∃ρ,ρ=collect m 64 (kO mt 0 I) []:=⟨_,rfl⟩;have A6:=oZ m 64 (kO mt 0 I) [] List.nodup_nil (by simp);rw[<-A5]at h A6;generalize (tI mt 0 I).filter (λk=>!ρ.contains k)=B at h;clear A5;obtain⟨A7,A8⟩:=A6;unfold fA at h;split at h
 ·rename_i out A AM;split at h
  ·rename_i Z;cases h;have A9:Jg C gl g (gQ (mt.contains 1000) m ρ B I) (dN 0 (n7 (ef m ρ (λk=>B.contains k) gO 0 ρ))) λo m=>o=out/\m=dB 0 A:=by
    obtain⟨AZ,A_,AN,A'⟩:=zV AM;have AA:=AJ _ _ _ _ _ AN;rcases A' with ⟨rfl,rfl⟩|⟨Aa,rfl,rfl⟩
    ·exact AA
    ·have AB:(n7 (ef m ρ (λk=>B.contains k) gO 0 ρ)).length=ρ.length:=by rw[tO,qD]
     have:=AA.frz T (by rw[AB];omega);rw[AB]at this;exact this
   simp only[Ds,ahz,abQ]at Z;obtain⟨⟨Ab,AO⟩,AP⟩:=Z;rw[zT]at A9;obtain⟨v1,v2,v3⟩:=Gj (B:=B) hm A7 A8;have AQ:∀(i:Nat) x v,(gQ (mt.contains 1000) m ρ B I)[i]?=some x->vs[i]?=some v->aB (φ.gZ ρ gO) w (Fo (lD φ G m ρ B) (φ.gZ ρ gO) (dB 0 (ef m ρ (λk=>B.contains k) gO 0 ρ))) x v:=by
    intro i x v J AR;rw[xI]at J;obtain⟨y,AS,rfl⟩:=abS.1 J;exact (v2 y v (AL i y v AS AR)).BN
   have AU:eG w (Fo (lD φ G m ρ B) (φ.gZ ρ gO) (dB 0 (ef m ρ (λk=>B.contains k) gO 0 ρ))) gl:=
    AK.mono (λ_ _ _=>rfl) (abO _) (λb _=>v3 b)
   refine T _ _ _ _ _ (A9 (φ.gZ ρ gO) (lD φ G m ρ B) w _ v1 AU (by rw[rW];exact A2) AQ) ?_;rintro e w' ⟨Ac,Ad,V,⟨rfl,rfl⟩,AW,AX,H⟩;have A0:B=[]\/(zP V=true/\nM A=true):=AP.imp (by simp) id;obtain⟨φ',M,E,AC⟩:=Gk (B:=B) hm A7 A8 (fr:=List.range' (A4+1) (A.length-ρ.length)) List.nodup_range' (Cz AO) AW AX (by simp;omega) (A0.imp id λO=>xJ O.2);refine⟨φ',M,E,?_⟩;cases V with
   |ret x=>
    cases e with
    |returned v=>exact AC x v (A0.imp id λO=>O.1) H
    |_=>exact H.elim
   |panic t x=>
    cases e with
    |panicked chain=>
     obtain⟨v,rfl,J⟩:=H;have:=AC (.d x) v (A0.imp id λO=>O.1) (.d _ _ J);cases this with
     |d _ _ AY=>exact⟨v,rfl,AY⟩
    |_=>exact H.elim
  ·cases h
 ·cases h
theorem GH{P:Program}{ops:Array Oper}{Q:Exit->Act->List Frame->World->Prop}{cs:List Frame}(AB:∀a w,¬Q .outgrown a cs w):∀(l:List Nat)(a:Act)(w:World),
 wpOps P ops (λe a w=>Q e a cs w) l a w->wpOpsS P ops Q l a cs w
 |[],a,w,h=>h
 |i::rest,a,w,h=>by
  have ih:=GH (P:=P) (ops:=ops) AB rest;unfold wpOps at h;unfold wpOpsS;split at h
  ·rename_i Y;simp only[Y];exact ih a w h
  ·rename_i o Y;simp only[Y];split at h
   ·rename_i hw;rw[abT hw];rcases h with h|⟨_,a0,w0,h⟩
    ·have U:=Oper.wp_mono (K':=λH w'=>wpOpsS P ops Q rest H cs w') ih h;unfold Oper.wp at U;split
     ·rename_i w' I;rw[I]at U;exact U.elim
     ·exact U
    ·exact absurd h (AB a0 w0)
   ·rename_i hw;rw[abN hw];exact ih _ w h
def Qx(A:Frame)(D:List Frame)(v:Value)(E:FrameMode):Prop:=
 recoverD (A::D)=some (v,{A with mode:=E}::D)\/(recoverD (A::D)=none/\v=.nilIface/\E=A.mode)
theorem Fy{o:Oper}(h:uG o=true):o.guard=none/\∃A4,o.op=.call {callee:=.builtin .recover,args:=#[],argTypes:=A4}:=by
 unfold uG at h;split at h
 ·rename_i args A4 A6 Y;refine⟨A6,A4,?_⟩;rw[Y];have:args=#[]:=by
   cases args with
   |mk l=>cases l with
    |nil=>rfl
    |cons a r=>simp at h
  rw[this]
 ·cases h
abbrev Hz(A:Frame)(D:List Frame)(E:FrameMode)(n:Nat)(φ:bN)(G:Fr)(m:Mem)(w:World)(e:XE)(J:St):Exit->Act->List Frame->World->Prop:=
 λe' H A0 w'=>A0={A with mode:=E}::D/\nw n φ G m w (Is e J) e' H w'
theorem xQ{P:Program}{c:Code}{Q AC:Exit->Act->List Frame->World->Prop}{a:Act}{cs:List Frame}{w:World}(h:c.wpS P Q a cs w)(AL:∀e a cs w,Q e a cs w->AC e a cs w):c.wpS P AC a cs w:=
 λb k AM I=>let ⟨e,H,A0,w',q,r⟩:=h b k AM I;⟨e,H,A0,w',AL _ _ _ _ q,r⟩
section
variable {X:Ctx} {A7:br} {f:FuncId} {n:Nat}
theorem acB(AN:jU X)(AD:jk X A7)(A1:AV)(c:Code):∀(S:St)(e:XE)(J:St),nA X f A7 n A1 c S=some (e,J)->S.gl=X.gl->ek X f S.n c=true->
 J.n=S.n/\J.gl=S.gl/\∀φ G a w A D v E,Qx A D v E->aB φ w (Fo G φ S.mem) A1 v->Rel φ G S a w->c.wpS X.P (Hz A D E S.n φ G S.mem w e J) a (A::D) w:=by
 induction c with
 |seq a b AE Ae=>
  intro S e J h A3 Z;simp only[ek,Ds]at Z;simp only[nA]at h;rcases gG h with ⟨S1,y,U⟩|⟨y,U⟩
  ·obtain⟨N,O,T⟩:=AE S .normal S1 y A3 Z.1;obtain⟨AO,AP,AQ⟩:=I9 AN AD b S1 e J U (O.trans A3) (by rw[N];exact Z.2);refine⟨AO.trans N,AP.trans O,λφ G ac w A D v E M A' I=>wpS_seq (xQ (T φ G ac w A D v E M A' I) ?_)⟩;rintro e' H A0 w' ⟨rfl,V⟩;obtain⟨φ',AF,A8,A9,he⟩:=V.is;cases e' with
   |normal=>
    refine wpS_of_wp (wp_mono (AQ φ' G H w' A8) λAf a2 Ag AG=>⟨rfl,?_⟩);rw[N]at AG;exact AG.weaken A9
   |exit id=>cases he
   |ret=>cases he
   |panic chain=>obtain⟨t,x,v,AR,_⟩:=he;cases AR
   |_=>exact he.elim
  ·obtain⟨N,O,T⟩:=AE S e J y A3 Z.1;refine⟨N,O,λφ G ac w A D v E M A' I=>wpS_seq (xQ (T φ G ac w A D v E M A' I) ?_)⟩;rintro e' H A0 w' ⟨rfl,V⟩;cases e' with
   |normal=>obtain⟨φ',_,_,_,he⟩:=V.is;exact absurd he U
   |_=>exact⟨rfl,V⟩
 |region id ops draw=>
  intro S e J h A3 Z;simp only[nA]at h;split at h
  ·rename_i o r AH;split at h
   ·rename_i AS;obtain⟨A6,A4,Y⟩:=Fy AS;simp only[ek,Ds]at Z;have AA:jM S.n ops.toList=true:=Z.1;rw[AH]at AA;simp only[jM,aia,Ds]at AA;obtain⟨AI,AT⟩:=AA;have AU:∀t,o.dst=some t->t<S.n:=λt AW=>by rw[AW]at AI;simpa using AI
    have A5:(o::r).toArray=ops:=by rw[<-AH]
    have key:∀A2 S1,fB X A7 (X.md f id) (o::r) r (S.put o.dst true A1)=some (A2,S1)->S1.n=S.n/\S1.gl=S.gl/\∀φ G a w A D v E,Qx A D v E->aB φ w (Fo G φ S.mem) A1 v->Rel φ G S a w->
     (Code.region id ops false).wpS X.P (Hz A D E S.n φ G S.mem w A2 S1) a (A::D) w:=by
     intro A2 S1 y;obtain⟨N,O,T⟩:=zZ AD r (S.put o.dst true A1) A2 S1 y ((lQ ..).trans A3) (by rw[mg];exact AT);rw[mg]at N T;rw[lQ]at O;rw[ff]at T;refine⟨N,O,λφ G a w A D v E M A' I=>wpS_region ?_⟩;have AX:List.range ops.size=0::List.range' 1 r.length:=by
      rw[<-A5];simp[List.range_eq_range',aih]
     have AY:ops[0]?=some o:=by rw[<-A5];simp
     have AZ:(execOp a.eval o).run X.P w=.ok .recover w:=by
      simp[execOp,Y,resolve,Deferred.ofValue,invoke,builtin]
     have A_:=I.put o.dst AU true A1 v (λ_=>A');have AJ:=T φ G _ w A_ (λe a w'=>Hz A D E S.n φ G S.mem w A2 S1 e a ({A with mode:=E}::D) w') (λe' H w' V=>⟨rfl,V⟩);rw[A5,<-wpOps_eq_wpList r 1 (λj=>by rw[<-A5];simp[Nat.add_comm])]at AJ;have AK:=GH (Q:=Hz A D E S.n φ G S.mem w A2 S1) (cs:={A with mode:=E}::D) (λ_ _ hh=>hh.2) _ _ _ AJ;rw[AX];unfold wpOpsS;simp only[AY];rw[abT (by simp[Region.wanted,A6])];simp only[AZ];rcases M with M|⟨M,rfl,rfl⟩
     ·rw[M];exact AK
     ·rw[M];exact AK
    unfold vt at h;split at h
    ·rename_i S1 y;cases h;obtain⟨N,O,T⟩:=key _ _ y;obtain⟨t1,t2,t3⟩:=sC X f id S1;refine⟨t1.trans N,t2.trans O,λφ G a w A D v E M A' I=>xQ (T φ G a w A D v E M A' I) ?_⟩;rintro e' H A0 w' ⟨rfl,V⟩;refine⟨rfl,?_⟩;obtain⟨φ',AF,A8,A9,he⟩:=V.is;cases e' with
     |normal=>
      obtain⟨Aa,Ab,Ac⟩:=t3 φ' G H w' A8;exact⟨Aa,_,t1.trans AF,⟨rfl,rfl⟩,Ab,A9.trans Ac⟩
     |exit id=>cases he
     |ret=>cases he
     |panic chain=>obtain⟨t,x,v,Ad,_⟩:=he;cases Ad
     |_=>exact he.elim
    ·exact key _ _ h
   ·cases h
  ·cases h
 |_=>intro S e J h;simp[nA]at h
end
section
variable {X:Ctx} {A5:br} {f:FuncId} {n:Nat}
theorem Jh{fn:Func}{args:List AV}{cs:List ay}(AK:args.length<=fn.ntmps)(AL:cs.length<=100)(A6:∀k∈(X.fp f).sites,100<=k)(A7:(X.fp f).sites.Nodup)
 {φ:bN} {G:Fr} {w:World} {vs:Array Value} (A8:G.dv=[]) (hm:bh φ G (dN 0 cs) w) (A9:eG w (Fo G φ (dN 0 cs)) X.gl) (AA:args.length=vs.size)
 (AB:∀(i:Nat) x v,args[i]?=some x->vs[i]?=some v->aB φ w (Fo G φ (dN 0 cs)) x v):
 Rel (φ.add (X.fp f).sites) G (entry fn.ntmps X.gl args cs (X.fp f).sites) {tmps:=vs++Array.replicate (fn.ntmps-vs.size) undef,defers:=[]} w/\
  aS φ (dN 0 cs) w (φ.add (X.fp f).sites) (entry fn.ntmps X.gl args cs (X.fp f).sites).mem w/\(∀k L,φ k=some L->k<cs.length/\L.ak=0):=by
 have AM:∀k,k∈(dN 0 cs).map (·.key)↔k<cs.length:=λk=>by rw[CD];simp
 have AC:∀k∈(X.fp f).sites,k∉(dN 0 cs).map (·.key):=by
  intro k Z Aa;have q:=A6 k Z;have A':=(AM k).1 Aa;omega
 have T:∀k L,φ k=some L->k<cs.length/\L.ak=0:=λk L AN=>by
  have Z:=hm.pE k L AN;obtain⟨e,he,rfl⟩:=ab4.1 Z;obtain⟨L',AO,Ab,_⟩:=hm.fY e he;rw[AN]at AO;cases AO;exact⟨(AM _).1 Z,by rw[Ab];exact Fx cs 0 e he⟩
 have AD:=hm.add A7 AC;have AE:aS φ (dN 0 cs) w (φ.add (X.fp f).sites) (dN 0 cs++(X.fp f).sites.map dead) w:=⟨Ix hm AC,λ_ _ _=>rfl,λb _ Ac=>(AU AC b).1 Ac,abO _,rfl,rfl,rfl⟩;refine⟨⟨by simp[entry];omega,A8.symm,λt x U=>?_,AD,AE.kz A9⟩,AE,T⟩;obtain⟨j,rfl,AP⟩:=xu 0 args t _ U;have AF:j<vs.size:=by rw[<-AA];exact (abM.1 AP).1
 have e:(vs++Array.replicate (fn.ntmps-vs.size) undef).getD (0+j) undef=vs[j]:=by
  simp only[aeF,abY];rw[ag6 AF];simp[AF]
 rw[e];exact AE.av (AB j x _ AP (by simp[AF]))
theorem GI{fn:Func}{cs:List ay}{out:Out}{l:List (Nat×ay)}{φ φ':bN}{G:Fr}{N:St}{E:Act}{w w':World}(O:Rel φ' G N E w')(AG:aS φ (dN 0 cs) w φ' N.mem w')
 (T:∀k L,φ k=some L->k<cs.length/\L.ak=0) (H:finish X.P (X.fp f) cs.length fn.results.toList N=some (out,l)):
 ∃v,(results fn E.tmps).run X.P w'=.ok v w'/\∃A m' V,(V=out/\m'=dB 0 l)/\bh A G m' w'/\aS φ (dN 0 cs) w A m' w'/\nI A w' (Fo G A m') V (.returned v):=by
 unfold finish at H;split at H
 ·rename_i Ad xs Ae;split at H
  ·rename_i Af;obtain⟨J,q,A',AH⟩:=xp O fn.results.toList Ad xs Ae Af;obtain⟨A0,M,rfl,g1,g2,g3,g4,_⟩:=sx H O.mem O.kz A' AH AG T;have Ag:(results fn E.tmps).run X.P w'=.ok (if h:J.toArray.size=1 then J.toArray[0]else .tuple J.toArray) w':=by
    have e:results fn E.tmps=(do let vs <-fn.results.mapM (zB E.tmps);pure (if h:vs.size=1 then vs[0]else .tuple vs)):=by
     unfold results;congr 1
    rw[e,Array.mapM_eq_mapM_toList];simp only[Sem.run_bind,Sem.run_map,q,Result.andThen_ok,Sem.run_pure]
   refine⟨_,Ag,A0,_,_,⟨rfl,rfl⟩,g1,g2,?_⟩;show aB A0 w' _ (oneOf M) _;by_cases AI:J.length=1
   ·obtain⟨v,rfl⟩:∃v,J=[v]:=by
     cases J with
     |nil=>simp at AI
     |cons v r=>exact⟨v,by cases r with|nil=>rfl|cons _ _=>simp at AI⟩
    obtain⟨y,rfl⟩:∃y,M=[y]:=by
     cases M with
     |nil=>simp at g3
     |cons v r=>exact⟨v,by cases r with|nil=>rfl|cons _ _=>simp at g3⟩
    simpa [oneOf]using g4 0 y v (by simp) (by simp)
   ·have e:oneOf M=.bY M:=by
     cases M with
     |nil=>rfl
     |cons y r=>cases r with|nil=>simp at g3;omega|cons _ _=>rfl
    rw[e,dif_neg (by simpa using AI)];exact .bY M J.toArray (by simpa using g3) (λi y v h Ah=>g4 i y v h (by simpa using Ah))
  ·cases H
 ·cases H
def Ua(u:FrameMode)(v:Value):Prop:=(v=.nilIface/\u=.returning)\/∃t x,v=.iface t x/\u=.panicking [{v:=.iface t x,recovered:=false}]
def RuR(P:Program):Ru:=λf vs w R=>∀u v,vs.back?=some v->Ua u v->CallsD P f vs.pop u w λe D w'=>settle D=.returning/\R e w'
theorem Xj(P:Program):Je (RuR P):=λf vs w R B' h Ai u v I hm=>(h u v I hm).mono λe D w' hh=>⟨hh.1,Ai e w' hh.2⟩
theorem Ub(AQ:jU X)(Aj:jk X A5){fn:Func}{c:Code}{args:List AV}{cs:List ay}{out:Out}{l:List (Nat×ay)}(AR:X.P.funcs[f]?=some fn)(AS:fn.body=some c)
 (h:wq X f A5 n fn c args cs=some (out,l)):Jg (RuR X.P) X.gl f args (dN 0 cs) λo m=>o=out/\m=dB 0 l:=by
 unfold wq at h;split at h
 ·rename_i A1 AT;split at h
  ·rename_i AW;simp only[Ds,abQ,ab2]at AW;obtain⟨⟨⟨AK,AL⟩,A6⟩,A7⟩:=AW;intro φ A2 w vs AD A9 AA AB u v I Ak;obtain⟨G,Y⟩:∃G:Fr,G=⟨A2.g,[]⟩:=⟨_,rfl⟩;have A8:G.dv=[]:=by rw[Y]
   have hm:bh φ G (dN 0 cs) w:=by rw[Y];exact AD.dv []
   have Al:eG w (Fo G φ (dN 0 cs)) X.gl:=by rw[Y];exact A9
   have AX:∀(i:Nat) x v,args[i]?=some x->vs[i]?=some v->aB φ w (Fo G φ (dN 0 cs)) x v:=by rw[Y];exact AB
   have An:args≠[]:=by rintro rfl;cases AT
   have B0:0<args.length:=List.length_pos_iff.2 An;have Ao:args.dropLast.length=vs.pop.size:=by simp;omega
   obtain⟨Ap,AY,T⟩:=Jh (fn:=fn) AK AL A6 A7 A8 hm Al Ao (λi x v U I=>by
    have hi:i<args.length-1:=by have:=(abM.1 U).1;simpa using this
    refine AX i x v ?_ ?_
    ·rw[List.dropLast_eq_take,List.getElem?_take_of_lt (by omega)]at U;exact U
    ·rw[Array.getElem?_pop]at I;rw[abT (by omega)]at I;exact I)
   have Aq:aB (φ.add (X.fp f).sites) w (Fo G (φ.add (X.fp f).sites) (entry fn.ntmps X.gl args.dropLast cs (X.fp f).sites).mem) A1 v:=by
    refine AY.av (AX (args.length-1) A1 v ?_ ?_)
    ·rw[<-List.getLast?_eq_getElem?];exact AT
    ·rw[Array.back?]at I;rw[AA];exact I
   cases AJ:nA X f A5 n A1 c (entry fn.ntmps X.gl args.dropLast cs (X.fp f).sites)with
   |none=>rw[AJ]at h;cases h
   |some p=>
    obtain⟨e,N⟩:=p;rw[AJ]at h;obtain⟨B1,B2,Ar⟩:=acB AQ Aj A1 c _ e N AJ rfl (AQ.Xh f fn c AR AS);refine callsD_of_wpS AR AS λA3 A4 hu=>?_;obtain⟨D,As,At⟩:∃D,Qx A3 A4 v D/\settle D=.returning:=by
     rcases Ak with ⟨rfl,rfl⟩|⟨t,x,rfl,rfl⟩
     ·exact⟨.returning,.inr ⟨by simp[recoverD,hu],rfl,hu.symm⟩,rfl⟩
     ·exact⟨.panicking [{v:=.iface t x,recovered:=true}],.inl (by simp[recoverD,hu]),by simp[settle]⟩
    refine xQ (Ar _ G _ w A3 A4 v D As Aq Ap) ?_;rintro e' E B3 w' ⟨rfl,Au⟩;obtain⟨φ',_,O,Av,he⟩:=Au.is;have AG:=AY.trans Av;have AZ:finish X.P (X.fp f) cs.length fn.results.toList N=some (out,l)->E.defers=[]/\∃A_,({A3 with mode:=D}::A4)={A3 with mode:=A_}::A4/\∃v,(results fn E.tmps).run X.P w'=.ok v w'/\(settle A_=.returning/\
     ∃A m' V,(V=out/\m'=dB 0 l)/\bh A A2 m' w'/\aS φ (dN 0 cs) w A m' w'/\nI A w' (Fo A2 A m') V (.returned v)):=by
     intro H;obtain⟨v,q,A0,Aw,Ax,A',AH,Ay,Az⟩:=GI O AG T H;subst Y;exact⟨O.defers,D,rfl,v,q,At,A0,Aw,Ax,A',AH.dv A2.dv,Ay,Az⟩
    cases e' with
    |normal=>cases he;exact AZ h
    |ret=>cases he;exact AZ h
    |exit id=>cases he;cases h
    |panic chain=>obtain⟨t,x,v,rfl,_⟩:=he;cases h
    |_=>exact he.elim
  ·cases h
 ·cases h
end
def ZN(X:Ctx)(Y:br):Prop:=∀g args cs out l,Y g args cs=some (out,l)->gE X.P g=true/\Jg (RuR X.P) X.gl g args (dN 0 cs) λo m=>o=out/\m=dB 0 l
theorem Ho{M:br}{m:Mem}{AN:Nat}{g:FuncId}{AD:List AV}{mt:List Nat}{res:eZ}(h:dO M m AN g AD mt=some res):∃args cs out l,M g args cs=some (out,l):=by
 unfold dO lX lW fA at h;split at h
 ·rename_i out B1 N;obtain⟨B2,B3,AE,_⟩:=zV N;exact⟨_,_,_,_,AE⟩
 ·cases h
section
variable {X:Ctx} {M Y:br} {f:FuncId} {n:Nat}
theorem Uc(A:jU X)(A8:jk X M)(AF:ZN X Y){fn:Func}{c:Code}{args:List AV}{cs:List ay}{out:Out}{l:List (Nat×ay)}(D:X.P.funcs[f]?=some fn)(E:fn.body=some c)
 (h:wu X f M Y n fn c args cs=some (out,l)):Ev X.P X.gl f args (dN 0 cs) λo m=>o=out/\m=dB 0 l:=by
 unfold wu at h;split at h
 ·rename_i AG;simp only[Ds,abQ,ab2]at AG;obtain⟨⟨⟨AO,AP⟩,AQ⟩,AR⟩:=AG;refine Ev.dv ?_;intro φ G w vs A9 hm AS AT AU;obtain⟨A0,Z,AH⟩:=Jh (fn:=fn) AO AP AQ AR A9 hm AS AT AU;obtain⟨g,B4⟩:=G;simp only at A9;subst A9;cases AA:iH X f M n c (entry fn.ntmps X.gl args cs (X.fp f).sites) []with
  |none=>rw[AA]at h;cases h
  |some p=>
   obtain⟨e,q,AI⟩:=p;rw[AA]at h;obtain⟨B5,AW,AX⟩:=acA A A8 c _ _ e q AI AA rfl (A.Xh f fn c D E);refine calls_of_wp_defers D E (wp_mono (AX _ g [] _ w A0 trivial) λe' H w' AY=>?_);obtain⟨φ',AJ,_,J,AZ,A1,he⟩:=AY;have A2:=Z.trans AZ;have A_:q.gl=X.gl:=AW;have back:∀{T:bN}{A3:St}{I:World},Rel T ⟨g,AJ⟩ A3 H I->aS φ (dN 0 cs) w T A3.mem I->finish X.P (X.fp f) cs.length fn.results.toList A3=some (out,l)->
    ∃v,(results fn H.tmps).run X.P I=.ok v I/\∃A4 m' y,(y=out/\m'=dB 0 l)/\bh A4 ⟨g,[]⟩ m' I/\aS φ (dN 0 cs) w A4 m' I/\nI A4 I (Fo ⟨g,[]⟩ A4 m') y (.returned v):=by
    intro T A3 I Aa A5 Ab;obtain⟨v,Ac,Ad,Ae,Af,Ag,Ah,Ai,Aj⟩:=GI Aa A5 AH Ab;exact⟨v,Ac,Ad,Ae,Af,Ag,Ah.dv [],Ai,Aj⟩
   match AI,AJ,A1 with
   |[],[],_=>
    have O:H.defers=[]:=J.defers;simp only[vu]at h;cases e' with
    |normal=>cases he;show Leaves _ _ _ _ H.defers _ _;rw[O];exact back J A2 h
    |ret=>cases he;show Leaves _ _ _ _ H.defers _ _;rw[O];exact back J A2 h
    |exit id=>cases he;cases h
    |panic chain=>
     obtain⟨t,x,v,rfl,rfl,AB⟩:=he;have Ak:qa (X.fp f) cs.length q [] (λ_=>.panic t x)=some (out,l):=h;obtain⟨T,AD,rfl,g1,g2,_,_,g5⟩:=sx (vs:=[]) Ak J.mem J.kz rfl (by simp) A2 AH;show Leaves _ _ _ _ H.defers _ _;rw[O];exact⟨T,_,_,⟨rfl,rfl⟩,g1,g2,v,rfl,AB.mono (λ_ _ _=>rfl) (abO _) (λb _=>g5 b)⟩
    |_=>exact he.elim
   |[d],[U],⟨Al,_⟩=>
    have O:H.defers=[U]:=J.defers;simp only[vu]at h;have one:∀u A6 A',u≠FrameMode.run->Ua u A'->aB φ' w' (Fo ⟨g,[U]⟩ φ' q.mem) A6 A'->Cw e=some A6->
     Leaves X.P fn H.tmps (λe w'=>∃φ' m' y,(y=out/\m'=dB 0 l)/\bh φ' ⟨g,[]⟩ m' w'/\aS φ (dN 0 cs) w φ' m' w'/\nI φ' w' (Fo ⟨g,[]⟩ φ' m') y e) [U] u w':=by
     intro u A6 A' hu An Ao Ap;rw[Ap]at h;simp only[sA]at h;cases N:dO Y q.mem 0 d.1 (d.2++[A6]) (X.fp d.1).vm with
     |none=>rw[N]at h;cases h
     |some res=>
      rw[N]at h;obtain⟨AC,AK,AL,Aq⟩:=Al;obtain⟨_,_,_,_,Ar⟩:=Ho N;have As:=(AF _ _ _ _ _ Ar).1;have At:=Ll (Xj X.P) (gl:=X.gl) (λg args cs out l hh=>(AF g args cs out l hh).2) N (φ:=φ') (G:=⟨g,[U]⟩) (w:=w') (vs:=(U.args++AC).push A') J.mem (by rw[<-A_];exact J.kz)
       (by simp[AL];omega) (λi x v V A7=>by
        by_cases hi:i<d.2.length
        ·rw[abW hi]at V;rw[Array.getElem?_push,abN (by omega)]at A7;exact Aq i x v V A7
        ·have:i=d.2.length:=by
          have:=(abM.1 V).1;simp at this;omega
         subst this;rw[ab1 (abO _)]at V;simp at V;subst V;rw[Array.getElem?_push,abT AL]at A7;cases A7;exact Ao)
      have AM:=At u A' (by simp) An;rw[Array.pop_push]at AM;refine⟨hu,.func d.1,AC,d.1,U.args++AC,AK,by rw[AK];simp[invoke,tN As],AM.mono ?_⟩;rintro Z Au I ⟨Av,T,Aw,A5,Ax⟩;unfold tM at h;split at h
      ·rename_i x es ks heq;cases heq;cases Z with
       |returned v2=>
        show Leaves _ _ _ _ [] (settle Au) I;rw[Av];exact back (J.yX Aw A5) (A2.trans A5) h
       |_=>exact Ax.elim
      ·cases h
    cases e' with
    |normal=>cases he;show Leaves _ _ _ _ H.defers _ _;rw[O];exact one .returning _ .nilIface (by simp) (.inl ⟨rfl,rfl⟩) (.lit _ rfl) rfl
    |ret=>cases he;show Leaves _ _ _ _ H.defers _ _;rw[O];exact one .returning _ .nilIface (by simp) (.inl ⟨rfl,rfl⟩) (.lit _ rfl) rfl
    |exit id=>cases he;cases h
    |panic chain=>
     obtain⟨t,x,v,rfl,rfl,AB⟩:=he;show Leaves _ _ _ _ H.defers _ _;rw[O];exact one (.panicking [{v:=.iface t v,recovered:=false}]) _ (.iface t v) (by simp) (.inr ⟨t,v,rfl,rfl⟩) (.gw _ _ _ AB) rfl
    |_=>exact he.elim
   |_::_::_,_,_=>cases h
 ·cases h
theorem Xk(A:jU X)(A8:jk X M):ZN X (m6 X n M):=by
 intro g args cs out l h;unfold m6 at h;split at h
 ·rename_i fn D;split at h
  ·rename_i c E;refine⟨?_,Ub A A8 D E h⟩;unfold gE;rw[D];simp[E,A.names g fn D]
  ·cases h
 ·cases h
theorem Ji(A:jU X):∀n,jk X (aK X n)
 |0=>λg args cs out l h=>by cases h
 |n+1=>λg args cs out l h=>by
  have ih:=Ji A n;simp only[aK,A.ov]at h;split at h
  ·rename_i AE Ay;exact aeH A Ay h
  split at h
  ·rename_i fn D;split at h
   ·rename_i c E;have N:gE X.P g=true:=by
     unfold gE;rw[D];simp[E,A.names g fn D]
    refine⟨N,?_⟩;cases A1:vy c with
    |true=>
     rw[A1]at h;exact Uc A ih (Xk A ih) D E h
    |false=>
    rw[A1]at h;simp only[wA]at h;unfold gF at h;split at h
    ·split at h
     ·rename_i r;unfold j6 at h;split at h
      ·rename_i a b Az B';split at h
       ·rename_i B0;subst B0;have A0:=fC Az;have Z:=fC B';rw[A0]at h;cases h;exact Ev.split (xN A ih D E A0) (xN A ih D E Z)
       ·cases h
      ·cases h
     ·exact xN A ih D E h
    ·exact xN A ih D E h
   ·cases h
  ·cases h
end
def aM{α:Type}(f:Nat->Option α):Prop:=∀n r,f n=some r->f (n+1)=some r
theorem aM.le{α:Type}{f:Nat->Option α}(h:aM f){n m:Nat}(AZ:n<=m){r:α}(V:f n=some r):f m=some r:=by
 induction AZ with
 |refl=>exact V
 |step _ ih=>exact h _ _ ih
theorem aM.const{α:Type}(x:Option α):aM λ_=>x:=λ_ _ h=>h
theorem aM.bind{α β:Type}{f:Nat->Option α}{g:α->Nat->Option β}(T:aM f)(Y:∀x,aM (g x)):aM λn=>(f n).bind λx=>g x n:=by
 intro n r h;obtain⟨x,AF,V⟩:=aml.1 h;simp only[T n x AF,aeE];exact Y x n r V
open Classical in
noncomputable def gu{α:Type}(f:Nat->Option α):Option α:=if h:∃n,(f n).isSome=true then f (Classical.choose h)else none
theorem dF{α:Type}{f:Nat->Option α}(T:aM f){r:α}:gu f=some r↔∃n,f n=some r:=by
 unfold gu;constructor
 ·intro h;split at h
  ·exact⟨_,h⟩
  ·cases h
 ·rintro ⟨n,U⟩;have hex:∃n,(f n).isSome=true:=⟨n,by rw[U];rfl⟩;rw[dif_pos hex];have AK:=Classical.choose_spec hex;obtain⟨Ar,AL⟩:=ami.1 AK;rw[AL];rcases Nat.le_total n (Classical.choose hex)with I|I
  ·rw[<-AL];exact T.le I U
  ·have:=T.le I AL;rw[this]at U;exact U
theorem aR{α:Type}(x:Option α):gu (λ_=>x)=x:=by
 cases x with
 |some r=>exact (dF (aM.const _)).2 ⟨0,rfl⟩
 |none=>unfold gu;rw[dif_neg];rintro ⟨_,h⟩;cases h
theorem dV{α β:Type}{f:Nat->Option α}{g:α->Nat->Option β}(T:aM f)(Y:∀x,aM (g x)):gu (λn=>(f n).bind λx=>g x n)=(gu f).bind λx=>gu (g x):=by
 apply Option.ext;intro r;rw[dF (T.bind Y),aml];constructor
 ·rintro ⟨n,U⟩;obtain⟨x,AF,V⟩:=aml.1 U;exact⟨x,(dF T).2 ⟨n,AF⟩,(dF (Y x)).2 ⟨n,V⟩⟩
 ·rintro ⟨x,AF,V⟩;obtain⟨n,U⟩:=(dF T).1 AF;obtain⟨m,hm⟩:=(dF (Y x)).1 V;exact⟨max n m,by rw[T.le (Nat.le_max_left n m) U];exact (Y x).le (Nat.le_max_right n m) hm⟩
theorem uO{α:Type}{f:Nat->Option α}(T:aM f):gu (λn=>f (n+1))=gu f:=by
 have A_:aM λn=>f (n+1):=λn r h=>T (n+1) r h;apply Option.ext;intro r;rw[dF A_,dF T];exact⟨λ⟨n,h⟩=>⟨n+1,h⟩,λ⟨n,h⟩=>⟨n,T n r h⟩⟩
def aT(k:St->Option (XE×St)):XE×St->Option (XE×St)
 |(.normal,S)=>k S
 |r=>some r
theorem xR(r:Option (XE×St))(k:St->Option (XE×St)):andThen r k=r.bind (aT k):=by
 rcases r with _|⟨e,S⟩
 ·rfl
 ·cases e<;>rfl
def mT(k:St->St):XE×St->Option (XE×St)
 |(.normal,S)=>some (.normal,k S)
 |r=>some r
theorem qn(k:St->St)(r:Option (XE×St)):vt k r=r.bind (mT k):=by
 rcases r with _|⟨e,S⟩
 ·rfl
 ·cases e<;>rfl
def bT(id:Nat):XE×St->Option (XE×St)
 |(.exit AU,S)=>if AU=id then some (.normal,S)else some (.exit AU,S)
 |r=>some r
theorem Jj(id:Nat)(r:Option (XE×St)):DW id r=r.bind (bT id):=by
 rcases r with _|⟨e,S⟩
 ·rfl
 ·cases e<;>rfl
def cT(m:Mem)(A0:Nat)(ρ B:List Nat)(O:Nat)(b:Bool)(p:Out×List (Nat×ay)):Option eZ:=fA m A0 ρ B (qg O b (some p))
theorem vE(m:Mem)(A0:Nat)(ρ B:List Nat)(O:Nat)(b:Bool)(r:Option (Out×List (Nat×ay))):fA m A0 ρ B (qg O b r)=r.bind (cT m A0 ρ B O b):=by cases r<;>rfl
theorem Fz(S:St)(d:Option Nat)(r:Option eZ):tJ S d r=r.bind λc=>tJ S d (some c):=by cases r<;>rfl
theorem Jk(b:Bool)(m:Mem)(r:Option eZ):xD b m r=r.bind λc=>xD b m (some c):=by cases r<;>cases b<;>rfl
theorem CF(S:St)(o:Oper)(r:Option eZ):xE S o r=r.bind λc=>xE S o (some c):=by cases r<;>rfl
theorem mI(D:List aX)(r:Option (St×aX))(k:St->List aX->Option (XE×St)):xF D r k=r.bind λp=>k p.1 (p.2::D):=by cases r<;>rfl
theorem Jl(P:Program)(p:ax)(O:Nat)(rs:List ResultVar)(r:Option (XE×St)):fin P p O rs r=r.bind λq=>fin P p O rs (some q):=by cases r<;>rfl
def eA(C:Nat->br):Prop:=∀g a c,aM λk=>C k g a c
section
variable {X:Ctx} {C:Nat->br} {S:St} {o:Oper} {md:Bool}
theorem nP(A:eA C)(m:Mem)(A0:Nat)(g:FuncId)(AI:List AV)(mt:List Nat):aM (λk=>dO (C k) m A0 g AI mt):=by
 unfold dO lX lW;simp only[vE];exact (A _ _ _).bind λ_=>aM.const _
theorem kQ(A:eA C)(args:List Operand)(J:Bool×AV):aM (λk=>cF X (C k) S o args J):=by
 unfold cF;split
 ·split
  ·simp only[Jk _ _ (dO _ _ _ _ _ _)];exact (nP A _ _ _ _ _).bind λ_=>aM.const _
  ·exact aM.const _
 ·exact aM.const _
theorem Lm(A:eA C):aM (λk=>rr X (C k) S o):=by
 unfold rr;split
 ·rename_i J args A9 A6;have I:(λk=>tJ S o.dst (cF X (C k) S o args.toList (S.aq J)))=λk=>(cF X (C k) S o args.toList (S.aq J)).bind λc=>tJ S o.dst (some c):=by
   funext k;exact Fz ..
  rw[I];exact (kQ A args.toList (S.aq J)).bind (λ_=>aM.const _)
 ·exact aM.const _
 ·exact aM.const _
theorem vF(A:eA C)(r:du):aM (λk=>gR X (C k) S o r):=by
 cases r with
 |no=>exact Lm A
 |val c x=>exact aM.const _
 |dg c x e=>exact aM.const _
theorem Jm(A:eA C)(b:Bool)(r:du):aM (λk=>oL X (C k) S o b r):=by
 have other:∀r,aM (λk=>if b=true then gR X (C k) S o r else some (.normal,S.put o.dst true .bf)):=by
  intro r;split
  ·exact vF A r
  ·exact aM.const _
 cases r with
 |no=>exact other .no
 |val c x=>exact aM.const _
 |dg c x e=>exact other (.dg c x e)
theorem sE(A:eA C)(all:List Oper):aM (λk=>m5 X (C k) md all S o):=by
 unfold m5;split
 ·exact vF A _
 ·split
  ·split
   ·exact Jm A _ _
   ·split
    ·exact vF A _
    ·exact aM.const _
  ·exact aM.const _
  ·exact aM.const _
theorem pg{F:Nat->Option (XE×St)}{K:St->Nat->Option (XE×St)}(A2:aM F)(AG:∀S,aM (K S)):aM (λn=>andThen (F n) (λS=>K S n)):=by
 simp only[xR];refine A2.bind (g:=λx n=>aT (λS=>K S n) x) λx=>?_;obtain⟨e,S⟩:=x;cases e with
 |normal=>exact AG S
 |_=>exact aM.const _
theorem j7(A:eA C)(all:List Oper):∀(ops:List Oper)(S:St),aM (λk=>fB X (C k) md all ops S)
 |[],S=>aM.const _
 |o::r,S=>pg (sE A all) (λZ=>j7 A all r Z)
theorem Qz(A:eA C):aM (λk=>n8 X (C k) S o):=by
 unfold n8;split
 ·rename_i J args A9 A6;have I:(λk=>xE S o (cF X (C k) S o args.toList (S.aq J)))=λk=>(cF X (C k) S o args.toList (S.aq J)).bind λc=>xE S o (some c):=by
   funext k;exact CF ..
  rw[I];exact (kQ A args.toList (S.aq J)).bind (λ_=>aM.const _)
 ·exact aM.const _
theorem xS(A:eA C)(r:du):aM (λk=>fi X (C k) S o r):=by
 cases r with
 |no=>exact Qz A
 |val c x=>exact aM.const _
 |dg c x e=>exact aM.const _
theorem Ln(A:eA C)(b:Bool)(r:du):aM (λk=>rA X (C k) S o b r):=by
 have other:∀r,aM (λk=>if b=true then fi X (C k) S o r else some (S.put o.dst true .bf,⟨[],[],true,.bf⟩)):=by
  intro r;split
  ·exact xS A r
  ·exact aM.const _
 cases r with
 |no=>exact other .no
 |val c x=>exact aM.const _
 |dg c x e=>exact other (.dg c x e)
theorem lY(A:eA C)(all:List Oper):aM (λk=>eE X (C k) md all S o):=by
 unfold eE;split
 ·exact xS A _
 ·split
  ·split
   ·exact Ln A _ _
   ·split
    ·exact xS A _
    ·exact aM.const _
  ·exact aM.const _
  ·exact aM.const _
theorem FA(S:St)(r:Option eZ):vq S r=r.bind λc=>vq S (some c):=by cases r<;>rfl
theorem GJ(A:eA C):aM (λk=>kP X (C k) S o):=by
 unfold kP;split
 ·unfold Cu;split
  ·unfold IL;split
   ·rename_i J args A9 A6;have I:(λk=>vq S (cF X (C k) S o args.toList (S.aq J)))=λk=>(cF X (C k) S o args.toList (S.aq J)).bind λc=>vq S (some c):=by
     funext k;exact FA ..
    rw[I];exact (kQ A args.toList (S.aq J)).bind (λ_=>aM.const _)
   ·exact aM.const _
  ·exact aM.const _
 ·exact aM.const _
theorem CG{AM:br}{all:List Oper}{q:St×aX}(h:eE X AM md all S o=some q):kP X AM S o=none:=by
 cases A4:kP X AM S o with
 |none=>rfl
 |some p=>
  obtain⟨Y,Aa,J,args,A9,A6,AK,_⟩:=Gz A4;unfold eE at h;rw[Y]at h;simp only[fi,n8,Aa,A6,AK]at h;cases h
theorem Ue(A:eA C)(E:Nat×List (List Nat))(all r:List Oper)(D:List aX){K:Nat->St->List aX->Option (XE×St)}(AG:∀S D,aM λk=>K k S D):aM (λk=>nz X (C k) md E all r S o D (K k) (kP X (C k) S o)):=by
 intro n y h;simp only at h⊢;cases A4:kP X (C n) S o with
 |some q=>
  rw[A4]at h;have Ab:kP X (C (n+1)) S o=some q:=GJ A n q A4;rw[Ab];exact h
 |none=>
  rw[A4]at h;simp only[nz,mI]at h;cases Y:eE X (C n) md all S o with
  |none=>rw[Y]at h;cases h
  |some p=>
   have AW:eE X (C (n+1)) md all S o=some p:=lY A all n p Y;rw[CG AW];simp only[nz,mI];rw[Y]at h;rw[AW];exact AG _ _ n y h
theorem nQ(A:eA C)(E:Nat×List (List Nat))(all:List Oper):∀(ops:List Oper)(S:St)(D:List aX),aM (λk=>ij X (C k) md E all ops S D)
 |[],S,D=>aM.const _
 |o::r,S,D=>Ue A E all r D λS D=>nQ A E all r S D
def QA(N:List Cl)(p:St×aX):Option (St×aX):=if DU N p.2.es=true then some p else none
theorem Mf(N:List Cl)(r:Option (St×aX)):W7 N r=r.bind (QA N):=by
 rcases r with _|⟨S,p⟩<;>rfl
theorem uP(A:eA C)(E:List (List Nat))(N:List Cl)(all:List Oper):∀(ops:List Oper)(S:St)(D:List aX),aM (λk=>qj X (C k) md E N all ops S D)
 |[],S,D=>aM.const _
 |o::r,S,D=>by
  simp only[qj,mI];cases wo (E.getD D.length []) r with
  |true=>
   simp only[Qm];split
   ·exact j7 A all [o] S
   ·exact aM.const _
  |false=>
  simp only
  cases A3 X.P N S o with
  |some x=>
   simp only[xG,aeE];exact uP A E N all r _ _
  |none=>
   simp only[xG,Mf];exact ((lY A all).bind (g:=λp _=>QA N p) λp=>aM.const _).bind (g:=λp n=>qj X (C n) md E N all r p.1 (p.2::D)) λp=>uP A E N all r p.1 (p.2::D)
theorem GK(A:eA C)(E:List (List Nat))(all:List Oper)(S:St)(fl:List (Nat×Nat)):aM (λk=>tK X (C k) md E all S fl):=by
 cases fl with
 |nil=>exact nQ A _ all all S []
 |cons q r=>
  simp only[tK];cases fY S.mem (q::r)with
  |none=>exact aM.const _
  |some N=>exact uP A E N all all S []
theorem GL(f:St->Option (XE×St)):∀(j:Nat)(S:St)(r:XE×St),iter f j S=some r->iter f (j+1) S=some r
 |0,S,r,h=>by cases h
 |j+1,S,r,h=>by
  simp only[iter]at h;rw[iter];rcases gG h with ⟨S1,I,A'⟩|⟨I,A'⟩
  ·rw[I];exact GL f j S1 r A'
  ·rw[I];obtain⟨e,S1⟩:=r;cases e with
   |normal=>exact absurd rfl A'
   |_=>rfl
theorem tS(f:St->Option (XE×St)){j k:Nat}(h:j<=k){S:St}{r:XE×St}(V:iter f j S=some r):iter f k S=some r:=by
 induction h with
 |refl=>exact V
 |step _ ih=>exact GL f _ S r ih
theorem uQ{F:Nat->St->Option (XE×St)}(A2:∀S,aM (λk=>F k S)):∀(j:Nat)(S:St),aM (λk=>iter (F k) j S)
 |0,S=>aM.const _
 |j+1,S=>pg (A2 S) (λZ=>uQ A2 j Z)
theorem xT(A:eA C)(f:FuncId){m:Nat->Nat}(hm:∀k,m k<=m (k+1)):∀(c:Code)(S:St),aM (λk=>den X f (C k) (m k) c S):=by
 intro c;induction c with
 |region id ops draw=>
  intro S;cases draw with
  |false=>
   simp only[den,qn];exact (j7 A _ _ _).bind λ_=>aM.const _
  |true=>
   simp only[den,qn];exact (GK A _ _ _ _).bind λ_=>aM.const _
 |seq a b A7 AA=>intro S;exact pg (A7 S) (λZ=>AA Z)
 |cond c a b A7 AA=>
  intro S;simp only[den];unfold DX;split
  ·split
   ·exact A7 S
   ·exact AA S
  ·exact aM.const _
 |block id c ih=>
  intro S;simp only[den,Jj];exact (ih _).bind λ_=>aM.const _
 |loop c ih=>
  intro S n r h;simp only[den]at h⊢;have I:=uQ (F:=λk=>den X f (C k) (m k) c) ih (m n) S n r h;exact tS _ (hm n) I
 |skip=>intro S;exact aM.const _
 |exit id=>intro S;exact aM.const _
 |ret=>intro S;exact aM.const _
 |rangeFunc _ _ _ _=>intro S;exact aM.const _
 |scope _ _=>intro S;exact aM.const _
 |label _=>intro S;exact aM.const _
 |goto _=>intro S;exact aM.const _
 |refuse _=>intro S;exact aM.const _
theorem D9(A:eA C)(f:FuncId){m:Nat->Nat}(hm:∀k,m k<=m (k+1))(fn:Func)(c:Code)(args:List AV)(cs:List ay):aM (λk=>qH X f (C k) (m k) fn c args cs):=by
 unfold qH;split
 ·simp only[Jl X.P (X.fp f) cs.length fn.results.toList (den _ _ _ _ _ _)];exact (xT A f hm c _).bind λ_=>aM.const _
 ·exact aM.const _
theorem yK{F G:Nat->Option (Out×List (Nat×ay))}(A2:aM F)(Ac:aM G):aM (λn=>j6 (F n) (G n)):=by
 intro n r h;replace h:j6 (F n) (G n)=some r:=h;show j6 (F (n+1)) (G (n+1))=some r;unfold j6 at h;split at h
 ·rename_i a b A8 AB;have AC:=fC A8;have Ah:=fC AB;have f1:=A2 n _ AC;have f2:=Ac n _ Ah;rw[AC]at h;rw[f1,f2];simp only[j6,oo];exact h
 ·cases h
theorem Hp{R:Nat->List AV->Option (Out×List (Nat×ay))}(AD:∀a,aM (λn=>R n a))(args:List AV)(b:Bool):aM (λn=>gF (R n) args b):=by
 unfold gF;split
 ·split
  ·exact yK (AD _) (AD _)
  ·exact AD _
 ·exact AD _
def nT(k:St->XD)(H:List DF):XE×St->XD
 |(.normal,S)=>k S
 |(e,S)=>some (e,S,H)
theorem CH(k:St->XD)(H:List DF)(r:Option (XE×St)):Hy k H r=r.bind (nT k H):=by
 rcases r with _|⟨e,S⟩
 ·rfl
 ·cases e<;>rfl
def lT(k:St->St):XE×St×List DF->XD
 |(.normal,S,H)=>some (.normal,k S,H)
 |r=>some r
theorem Ad(k:St->St)(r:XD):zS k r=r.bind (lT k):=by
 rcases r with _|⟨e,S,H⟩
 ·rfl
 ·cases e<;>rfl
def dT(H:List DF)(p:XE×St):XD:=some (p.1,p.2,H)
theorem FB(H:List DF)(r:Option (XE×St)):xH H r=r.bind (dT H):=by
 rcases r with _|⟨e,S⟩<;>rfl
def sT(k:St->List DF->XD):XE×St×List DF->XD
 |(.normal,S,H)=>k S H
 |r=>some r
theorem Mg(k:St->List DF->XD)(r:XD):IM k r=r.bind (sT k):=by
 rcases r with _|⟨e,S,H⟩
 ·rfl
 ·cases e<;>rfl
theorem mJ(A:eA C)(all:List Oper):∀(ops:List Oper)(S:St)(H:List DF),aM (λk=>fI X (C k) md all ops S H)
 |[],S,H=>aM.const _
 |o::r,S,H=>by
  simp only[fI];cases gV S o with
  |some d=>exact mJ A all r _ _
  |none=>
   simp only[CH];refine (sE A all).bind (g:=λx n=>nT (λS1=>fI X (C n) md all r S1 H) H x) λx=>?_;obtain⟨e,S1⟩:=x;cases e with
   |normal=>exact mJ A all r S1 H
   |_=>exact aM.const _
theorem GM(A:eA C)(f:FuncId){m:Nat->Nat}(hm:∀k,m k<=m (k+1)):∀(c:Code)(S:St)(H:List DF),aM (λk=>iH X f (C k) (m k) c S H):=by
 have add:∀(c:Code)(S:St)(H:List DF),aM (λk=>xH H (den X f (C k) (m k) c S)):=λc S H=>by
  simp only[FB];exact (xT A f hm c S).bind λ_=>aM.const _
 intro c;induction c with
 |seq a b A7 AA=>
  intro S H;simp only[iH,Mg];refine (A7 S H).bind (g:=λx n=>sT (iH X f (C n) (m n) b) x) λx=>?_;obtain⟨e,S1,Ai⟩:=x;cases e with
  |normal=>exact AA S1 Ai
  |_=>exact aM.const _
 |region id ops draw=>
  intro S H;simp only[iH];split
  ·simp only[Ad];exact (mJ A _ _ _ _).bind λ_=>aM.const _
  ·exact add _ _ _
 |_=>intro S H;simp only[iH];exact add _ _ _
theorem Ae(A:eA C)(f:FuncId){m:Nat->Nat}(hm:∀k,m k<=m (k+1))(AH:AV):∀(c:Code)(S:St),aM (λk=>nA X f (C k) (m k) AH c S):=by
 intro c;induction c with
 |seq a b A7 AA=>intro S;exact pg (A7 S) (λZ=>xT A f hm b Z)
 |region id ops draw=>
  intro S;simp only[nA];split
  ·split
   ·simp only[qn];exact (j7 A _ _ _).bind λ_=>aM.const _
   ·exact aM.const _
  ·exact aM.const _
 |_=>intro S;simp only[nA];exact aM.const _
theorem Mh(P:Program)(p:ax)(O:Nat)(rs:List ResultVar)(r:Option (XE×St)):Qo P p O rs r=r.bind λq=>Qo P p O rs (some q):=by cases r<;>rfl
theorem Lo(A:eA C)(f:FuncId){m:Nat->Nat}(hm:∀k,m k<=m (k+1))(fn:Func)(c:Code)(args:List AV)(cs:List ay):aM (λk=>wq X f (C k) (m k) fn c args cs):=by
 unfold wq;split
 ·split
  ·simp only[Mh X.P (X.fp f) cs.length fn.results.toList (nA _ _ _ _ _ _ _)];exact (Ae A f hm _ c _).bind λ_=>aM.const _
  ·exact aM.const _
 ·exact aM.const _
theorem Ea(A:eA C){m:Nat->Nat}(hm:∀k,m k<=m (k+1)):eA (λk=>m6 X (m k) (C k)):=by
 intro g args cs;simp only[m6];split
 ·split
  ·exact Lo A g hm _ _ _ _
  ·exact aM.const _
 ·exact aM.const _
theorem Mi(S:St)(r:Option eZ):tM S r=r.bind λc=>tM S (some c):=by cases r<;>rfl
theorem Mj(X:Ctx)(p:ax)(O:Nat)(rs:List ResultVar)(r:Option St):Cx X p O rs r=r.bind λS=>finish X.P p O rs S:=by cases r<;>rfl
theorem Ml(X:Ctx)(p:ax)(O:Nat)(rs:List ResultVar)(AX:br)(r:XD):vu X p O rs AX r=r.bind λq=>vu X p O rs AX (some q):=by cases r<;>rfl
theorem QB{CR:Nat->br}(A:eA CR)(p:ax)(O:Nat)(rs:List ResultVar)(S:St)(d:DF)(AH:Option AV):aM (λk=>sA X p O rs (CR k) S d AH):=by
 cases AH with
 |none=>exact aM.const _
 |some AH=>
  simp only[sA,Mj,Mi S (dO _ _ _ _ _ _)];exact ((nP A _ _ _ _ _).bind (g:=λc _=>tM S (some c)) λ_=>aM.const _).bind (g:=λS _=>finish X.P p O rs S) λ_=>aM.const _
theorem Eb{CR:Nat->br}(A:eA CR)(p:ax)(O:Nat)(rs:List ResultVar)(q:XE×St×List DF):aM (λk=>vu X p O rs (CR k) (some q)):=by
 obtain⟨e,S,H⟩:=q;match H with
 |[]=>exact aM.const _
 |[d]=>exact QB A p O rs S d (Cw e)
 |_::_::_=>exact aM.const _
theorem Lp(A:eA C){CR:Nat->br}(AD:eA CR)(f:FuncId){m:Nat->Nat}(hm:∀k,m k<=m (k+1))(fn:Func)(c:Code)(args:List AV)(cs:List ay):aM (λk=>wu X f (C k) (CR k) (m k) fn c args cs):=by
 unfold wu;split
 ·simp only[Ml X (X.fp f) cs.length fn.results.toList _ (iH _ _ _ _ _ _ _)];exact (GM A f hm c _ _).bind (g:=λq n=>vu X (X.fp f) cs.length fn.results.toList (CR n) (some q)) λq=>Eb AD _ _ _ q
 ·exact aM.const _
theorem Ec(X:Ctx):∀n g a c r,aK X n g a c=some r->aK X (n+1) g a c=some r
 |0,g,a,c,r,h=>by cases h
 |n+1,g,a,c,r,h=>by
  have ih:=Ec X n;have A:eA λk=>if k=0 then aK X n else aK X (n+1):=by
   intro g a c k r h;by_cases M:k=0
   ·subst M;exact ih g a c r h
   ·simp only[M,ad0]at h;simpa using h
  have hm:∀k,(if k=0 then n else n+1)<=(if k+1=0 then n else n+1):=by
   intro k;by_cases M:k=0<;>simp[M]
  cases A1:X.ov with
  |some As=>simp only[aK,A1]at h⊢;exact h
  |none=>
  cases A5:X.wm g with
  |some At=>simp only[aK,A1,A5]at h⊢;exact h
  |none=>
  cases T:X.P.funcs[g]? with
  |none=>simp only[aK,A1,A5,T]at h;cases h
  |some fn=>
   cases AB:fn.body with
   |none=>simp only[aK,A1,A5,T,AB]at h;cases h
   |some code=>
    have AC:∀k,aK X (k+1) g a c=wA X g (aK X k) k fn code a c (vy code):=by
     intro k;simp only[aK,A1,A5,T,AB]
    rw[AC]at h⊢;cases AJ:vy code with
    |true=>
     rw[AJ]at h;exact Lp (X:=X) (C:=λk=>if k=0 then aK X n else aK X (n+1)) (CR:=λk=>m6 X (if k=0 then n else n+1) (if k=0 then aK X n else aK X (n+1))) A (Ea A hm) g hm fn code a c 0 r h
    |false=>
    rw[AJ]at h;exact Hp (R:=λk args=>qH X g ((λk=>if k=0 then aK X n else aK X (n+1)) k) ((λk=>if k=0 then n else n+1) k) fn code args c) (λargs=>D9 A g hm fn code args c) a _ 0 r h
theorem bA(X:Ctx):eA (aK X):=λg a c n r h=>Ec X n g a c r h
end
noncomputable def ah(X:Ctx):br:=λg a c=>gu λk=>aK X k g a c
noncomputable def fM(X:Ctx)(f:FuncId)(c:Code)(S:St):Option (XE×St):=gu λk=>den X f (aK X k) k c S
theorem bu{X:Ctx}{g a c r}(n:Nat)(h:aK X n g a c=some r):ah X g a c=some r:=(dF (bA X g a c)).2 ⟨n,h⟩
theorem Xl{X:Ctx}(Aj:jU X):jk X (ah X):=λg args cs out l h=>by
 obtain⟨n,U⟩:=(dF (bA X g args cs)).1 h;exact Ji Aj n g args cs out l U
section
variable {X:Ctx} {S:St} {o:Oper} {f:FuncId} {md:Bool}
theorem dm(c:Code)(S:St):aM (λk=>den X f (aK X k) k c S):=xT (bA X) f (m:=λk=>k) (λk=>amn k) c S
theorem QC(m:Mem)(A0:Nat)(g:FuncId)(AI:List AV)(mt:List Nat):gu (λk=>dO (aK X k) m A0 g AI mt)=dO (ah X) m A0 g AI mt:=by
 unfold dO lX lW;simp only[vE];rw[dV (bA X _ _ _) (λ_=>aM.const _)];simp only[aR];rfl
theorem vG(args:List Operand)(J:Bool×AV):gu (λk=>cF X (aK X k) S o args J)=cF X (ah X) S o args J:=by
 unfold cF;split
 ·split
  ·simp only[Jk _ _ (dO _ _ _ _ _ _)];rw[dV (nP (bA X) _ _ _ _ _) (λ_=>aM.const _),QC];simp only[aR]
  ·exact aR _
 ·exact aR _
theorem QD:gu (λk=>rr X (aK X k) S o)=rr X (ah X) S o:=by
 unfold rr;split
 ·rename_i J args A9 A6;have I:(λk=>tJ S o.dst (cF X (aK X k) S o args.toList (S.aq J)))=λk=>(cF X (aK X k) S o args.toList (S.aq J)).bind λc=>tJ S o.dst (some c):=by
   funext k;exact Fz ..
  rw[I,dV (kQ (bA X) _ _) (λ_=>aM.const _),vG,Fz];simp only[aR]
 ·exact aR _
 ·exact aR _
theorem xU(r:du):gu (λk=>gR X (aK X k) S o r)=gR X (ah X) S o r:=by
 cases r with
 |no=>exact QD
 |val c x=>exact aR _
 |dg c x e=>exact aR _
theorem Lq(b:Bool)(r:du):gu (λk=>oL X (aK X k) S o b r)=oL X (ah X) S o b r:=by
 have other:∀r,gu (λk=>if b=true then gR X (aK X k) S o r else some (.normal,S.put o.dst true .bf))=if b=true then gR X (ah X) S o r else some (.normal,S.put o.dst true .bf):=by
  intro r;split
  ·exact xU r
  ·exact aR _
 cases r with
 |no=>exact other .no
 |val c x=>exact aR _
 |dg c x e=>exact other (.dg c x e)
theorem GN(all:List Oper):gu (λk=>m5 X (aK X k) md all S o)=m5 X (ah X) md all S o:=by
 unfold m5;split
 ·exact xU _
 ·split
  ·split
   ·exact Lq _ _
   ·split
    ·exact xU _
    ·exact aR _
  ·exact aR _
  ·exact aR _
theorem vH{F:Nat->Option (XE×St)}{K:St->Nat->Option (XE×St)}(A2:aM F)(AG:∀S,aM (K S)):gu (λn=>andThen (F n) (λS=>K S n))=andThen (gu F) (λS=>gu (K S)):=by
 simp only[xR];rw[dV (g:=λx n=>aT (λS=>K S n) x) A2 (λx=>by
  obtain⟨e,S⟩:=x;cases e with
  |normal=>exact AG S
  |_=>exact aM.const _)]
 congr 1;funext x;obtain⟨e,S⟩:=x;cases e<;>first|rfl|exact aR _
theorem sF(all:List Oper):∀(ops:List Oper)(S:St),gu (λk=>fB X (aK X k) md all ops S)=fB X (ah X) md all ops S
 |[],S=>aR _
 |o::r,S=>by
  simp only[fB];have:=vH (F:=λk=>m5 X (aK X k) md all S o) (K:=λZ k=>fB X (aK X k) md all r Z) (sE (bA X) all) (λZ=>j7 (bA X) all r Z);rw[GN]at this;simp only[sF all r]at this;exact this
theorem Uf:gu (λk=>n8 X (aK X k) S o)=n8 X (ah X) S o:=by
 unfold n8;split
 ·rename_i J args A9 A6;have I:(λk=>xE S o (cF X (aK X k) S o args.toList (S.aq J)))=λk=>(cF X (aK X k) S o args.toList (S.aq J)).bind λc=>xE S o (some c):=by
   funext k;exact CF ..
  rw[I,dV (kQ (bA X) _ _) (λ_=>aM.const _),vG,CF];simp only[aR]
 ·exact aR _
theorem Af(r:du):gu (λk=>fi X (aK X k) S o r)=fi X (ah X) S o r:=by
 cases r with
 |no=>exact Uf
 |val c x=>exact aR _
 |dg c x e=>exact aR _
theorem QE(b:Bool)(r:du):gu (λk=>rA X (aK X k) S o b r)=rA X (ah X) S o b r:=by
 have other:∀r,gu (λk=>if b=true then fi X (aK X k) S o r else some (S.put o.dst true .bf,(⟨[],[],true,.bf⟩:aX)))=if b=true then fi X (ah X) S o r else some (S.put o.dst true .bf,⟨[],[],true,.bf⟩):=by
  intro r;split
  ·exact Af r
  ·exact aR _
 cases r with
 |no=>exact other .no
 |val c x=>exact aR _
 |dg c x e=>exact other (.dg c x e)
theorem Ed(all:List Oper):gu (λk=>eE X (aK X k) md all S o)=eE X (ah X) md all S o:=by
 unfold eE;split
 ·exact Af _
 ·split
  ·split
   ·exact QE _ _
   ·split
    ·exact Af _
    ·exact aR _
  ·exact aR _
  ·exact aR _
theorem Xm:gu (λk=>kP X (aK X k) S o)=kP X (ah X) S o:=by
 unfold kP;split
 ·unfold Cu;split
  ·unfold IL;split
   ·rename_i J args A9 A6;have I:(λk=>vq S (cF X (aK X k) S o args.toList (S.aq J)))=λk=>(cF X (aK X k) S o args.toList (S.aq J)).bind λc=>vq S (some c):=by
     funext k;exact FA ..
    rw[I,dV (kQ (bA X) _ _) (λ_=>aM.const _),vG,FA];simp only[aR]
   ·exact aR _
  ·exact aR _
 ·exact aR _
theorem Ee(E:Nat×List (List Nat))(all:List Oper):∀(ops:List Oper)(S:St)(D:List aX),gu (λk=>ij X (aK X k) md E all ops S D)=ij X (ah X) md E all ops S D
 |[],S,D=>aR _
 |o::r,S,D=>by
  have A4:∀q,kP X (ah X) S o=some q↔∃k,kP X (aK X k) S o=some q:=λq=>by rw[<-Xm];exact dF (GJ (bA X))
  have Y:∀q,eE X (ah X) md all S o=some q↔∃k,eE X (aK X k) md all S o=some q:=λq=>by rw[<-Ed];exact dF (lY (bA X) all)
  have V:∀S D y,ij X (ah X) md E all r S D=some y↔∃k,ij X (aK X k) md E all r S D=some y:=λS D y=>by rw[<-Ee E all r S D];exact dF (nQ (bA X) E all r S D)
  apply Option.ext;intro y;rw[dF (nQ (bA X) E all (o::r) S D)];simp only[ij];constructor
  ·rintro ⟨k,M⟩;cases AN:kP X (aK X k) S o with
   |some q=>
    rw[AN]at M;rw[(A4 q).2 ⟨k,AN⟩];exact M
   |none=>
    rw[AN]at M;simp only[nz,mI]at M;cases AO:eE X (aK X k) md all S o with
    |none=>rw[AO]at M;cases M
    |some p=>
     rw[AO]at M;have AE:=(Y p).2 ⟨k,AO⟩;rw[CG AE];simp only[nz,mI,AE,aeE]at M⊢;exact (V _ _ y).2 ⟨k,M⟩
  ·intro h;cases AP:kP X (ah X) S o with
   |some q=>
    rw[AP]at h;obtain⟨k,M⟩:=(A4 q).1 AP;exact⟨k,by rw[M];exact h⟩
   |none=>
    rw[AP]at h;simp only[nz,mI]at h;cases AE:eE X (ah X) md all S o with
    |none=>rw[AE]at h;cases h
    |some p=>
     rw[AE]at h;simp only[aeE]at h;obtain⟨AQ,Ak⟩:=(Y p).1 AE;obtain⟨AR,Al⟩:=(V _ _ y).1 h;refine⟨max AQ AR,?_⟩;have AY:=(lY (X:=X) (S:=S) (o:=o) (md:=md) (bA X) all).le (Nat.le_max_left AQ AR) Ak;have An:=(nQ (X:=X) (md:=md) (bA X) E all r p.1 (p.2::D)).le (Nat.le_max_right AQ AR) Al;rw[CG AY];simp only[nz,mI,AY,aeE];exact An
theorem CI(E:List (List Nat))(N:List Cl)(all:List Oper):∀(ops:List Oper)(S:St)(D:List aX),gu (λk=>qj X (aK X k) md E N all ops S D)=qj X (ah X) md E N all ops S D
 |[],S,D=>aR _
 |o::r,S,D=>by
  simp only[qj,mI];cases wo (E.getD D.length []) r with
  |true=>
   simp only[Qm];split
   ·exact sF all [o] S
   ·exact aR _
  |false=>
  simp only
  cases A3 X.P N S o with
  |some x=>
   simp only[xG,aeE];exact CI E N all r _ _
  |none=>
   simp only[xG,Mf];rw[dV (g:=λp n=>qj X (aK X n) md E N all r p.1 (p.2::D)) ((lY (bA X) all).bind (g:=λp _=>QA N p) λp=>aM.const _) (λp=>uP (bA X) E N all r p.1 (p.2::D)),
    dV (g:=λp _=>QA N p) (lY (bA X) all) (λp=>aM.const _),Ed]
   simp only[CI E N all r,aR]
theorem Xn(E:List (List Nat))(all:List Oper)(S:St)(fl:List (Nat×Nat)):gu (λk=>tK X (aK X k) md E all S fl)=tK X (ah X) md E all S fl:=by
 cases fl with
 |nil=>exact Ee _ all all S []
 |cons q r=>
  simp only[tK];cases fY S.mem (q::r)with
  |none=>exact aR _
  |some N=>exact CI E N all all S []
theorem Ug:fM X f .skip S=some (.normal,S):=aR _
theorem Uh{id:Nat}:fM X f (.exit id) S=some (.exit id,DV S (X.gh f (id+1000000))):=aR _
theorem Xo:fM X f .ret S=some (.ret,S):=aR _
theorem Xp{a b:Code}:fM X f (.seq a b) S=andThen (fM X f a S) (fM X f b):=vH (dm a S) (λZ=>dm b Z)
theorem Ui{c:Operand}{a b:Code}:fM X f (.cond c a b) S=DX (fM X f a S) (fM X f b S) (S.aq c):=by
 unfold fM;simp only[den];unfold DX;split
 ·split<;>rfl
 ·exact aR _
theorem QF{id:Nat}{c:Code}:fM X f (.block id c) S=DW id (fM X f c (S.enter X f id)):=by
 unfold fM;simp only[den,Jj];rw[dV (dm c _) (λ_=>aM.const _)];simp only[aR]
theorem Lr{id:Nat}{ops:Array Oper}:fM X f (.region id ops false) S=vt (St.leave X f id) (fB X (ah X) (X.md f id) ops.toList ops.toList S):=by
 unfold fM;simp only[den,qn];rw[dV (j7 (bA X) _ _ _) (λ_=>aM.const _),sF];simp only[aR]
theorem Uj{id:Nat}{ops:Array Oper}:fM X f (.region id ops true) S=vt (St.leave X f id) (tK X (ah X) (X.md f id) (X.od f id) ops.toList S (X.fl f id)):=by
 unfold fM;simp only[den,qn];rw[dV (GK (bA X) _ _ _ _) (λ_=>aM.const _),Xn];simp only[aR]
theorem Uk{c:Code}:fM X f (.loop c) S=andThen (fM X f c S) (fM X f (.loop c)):=by
 apply Option.ext;intro r;have AS:∀S r,fM X f (.loop c) S=some r↔∃k,iter (den X f (aK X k) k c) k S=some r:=λS r=>dF (dm (.loop c) S);have hi:∀{k j i:Nat}{S r},k<=j->i<=j->iter (den X f (aK X k) k c) i S=some r->iter (den X f (aK X j) j c) j S=some r:=by
  intro k j i S r M Ao h;exact tS _ Ao ((uQ (F:=λk=>den X f (aK X k) k c) (λS=>dm c S) i S).le M h)
 rw[AS];constructor
 ·rintro ⟨k,M⟩;cases k with
  |zero=>cases M
  |succ k=>
   simp only[iter]at M;rcases gG M with ⟨S1,I,A'⟩|⟨I,A'⟩
   ·have:fM X f c S=some (.normal,S1):=(dF (dm c S)).2 ⟨k+1,I⟩;rw[this];exact (AS S1 r).2 ⟨k+1,hi (abO _) (amn k) A'⟩
   ·have:fM X f c S=some r:=(dF (dm c S)).2 ⟨k+1,I⟩;rw[this];obtain⟨e,S1⟩:=r;cases e with
    |normal=>exact absurd rfl A'
    |_=>rfl
 ·intro h;rcases gG h with ⟨S1,I,A'⟩|⟨I,A'⟩
  ·obtain⟨k,M⟩:=(dF (dm c S)).1 I;obtain⟨j,Ap⟩:=(AS S1 r).1 A';refine⟨max k j+1,?_⟩;rw[iter,(dm c S).le (show k<=max k j+1 by omega) M];have:=(uQ (F:=λk=>den X f (aK X k) k c) (λS=>dm c S) j S1).le (show j<=max k j+1 by omega) Ap;exact tS _ (show j<=max k j by omega) this
  ·obtain⟨k,M⟩:=(dF (dm c S)).1 I;refine⟨k+1,?_⟩;rw[iter,(dm c S).le (amn k) M];obtain⟨e,S1⟩:=r;cases e with
   |normal=>exact absurd rfl A'
   |_=>rfl
noncomputable def wE(X:Ctx)(f:FuncId)(fn:Func)(c:Code)(cs:List ay)(args:List AV):Option (Out×List (Nat×ay)):=
 if (decide (args.length<=fn.ntmps)&&decide (cs.length<=100)&&(X.fp f).sites.all (λk=>decide (100<=k))&&decide (X.fp f).sites.Nodup)=true then
  fin X.P (X.fp f) cs.length fn.results.toList (fM X f c (entry fn.ntmps X.gl args cs (X.fp f).sites))
 else none
theorem Ag{h:List AV->Option AV}{args:List AV}{cs:List ay}(A1:X.ov=none)(A5:X.wm f=some h):ah X f args cs=mF h args cs:=by
 unfold ah;rw[<-uO (bA X f args cs)];have:(λn=>aK X (n+1) f args cs)=λ_=>mF h args cs:=by funext n;simp only[aK,A1,A5]
 rw[this,aR]
theorem Jn{fn:Func}{c:Code}{args:List AV}{cs:List ay}(A1:X.ov=none)(A5:X.wm f=none)(T:X.P.funcs[f]?=some fn)(AB:fn.body=some c)(AJ:vy c=false):
 ah X f args cs=gF (wE X f fn c cs) args (X.fp f).split:=by
 have hm:∀args,aM (λk=>qH X f (aK X k) k fn c args cs):=λargs=>D9 (bA X) f (m:=λk=>k) (λk=>amn k) fn c args cs;have V:∀args,gu (λk=>qH X f (aK X k) k fn c args cs)=wE X f fn c cs args:=by
  intro args;unfold qH wE;split
  ·rename_i h;have I:(λk=>fin X.P (X.fp f) cs.length fn.results.toList (den X f (aK X k) k c (entry fn.ntmps X.gl args cs (X.fp f).sites)))=λk=>(den X f (aK X k) k c (entry fn.ntmps X.gl args cs (X.fp f).sites)).bind λq=>fin X.P (X.fp f) cs.length fn.results.toList (some q):=by
    funext k;exact Jl ..
   rw[I,dV (dm c _) (λ_=>aM.const _),Jl];simp only[aR];rfl
  ·exact aR _
 have AC:ah X f args cs=gu (λk=>gF (λargs=>qH X f (aK X k) k fn c args cs) args (X.fp f).split):=by
  unfold ah;rw[<-uO (bA X f args cs)];congr 1;funext k;rw[aK,A1,A5,T];simp only[AB,AJ,wA]
 rw[AC];unfold gF;split
 ·split
  ·rename_i r;apply Option.ext;intro y;rw[dF (yK (hm _) (hm _)),<-V,<-V];constructor
   ·rintro ⟨n,U⟩;unfold j6 at U⊢;split at U
    ·rename_i a b A8 AT;have f1:=(dF (hm _)).2 ⟨n,fC A8⟩;have f2:=(dF (hm _)).2 ⟨n,fC AT⟩;rw[f1,f2];rw[fC A8]at U;exact U
    ·cases U
   ·intro h;unfold j6 at h;split at h
    ·rename_i a b A8 AT;obtain⟨n,U⟩:=(dF (hm _)).1 (fC A8);obtain⟨m,Aq⟩:=(dF (hm _)).1 (fC AT);refine⟨max n m,?_⟩;rw[(hm _).le (Nat.le_max_left n m) U,(hm _).le (Nat.le_max_right n m) Aq];rw[fC A8]at h;exact h
    ·cases h
  ·exact V _
 ·exact V _
end
abbrev cd:=Option (Out×List (Nat×ay))
abbrev Kt:=XE->St->cd
noncomputable def aN(X:Ctx)(f:FuncId)(c:Code)(S:St)(k:Kt):cd:=(fM X f c S).bind λp=>k p.1 p.2
noncomputable def runK(X:Ctx)(md:Bool)(all ops:List Oper)(S:St)(k:Kt):cd:=(fB X (ah X) md all ops S).bind λp=>k p.1 p.2
noncomputable def kR(X:Ctx)(md:Bool)(A:Nat×List (List Nat))(all ops:List Oper)(S:St)(E:List aX)(k:Kt):cd:=(ij X (ah X) md A all ops S E).bind λp=>k p.1 p.2
noncomputable def Ah(X:Ctx)(f:FuncId)(b:Code)(k:Kt):Kt
 | .normal,S=>aN X f b S k
 |e,S=>k e S
def CJ(id:Nat)(k:Kt):Kt
 | .exit N,S=>if N=id then k .normal S else k (.exit N) S
 |e,S=>k e S
noncomputable def Ef(X:Ctx)(f:FuncId)(c:Code)(k:Kt):Kt
 | .normal,S=>aN X f (.loop c) S k
 |e,S=>k e S
def Ai(X:Ctx)(f:FuncId)(id:Nat)(k:Kt):Kt
 | .normal,S=>k .normal (S.leave X f id)
 |e,S=>k e S
def vI(P:Program)(p:ax)(J:Nat)(rs:List ResultVar):Kt
 | .normal,S=>finish P p J rs S
 | .ret,S=>finish P p J rs S
 | .panic t x,S=>xw p J t x S
 | .exit _,_=>none
def Ul:Bool×AV->Bool
 |(true,.d (.bool _))=>true
 |_=>false
def Aj:Bool×AV->Bool
 |(_,.d (.bool b))=>b
 |_=>false
def Env.kn:Env->Nat->Bool->Env
 |[],_,_=>[]
 |(t,x)::r,c,b=>if t=c then (t,true,.d (.bool b))::r else (t,x)::Env.kn r c b
def St.kn(S:St)(c:Nat)(b:Bool):St:={S with env:=Env.kn S.env c b}
section
variable {X:Ctx} {f:FuncId} {S:St} {k:Kt}
theorem tU(r:Option (XE×St))(g:St->Option (XE×St)):(andThen r g).bind (λp=>k p.1 p.2)=r.bind λp=>match p with
 |(.normal,S)=>(g S).bind λp=>k p.1 p.2
 |(e,S)=>k e S:=by
 rcases r with _|⟨e,S⟩
 ·rfl
 ·cases e<;>rfl
theorem Um:aN X f .skip S k=k .normal S:=by simp only[aN,Ug,aeE]
theorem Un{id:Nat}:aN X f (.exit id) S k=k (.exit id) (DV S (X.gh f (id+1000000))):=by simp only[aN,Uh,aeE]
theorem Xq:aN X f .ret S k=k .ret S:=by simp only[aN,Xo,aeE]
theorem ga{a b:Code}:aN X f (.seq a b) S k=aN X f a S (Ah X f b k):=by
 simp only[aN,Xp,tU];congr 1;funext p;obtain⟨e,S⟩:=p;cases e<;>rfl
theorem ag{c:Code}:aN X f (.loop c) S k=aN X f c S (Ef X f c k):=by
 rw[aN,Uk,tU,aN];congr 1;funext p;obtain⟨e,S⟩:=p;cases e<;>rfl
theorem QG{id:Nat}{c:Code}:aN X f (.block id c) S k=aN X f c (S.enter X f id) (CJ id k):=by
 simp only[aN,QF];rcases fM X f c (S.enter X f id)with _|⟨e,S⟩
 ·rfl
 ·cases e with
  |exit N=>
   simp only[DW,aeE,CJ];split<;>rfl
  |_=>rfl
theorem GO{c:Operand}{a b:Code}:aN X f (.cond c a b) S k=if Ul (S.aq c)=true then (if Aj (S.aq c)=true then aN X f a S k else aN X f b S k)else none:=by
 simp only[aN,Ui];generalize S.aq c=v;obtain⟨g,x⟩:=v;cases g with
 |false=>rfl
 |true=>
  cases x with
  |d x=>
   cases x with
   |bool t=>cases t<;>rfl
   |_=>rfl
  |_=>rfl
theorem ZP{b:Bool}:∀{env:Env}{c:Nat},Env.lk env c=some (true,.d (.bool b))->Env.kn env c b=env
 |[],c,h=>by cases h
 |(t,x)::r,c,h=>by
  simp only[Env.lk]at h;simp only[Env.kn];split
  ·rename_i A';rw[abT A']at h;cases h;rfl
  ·rename_i A';rw[abN A']at h;rw[ZP h]
theorem aeQ{c:Tmp}{b:Bool}(h:S.aq (.tmp c)=(true,.d (.bool b))):Env.lk S.env c=some (true,.d (.bool b)):=by
 simp only[St.aq]at h;cases Y:Env.lk S.env c with
 |none=>rw[Y]at h;simp at h
 |some x=>rw[Y]at h;simp only[aer]at h;rw[h]
theorem QH{c:Tmp}{a b:Code}:aN X f (.cond (.tmp c) a b) S k=if Ul (S.aq (.tmp c))=true then (if Aj (S.aq (.tmp c))=true then aN X f a (S.kn c true) k else aN X f b (S.kn c false) k)else none:=by
 rw[GO];generalize AD:S.aq (.tmp c)=v;obtain⟨g,x⟩:=v;cases g with
 |false=>rfl
 |true=>
  cases x with
  |d x=>
   cases x with
   |bool t=>
    have:S.kn c t=S:=by
     unfold St.kn;rw[ZP (aeQ AD)]
    cases t with
    |true=>rw[this];rfl
    |false=>rw[this];rfl
   |_=>rfl
  |_=>rfl
theorem QI{v:Value}{a b:Code}:aN X f (.cond (.const v) a b) S k=if Ul (S.aq (.const v))=true then (if Aj (S.aq (.const v))=true then aN X f a S k else aN X f b S k)else none:=GO
theorem Ls{id:Nat}{l:List Oper}:aN X f (.region id ⟨l⟩ false) S k=runK X (X.md f id) l l S (Ai X f id k):=by
 simp only[aN,Lr,runK];rcases fB X (ah X) (X.md f id) l l S with _|⟨e,S⟩
 ·rfl
 ·cases e<;>rfl
noncomputable def HB(X:Ctx)(md:Bool)(A:List (List Nat))(l:List Oper)(S:St)(k:Kt):List (Nat×Nat)->cd
 |[]=>kR X md (fS S.mem,A) l l S [] k
 |q::r=>(Qn X (ah X) md A l S (fY S.mem (q::r))).bind λp=>k p.1 p.2
theorem Uo{id:Nat}{l:List Oper}:aN X f (.region id ⟨l⟩ true) S k=HB X (X.md f id) (X.od f id) l S (Ai X f id k) (X.fl f id):=by
 simp only[aN,Uj];cases X.fl f id with
 |nil=>
  simp only[tK,HB,kR];rcases ij X (ah X) (X.md f id) (fS S.mem,X.od f id) l l S []with _|⟨e,S⟩
  ·rfl
  ·cases e<;>rfl
 |cons q r=>
  simp only[tK,HB];rcases Qn X (ah X) (X.md f id) (X.od f id) l S (fY S.mem (q::r))with _|⟨e,S⟩
  ·rfl
  ·cases e<;>rfl
theorem acC{md:Bool}{A:List (List Nat)}{l:List Oper}:HB X md A l S k []=kR X md (fS S.mem,A) l l S [] k:=rfl
theorem jl{b:Code}:Ah X f b k .normal S=aN X f b S k:=rfl
theorem aeR{b:Code}{id:Nat}:Ah X f b k (.exit id) S=k (.exit id) S:=rfl
theorem aeS{b:Code}:Ah X f b k .ret S=k .ret S:=rfl
theorem aeT{b:Code}{t:TypeId}{x:D}:Ah X f b k (.panic t x) S=k (.panic t x) S:=rfl
theorem aeU{id:Nat}:CJ id k .normal S=k .normal S:=rfl
theorem aeV{id N:Nat}:CJ id k (.exit N) S=if N=id then k .normal S else k (.exit N) S:=rfl
theorem aeW{id:Nat}:CJ id k .ret S=k .ret S:=rfl
theorem aeX{id:Nat}{t:TypeId}{x:D}:CJ id k (.panic t x) S=k (.panic t x) S:=rfl
theorem acD{c:Code}:Ef X f c k .normal S=aN X f (.loop c) S k:=rfl
theorem acE{c:Code}{id:Nat}:Ef X f c k (.exit id) S=k (.exit id) S:=rfl
theorem acF{c:Code}:Ef X f c k .ret S=k .ret S:=rfl
theorem acG{c:Code}{t:TypeId}{x:D}:Ef X f c k (.panic t x) S=k (.panic t x) S:=rfl
theorem Xr{id:Nat}:Ai X f id k .normal S=k .normal (S.leave X f id):=rfl
theorem Xs{id:Nat}{t:TypeId}{x:D}:Ai X f id k (.panic t x) S=k (.panic t x) S:=rfl
theorem aeY{P:Program}{p:ax}{J:Nat}{rs:List ResultVar}:vI P p J rs .normal S=finish P p J rs S:=rfl
theorem aeZ{P:Program}{p:ax}{J:Nat}{rs:List ResultVar}:vI P p J rs .ret S=finish P p J rs S:=rfl
theorem ae0{P:Program}{p:ax}{J:Nat}{rs:List ResultVar}{t:TypeId}{x:D}:vI P p J rs (.panic t x) S=xw p J t x S:=rfl
end
def xV(all:List Oper)(o:Oper):Option Nat:=
 match o.guard with
 |some (j,_)=>lG all j
 |none=>none
noncomputable def qI(X:Ctx)(md:Bool)(S:St)(d:Option Nat)(all r:List Oper)(k:Kt):Option eZ->cd
 |some ⟨.ret x,es,_⟩=>runK X md all r (({S with mem:=bB S.mem es}:St).put d true x) k
 |some ⟨.panic t x,es,_⟩=>k (.panic t x) {S with mem:=bB S.mem es}
 |none=>none
def Jo(S:St)(k:Kt):Bool×AV->cd
 |(true,.gw t d)=>k (.panic t d) S
 |_=>none
noncomputable def uR(X:Ctx)(md:Bool)(S:St)(o:Oper)(all r:List Oper)(k:Kt):Op->cd
 | .call {callee:=.value M,args,..}=>qI X md S o.dst all r k (cF X (ah X) S o args.toList (S.aq M))
 | .panic x=>Jo S k (S.aq x)
 |_=>none
noncomputable def qJ(X:Ctx)(md:Bool)(S:St)(o:Oper)(all r:List Oper)(k:Kt):du->cd
 | .val c x=>if (gn S o&&c)=true then runK X md all r (S.put o.dst true x) k else none
 | .dg c x e=>if (gn S o&&c)=true then runK X md all r (({S with mem:=Mem.set S.mem e}:St).put o.dst true x) k else none
 | .no=>uR X md S o all r k o.op
noncomputable def tV(X:Ctx)(md:Bool)(S:St)(o:Oper)(all r:List Oper)(k:Kt)(b:Bool):du->cd
 | .val c x=>if b=true->(gn S o&&c)=true then runK X md all r (S.put o.dst b x) k else none
 | .dg c x e=>if b=true then qJ X md S o all r k (.dg c x e)else runK X md all r (S.put o.dst true .bf) k
 | .no=>if b=true then uR X md S o all r k o.op else runK X md all r (S.put o.dst true .bf) k
noncomputable def Eg(X:Ctx)(S:St)(o:Oper)(all r:List Oper)(k:Kt)(H t:Bool):Bool->cd
 |false=>tV X false S o all r k (t == H) (di X.P S o)
 |true=>if (t == H)=true then qJ X true (S.cz (xV all o) H) o all r k (di X.P (S.cz (xV all o) H) o)else runK X true all r ((S.cz (xV all o) (!H)).put o.dst true (.bY [])) k
noncomputable def Jp(X:Ctx)(md:Bool)(S:St)(o:Oper)(all r:List Oper)(k:Kt)(H:Bool):GV->cd
 | .ru t=>Eg X S o all r k H t md
 | .skip=>runK X md all r (S.put o.dst true (.bY [])) k
 | .bad=>none
section
variable {X:Ctx} {f:FuncId} {S:St} {k:Kt} {all r:List Oper} {md:Bool}
theorem xW(o:Oper)(res:du):(andThen (gR X (ah X) S o res) (fB X (ah X) md all r)).bind (λp=>k p.1 p.2)=qJ X md S o all r k res:=by
 cases res with
 |val c x=>simp only[gR,qJ];split<;>rfl
 |dg c x e=>simp only[gR,qJ];split<;>rfl
 |no=>
  simp only[gR,qJ,rr];split
  ·rename_i M args AB O;rw[O];simp only[uR];rcases cF X (ah X) S o args.toList (S.aq M)with _|⟨out,es,ks⟩
   ·rfl
   ·cases out<;>rfl
  ·rename_i x O;rw[O];simp only[uR];generalize S.aq x=v;obtain⟨g,y⟩:=v;cases g<;>cases y<;>rfl
  ·rename_i V AE;unfold uR;split
   ·rename_i heq;exact absurd heq (V _ _ _)
   ·rename_i heq;exact absurd heq (AE _)
   ·rfl
theorem Xt:runK X md all [] S k=k .normal S:=rfl
theorem Up{d:Option Tmp}{op:Op}{ty:TypeId}{pos:String}{I:Array Edge}:runK X md all (⟨d,op,ty,pos,I,none⟩::r) S k=qJ X md S ⟨d,op,ty,pos,I,none⟩ all r k (di X.P S ⟨d,op,ty,pos,I,none⟩):=
 xW _ _
theorem QJ{d:Option Tmp}{op:Op}{ty:TypeId}{pos:String}{I:Array Edge}{j:Nat}{w:Bool}:runK X md all (⟨d,op,ty,pos,I,some (j,w)⟩::r) S k=Jp X md S ⟨d,op,ty,pos,I,some (j,w)⟩ all r k w (pe (oV all S j)):=by
 simp only[runK,fB,m5];generalize pe (oV all S j)=g;cases g with
 |skip=>rfl
 |bad=>rfl
 |ru t=>
  simp only[Jp];cases md with
  |true=>
   simp only[Eg,xV];split
   ·exact xW _ _
   ·rfl
  |false=>
  simp only[Eg];generalize T:di X.P S _=res;cases res with
  |val c x=>simp only[oL,tV];split<;>rfl
  |dg c x e=>
   simp only[oL,tV];split
   ·exact xW _ (.dg c x e)
   ·rfl
  |no=>
   simp only[oL,tV];split
   ·exact xW _ .no
   ·rfl
theorem Uq{d:Option Nat}{c:Prop}[Decidable c]{a b:Option eZ}:qI X md S d all r k (if c then a else b)=if c then qI X md S d all r k a else qI X md S d all r k b:=by split<;>rfl
end
theorem Jq{m:Mem}{A0:Nat}{ρ B:List Nat}{c:Prop}[Decidable c]{a b:Option (Out×List (Nat×ay))}:fA m A0 ρ B (if c then a else b)=if c then fA m A0 ρ B a else fA m A0 ρ B b:=by split<;>rfl
noncomputable def lR(X:Ctx)(md:Bool)(A:Nat×List (List Nat))(S:St)(d:Option Nat)(all r:List Oper)(E:List aX)(k:Kt):Option eZ->cd
 |some ⟨.ret x,es,ks⟩=>kR X md A all r (({S with mem:=bB S.mem es}:St).put d true x) (⟨ks,es,true,x⟩::E) k
 |some ⟨.panic t x,es,ks⟩=>(Qk X md A all r d E ⟨{S with mem:=bB S.mem es},t,x,es,ks⟩).bind λp=>k p.1 p.2
 |none=>none
noncomputable def Ak(X:Ctx)(md:Bool)(A:Nat×List (List Nat))(S:St)(o:Oper)(all r:List Oper)(E:List aX)(k:Kt):Op->cd
 | .call {callee:=.value M,args,..}=>lR X md A S o.dst all r E k (cF X (ah X) S o args.toList (S.aq M))
 |_=>none
noncomputable def tW(X:Ctx)(md:Bool)(A:Nat×List (List Nat))(S:St)(o:Oper)(all r:List Oper)(E:List aX)(k:Kt):du->cd
 | .val c x=>if (gn S o&&c)=true then kR X md A all r (S.put o.dst true x) (⟨iS S o,[],true,x⟩::E) k else none
 | .dg c x e=>if (gn S o&&c&&(iS S o).contains e.key)=true then kR X md A all r (({S with mem:=Mem.set S.mem e}:St).put o.dst true x) (⟨iS S o,[e],true,x⟩::E) k else none
 | .no=>Ak X md A S o all r E k o.op
noncomputable def ph(X:Ctx)(md:Bool)(A:Nat×List (List Nat))(S:St)(d:Option Nat)(all r:List Oper)(E:List aX)(k:Kt):Option eZ->cd
 |some ⟨.ret x,es,ks⟩=>kR X md A all r (({S with mem:=bB S.mem es}:St).put d true x) (⟨ks,es,true,x⟩::E) k
 |_=>none
noncomputable def wF(X:Ctx)(md:Bool)(A:Nat×List (List Nat))(S:St)(o:Oper)(all r:List Oper)(E:List aX)(k:Kt):Op->cd
 | .call {callee:=.value M,args,..}=>ph X md A S o.dst all r E k (cF X (ah X) S o args.toList (S.aq M))
 |_=>none
noncomputable def pk(X:Ctx)(md:Bool)(A:Nat×List (List Nat))(S:St)(o:Oper)(all r:List Oper)(E:List aX)(k:Kt):du->cd
 | .val c x=>if (gn S o&&c)=true then kR X md A all r (S.put o.dst true x) (⟨iS S o,[],true,x⟩::E) k else none
 | .dg c x e=>if (gn S o&&c&&(iS S o).contains e.key)=true then kR X md A all r (({S with mem:=Mem.set S.mem e}:St).put o.dst true x) (⟨iS S o,[e],true,x⟩::E) k else none
 | .no=>wF X md A S o all r E k o.op
noncomputable def qo(X:Ctx)(md:Bool)(A:Nat×List (List Nat))(S:St)(o:Oper)(all r:List Oper)(E:List aX)(k:Kt)(b:Bool):du->cd
 | .val c x=>if b=true->(gn S o&&c)=true then kR X md A all r (S.put o.dst b x) (⟨iS S o,[],b,x⟩::E) k else none
 | .dg c x e=>if b=true then pk X md A S o all r E k (.dg c x e)else kR X md A all r (S.put o.dst true .bf) (⟨[],[],true,.bf⟩::E) k
 | .no=>if b=true then wF X md A S o all r E k o.op else kR X md A all r (S.put o.dst true .bf) (⟨[],[],true,.bf⟩::E) k
noncomputable def Al(X:Ctx)(A:Nat×List (List Nat))(S:St)(o:Oper)(all r:List Oper)(E:List aX)(k:Kt)(H t:Bool):Bool->cd
 |false=>qo X false A S o all r E k (t == H) (di X.P S o)
 |true=>if (t == H)=true then pk X true A (S.cz (xV all o) H) o all r E k (di X.P (S.cz (xV all o) H) o)else kR X true A all r ((S.cz (xV all o) (!H)).put o.dst true (.bY [])) (⟨[],[],true,.bY []⟩::E) k
noncomputable def Eh(X:Ctx)(md:Bool)(A:Nat×List (List Nat))(S:St)(o:Oper)(all r:List Oper)(E:List aX)(k:Kt)(H:Bool):GV->cd
 | .ru t=>Al X A S o all r E k H t md
 | .skip=>kR X md A all r (S.put o.dst true (.bY [])) (⟨[],[],true,.bY []⟩::E) k
 | .bad=>none
section
variable {X:Ctx} {f:FuncId} {S:St} {k:Kt} {all r:List Oper} {md:Bool} {A:Nat×List (List Nat)} {E:List aX}
theorem rE(o:Oper)(res:du):(xF E (fi X (ah X) S o res) (ij X (ah X) md A all r)).bind (λp=>k p.1 p.2)=pk X md A S o all r E k res:=by
 cases res with
 |val c x=>simp only[fi,pk];split<;>rfl
 |dg c x e=>simp only[fi,pk];split<;>rfl
 |no=>
  simp only[fi,pk,n8];split
  ·rename_i M args AB O;rw[O];simp only[wF];rcases cF X (ah X) S o args.toList (S.aq M)with _|⟨out,es,ks⟩
   ·rfl
   ·cases out<;>rfl
  ·rename_i V;unfold wF;split
   ·rename_i heq;exact absurd heq (V _ _ _)
   ·rfl
def CK:List aX->List aX->List aX
 |[],r=>r
 |x::l,r=>CK l (x::r)
theorem FC:∀(l r:List aX),CK l r=l.reverse++r
 |[],_=>rfl
 |x::l,r=>by rw[CK,FC l];simp
theorem aj:kR X md A all [] S E k=if o8 A.2 (CK E [])=true then k .normal S else none:=by
 rw[FC,aeP];simp only[kR,ij];split<;>rfl
theorem Ur{d:Option Tmp}{op:Op}{ty:TypeId}{pos:String}{I:Array Edge}:kR X md A all (⟨d,op,ty,pos,I,none⟩::r) S E k=tW X md A S ⟨d,op,ty,pos,I,none⟩ all r E k (di X.P S ⟨d,op,ty,pos,I,none⟩):=by
 simp only[kR,ij,kP];generalize O:(⟨d,op,ty,pos,I,none⟩:Oper)=o;have AF:o.guard=none:=by subst O;rfl
 have U:eE X (ah X) md all S o=fi X (ah X) S o (di X.P S o):=by unfold eE;rw[AF]
 generalize T:di X.P S o=res;rw[T]at U;cases res with
 |val c x=>simp only[Cu,nz,U,tW];exact rE _ (.val c x)
 |dg c x e=>simp only[Cu,nz,U,tW];exact rE _ (.dg c x e)
 |no=>
  simp only[Cu,IL,tW];split
  ·rename_i M args AB A1;rw[A1];simp only[Ak];cases AC:cF X (ah X) S o args.toList (S.aq M)with
   |none=>
    simp only[vq,nz,U,fi,n8,A1,AC,lR];rfl
   |some res=>
    obtain⟨out,es,ks⟩:=res;cases out with
    |ret x=>
     simp only[vq,nz,U,fi,n8,A1,AC,lR];rfl
    |panic t x=>rfl
  ·rename_i V;simp only[nz,U,fi,n8];unfold Ak;split
   ·rename_i heq;exact absurd heq (V _ _ _)
   ·rfl
theorem QK{d:Option Tmp}{op:Op}{ty:TypeId}{pos:String}{I:Array Edge}{j:Nat}{w:Bool}:kR X md A all (⟨d,op,ty,pos,I,some (j,w)⟩::r) S E k=Eh X md A S ⟨d,op,ty,pos,I,some (j,w)⟩ all r E k w (pe (oV all S j)):=by
 simp only[kR,ij,kP,nz,eE];generalize pe (oV all S j)=g;cases g with
 |skip=>rfl
 |bad=>rfl
 |ru t=>
  simp only[Eh];cases md with
  |true=>
   simp only[Al,xV];split
   ·exact rE _ _
   ·rfl
  |false=>
  simp only[Al];generalize T:di X.P S _=res;cases res with
  |val c x=>simp only[rA,qo];split<;>rfl
  |dg c x e=>
   simp only[rA,qo];split
   ·exact rE _ (.dg c x e)
   ·rfl
  |no=>
   simp only[rA,qo];split
   ·exact rE _ .no
   ·rfl
theorem QL{d:Option Nat}{c:Prop}[Decidable c]{a b:Option eZ}:lR X md A S d all r E k (if c then a else b)=if c then lR X md A S d all r E k a else lR X md A S d all r E k b:=by split<;>rfl
theorem QM{d:Option Nat}{c:Prop}[Decidable c]{a b:Option eZ}:ph X md A S d all r E k (if c then a else b)=if c then ph X md A S d all r E k a else ph X md A S d all r E k b:=by split<;>rfl
end
def jm(n:Nat)(p:ax)(args:List AV)(cs:List ay):Bool:=
 decide (args.length<=n)&&decide (cs.length<=100)&&p.sites.all (λk=>decide (100<=k))&&decide p.sites.Nodup
theorem aw{X:Ctx}{f:FuncId}{fn:Func}{c:Code}{args:List AV}{cs:List ay}{n:Nat}{rs:List ResultVar}{p:ax}(A2:X.ov=none)(A3:X.wm f=none)(A4:X.P.funcs[f]?=some fn)(A5:fn.body=some c)(A6:vy c=false)(A7:fn.ntmps=n)(A8:fn.results.toList=rs)
 (A9:X.fp f=p) (T:p.split=false) (AA:jm n p args cs=true):ah X f args cs=aN X f c (entry n X.gl args cs p.sites) (vI X.P p cs.length rs):=by
 subst A9;rw[Jn A2 A3 A4 A5 A6,T];simp only[gF,wE];subst A7;subst A8;rw[abT (by simpa only[jm]using AA)];simp only[aN];rcases fM X f c _ with _|⟨e,S⟩
 ·rfl
 ·cases e<;>rfl
theorem FD{X:Ctx}{f:FuncId}{fn:Func}{c:Code}{args:List AV}{cs:List ay}{n:Nat}{rs:List ResultVar}{p:ax}(A2:X.ov=none)(A3:X.wm f=none)(A4:X.P.funcs[f]?=some fn)(A5:fn.body=some c)(A6:vy c=false)(A7:fn.ntmps=n)(A8:fn.results.toList=rs)
 (A9:X.fp f=p) (T:p.split=true) (AA:jm n p args cs=true):ah X f args cs=gF (λargs=>aN X f c (entry n X.gl args cs p.sites) (vI X.P p cs.length rs)) args true:=by
 subst A9;rw[Jn A2 A3 A4 A5 A6,T];subst A7;subst A8;have key:∀Z:List AV,Z.length=args.length->wE X f fn c cs Z=aN X f c (entry fn.ntmps X.gl Z cs (X.fp f).sites) (vI X.P (X.fp f) cs.length fn.results.toList):=by
  intro Z Y;simp only[wE];rw[abT (by rw[Y];simpa only[jm]using AA)];simp only[aN];rcases fM X f c _ with _|⟨e,S⟩
  ·rfl
  ·cases e<;>rfl
 simp only[gF];split
 ·rename_i r;rw[key _ (by simp),key _ (by simp)]
 ·exact key _ rfl
attribute [simp] di.eq_1
attribute [simp] gn.eq_1
attribute [simp] iB.eq_1 iB.eq_2
attribute [simp] Go.Op.operands.eq_1 Go.Op.operands.eq_2 Go.Op.operands.eq_3 Go.Op.operands.eq_4 Go.Op.operands.eq_5 Go.Op.operands.eq_6 Go.Op.operands.eq_7 Go.Op.operands.eq_8 Go.Op.operands.eq_9 Go.Op.operands.eq_10 Go.Op.operands.eq_11 Go.Op.operands.eq_12 Go.Op.operands.eq_13 Go.Op.operands.eq_14 Go.Op.operands.eq_15 Go.Op.operands.eq_16 Go.Op.operands.eq_17 Go.Op.operands.eq_18 Go.Op.operands.eq_19 Go.Op.operands.eq_20 Go.Op.operands.eq_21 Go.Op.operands.eq_22 Go.Op.operands.eq_23 Go.Op.operands.eq_24 Go.Op.operands.eq_25 Go.Op.operands.eq_26 Go.Op.operands.eq_27 Go.Op.operands.eq_28 Go.Op.operands.eq_29 Go.Op.operands.eq_30 Go.Op.operands.eq_31 Go.Op.operands.eq_32 Go.Op.operands.eq_33 Go.Op.operands.eq_34 Go.Op.operands.eq_35 Go.Op.operands.eq_36 Go.Op.operands.eq_37 Go.Op.operands.eq_38 Go.Op.operands.eq_39 Go.Op.operands.eq_40 Go.Op.operands.eq_41 Go.Op.operands.eq_42 Go.Op.operands.eq_43
attribute [simp] St.aq.eq_1 St.aq.eq_2 St.aq.eq_3 St.aq.eq_4
attribute [simp] Env.lk.eq_1 Env.lk.eq_2
attribute [simp] St.put.eq_1 St.put.eq_2
attribute [simp] Mem.get.eq_1 Mem.get.eq_2
attribute [simp] Mem.set.eq_1 Mem.set.eq_2
attribute [simp] AV.ly.eq_1 AV.ly.eq_2 AV.ly.eq_3
attribute [simp] mU.eq_1 mU.eq_2 mU.eq_3 mU.eq_4 mU.eq_5 mU.eq_6
attribute [simp] AV.cells.eq_1 AV.cells.eq_2 AV.cells.eq_3
attribute [simp] mb.eq_1 mb.eq_2 mb.eq_3 mb.eq_4 mb.eq_5
attribute [simp] oS.eq_1 oS.eq_2 oS.eq_3
attribute [simp] oD.eq_1 iZ.eq_1 iZ.eq_2 iZ.eq_3
attribute [simp] mr.eq_1 mr.eq_2
attribute [simp] rf.eq_1 rf.eq_2 rf.eq_3 rf.eq_4
attribute [simp] zt.eq_1 zt.eq_2 zt.eq_3 zt.eq_4
attribute [simp] pX.eq_1 pX.eq_2 pX.eq_3 pX.eq_4 pX.eq_5 pX.eq_6 pX.eq_7 pX.eq_8 pX.eq_9
attribute [simp] eP.eq_1 eP.eq_2 eP.eq_3 eP.eq_4 eP.eq_5 eP.eq_6 eP.eq_7 eP.eq_8 eP.eq_9 eP.eq_10 eP.eq_11 eP.eq_12 eP.eq_13 eP.eq_14 eP.eq_15 eP.eq_16
attribute [simp] mw.eq_1 mw.eq_2 mw.eq_3 mw.eq_4 mw.eq_5 mw.eq_6 mw.eq_7 mw.eq_8
attribute [simp] Hu.eq_1
attribute [simp] tj.eq_1 tj.eq_2
attribute [simp] Dr.eq_1 Dr.eq_2
attribute [simp] oV.eq_1
attribute [simp] AR.eq_1
def QN{α:Type}(y:α):Option (List α)->Option (List α)
 |some E=>some (y::E)
 |none=>none
@[simp] theorem ajq{α:Type}(y:α)(E:List α):QN y (some E)=some (y::E):=rfl
@[simp] theorem ajr{α:Type}(y:α):QN y none=none:=rfl
@[simp] theorem toDs_nil:toDs []=some []:=rfl
@[simp] theorem toDs_d(y r):toDs (.d y::r)=QN y (toDs r):=by
 cases h:toDs r with
 |none=>exact toDs.eq_3 _ _ (λ_ _ _ H=>by rw[h]at H;cases H)
 |some E=>exact toDs.eq_2 _ _ _ h
@[simp] theorem toDs_vec(a b c d r):toDs (.vec a b c d::r)=none:=by rw[toDs.eq_def]
@[simp] theorem toDs_ptr(a b c r):toDs (.ptr a b c::r)=none:=by rw[toDs.eq_def]
@[simp] theorem toDs_lit(a r):toDs (.lit a::r)=none:=by rw[toDs.eq_def]
@[simp] theorem toDs_fn(a b r):toDs (.fn a b::r)=none:=by rw[toDs.eq_def]
@[simp] theorem toDs_nn(r):toDs (.nn::r)=none:=by rw[toDs.eq_def]
@[simp] theorem toDs_junk(r):toDs (.bf::r)=none:=by rw[toDs.eq_def]
attribute [simp] ss.eq_1 ss.eq_2
attribute [simp] H9.eq_1 H9.eq_2 H9.eq_3 H9.eq_4
attribute [simp] lA.eq_1 lA.eq_2 lA.eq_3 lA.eq_4 lA.eq_5 lA.eq_6 PY.eq_1
attribute [simp] nX.eq_1 nX.eq_2 nX.eq_3 nX.eq_4 nX.eq_5
attribute [simp] rU.eq_1
attribute [simp] zc.eq_1 PG.eq_1 PG.eq_2 WH.eq_1 WH.eq_2
attribute [simp] ux.eq_1 ux.eq_2
attribute [simp] gJ.eq_1 gJ.eq_2 gJ.eq_3 gJ.eq_4 gJ.eq_5
attribute [simp] xj.eq_1
attribute [simp] xk.eq_1
attribute [simp] Fe.eq_1 Fe.eq_2
attribute [simp] mV.eq_1 mV.eq_2 mV.eq_3 mV.eq_4
attribute [simp] Du.eq_1
attribute [simp] qB.eq_1 qB.eq_2
attribute [simp] j2.eq_1
attribute [simp] q8.eq_1 q8.eq_2
attribute [simp] su.eq_1 su.eq_2
attribute [simp] mf.eq_1 mf.eq_2 mf.eq_3 mf.eq_4 mf.eq_5 mf.eq_6
attribute [simp] sr.eq_1
attribute [simp] oG.eq_1 oG.eq_2 oG.eq_3
attribute [simp] tp.eq_1 tp.eq_2 we.eq_1 we.eq_2 AS.eq_1
attribute [simp] pY.eq_1 pY.eq_2 pY.eq_3 pY.eq_4
attribute [simp] kG.eq_1 kG.eq_2 kG.eq_3 kG.eq_4 kG.eq_5
attribute [simp] bound.eq_1 bound.eq_2 bound.eq_3
attribute [simp] bk.eq_1 bk.eq_2
attribute [simp] jB.eq_1 jB.eq_2 jB.eq_3 jB.eq_4 jB.eq_5 jB.eq_6 jB.eq_7 jB.eq_8 jB.eq_9 jB.eq_10 jB.eq_11 jB.eq_12
attribute [simp] D.cells.eq_1 D.cells.eq_2
attribute [simp] D.size.eq_1 D.size.eq_2
attribute [simp] D.flat.eq_1 D.flat.eq_2
mutual
@[simp] theorem Xu:∀x:D,zQ x x=true
 | .int ..=>by simp[zQ]
 | .bool _=>by simp[zQ]
 | .str _=>by simp[zQ]
 | .list xs=>by simp[zQ,An xs]
 | .agg xs=>by simp[zQ,An xs]
 | .yA=>by simp[zQ]
@[simp] theorem An:∀x:List D,xC x x=true
 |[]=>by simp[xC]
 |x::r=>by simp[xC,Xu x,An r]
end
attribute [simp] Fp.eq_1 Fp.eq_2 Fp.eq_3 A0.eq_1 A0.eq_2 zR.eq_1 zR.eq_2 Hx.eq_1 Hx.eq_2 qh.eq_1 qh.eq_2 Qi.eq_1 Qi.eq_2 xD.eq_1 xD.eq_2 xD.eq_3
attribute [simp] cF.eq_1 cF.eq_2
attribute [simp] dp.eq_1 dp.eq_2 ny.eq_1 ig.eq_1 AZ.eq_1 sS.eq_1 r8.eq_1
attribute [simp] collect.eq_1 collect.eq_2 collect.eq_3
attribute [simp] kO.eq_1 kO.eq_2
attribute [simp] tI.eq_1 tI.eq_2
attribute [simp] iM.eq_1 iM.eq_2 iM.eq_3 iM.eq_4 iM.eq_5 iM.eq_6 iM.eq_7 iM.eq_8 iM.eq_9 iM.eq_10 iM.eq_11 iM.eq_12
attribute [simp] m4.eq_1 m4.eq_2 m4.eq_3 m4.eq_4 m4.eq_5 m4.eq_6 m4.eq_7
attribute [simp] sR.eq_1 sR.eq_2 sR.eq_3 sR.eq_4
attribute [simp] lF.eq_1 lF.eq_2
attribute [simp] gQ.eq_1 gQ.eq_2 BN.eq_1 BN.eq_2
attribute [simp] n7.eq_1 n7.eq_2
attribute [simp] vj.eq_1 vj.eq_2 vj.eq_3
attribute [simp] vk.eq_1 vk.eq_2
attribute [simp] kj.eq_1 kj.eq_2
attribute [simp] fA.eq_1 fA.eq_2
attribute [simp] xB.eq_1 xB.eq_2
attribute [simp] zP.eq_1 zP.eq_2
attribute [simp] nM.eq_1 nM.eq_2 nM.eq_1 nM.eq_2
attribute [simp] lP.eq_1 lP.eq_2 lP.eq_3
attribute [simp] dI.eq_1 dI.eq_2 dI.eq_3 dI.eq_4 dI.eq_5 dI.eq_6 dI.eq_7 dI.eq_8 dI.eq_9 dI.eq_10 dI.eq_11 dI.eq_12
attribute [simp] ie.eq_1 ie.eq_2 ie.eq_3 ie.eq_4 ie.eq_5 ie.eq_6
attribute [simp] upO.eq_1 upO.eq_2
attribute [simp] up.eq_1 up.eq_2 up.eq_3 up.eq_4 up.eq_5 up.eq_6 up.eq_7 up.eq_8 up.eq_9 up.eq_10 up.eq_11 up.eq_12
attribute [simp] DB.eq_1 DB.eq_2 DB.eq_3
attribute [simp] iC.eq_1 iC.eq_2
attribute [simp] base.eq_1 base.eq_2
attribute [simp] bB.eq_1 bB.eq_2
attribute [simp] DV.eq_1 DV.eq_2
attribute [simp] Gh.go.eq_1 Gh.go.eq_2 Gh.go.eq_3 Gh.go.eq_4
attribute [simp] St.xA.eq_1 Fq.eq_1 Fq.eq_2 tL.eq_1 tL.eq_2 WW.eq_1 WW.eq_2 uz.eq_1 uz.eq_2
attribute [simp] finish.eq_1
attribute [simp] tB.eq_1 tB.eq_2
attribute [simp] zA.eq_1 zA.eq_2
attribute [simp] p9.eq_1
attribute [simp] St.xq.eq_1
attribute [simp] wh.eq_1 wh.eq_2 wh.eq_3
attribute [simp] DH.eq_1 DH.eq_2
attribute [simp] mi.eq_1 mi.eq_2 mi.eq_3 mi.eq_4 mi.eq_5 mi.eq_6 mi.eq_7 mi.eq_8 mi.eq_9 mi.eq_10 mi.eq_11 mi.eq_12
attribute [simp] St.trim.eq_1
attribute [simp] nK.eq_1 nK.eq_2
attribute [simp] mapM.eq_1 mapM.eq_2
attribute [simp] p8.eq_1 p8.eq_2 p8.eq_3
attribute [simp] lE.eq_1 lE.eq_2 lE.eq_3 lE.eq_4 lE.eq_5 lE.eq_6 lE.eq_7 lE.eq_8 lE.eq_9 lE.eq_10 lE.eq_11 lE.eq_12
attribute [simp] lV.eq_1 lV.eq_2
attribute [simp] oneOf.eq_1 oneOf.eq_2
attribute [simp] AV.norm.eq_1 AV.norm.eq_2 AV.norm.eq_3 AV.norm.eq_4
attribute [simp] toD1.eq_1 toD1.eq_2 toD1.eq_3 toD1.eq_4
attribute [simp] toDsN.eq_1 toDsN.eq_2
attribute [simp] vw.eq_1 vw.eq_2 vw.eq_3 vw.eq_4 vw.eq_5 vw.eq_6 vw.eq_7 vw.eq_8 vw.eq_9 vw.eq_10 vw.eq_11 vw.eq_12
attribute [simp] ef.eq_1 ef.eq_2
attribute [simp] TK.agg.eq_1 TK.agg.eq_2 TK.agg.eq_3
attribute [simp] qJ.eq_1 qJ.eq_2 qJ.eq_3
attribute [simp] tV.eq_1 tV.eq_2 tV.eq_3
attribute [simp] Jp.eq_1 Jp.eq_2 Jp.eq_3
attribute [simp] uR.eq_1 uR.eq_2 uR.eq_3
attribute [simp] qI.eq_1 qI.eq_2 qI.eq_3
attribute [simp] Jo.eq_1 Jo.eq_2
attribute [simp] Ul.eq_1 Ul.eq_2
attribute [simp] Aj.eq_1 Aj.eq_2
attribute [simp] rS.eq_1
attribute [simp] tt.eq_1 Ik.eq_1 Ti.eq_1 Ti.eq_2 zeroOf.eq_1 zeroOf.eq_2 zeroOf.eq_3
attribute [simp] St.xr.eq_1 St.xr.eq_2
attribute [simp] ri.eq_1 ri.eq_2
attribute [simp] j4.eq_1 j4.eq_2
attribute [simp] jH.eq_1 jH.eq_2
attribute [simp] uB.eq_1 uB.eq_2
attribute [simp] rl.eq_1 rl.eq_2
attribute [simp] mW.eq_1 mW.eq_2
attribute [simp] kL.eq_1 kL.eq_2
attribute [simp] tG.eq_1 tG.eq_2
attribute [simp] tH.eq_1 tH.eq_2
attribute [simp] gU.eq_1 gU.eq_2
attribute [simp] dN.eq_1 dN.eq_2
attribute [simp] gF.eq_1 gF.eq_2 gF.eq_3
attribute [simp] oo.eq_1 oo.eq_2
attribute [simp] j6.eq_1
attribute [simp] iS.eq_1 DN.eq_1 DN.eq_2 DN.eq_3
attribute [simp] sQ.eq_1 sQ.eq_2
attribute [simp] b6.eq_1 b6.eq_2 b6.eq_3 b6.eq_4
attribute [simp] tW.eq_1 tW.eq_2 tW.eq_3
attribute [simp] qo.eq_1 qo.eq_2 qo.eq_3
attribute [simp] Eh.eq_1 Eh.eq_2 Eh.eq_3
attribute [simp] Ak.eq_1 Ak.eq_2 pk.eq_1 pk.eq_2 pk.eq_3 wF.eq_1 wF.eq_2 ph.eq_1 ph.eq_2
attribute [simp] lR.eq_1 lR.eq_2 lR.eq_3
attribute [simp] kK.eq_1 kK.eq_2 kK.eq_3 kK.eq_4 kK.eq_5 kK.eq_6 kK.eq_7 kK.eq_8 kK.eq_9 kK.eq_10 kK.eq_11 kK.eq_12
attribute [simp] nY.eq_1 nY.eq_2
attribute [simp] St.freeze.eq_1
attribute [simp] St.jS.eq_1
attribute [simp] Go.Call.operands.eq_1
attribute [simp] D.isByte.eq_1 D.isByte.eq_2
attribute [simp] tf.eq_1 tf.eq_2 tf.eq_3 tf.eq_4
attribute [simp] ec.eq_1 ec.eq_2 ec.eq_3
attribute [simp] F3.eq_1 F3.eq_2
attribute [simp] Um Un Xq ga QG QH QI Ls Uo acC jl aeR aeS aeT aeU aeV aeW aeX acD acE acF acG Xr Xs aeY aeZ ae0 Xt Up QJ Uq Jq Ur QK QL QM
attribute [simp] Fm.eq_1 Fm.eq_2 qg.eq_1 qg.eq_2 dB.eq_1 dB.eq_2
attribute [simp] Eg.eq_1 Eg.eq_2
attribute [simp] Al.eq_1 Al.eq_2
attribute [simp] xV.eq_1
attribute [simp] Env.kn.eq_1 Env.kn.eq_2 St.kn.eq_1
attribute [simp] o8.eq_1 xy.eq_1 xy.eq_2 xy.eq_3 Fk.eq_1 Fk.eq_2 Fj.eq_1 Fj.eq_2 CK.eq_1 CK.eq_2 qc.eq_1
attribute [simp] mF.eq_1 mF.eq_2 n9.eq_1
@[simp] theorem avv(t:Bool):pe (some (true,.d (.bool t)))=.ru t:=rfl
@[simp] theorem avw:pe (some (true,.bY []))=.skip:=rfl
attribute [simp] lG.eq_1
attribute [simp] St.cz St.prune keyOf St.leave St.enter qa AW Iz St.zz DK gO jm entry dead dO lX lW D.at D.cell D.setCells xw
@[simp] theorem ajs(m ρ bor nv):∀A:List D,ri m ρ bor nv (A.map .d)=A.map .d
 |[]=>rfl
 |d::r=>by simp[ajs m ρ bor nv r]
@[simp] theorem ajt(ρ I):∀A:List D,uB ρ I (A.map .d)=A.map .d
 |[]=>rfl
 |d::r=>by simp[ajt ρ I r]
@[simp] theorem Us:∀A:List D,kL (A.map .d)=[]
 |[]=>rfl
 |d::r=>by simp[Us r]
@[simp] theorem Xv(k v):∀A:List D,rl k v (A.map .d)=none
 |[]=>rfl
 |d::r=>by simp[Xv k v r]
@[simp] theorem acH(k v o l):∀A:List D,mW k v o l (A.map .d)=A.map .d
 |[]=>rfl
 |d::r=>by simp[acH k v o l r]
@[simp] theorem QO:∀A:List D,j4 (A.map .d)=jH A
 |[]=>rfl
 |d::r=>by simp[QO r]
attribute [simp] List.take_of_length_le
@[simp] def Code.at:Code->List Nat->Code
 |c,[]=>c
 | .seq a b,i::p=>if i=0 then Code.at a p else Code.at b p
 | .cond _ a b,i::p=>if i=0 then Code.at a p else Code.at b p
 | .block _ c,_::p=>Code.at c p
 | .loop c,_::p=>Code.at c p
 |c,_=>c
@[simp] theorem asO:List.range 2=[0,1]:=rfl
@[simp] theorem asP:List.range 3=[0,1,2]:=rfl
@[simp] theorem asQ:List.range 4=[0,1,2,3]:=rfl
@[simp] theorem asS:List.range 5=[0,1,2,3,4]:=rfl
@[simp] theorem asT:List.range 6=[0,1,2,3,4,5]:=rfl
@[simp] theorem asU(a b:Int):(a == b)=decide (a=b):=by by_cases h:a=b<;>simp[h]
def aI(n:Int):Prop:= -9223372036854775808<=n/\n<=9223372036854775807
theorem aH{n:Int}(h:aI n):IntKind.i64.wrap n=n:=IntWalk.i64_in _ (by unfold aI at h;omega)
def q1(m:Nat):Nat:=m/4294967296%4294967296
def q2(m:Nat):Nat:=m/18446744073709551616%4294967296
def q3(m:Nat):Nat:=m/79228162514264337593543950336%4294967296
def q0(m:Nat):Nat:=m%4294967296
def jo(z:Int):Int×Bool:=if-9223372036854775808<=z/\z<=9223372036854775807 then (z,true)else (0,false)
def vJ(a b:Int):Int×Int:=if b=0 then (0,3)else if a= -9223372036854775808/\b= -1 then (0,2)else (a.tdiv b,0)
def xX(a b:Int):Int×Int:=if b=0 then (0,3)else (a.tmod b,0)
theorem CL(a b:Int):a.tdiv b=(if decide (a<0)=decide (b<0)then ((a.natAbs/b.natAbs:Nat):Int)else-((a.natAbs/b.natAbs:Nat):Int)):=by
 rcases Int.lt_or_le a 0 with D|D<;>rcases Int.lt_or_le b 0 with A|A
 ·rw[abT (by simp[D,A])];obtain⟨m,rfl⟩:∃m:Nat,a= -(m:Int):=⟨a.natAbs,by omega⟩;obtain⟨n,rfl⟩:∃n:Nat,b= -(n:Int):=⟨b.natAbs,by omega⟩;simp[Int.neg_tdiv,Int.tdiv_neg]
 ·rw[abN (by simp[D];omega)];obtain⟨m,rfl⟩:∃m:Nat,a= -(m:Int):=⟨a.natAbs,by omega⟩;obtain⟨n,rfl⟩:∃n:Nat,b=(n:Int):=⟨b.natAbs,by omega⟩;simp[Int.neg_tdiv]
 ·rw[abN (by simp[A];omega)];obtain⟨m,rfl⟩:∃m:Nat,a=(m:Int):=⟨a.natAbs,by omega⟩;obtain⟨n,rfl⟩:∃n:Nat,b= -(n:Int):=⟨b.natAbs,by omega⟩;simp[Int.tdiv_neg]
 ·rw[abT (by simp;omega)];obtain⟨m,rfl⟩:∃m:Nat,a=(m:Int):=⟨a.natAbs,by omega⟩;obtain⟨n,rfl⟩:∃n:Nat,b=(n:Int):=⟨b.natAbs,by omega⟩;simp
theorem Xw(a b:Int):a.tmod b=(if a<0 then-((a.natAbs%b.natAbs:Nat):Int)else ((a.natAbs%b.natAbs:Nat):Int)):=by
 have A:a.tmod b=a.tmod (b.natAbs:Int):=by
  rcases Int.lt_or_le b 0 with A|A
  ·obtain⟨n,rfl⟩:∃n:Nat,b= -(n:Int):=⟨b.natAbs,by omega⟩;simp[Int.tmod_neg]
  ·obtain⟨n,rfl⟩:∃n:Nat,b=(n:Int):=⟨b.natAbs,by omega⟩;simp
 rw[A];split
 ·obtain⟨m,rfl⟩:∃m:Nat,a= -(m:Int):=⟨a.natAbs,by omega⟩;rw[Int.neg_tmod,Int.natAbs_neg];simp only[Int.natAbs_natCast];rw[<-Int.ofNat_tmod]
 ·obtain⟨m,rfl⟩:∃m:Nat,a=(m:Int):=⟨a.natAbs,by omega⟩;simp only[Int.natAbs_natCast];rw[<-Int.ofNat_tmod]
theorem acI(a b:Int):a*b=(if decide (a<0)=decide (b<0)then ((a.natAbs*b.natAbs:Nat):Int)else-((a.natAbs*b.natAbs:Nat):Int)):=by
 rcases Int.lt_or_le a 0 with D|D<;>rcases Int.lt_or_le b 0 with A|A
 ·rw[abT (by simp[D,A])];obtain⟨m,rfl⟩:∃m:Nat,a= -(m:Int):=⟨a.natAbs,by omega⟩;obtain⟨n,rfl⟩:∃n:Nat,b= -(n:Int):=⟨b.natAbs,by omega⟩;simp[Int.neg_mul,Int.mul_neg]
 ·rw[abN (by simp[D];omega)];obtain⟨m,rfl⟩:∃m:Nat,a= -(m:Int):=⟨a.natAbs,by omega⟩;obtain⟨n,rfl⟩:∃n:Nat,b=(n:Int):=⟨b.natAbs,by omega⟩;simp[Int.neg_mul]
 ·rw[abN (by simp[A];omega)];obtain⟨m,rfl⟩:∃m:Nat,a=(m:Int):=⟨a.natAbs,by omega⟩;obtain⟨n,rfl⟩:∃n:Nat,b= -(n:Int):=⟨b.natAbs,by omega⟩;simp[Int.mul_neg]
 ·rw[abT (by simp;omega)];obtain⟨m,rfl⟩:∃m:Nat,a=(m:Int):=⟨a.natAbs,by omega⟩;obtain⟨n,rfl⟩:∃n:Nat,b=(n:Int):=⟨b.natAbs,by omega⟩;simp
def dk(b:Bool):Int:=if b=true then 1 else 0
@[simp] def BY(p:Int×Bool×Int):AV:=.bY [.d (.int .i64 p.1),.d (.bool p.2.1),.d (.int .i64 p.2.2)]
def jC:Int×Bool×Int:=(0,false, -1)
def qp(p:Int×Bool):Int×Bool×Int:=if p.2=true then (p.1,false,0)else (0,false,2)
def oq(p:Int×Int):Int×Bool×Int:=if p.2=3 then (0,false,1)else if p.2=0 then (p.1,false,0)else (0,false,2)
def kh(op a:Int)(t:Bool):Int×Bool×Int:=
 if t=true then (if a≠0/\a≠1 then jC else if op=7 then (dk (decide (a=0)),true,0)else jC)
 else if op=6 then qp (jo (0-a))else jC
def CM(op a b:Int):Int×Bool×Int:=
 if op=13 then (dk (decide (a=b)),true,0)else if op=14\/op=20 then (dk (decide (a≠b)),true,0)
 else if op=19 then (dk (decide (a=1/\b=1)),true,0)else if op=21 then (dk (decide (a=1\/b=1)),true,0)else jC
def Ao(op a b:Int):Int×Bool×Int:=
 if op=8 then qp (jo (a+b))else if op=9 then qp (jo (a-b))else if op=10 then qp (jo (a*b))else if op=11 then oq (vJ a b)else if op=12 then oq (xX a b)
 else if op=13 then (dk (decide (a=b)),true,0)else if op=14 then (dk (decide (a≠b)),true,0)else if op=15 then (dk (decide (a<b)),true,0)
 else if op=16 then (dk (decide (b<a)),true,0)else if op=17 then (dk (decide (a<=b)),true,0)else if op=18 then (dk (decide (b<=a)),true,0)else jC
def ik(op a b:Int)(t:Bool):Int×Bool×Int:=
 if t=true then (if (a≠0/\a≠1)\/(b≠0/\b≠1)then jC else CM op a b)else Ao op a b
def yL(e b:Int):Int:=if e<b then e+1 else e
def sG(k a b q e:Int):List Int:=
 if k=10 then (if a=0 then [a,b,0,0]else [a,b,dk (decide (b<=yL e b)),yL e b])
 else if k=11 then (if a=0 then (if q=0 then [a,b,q,e]else [a,b,dk (decide (yL e b<b)),yL e b])else [a,b,1,0])
 else [a,b,q,e]
def ZQ(a b q e p r:Int):List Int:=
 let E:=if a≠0/\p=0/\r=0 then 1 else r
 let D:=if a≠0/\p=0/\r=0 then 0 else e
 if E=0 then [a,b,q,D,dk (decide (a≠0)),E]else [a,b,dk (decide (D<b)),yL D b,dk (decide (a≠0)),dk (decide (D<b))]
def ZR(a s v q c p:Int):List Int:=
 let A:=if s≠0 then 0 else if a≠0/\p=0/\c<9223372036854775807 then c+1 else c
 [a,s,v,dk (decide (v<=A)),A,dk (decide (a≠0))]
def ZS(a s v q c p:Int):List Int:=
 let A:=if s≠0 then v else if a≠0/\p=0/\ -9223372036854775808<c then c-1 else c
 [a,s,v,dk (decide (A<=0)),A,dk (decide (a≠0))]
def oa(k a b q e p r:Int):List Int:=
 if k=12 then ZQ a b q e p r else if k=13 then ZR a b q e p r else if k=14 then ZS a b q e p r else [a,b,q,e,p,r]
def sH(k a b q:Int):List Int:=
 if k=15 then [a,dk (decide (a≠0/\q=0)),dk (decide (a≠0))]else if k=16 then [a,dk (decide (a=0/\q≠0)),dk (decide (a≠0))]
 else if k=17 then [a,b,dk (decide (a≠0\/(q≠0/\b=0)))]else if k=18 then [a,b,dk (decide (b=0/\(q≠0\/a≠0)))]else [a,b,q]
def gH(k:Int):List Int->List Int
 |[a,b,q]=>sH k a b q
 |[a,b,q,e]=>sG k a b q e
 |[a,b,q,e,p,r]=>oa k a b q e p r
 |c=>c
end Go.Am
end
section
namespace Go.Am
inductive Ends(succ:Nat->List Nat):Nat->Prop
 |mk (i:Nat) (h:∀j∈succ i,Ends succ j):Ends succ i
inductive Way(succ:Nat->List Nat):Nat->Nat->Prop
 |one {i j} (h:j∈succ i):Way succ i j
 |more {i j k} (h:Way succ i j) (J:k∈succ j):Way succ i k
theorem Way.trans{succ:Nat->List Nat}{i j k:Nat}(h:Way succ i j)(J:Way succ j k):Way succ i k:=by
 induction J with
 |one M=>exact .more h M
 |more _ M ih=>exact .more ih M
def fresh(A:List Nat):Nat:=A.countP (·== 0)
structure A9(succ:Nat->List Nat)(A H:List Nat):Prop where
 len:H.length=A.length
 ae1:∀i,H.getD i 0=1↔A.getD i 0=1
 black:∀i,A.getD i 0=2->H.getD i 0=2
 ae2:(∀i,A.getD i 0<=2)->∀i,H.getD i 0<=2
 ends:(∀i,A.getD i 0=2->Ends succ i)->∀i,H.getD i 0=2->Ends succ i
 fresh:fresh H<=fresh A
theorem A9.refl(succ:Nat->List Nat)(s:List Nat):A9 succ s s:=⟨rfl,λ_=>Iff.rfl,λ_ h=>h,λh=>h,λh=>h,abO _⟩
theorem A9.trans{succ:Nat->List Nat}{a b c:List Nat}(h:A9 succ a b)(k:A9 succ b c):A9 succ a c:=
 ⟨by rw[k.len,h.len],λi=>(k.ae1 i).trans (h.ae1 i),λi hi=>k.black i (h.black i hi),λN=>k.ae2 (h.ae2 N),λhe=>k.ends (h.ends he),ahI k.fresh h.fresh⟩
def left(g:List Bool):Nat:=g.countP (·== false)
structure xY(succ:Nat->List Nat)(s D:List Bool×Bool):Prop where
 len:D.1.length=s.1.length
 ends:(∀i<s.1.length,s.1.getD i true=true->Ends succ i)->∀i<s.1.length,D.1.getD i true=true->Ends succ i
 less:D.2=true->s.2=false->left D.1<left s.1
 le:left D.1<=left s.1
 more:s.2=true->D.2=true
 same:D.2=false->D=s
theorem xY.trans{succ:Nat->List Nat}{a b c:List Bool×Bool}(h:xY succ a b)(k:xY succ b c):xY succ a c:=
 ⟨by
  rw[k.len,h.len],λhe=>by have:=k.ends;rw[h.len]at this;exact this (h.ends he),λE J=>by
  cases I:b.2 with
  |true=>exact Nat.lt_of_le_of_lt k.le (h.less I J)
  |false=>exact ahA (k.less E I) h.le,ahI k.le h.le,λE=>k.more (h.more E),λE=>by
  cases I:b.2 with
  |true=>rw[k.more I]at E;cases E
  |false=>rw[k.same E,h.same I]⟩
structure aV where
 op:Int
 a:Int
 b:Int
 n:Int
 m:Int
def ob(cells at_ n:Int):Bool:=decide (0<=at_)&&decide (0<=n)&&decide (n<=cells)&&decide (at_<=cells-n)
def aju(x:aV):Bool:=
 if x.a=0 then decide (x.b=6)||decide (8<=x.b)&&decide (x.b<=18)
 else if x.a=1 then decide (x.b=7)||decide (x.b=13)||decide (x.b=14)||decide (19<=x.b)&&decide (x.b<=21)
 else false
def QP(cells:Int)(x:aV):Bool:=decide (0<=x.n)&&decide (x.n<=x.m)&&decide (x.m<=255)&&ob cells x.a (x.m-x.n+1)
def ZT(A:Int->Nat)(cells last at_:Int)(x:aV):Bool:=
 if x.op=1\/x.op=11 then true
 else if x.op=2\/x.op=3\/x.op=6\/x.op=14 then ob cells x.a 1
 else if x.op=13 then ob cells x.a 1&&ob cells x.b 2
 else if x.op=4\/x.op=5\/x.op=7 then QP cells x
 else if x.op=8 then aju x
 else if x.op=9\/x.op=10 then decide (0<=x.a)&&decide (x.a<=last)
 else if x.op=12 then decide (0<A x.b)&&ob cells x.a (A x.b)
 else if x.op=15 then decide (at_=last)
 else false
def FE(n:Nat)(t:Bool)(S:List Bool):Option (List Bool):=
 if S.length<n then none else if t&&(S.drop (S.length-n)).any (λb=>!b)then none else some (S.take (S.length-n))
def Bb(t:Bool)(S:List Bool):Option (List Bool):=if S.length<64 then some (S++[t])else none
def Ut(S:List Bool):Option (List Bool):=if S=[]then some []else none
def rF(x:aV)(S:List Bool):Option (List Bool):=
 if x.op=1 then Bb (decide (x.n=0)||decide (x.n=1)) S
 else if x.op=2 then Bb false S
 else if x.op=3\/x.op=13\/x.op=14 then Bb true S
 else if x.op=4 then (FE 1 false S).bind (Bb false)
 else if x.op=5 then (FE 1 false S).bind (Bb true)
 else if x.op=6 then FE 1 false S
 else if x.op=7 then FE 2 false S
 else if x.op=8 then (FE (if x.b=6\/x.b=7 then 1 else 2) (decide (x.a=1)) S).bind (Bb (decide (x.b=7)||decide (13<=x.b)))
 else if x.op=10 then (FE 1 true S).bind Ut
 else Ut S
def ajv(ins:List aV)(i:Nat):List Nat:=
 match ins[i]? with
 |none=>[]
 |some x=>if x.op=9 then [x.a.toNat]else if x.op=10 then [i+1,x.a.toNat]else if x.op=15 then []else [i+1]
end Go.Am
end
section
namespace Go.Am
open Go
noncomputable def pn(X:Ctx)(f:FuncId)(c:Code)(S:St)(A:List DF):XD:=gu λk=>iH X f (aK X k) k c S A
noncomputable def Ei(X:Ctx)(f:FuncId)(E:AV)(c:Code)(S:St):Option (XE×St):=gu λk=>nA X f (aK X k) k E c S
noncomputable def xZ(X:Ctx):br:=λg args cs=>gu λk=>m6 X k (aK X k) g args cs
abbrev Aq:=XE->St->List DF->cd
noncomputable def jx(X:Ctx)(f:FuncId)(c:Code)(S:St)(A:List DF)(k:Aq):cd:=(pn X f c S A).bind λp=>k p.1 p.2.1 p.2.2
noncomputable def x8(X:Ctx)(md:Bool)(all ops:List Oper)(S:St)(A:List DF)(k:Aq):cd:=(fI X (ah X) md all ops S A).bind λp=>k p.1 p.2.1 p.2.2
noncomputable def Ej(X:Ctx)(f:FuncId)(b:Code)(k:Aq):Aq
 | .normal,S,A=>jx X f b S A k
 |e,S,A=>k e S A
def FG(X:Ctx)(f:FuncId)(id:Nat)(k:Aq):Aq
 | .normal,S,A=>k .normal (S.leave X f id) A
 |e,S,A=>k e S A
noncomputable def Jr(X:Ctx)(md:Bool)(all r:List Oper)(A:List DF)(k:Aq):Kt
 | .normal,S=>x8 X md all r S A k
 |e,S=>k e S A
noncomputable def HD(X:Ctx)(md:Bool)(all r:List Oper)(o:Oper)(S:St)(A:List DF)(k:Aq):Option DF->cd
 |some d=>x8 X md all r (S.put o.dst true .bf) (d::A) k
 |none=>runK X md all [o] S (Jr X md all r A k)
section
variable {X:Ctx} {f:FuncId} {S:St} {A:List DF} {md:Bool}
theorem vK(all:List Oper):∀(ops:List Oper)(S:St)(A:List DF),gu (λk=>fI X (aK X k) md all ops S A)=fI X (ah X) md all ops S A
 |[],S,A=>aR _
 |o::r,S,A=>by
  simp only[fI];cases gV S o with
  |some d=>exact vK all r _ _
  |none=>
   simp only[CH];rw[dV (g:=λx n=>nT (λS1=>fI X (aK X n) md all r S1 A) A x) (sE (bA X) all) (λx=>by
    obtain⟨e,S1⟩:=x;cases e with
    |normal=>exact mJ (bA X) all r S1 A
    |_=>exact aM.const _),GN]
   congr 1;funext x;obtain⟨e,S1⟩:=x;cases e with
   |normal=>exact vK all r S1 A
   |_=>exact aR _
theorem dmD(c:Code)(S:St)(A:List DF):aM (λk=>iH X f (aK X k) k c S A):=GM (bA X) f (m:=λk=>k) (λk=>amn k) c S A
theorem Uu{a b:Code}:pn X f (.seq a b) S A=IM (pn X f b) (pn X f a S A):=by
 unfold pn;simp only[iH,Mg];rw[dV (g:=λx n=>sT (iH X f (aK X n) n b) x) (dmD a S A) (λx=>by
  obtain⟨e,S1,D⟩:=x;cases e with
  |normal=>exact dmD b S1 D
  |_=>exact aM.const _)]
 congr 1;funext x;obtain⟨e,S1,D⟩:=x;cases e<;>first|rfl|exact aR _
theorem mK{c:Code}(h:∀k,iH X f (aK X k) k c S A=xH A (den X f (aK X k) k c S)):pn X f c S A=xH A (fM X f c S):=by
 unfold pn fM;have:(λk=>iH X f (aK X k) k c S A)=λk=>(den X f (aK X k) k c S).bind λq=>dT A q:=by
  funext k;rw[h,FB]
 rw[this,dV (dm c S) (λ_=>aM.const _),FB];simp only[aR]
theorem Uv{id:Nat}{ops:Array Oper}(h:mG ops.toList=true):pn X f (.region id ops false) S A=zS (St.leave X f id) (fI X (ah X) (X.md f id) ops.toList ops.toList S A):=by
 unfold pn;have:(λk=>iH X f (aK X k) k (.region id ops false) S A)=λk=>(fI X (aK X k) (X.md f id) ops.toList ops.toList S A).bind λq=>lT (St.leave X f id) q:=by
  funext k;simp only[iH,h,Bool.not_false,Bool.and_self,Ad]
 rw[this,dV (mJ (bA X) _ _ _ _) (λ_=>aM.const _),vK,Ad];simp only[aR]
variable {k:Aq}
theorem Uw{a b:Code}:jx X f (.seq a b) S A k=jx X f a S A (Ej X f b k):=by
 simp only[jx,Uu];rcases pn X f a S A with _|⟨e,S1,D⟩
 ·rfl
 ·cases e<;>rfl
theorem mL{c:Code}(h:pn X f c S A=xH A (fM X f c S)):jx X f c S A k=aN X f c S λe S=>k e S A:=by
 simp only[jx,aN,h];rcases fM X f c S with _|⟨e,S1⟩<;>rfl
theorem QQ{o:Operand}{a b:Code}:jx X f (.cond o a b) S A k=aN X f (.cond o a b) S λe S=>k e S A:=mL (mK λ_=>rfl)
theorem Ux:jx X f .ret S A k=aN X f .ret S λe S=>k e S A:=mL (mK λ_=>rfl)
theorem QR:jx X f .skip S A k=aN X f .skip S λe S=>k e S A:=mL (mK λ_=>rfl)
theorem QS{c:Code}:jx X f (.loop c) S A k=aN X f (.loop c) S λe S=>k e S A:=mL (mK λ_=>rfl)
theorem Lt{id:Nat}{c:Code}:jx X f (.block id c) S A k=aN X f (.block id c) S λe S=>k e S A:=mL (mK λ_=>rfl)
theorem QT{id:Nat}{ops:Array Oper}:jx X f (.region id ops true) S A k=aN X f (.region id ops true) S λe S=>k e S A:=mL (mK λ_=>rfl)
theorem Uy{id:Nat}{l:List Oper}:jx X f (.region id ⟨l⟩ false) S A k=if mG l=true then x8 X (X.md f id) l l S A (FG X f id k)else aN X f (.region id ⟨l⟩ false) S λe S=>k e S A:=by
 split
 ·rename_i h;simp only[jx,x8,Uv (ops:=⟨l⟩) h];rcases fI X (ah X) (X.md f id) l l S A with _|⟨e,S1,D⟩
  ·rfl
  ·cases e<;>rfl
 ·rename_i h;exact mL (mK λ_=>by simp[iH,h])
theorem Uz{all:List Oper}:x8 X md all [] S A k=k .normal S A:=rfl
theorem QU{all r:List Oper}{o:Oper}:x8 X md all (o::r) S A k=HD X md all r o S A k (gV S o):=by
 simp only[x8,fI];cases gV S o with
 |some d=>rfl
 |none=>
  simp only[HD,runK,fB,CH,xR];rcases m5 X (ah X) md all S o with _|⟨e,S1⟩
  ·rfl
  ·cases e<;>rfl
end
noncomputable def Bc(X:Ctx)(p:ax)(D:Nat)(rs:List ResultVar):Aq
 |e,S,[]=>vI X.P p D rs e S
 |e,S,[d]=>sA X p D rs (xZ X) S d (Cw e)
 |_,_,_=>none
noncomputable def sJ(X:Ctx)(f:FuncId)(A:AV)(c:Code)(S:St)(k:Kt):cd:=(Ei X f A c S).bind λp=>k p.1 p.2
def Ek(P:Program)(p:ax)(D:Nat)(rs:List ResultVar):Kt
 | .normal,S=>finish P p D rs S
 | .ret,S=>finish P p D rs S
 |_,_=>none
section
variable {X:Ctx} {f:FuncId} {S:St}
theorem qK(X:Ctx):eA λk=>m6 X k (aK X k):=Ea (bA X) (m:=λk=>k) (λk=>amn k)
theorem Lu{C:Nat->br}(Y:eA C)(m:Mem)(V:Nat)(g:FuncId)(E:List AV)(mt:List Nat):gu (λk=>dO (C k) m V g E mt)=dO (λg a c=>gu λk=>C k g a c) m V g E mt:=by
 unfold dO lX lW;simp only[vE];rw[dV (Y _ _ _) (λ_=>aM.const _)];simp only[aR]
theorem UA(p:ax)(D:Nat)(rs:List ResultVar)(d:DF)(A:Option AV):gu (λk=>sA X p D rs (m6 X k (aK X k)) S d A)=sA X p D rs (xZ X) S d A:=by
 cases A with
 |none=>exact aR _
 |some A=>
  simp only[sA,Mj,Mi S (dO _ _ _ _ _ _)];rw[dV (g:=λS _=>finish X.P p D rs S) ((nP (qK X) _ _ _ _ _).bind (g:=λc _=>tM S (some c)) λ_=>aM.const _) (λ_=>aM.const _),
   dV (g:=λc _=>tM S (some c)) (nP (qK X) _ _ _ _ _) (λ_=>aM.const _),Lu (qK X)]
  simp only[aR];rfl
theorem GP{fn:Func}{c:Code}{args:List AV}{cs:List ay}{n:Nat}{rs:List ResultVar}{p:ax}(Z:X.ov=none)(y:X.wm f=none)(H:X.P.funcs[f]?=some fn)(I:fn.body=some c)(A':vy c=true)(J:fn.ntmps=n)(M:fn.results.toList=rs)
 (N:X.fp f=p) (O:jm n p args cs=true):ah X f args cs=jx X f c (entry n X.gl args cs p.sites) [] (Bc X p cs.length rs):=by
 subst N;subst J;subst M;unfold ah;rw[<-uO (bA X f args cs)];have T:(λk=>aK X (k+1) f args cs)=λk=>(iH X f (aK X k) k c (entry fn.ntmps X.gl args cs (X.fp f).sites) []).bind λq=>vu X (X.fp f) cs.length fn.results.toList (m6 X k (aK X k)) (some q):=by
  funext k;rw[aK,Z,y,H];simp only[I,A',wA,wu];rw[abT (by simpa only[jm]using O),Ml]
 rw[T,dV (g:=λq k=>vu X (X.fp f) cs.length fn.results.toList (m6 X k (aK X k)) (some q)) (dmD c _ _) (λq=>Eb (qK X) _ _ _ q)];simp only[jx];congr 1;funext q;obtain⟨e,S1,A0⟩:=q;match A0 with
 |[]=>
  simp only[vu,Bc,aR];cases e<;>rfl
 |[d]=>exact UA _ _ _ _ _
 |_::_::_=>exact aR _
theorem Mn{fn:Func}{c:Code}{args E:List AV}{A:AV}{cs:List ay}{n:Nat}{rs:List ResultVar}{p:ax}(H:X.P.funcs[f]?=some fn)(I:fn.body=some c)(J:fn.ntmps=n)(M:fn.results.toList=rs)
 (N:X.fp f=p) (A1:args.getLast?=some A) (A2:args.dropLast=E) (O:jm n p E cs=true):xZ X f args cs=sJ X f A c (entry n X.gl E cs p.sites) (Ek X.P p cs.length rs):=by
 subst N;subst J;subst M;subst A2;unfold xZ;have T:(λk=>m6 X k (aK X k) f args cs)=λk=>(nA X f (aK X k) k A c (entry fn.ntmps X.gl args.dropLast cs (X.fp f).sites)).bind λq=>Qo X.P (X.fp f) cs.length fn.results.toList (some q):=by
  funext k;simp only[m6,H,I,wq,A1];rw[abT (by simpa only[jm]using O),Mh]
 rw[T,dV (Ae (bA X) f (m:=λk=>k) (λk=>amn k) A c _) (λ_=>aM.const _)];simp only[sJ,aR];congr 1;funext q;obtain⟨e,S1⟩:=q;cases e<;>rfl
variable {k:Kt} {A:AV}
theorem UB{a b:Code}:sJ X f A (.seq a b) S k=sJ X f A a S (Ah X f b k):=by
 have h:Ei X f A (.seq a b) S=andThen (Ei X f A a S) (fM X f b):=
  vH (F:=λn=>nA X f (aK X n) n A a S) (K:=λU n=>den X f (aK X n) n b U) (Ae (bA X) f (m:=λk=>k) (λk=>amn k) A a S) (λU=>dm b U)
 simp only[sJ,h,tU];congr 1;funext q;obtain⟨e,S1⟩:=q;cases e<;>rfl
theorem Ar{id:Nat}{o:Oper}{r:List Oper}(h:uG o=true):sJ X f A (.region id ⟨o::r⟩ false) S k=runK X (X.md f id) (o::r) r (S.put o.dst true A) (Ai X f id k):=by
 have A3:Ei X f A (.region id ⟨o::r⟩ false) S=vt (St.leave X f id) (fB X (ah X) (X.md f id) (o::r) r (S.put o.dst true A)):=by
  unfold Ei;have:(λk=>nA X f (aK X k) k A (.region id ⟨o::r⟩ false) S)=λk=>(fB X (aK X k) (X.md f id) (o::r) r (S.put o.dst true A)).bind λq=>mT (St.leave X f id) q:=by
   funext k;simp only[nA,h,aes,qn]
  rw[this,dV (j7 (bA X) _ _ _) (λ_=>aM.const _),sF,qn];simp only[aR]
 simp only[sJ,runK,A3];rcases fB X (ah X) (X.md f id) (o::r) r (S.put o.dst true A)with _|⟨e,S1⟩
 ·rfl
 ·cases e<;>rfl
end
def Ctx.over(X:Ctx)(E:br):Ctx:={X with ov:=some E}
section
variable {X:Ctx} {E C:br} {f:FuncId}
@[simp] theorem avx:(X.over E).P=X.P:=rfl
@[simp] theorem asV:(X.over E).gl=X.gl:=rfl
@[simp] theorem amy:(X.over E).pZ=X.pZ:=rfl
@[simp] theorem asW:(X.over E).gh=X.gh:=rfl
@[simp] theorem asX:(X.over E).md=X.md:=rfl
@[simp] theorem asY:(X.over E).fp=X.fp:=rfl
@[simp] theorem asZ:(X.over E).od=X.od:=rfl
@[simp] theorem as0:(X.over E).fl=X.fl:=rfl
@[simp] theorem ajw:ah (X.over E)=E:=by
 funext g a c;unfold ah;rw[<-uO (bA (X.over E) g a c)];have:(λn=>aK (X.over E) (n+1) g a c)=λ_=>E g a c:=rfl;rw[this,aR]
end
inductive PR(D A α:Type) where
 |ok (a:α) (s:A)
 |bad (e:D) (s:A)
 |out
section
variable {D A α β H:Type}
def PR.el(r:PR D A α)(f:α->A->Option β)(g:D->A->Option β):Option β:=
 match r with
 | .ok a s=>f a s
 | .bad e s=>g e s
 | .out=>none
@[simp] theorem aym{a:α}{s:A}{f:α->A->Option β}{g:D->A->Option β}:(PR.ok a s).el f g=f a s:=rfl
@[simp] theorem avy{e:D}{s:A}{f:α->A->Option β}{g:D->A->Option β}:(PR.bad e s).el f g=g e s:=rfl
@[simp] theorem avz{f:α->A->Option β}{g:D->A->Option β}:(PR.out:PR D A α).el f g=none:=rfl
@[simp] theorem avA{c:Prop}[Decidable c]{a b:PR D A α}{f:α->A->Option β}{g:D->A->Option β}:(if c then a else b).el f g=if c then a.el f g else b.el f g:=by split<;>rfl
def PR.bind(r:PR D A α)(k:α->A->PR D A H):PR D A H:=
 match r with
 | .ok a s=>k a s
 | .bad e s=>.bad e s
 | .out=>.out
@[simp] theorem as1{a:α}{s:A}{k:α->A->PR D A H}:(PR.ok a s).bind k=k a s:=rfl
@[simp] theorem aoi{e:D}{s:A}{k:α->A->PR D A H}:(PR.bad e s:PR D A α).bind k=.bad e s:=rfl
@[simp] theorem aoj{k:α->A->PR D A H}:(PR.out:PR D A α).bind k=.out:=rfl
@[simp] theorem as2{r:PR D A α}{k:α->A->PR D A H}{f:H->A->Option β}{g:D->A->Option β}:(r.bind k).el f g=r.el (λa s=>(k a s).el f g) g:=by cases r<;>rfl
@[simp] theorem ayn{r:PR D A α}{f:α->A->Option β}{g:D->A->Option β}:r.el (λa s=>f a s) (λe s=>g e s)=r.el f g:=rfl
theorem ae4{I:Nat}{b:Bool}{r:PR D A α}{f:α->A->cd}{g:D->A->cd}:qg I b (r.el f g)=r.el (λa s=>qg I b (f a s)) (λe s=>qg I b (g e s)):=by cases r<;>rfl
theorem acJ{m:Mem}{J:Nat}{ρ B:List Nat}{r:PR D A α}{f:α->A->cd}{g:D->A->cd}:fA m J ρ B (r.el f g)=r.el (λa s=>fA m J ρ B (f a s)) (λe s=>fA m J ρ B (g e s)):=by cases r<;>rfl
theorem Xx{X:Ctx}{md:Bool}{S:St}{d:Option Nat}{all q:List Oper}{k:Kt}{r:PR D A α}{f:α->A->Option eZ}{g:D->A->Option eZ}:qI X md S d all q k (r.el f g)=r.el (λa s=>qI X md S d all q k (f a s)) (λe s=>qI X md S d all q k (g e s)):=by cases r<;>rfl
theorem UC{X:Ctx}{md:Bool}{M:Nat×List (List Nat)}{S:St}{d:Option Nat}{all q:List Oper}{N:List aX}{k:Kt}{r:PR D A α}{f:α->A->Option eZ}{g:D->A->Option eZ}:lR X md M S d all q N k (r.el f g)=r.el (λa s=>lR X md M S d all q N k (f a s)) (λe s=>lR X md M S d all q N k (g e s)):=by cases r<;>rfl
def Le(a b:Option β):Prop:=∀r,a=some r->b=some r
theorem Le.refl(a:Option β):Le a a:=λ_ h=>h
theorem Le.trans{a b c:Option β}(h:Le a b)(k:Le b c):Le a c:=λr U=>k r (h r U)
theorem Le.none{b:Option β}:Le none b:=λ_ h=>by cases h
theorem Le.el{r:PR D A α}{f O:α->A->Option β}{g T:D->A->Option β}(V:∀a s,Le (f a s) (O a s))(Y:∀e s,Le (g e s) (T e s)):Le (r.el f g) (r.el O T):=by
 cases r with
 |ok a s=>exact V a s
 |bad e s=>exact Y e s
 |out=>exact Le.none
end
end Go.Am
end
section
namespace Go.Am
abbrev Tx:=List UInt8
def qq(c:UInt8):Bool:=decide (65<=c.toNat)&&decide (c.toNat<=90)||decide (97<=c.toNat)&&decide (c.toNat<=122)
def po(c:UInt8):Bool:=decide (48<=c.toNat)&&decide (c.toNat<=57)
def eR(c:UInt8):Bool:=qq c||po c||decide (c.toNat=95)
def wG(c:UInt8):Bool:=decide (c.toNat=32)||decide (c.toNat=10)||decide (c.toNat=9)
def fT(c:UInt8):Nat:=if po c then c.toNat-48 else if 65<=c.toNat/\c.toNat<=70 then c.toNat-65+10 else 99
def jV(p:Int×Int)(c:UInt8):Int×Int:=if c=10 then (p.1+1,1)else (p.1,p.2+1)
def fU(s:Tx):Int×Int:=s.foldl jV (1,1)
theorem El:∀(s:Tx)(p:Int×Int)(n:Nat),1<=p.1->p.1<=n->1<=p.2->p.2<=n->1<=(s.foldl jV p).1/\(s.foldl jV p).1<=n+s.length/\1<=(s.foldl jV p).2/\(s.foldl jV p).2<=n+s.length
 |[],p,n,D,I,J,M=>by simp;omega
 |c::r,p,n,D,I,J,M=>by
  have h:=El r (jV p c) (n+1) (by unfold jV;split<;>simp<;>omega) (by unfold jV;split<;>simp<;>omega) (by unfold jV;split<;>simp<;>omega) (by unfold jV;split<;>simp<;>omega);simp only[ag9,ach];omega
theorem UD{s:Tx}{i:Nat}:1<=(fU (s.take i)).1/\(fU (s.take i)).1<=s.length+1/\1<=(fU (s.take i)).2/\(fU (s.take i)).2<=s.length+1:=by
 have h:=El (s.take i) (1,1) 1 (by simp) (by simp) (by simp) (by simp);have N:(s.take i).length<=s.length:=by simp;omega
 unfold fU;omega
theorem As{s:Tx}{i:Nat}(h:i<s.length):fU (s.take (i+1))=jV (fU (s.take i)) s[i]:=by
 unfold fU;rw[List.take_add_one,ad2 h,List.foldl_append];rfl
def m7:Tx->Option Nat
 |[]=>none
 |c::r=>if c=42/\r.head?=some 41 then some 0 else (m7 r).map (·+1)
def iE(s:Tx):Nat:=(s.takeWhile (·≠10)).length
theorem Js(s:Tx):iE s<=s.length:=by unfold iE;exact (aiT _).length_le
theorem ZU(a c:UInt8):(a == c)=decide (c=a):=by
 by_cases h:c=a
 ·simp[h]
 ·simp[h];exact λe=>h e.symm
theorem wH:∀(t:Tx),Go.Lib.indexByte t 10=if iE t<t.length then (iE t:Int)else-1
 |[]=>rfl
 |c::r=>by
  have ih:=wH r;unfold Go.Lib.indexByte;by_cases A:c=10
  ·subst A;simp[iE]
  ·have e:iE (c::r)=iE r+1:=by simp[iE,A]
   rw[e,ih];simp only[beq_iff_eq,A,ad0,ach];by_cases h:iE r<r.length
   ·simp only[abT h];rw[abN (by omega),abT (by omega)];omega
   ·simp[h]
theorem x9:∀{t:Tx}{m:Nat},m7 t=some m->m+2<=t.length
 |[],m,h=>by cases h
 |c::r,m,h=>by
  unfold m7 at h;split at h
  ·rename_i A;cases h;cases r with
   |nil=>simp at A
   |cons d r=>simp
  ·cases E:m7 r with
   |none=>rw[E]at h;cases h
   |some n=>
    rw[E]at h;cases h;have:=x9 E;simp;omega
theorem GQ:∀(t:Tx),Go.Lib.index t [42,41]=match m7 t with|none=> -1|some m=>(m:Int)
 |[]=>rfl
 |c::r=>by
  have ih:=GQ r;unfold Go.Lib.index m7;have e:(([42,41]:Tx).isPrefixOf (c::r))=decide (c=42/\r.head?=some 41):=by
   cases r with
   |nil=>simp[List.isPrefixOf]
   |cons d r=>simp[List.isPrefixOf,ZU]
  rw[e,ih];by_cases A:c=42/\r.head?=some 41
  ·simp[A]
  ·rw[abN A];simp only[A,decide_false,ahG,ad0];cases E:m7 r with
   |none=>simp
   |some n=>simp
theorem Em(a b c:UInt8)(r:Tx):Go.Lib.hasPrefix (c::r) [a,b]=(decide (c=a)&&decide (r.head?=some b)):=by
 unfold Go.Lib.hasPrefix;cases r with
 |nil=>simp[List.isPrefixOf]
 |cons d r=>simp[List.isPrefixOf,ZU]
def fJ:Nat->Tx->Nat×Bool
 |0,_=>(0,true)
 |_+1,[]=>(0,true)
 |f+1,c::r=>
  if wG c then (1+(fJ f r).1,(fJ f r).2)
  else if c=47/\r.head?=some 47 then (iE (c::r)+(fJ f ((c::r).drop (iE (c::r)))).1,(fJ f ((c::r).drop (iE (c::r)))).2)
  else if c=40/\r.head?=some 42 then match m7 r.tail with
   |none=>(0,false)
   |some m=>(m+4+(fJ f ((c::r).drop (m+4))).1,(fJ f ((c::r).drop (m+4))).2)
  else (0,true)
def oc(s:Tx):Nat×Nat:=if [49,54,35].isPrefixOf s then (16,3)else if [56,35].isPrefixOf s then (8,2)else if [50,35].isPrefixOf s then (2,2)else (10,0)
def FH(base:Nat):Nat->Tx->Option Nat
 |x,[]=>some x
 |x,c::r=>if (9223372036854775807-fT c)/base<x then none else FH base (x*base+fT c) r
def CO(s:Tx)(b h:Nat)(H:Tx):Nat×Nat×Nat:=
 if H=[]\/(∃c,s[h+H.length]?=some c/\(eR c=true\/c=35))then (0,0,5)
 else match FH b 0 H with
  |none=>(0,0,2)
  |some x=>(h+H.length,x,0)
def nB(s:Tx):Nat×Nat×Nat:=CO s (oc s).1 (oc s).2 ((s.drop (oc s).2).takeWhile (λc=>decide (fT c<(oc s).1)))
def At:Tx:=[43,45,42,47,40,41,91,93,46,44,59,58,60,62,61]
def Jt:List Tx:=[[58,61],[60,61],[62,61],[60,62],[46,46]]
def sK(s:Tx):Nat:=if Jt.any (λp=>p.isPrefixOf s)then 2 else match s with
 |[]=>0
 |c::_=>if c∈At then 1 else 0
theorem Be:∀(f:Nat)(t:Tx),(fJ f t).1<=t.length
 |0,_=>by simp[fJ]
 |_+1,[]=>by simp[fJ]
 |f+1,c::r=>by
  unfold fJ;split
  ·have:=Be f r;simp;omega
  ·split
   ·have D:=Be f ((c::r).drop (iE (c::r)));have I:=Js (c::r);simp only[aeo]at D;simp only;omega
   ·split
    ·split
     ·simp
     ·rename_i m hm;have D:=Be f ((c::r).drop (m+4));have I:=x9 hm;have J:r.tail.length=r.length-1:=by simp
      simp only[aeo,ach]at D⊢;omega
    ·simp
def UE:Tx:=[80,82,79,71,82,65,77,32,69,78,68,95,80,82,79,71,82,65,77,32,86,65,82,32,86,65,82,95,73,78,80,85,84,32,86,65,82,95,79,85,84,80,85,84,32,69,78,68,95,86,65,82,32,73,78,84,32,66,79,79,76,32,65,82,82,65,89,32,79,70,32,84,82,85,69,32,70,65,76,83,69,32,73,70,32,84,72,69,78,32,69,76,83,73,70,32,69,76,83,69,32,69,78,68,95,73,70,32,67,65,83,69,32,69,78,68,95,67,65,83,69,32,70,79,82,32,84,79,32,66,89,32,68,79,32,69,78,68,95,70,79,82,32,87,72,73,76,69,32,69,78,68,95,87,72,73,76,69,32,82,69,80,69,65,84,32,85,78,84,73,76,32,69,78,68,95,82,69,80,69,65,84,32,69,88,73,84,32,82,69,84,85,82,78,32,65,78,68,32,79,82,32,88,79,82,32,78,79,84,32,77,79,68]
def jW:List Tx:=[[80,82,79,71,82,65,77],[69,78,68,95,80,82,79,71,82,65,77],[86,65,82],[86,65,82,95,73,78,80,85,84],[86,65,82,95,79,85,84,80,85,84],[69,78,68,95,86,65,82],[73,78,84],[66,79,79,76],[65,82,82,65,89],[79,70],[84,82,85,69],[70,65,76,83,69],[73,70],[84,72,69,78],[69,76,83,73,70],[69,76,83,69],[69,78,68,95,73,70],[67,65,83,69],[69,78,68,95,67,65,83,69],[70,79,82],[84,79],[66,89],[68,79],[69,78,68,95,70,79,82],[87,72,73,76,69],[69,78,68,95,87,72,73,76,69],[82,69,80,69,65,84],[85,78,84,73,76],[69,78,68,95,82,69,80,69,65,84],[69,88,73,84],[82,69,84,85,82,78],[65,78,68],[79,82],[88,79,82],[78,79,84],[77,79,68]]
def uS(s:Tx):Bool:=decide (s∈jW)
structure fg where
 kind:Int
 text:Tx
 n:Int
 line:Int
 En:Int
 deriving DecidableEq
def ko(s:Tx):Nat×Nat×Nat×Nat:=
 match s with
 |[]=>(5,0,0,0)
 |c::_=>
  if qq c then
   if uS (s.take (s.takeWhile eR).length)then (0,2,(s.takeWhile eR).length,0)
   else if 16<(s.takeWhile eR).length then (9,1,0,0)else (0,1,(s.takeWhile eR).length,0)
  else if po c then
   if (nB s).2.2=0 then (0,3,(nB s).1,(nB s).2.1)else ((nB s).2.2,0,0,0)
  else if sK s=0 then (5,0,0,0)else (0,4,sK s,0)
def here(p:Int×Int):fg:=⟨0,[],0,p.1,p.2⟩
def CP(s:Tx):Nat->Nat->List fg->List fg×Nat×fg
 |0,_,_=>([],5,⟨0,[],0,0,0⟩)
 |f+1,i,out=>
  if (fJ (s.length+1) (s.drop i)).2=false then ([],5,here (fU (s.take (i+(fJ (s.length+1) (s.drop i)).1))))
  else if s.drop (i+(fJ (s.length+1) (s.drop i)).1)=[]then (out++[here (fU (s.take (i+(fJ (s.length+1) (s.drop i)).1)))],0,⟨0,[],0,0,0⟩)
  else if (ko (s.drop (i+(fJ (s.length+1) (s.drop i)).1))).1≠0 then ([],(ko (s.drop (i+(fJ (s.length+1) (s.drop i)).1))).1,here (fU (s.take (i+(fJ (s.length+1) (s.drop i)).1))))
  else CP s f (i+(fJ (s.length+1) (s.drop i)).1+(ko (s.drop (i+(fJ (s.length+1) (s.drop i)).1))).2.2.1)
   (out++[⟨(ko (s.drop (i+(fJ (s.length+1) (s.drop i)).1))).2.1,(s.drop (i+(fJ (s.length+1) (s.drop i)).1)).take (ko (s.drop (i+(fJ (s.length+1) (s.drop i)).1))).2.2.1,(ko (s.drop (i+(fJ (s.length+1) (s.drop i)).1))).2.2.2,
    (fU (s.take (i+(fJ (s.length+1) (s.drop i)).1))).1,(fU (s.take (i+(fJ (s.length+1) (s.drop i)).1))).2⟩])
def FI(s:Tx):List fg×Nat×fg:=if 16384<s.length then ([],13,⟨0,[],0,1,1⟩)else CP s (s.length+1) 0 []
end Go.Am
end
