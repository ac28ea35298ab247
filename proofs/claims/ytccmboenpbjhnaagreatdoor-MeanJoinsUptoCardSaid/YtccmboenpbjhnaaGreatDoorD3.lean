/-
  Texts of one proof, one behind the other.
-/
import Derived.Test.YtccmboenpbjhnaaGreatDoorD2
import Derived.Below
import Derived.Recover
import Derived.Orders
import Derived.Laws.BitsLemmas
import Derived.Laws.Bits64
import Derived.Lib.Mul64
import Derived.Lib.Bytealg
import Derived.Lib.Index
import Derived.Lib.Strings
set_option linter.all false
section
namespace Go.Am
open Go
abbrev Is(e:XE)(A:St):XE->St->Prop:=λe' B8=>e'=e/\B8=A
def KR(P:Program)(S:St)(o:Oper)(e:XE)(A:St):Prop:=
 A.n=S.n/\A.gl=S.gl/\(e=.normal\/∃t x,e=.panic t x)/\∀φ G a w,Rel φ G S a w->∀(next:Act->World->Prop)(R:Exit->Act->World->Prop),
  (e=.normal->∀φ' AD w',Rel φ' G A AD w'->aP φ S.mem w φ' A.mem w'->next AD w')->
  (∀t x,e=.panic t x->∀φ' AD w' v,Rel φ' G A AD w'->aP φ S.mem w φ' A.mem w'->aJ w' (Fo G φ' A.mem) x v->R (.panic [{v:=.iface t v,recovered:=false}]) AD w')->o.wp P a w next R
theorem kP(S:St)(d g x):(S.put d g x).gl=S.gl:=by cases d<;>rfl
section
variable {X:Ctx} {A6:bj} {S A:St} {o:Oper} {e:XE}
theorem Ah{c:Bool}{x:AV}{gb:Bool}(AB:cJ X.P S o=.val c x)(A9:(fM S o&&c)=true)(H:∀t,o.dst=some t->t<S.n):KR X.P S o .normal (S.put o.dst gb x):=by
 simp only[Ds]at A9;have:=Hl X.P S o A9.1;rw[AB]at this;refine⟨ly ..,kP ..,.inl rfl,λφ G a w E next R A7 _=>?_⟩;exact Vw this A9.2 E H (λAD w' AH AI=>A7 rfl φ AD w' AH (by rw[eI];exact AI))
theorem KT{c:Bool}{x:AV}{An:cg}(AB:cJ X.P S o=.cG c x An)(A9:(fM S o&&c)=true)(H:∀t,o.dst=some t->t<S.n):KR X.P S o .normal (({S with mem:=Mem.set S.mem An}:St).put o.dst true x):=by
 simp only[Ds]at A9;have:=Hl X.P S o A9.1;rw[AB]at this;refine⟨ly ..,kP ..,.inl rfl,λφ G a w E next R A7 _=>?_⟩;exact Vx this A9.2 E H (λφ' AD w' AH AI=>A7 rfl φ' AD w' AH (by rw[eI];exact AI))
theorem J8{m:Mem}{B9:Nat}{g:FuncId}{B_:List AV}{mt:List Nat}{out:Out}{es:List cg}{ks:List Nat}(h:dt A6 m B9 g B_ mt=some ⟨out,es,ks⟩):∀e∈es,e.key∈ks:=by
 unfold dt kW kV eP at h;split at h
 ·rename_i out BH _;split at h
  ·rename_i A8;simp only[Ds,aam]at A8;simp only[aax,eF.mk.injEq]at h;obtain⟨_,rfl,rfl⟩:=h;intro e he;obtain⟨j,v,c,AM,rfl⟩:=tG.1 he;have BK:=(aaf.1 AM).1;simp only[ac3];generalize collect m 64 (j5 mt 0 B_) []=ρ at A8 BK⊢;have BD:j<(ρ++List.range' (B9+1) (BH.length-ρ.length)).length:=by simp;omega
   have hm:=acN BD;have Av:(ρ++List.range' (B9+1) (BH.length-ρ.length)).getD j 0=(ρ++List.range' (B9+1) (BH.length-ρ.length))[j]:=by
    rw[afC,acB BD];rfl
   rw[Av];rcases abT.1 hm with I|I
   ·exact ag8 _ (ag8 _ I)
   ·exact List.mem_append_right _ I
  ·cases h
 ·cases h
mutual
theorem Sg:∀{x y:D},yO x y=true->x=y
 |x,y,h=>by
  unfold yO at h;split at h
  ·simp only[Ds,aam]at h;obtain⟨rfl,rfl⟩:=h;rfl
  ·rw[acE h]
  ·rw[acE h]
  ·rw[Ai h]
  ·rw[Ai h]
  ·rfl
  ·cases h
theorem Ai:∀{x y:List D},wq x y=true->x=y
 |x,y,h=>by
  unfold wq at h;split at h
  ·rfl
  ·simp only[Ds]at h;rw[Sg h.1,Ai h.2]
  ·cases h
end
theorem aaU{x y:AV}(h:Ef x y=true):x=y:=by
 unfold Ef at h;split at h
 ·rw[Sg h]
 ·simp only[Ds,aam]at h;obtain⟨rfl,rfl,rfl⟩:=h;rfl
 ·simp only[Ds,aam]at h;obtain⟨rfl,rfl,rfl,rfl⟩:=h;rfl
 ·cases h
theorem HU:∀{x y:List AV},Ad x y=true->x=y
 |[],[],_=>rfl
 |[],_::_,h=>by cases h
 |_::_,[],h=>by cases h
 |a::r,b::s,h=>by
  simp only[Ad,Ds]at h;rw[aaU h.1,HU h.2]
theorem Si{x y:ay}(h:yP x y=true):x=y:=by
 unfold yP at h;split at h
 ·rw[HU h]
 ·simp only[Ds,aam]at h;rw[h.1,Ai h.2]
 ·cases h
theorem HV:∀{m:Mem}{e:cg},Mem.get m e.key=some e->Mem.set m e=m
 |[],_,_=>rfl
 |x::r,e,h=>by
  simp only[Mem.get]at h;simp only[Mem.set];split at h
  ·rename_i Y;cases h;rw[aap rfl]
  ·rename_i Y;rw[aah Y,HV h]
theorem A3:∀{es:List cg}{m m':Mem}{ks:List Nat},pt m es=true->(∀e∈es,e.key∈ks)->(∀k∈ks,Mem.get m' k=Mem.get m k)->bq m' es=m'
 |[],_,_,_,_,_,_=>rfl
 |e::r,m,m',ks,h,Y,hm=>by
  simp only[pt,Ds]at h;have I:Mem.get m' e.key=some e:=by
   rw[hm _ (Y e (by simp))];obtain⟨h,_⟩:=h;cases O:Mem.get m e.key with
   |none=>rw[O]at h;cases h
   |some x=>
    rw[O]at h;simp only[Gu,Ds,aam]at h;have V:=(Mem.get_mem O).2;obtain⟨k,v,c⟩:=x;obtain⟨CE,CF,CG⟩:=e;simp only at h V;rw[h.1,Si h.2,V]
  rw[bq,HV I];exact A3 h.2 (λe he=>Y e (acJ _ he)) hm
theorem lP{args:List Operand}{AG:Bool×AV}{out:Out}{es:List cg}{ks:List Nat}(h:cj X A6 S o args AG=some ⟨out,es,ks⟩):∃g AQ A_,AG=(true,.fn g AQ)/\gW S args=true/\
 dt A6 S.mem (keyOf o) (mC g) (gL g (cM S args) AQ) (X.fp (mC g)).uw=some ⟨out,A_,ks⟩/\(∀e∈es,e.key∈ks)/\∀m',(∀k∈ks,Mem.get m' k=Mem.get S.mem k)->bq m' A_=bq m' es:=by
 unfold cj at h;split at h
 ·rename_i g AQ;split at h
  ·rename_i A9;generalize (X.fp (mC g)).uw.contains 2000=b at h;cases A8:dt A6 S.mem (keyOf o) (mC g) (gL g (cM S args) AQ) (X.fp (mC g)).uw with
   |none=>rw[A8]at h;cases b<;>cases h
   |some res=>
    obtain⟨CH,A_,CI⟩:=res;have Y:=J8 A8;rw[A8]at h;cases b with
    |false=>cases h;exact⟨g,AQ,es,rfl,A9,A8,Y,λ_ _=>rfl⟩
    |true=>
     simp only[wu,aax]at h;cases AB:pt S.mem A_ with
     |false=>rw[AB]at h;cases h;exact⟨g,AQ,es,rfl,A9,A8,Y,λ_ _=>rfl⟩
     |true=>rw[AB]at h;cases h;exact⟨g,AQ,A_,rfl,A9,A8,by simp,λm' hm=>A3 AB Y hm⟩
  ·cases h
 ·cases h
theorem VN(AE:iK X A6){AG:Operand}{args:Array Operand}{AU:Array TypeId}(U:o.op=.call {callee:=.value AG,args,argTypes:=AU})(A4:S.gl=X.gl)(H:∀t,o.dst=some t->t<S.n)
 (h:sG S o.dst (cj X A6 S o args.toList (S.aq AG))=some (e,A)):KR X.P S o e A:=by
 cases Aa:cj X A6 S o args.toList (S.aq AG)with
 |none=>rw[Aa]at h;cases h
 |some res=>
  rw[Aa]at h;obtain⟨out,es,ks⟩:=res;obtain⟨g,AQ,A_,Aw,A9,Ax,_,AW⟩:=lP Aa;have AW:=AW S.mem (λ_ _=>rfl);cases out with
  |ret x=>
   simp only[sG,aax,ab3]at h;obtain⟨rfl,rfl⟩:=h;refine⟨ly ..,kP ..,.inl rfl,λφ G a w E next R A7 _=>?_⟩;refine tM AE U Aw rfl A9 Ax A4 E (λAs V φ' w' v AH AI AN=>?_) (λt As V=>by cases V);cases V;rw[AW]at AH AI AN;exact A7 rfl φ' _ w' (AH.put o.dst H true x v (λ_=>AN)) (by rw[eI];exact AI)
  |panic t x=>
   simp only[sG,aax,ab3]at h;obtain⟨rfl,rfl⟩:=h;refine⟨rfl,rfl,.inr ⟨t,x,rfl⟩,λφ G a w E next R _ AP=>?_⟩;refine tM AE U Aw rfl A9 Ax A4 E (λAs V=>by cases V) (λBn As V φ' w' v AH AI AN=>?_);cases V;rw[AW]at AH AI AN;exact AP t x rfl φ' a w' v AH AI AN
theorem Sj{x:Operand}(U:o.op=.panic x)(h:BA S (S.aq x)=some (e,A)):KR X.P S o e A:=by
 cases V:S.aq x with
 |mk g y=>
  rw[V]at h;unfold BA at h;split at h
  ·rename_i t d heq;cases heq;simp only[aax,ab3]at h;obtain⟨rfl,rfl⟩:=h;refine⟨rfl,rfl,.inr ⟨t,d,rfl⟩,λφ G a w E next R _ AP=>?_⟩;have AN:=E.aq x (by rw[V]);rw[V]at AN;generalize Bo:a.eval x=u at AN;cases AN with
   |fR _ _ v H=>
    have BL:(execOp a.eval o).run X.P w=.halt (.panic (.iface t v)) w:=by
     simp[execOp,U,Bo,Instr.panic]
    unfold Oper.wp;rw[BL];exact AP t d rfl φ a w v E (aP.refl ..) H
  ·cases h
theorem yU(AE:iK X A6)(A4:S.gl=X.gl)(H:∀t,o.dst=some t->t<S.n)(h:gx X A6 S o (cJ X.P S o)=some (e,A)):KR X.P S o e A:=by
 generalize AB:cJ X.P S o=r at h;cases r with
 |val c x=>
  simp only[gx]at h;split at h
  ·rename_i A9;cases h;exact Ah AB A9 H
  ·cases h
 |cG c x An=>
  simp only[gx]at h;split at h
  ·rename_i A9;cases h;exact KT AB A9 H
  ·cases h
 |no=>
  simp only[gx,qu]at h;split at h
  ·rename_i AG args AU U;exact VN AE U A4 H h
  ·rename_i x U;exact Sj U h
  ·cases h
def yV(P:Program)(all:List Oper)(S:St)(o:Oper)(e:XE)(A:St):Prop:=
 A.n=S.n/\A.gl=S.gl/\(e=.normal\/∃t x,e=.panic t x)/\∀φ G a w,Rel φ G S a w->∀(next:Act->World->Prop)(R:Exit->Act->World->Prop),
  (e=.normal->∀φ' AD w',Rel φ' G A AD w'->aP φ S.mem w φ' A.mem w'->next AD w')->
  (∀t x,e=.panic t x->∀φ' AD w' v,Rel φ' G A AD w'->aP φ S.mem w φ' A.mem w'->aJ w' (Fo G φ' A.mem) x v->R (.panic [{v:=.iface t v,recovered:=false}]) AD w')->
  if Region.wanted o (yielded all.toArray a.tmps)then o.wp P a w next R else next (a.put o.dst undef) w
theorem Aj{all:List Oper}(h:KR X.P S o e A)(hw:∀φ G a w,Rel φ G S a w->Region.wanted o (yielded all.toArray a.tmps)=true):yV X.P all S o e A:=by
 obtain⟨I,J,AJ,AR⟩:=h;refine⟨I,J,AJ,λφ G a w E next R A7 AP=>?_⟩;rw[aap (hw φ G a w E)];exact AR φ G a w E next R A7 AP
theorem yW{φ:bG}{w:World}{F:Nat->Prop}{x:AV}(V:x=.aY\/x=.bM []):az φ w F x undef:=by
 rcases V with rfl|rfl
 ·exact .aY _
 ·exact .bM [] #[] rfl (λi c v h=>by simp at h)
theorem C1{all:List Oper}{j:Nat}{φ G a w}(h:Rel φ G S a w)(O:nU all S j=some (true,.bM [])):yielded all.toArray a.tmps j=none:=by
 unfold nU at O;split at O
 ·rename_i o U;split at O
  ·rename_i t AF;have I:=h.env t _ O;unfold yielded;simp only[ac6,U,ac1,AF];rw[aay]at I;cases AA:a.tmps[t]? with
   |none=>rfl
   |some v=>
    rw[AA]at I;simp only[acV]at I;cases I;rfl
  ·cases O
 ·cases O
theorem HW{all:List Oper}{gb:Bool}{x:AV}(V:gb=true->x=.aY\/x=.bM [])(H:∀t,o.dst=some t->t<S.n)(hw:∀φ G a w,Rel φ G S a w->Region.wanted o (yielded all.toArray a.tmps)=false):yV X.P all S o .normal (S.put o.dst gb x):=by
 refine⟨ly ..,kP ..,.inl rfl,λφ G a w E next R A7 _=>?_⟩;rw[aah (by rw[hw φ G a w E];simp)];exact A7 rfl φ _ w (E.put o.dst H gb x undef (λO=>yW (V O))) (by rw[eI];exact aP.refl ..)
theorem Fp{all:List Oper}{j:Nat}{AK t:Bool}(O:o.guard=some (j,AK))(AC:nU all S j=some (true,.d (.bool t))){φ G a w}(E:Rel φ G S a w):Region.wanted o (yielded all.toArray a.tmps)=(t == AK):=by
 have B1:=RU E AC;simp only[Region.wanted,O,B1];cases t<;>cases AK<;>rfl
theorem BI(S:St)(d b):(S.cz d b).n=S.n:=ly ..
theorem Ak(S:St)(d b):(S.cz d b).gl=S.gl:=kP ..
theorem C2(S:St)(d b):(S.cz d b).mem=S.mem:=eI ..
theorem Ya{all:List Oper}{S:St}{j:Nat}{t b:Bool}(AC:nU all S j=some (true,.d (.bool t)))(Z:t=b)(u:Nat):Env.lk (S.cz (kF all j) b).env u=Env.lk S.env u:=by
 subst Z;unfold nU at AC;unfold St.cz kF;split at AC
 ·rename_i Bp AM;split at AC
  ·rename_i d H;simp only[AM,H,St.put,Env.lk];split
   ·rename_i hu;subst hu;exact AC.symm
   ·rfl
  ·cases AC
 ·cases AC
theorem acS{all:List Oper}{S:St}{j:Nat}{t b:Bool}(AC:nU all S j=some (true,.d (.bool t)))(Z:t=b){φ G a w}(E:Rel φ G S a w):Rel φ G (S.cz (kF all j) b) a w:=
 Rel.eqv E ⟨(BI ..).symm,(Ak ..).symm,(C2 ..).symm,λu=>(Ya AC Z u).symm⟩
theorem sN{all:List Oper}(AE:iK X A6)(A4:S.gl=X.gl)(H:∀t,o.dst=some t->t<S.n){md:Bool}(h:mb X A6 md all S o=some (e,A)):yV X.P all S o e A:=by
 unfold mb at h;split at h
 ·rename_i O;exact Aj (yU AE A4 H h) (λ_ _ _ _ _=>by simp[Region.wanted,O])
 ·rename_i j AK O;split at h
  ·rename_i t AC;replace AC:=HI AC;have hw:∀φ G a w,Rel φ G S a w->Region.wanted o (yielded all.toArray a.tmps)=(t == AK):=λφ G a w E=>Fp O AC E;have other:∀{r:cP},cJ X.P S o=r->(if (t == AK)=true then gx X A6 S o r else some (.normal,S.put o.dst true .aY))=some (e,A)->yV X.P all S o e A:=by
    intro r AB h;split at h
    ·rename_i Z;exact Aj (yU AE A4 H (by rw[AB];exact h)) (λφ G a w E=>by rw[hw φ G a w E];exact Z)
    ·rename_i Z;cases h;exact HW (λ_=>.inl rfl) H (λφ G a w E=>by rw[hw φ G a w E];simpa using Z)
   cases md with
   |true=>
    simp only at h;have Ba:∀b,t=b->∀φ G a w,Rel φ G S a w->Rel φ G (S.cz (kF all j) b) a w:=λb Z φ G a w E=>acS AC Z E;split at h
    ·rename_i Z;have At:t=AK:=by simpa using Z
     have:=yU (S:=S.cz (kF all j) AK) AE (by rw[Ak];exact A4) (λt AF=>by rw[BI];exact H t AF) h;obtain⟨I,J,AJ,AR⟩:=this;refine Aj ⟨by rw[I,BI],by rw[J,Ak],AJ,λφ G a w E next R A7 AP=>?_⟩ (λφ G a w E=>by rw[hw φ G a w E];exact Z);have Bb:=AR φ G a w (Ba AK At φ G a w E) next R
     rw[C2]at Bb;exact Bb A7 AP
    ·rename_i Z;have At:t=!AK:=by cases t<;>cases AK<;>simp_all
     cases h;refine⟨by rw[ly,BI],by rw[kP,Ak],.inl rfl,λφ G a w E next R A7 _=>?_⟩;rw[aah (by rw[hw φ G a w E];simpa using Z)];exact A7 rfl φ _ w ((Ba _ At φ G a w E).put o.dst (λt AF=>by rw[BI];exact H t AF) true (.bM []) undef (λ_=>yW (.inr rfl))) (by rw[eI,C2];exact aP.refl ..)
   |false=>
   simp only at h;unfold nJ at h;split at h
   ·rename_i c x AB;split at h
    ·rename_i A8;cases h;cases Z:(t == AK)
     ·exact HW (by simp) H (λφ G a w E=>by rw[hw φ G a w E];exact Z)
     ·exact Aj (Ah AB (A8 Z) H) (λφ G a w E=>by rw[hw φ G a w E];exact Z)
    ·cases h
   ·rename_i r E;exact other rfl h
  ·rename_i AC;replace AC:=Fl AC;cases h;exact HW (λ_=>.inr rfl) H (λφ G a w E=>by
    simp only[Region.wanted,O,C1 E AC];cases AK<;>rfl)
  ·cases h
theorem gf{r:Option (XE×St)}{k:St->Option (XE×St)}{y:XE×St}(h:andThen r k=some y):(∃S1,r=some (.normal,S1)/\k S1=some y)\/(r=some y/\y.1≠.normal):=by
 unfold andThen at h;split at h
 ·rename_i S1;exact .inl ⟨S1,rfl,h⟩
 ·rename_i E;refine .inr ⟨h,λhe=>?_⟩;obtain⟨e,S1⟩:=y;simp only at he;subst he;exact E S1 h
theorem aP.post{n:Nat}{φ φ':bG}{G:Fr}{m:Mem}{w w':World}{e:XE}{A:St}{AD:Act}(A7:A.n=n)(E:Rel φ' G A AD w')(Y:aP φ m w φ' A.mem w')(he:e=.normal):mz n φ G m w (Is e A) .normal AD w':=
 ⟨φ',A,A7,⟨he.symm,rfl⟩,E,Y⟩
theorem yX{md:Bool}{all:List Oper}(AE:iK X A6):∀(ops:List Oper)(S:St)(e:XE)(A:St),eQ X A6 md all ops S=some (e,A)->S.gl=X.gl->je S.n ops=true->
 A.n=S.n/\A.gl=S.gl/\∀φ G a w,Rel φ G S a w->∀Q:Exit->Act->World->Prop,(∀e' AD w',mz S.n φ G S.mem w (Is e A) e' AD w'->Q e' AD w')->wpList X.P all.toArray Q ops a w
 |[],S,e,A,h,A4,H=>by
  simp only[eQ,aax,ab3]at h;obtain⟨rfl,rfl⟩:=h;exact⟨rfl,rfl,λφ G a w E Q B2=>B2 _ _ _ (aP.post rfl E (aP.refl ..) rfl)⟩
 |o::rest,S,e,A,h,A4,H=>by
  simp only[je,afX,Ds]at H;obtain⟨AY,H⟩:=H;have AZ:∀t,o.dst=some t->t<S.n:=λt AF=>by rw[AF]at AY;simpa using AY
  simp only[eQ]at h;rcases gf h with ⟨S1,I,J⟩|⟨I,J⟩
  ·obtain⟨Ay,BE,_,BM⟩:=sN AE A4 AZ I;obtain⟨Bq,Br,Bs⟩:=yX AE rest S1 e A J (BE.trans A4) (by rw[Ay];exact H);refine⟨Bq.trans Ay,Br.trans BE,λφ G a w E Q B2=>?_⟩;have:=BM φ G a w E (wpList X.P all.toArray Q rest) Q
    (λ_ φ' AD w' AH AI=>Bs φ' G AD w' AH Q (λe' a2 Bt AP=>B2 e' a2 Bt (by rw[<-Ay];exact AP.weaken AI))) (λt x he=>by cases he)
   unfold wpList;split
   ·rename_i hw;rw[aap hw]at this;exact .inl this
   ·rename_i hw;rw[aah hw]at this;exact this
  ·obtain⟨Ay,BE,CJ,BM⟩:=sN AE A4 AZ I;refine⟨Ay,BE,λφ G a w E Q B2=>?_⟩;have:=BM φ G a w E (wpList X.P all.toArray Q rest) Q
    (λhe=>absurd he J) (λt x he φ' AD w' v AH AI AN=>B2 _ _ _ ⟨φ',A,t,x,v,rfl,AN,Ay,⟨he.symm,rfl⟩,AH,AI⟩)
   unfold wpList;split
   ·rename_i hw;rw[aap hw]at this;exact .inl this
   ·rename_i hw;rw[aah hw]at this;exact this
theorem qx{all:List Oper}{ks:List Nat}{A S:St}(h:jL all o ks A S){x:Operand}(V:x∈o.op.operands.toList):A.aq x=S.aq x:=by
 cases x with
 |tmp t=>
  simp only[St.aq];rw[h.env t (by simp only[looks,abT,List.mem_filterMap];exact .inl ⟨.tmp t,V,rfl⟩)]
 |global g=>simp only[St.aq,h.gl]
 |_=>rfl
theorem Fq{all:List Oper}{ks:List Nat}{A S:St}(h:jL all o ks A S){j AK}(O:o.guard=some (j,AK)):Am.nU all A j=Am.nU all S j:=by
 unfold Am.nU;split
 ·rename_i Bp AM;split
  ·rename_i t AF;exact h.env t (by simp only[looks,abT,O,XU,AM,AF];exact .inr (by simp))
  ·rfl
 ·rfl
theorem tO{A S:St}:∀{l:List Operand},(∀x∈l,A.aq x=S.aq x)->gW A l=gW S l
 |[],_=>rfl
 |x::r,h=>by simp only[gW,h x (by simp),tO (l:=r) (λy B1=>h y (acJ _ B1))]
theorem uH{A S:St}:∀{l:List Operand},(∀x∈l,A.aq x=S.aq x)->cM A l=cM S l
 |[],_=>rfl
 |x::r,h=>by simp only[cM,h x (by simp),uH (l:=r) (λy B1=>h y (acJ _ B1))]
theorem HX{A S:St}(h:∀x∈o.op.operands.toList,A.aq x=S.aq x):fM A o=fM S o:=by
 unfold fM;split
 ·rfl
 ·exact tO h
theorem Ft{all:List Oper}{c:Bool}{x:AV}{gb:Bool}(H:∀t,o.dst=some t->t<S.n)(AB:cJ X.P S o=.val c x)(A9:(fM S o&&c)=true)
 (hw:∀A,jL all o (iq S o) A S->∀φ G a w,Rel φ G A a w->Region.wanted o (yielded all.toArray a.tmps)=true):jM X.P all S o ⟨iq S o,[],gb,x⟩:=by
 intro A M φ G a w E next R A7
 rw[aap (hw A M φ G a w E)];have V:∀x∈o.op.operands.toList,A.aq x=S.aq x:=λx V=>qx M V;have B3:cJ X.P A o=.val c x:=by rw[Ff V M.mem];exact AB
 obtain⟨_,_,_,AR⟩:=Ah (gb:=gb) B3 (by rw[HX V];exact A9) (λt AF=>by rw[M.n];exact H t AF);exact AR φ G a w E next R (λ_ φ' AD w' AH AI=>A7 φ' AD w' AH AI) (λt x he=>by cases he)
theorem Sk{all:List Oper}{c:Bool}{x:AV}{An:cg}(H:∀t,o.dst=some t->t<S.n)(AB:cJ X.P S o=.cG c x An)(A9:(fM S o&&c)=true)
 (hw:∀A,jL all o (iq S o) A S->∀φ G a w,Rel φ G A a w->Region.wanted o (yielded all.toArray a.tmps)=true):jM X.P all S o ⟨iq S o,[An],true,x⟩:=by
 intro A M φ G a w E next R A7
 rw[aap (hw A M φ G a w E)];have V:∀x∈o.op.operands.toList,A.aq x=S.aq x:=λx V=>qx M V;have B3:cJ X.P A o=.cG c x An:=by rw[Ff V M.mem];exact AB
 obtain⟨_,_,_,AR⟩:=KT B3 (by rw[HX V];exact A9) (λt AF=>by rw[M.n];exact H t AF);exact AR φ G a w E next R (λ_ φ' AD w' AH AI=>A7 φ' AD w' AH AI) (λt x he=>by cases he)
theorem rF{all:List Oper}{ks:List Nat}{gb:Bool}{x:AV}(H:∀t,o.dst=some t->t<S.n)(V:gb=true->x=.aY\/x=.bM [])
 (hw:∀A,jL all o ks A S->∀φ G a w,Rel φ G A a w->Region.wanted o (yielded all.toArray a.tmps)=false):jM X.P all S o ⟨ks,[],gb,x⟩:=by
 intro A M φ G a w E next R A7
 rw[aah (by rw[hw A M φ G a w E];simp)];exact A7 φ _ w (E.put o.dst (λt AF=>by rw[M.n];exact H t AF) gb x undef (λO=>yW (V O))) (by simp only[aW.app,eI];exact aP.refl ..)
theorem O7{all:List Oper}(AE:iK X A6)(A4:S.gl=X.gl)(H:∀t,o.dst=some t->t<S.n){AG:Operand}{args:Array Operand}{AU:Array TypeId}(U:o.op=.call {callee:=.value AG,args,argTypes:=AU})
 {x:AV} {es:List cg} {ks:List Nat} (h:cj X A6 S o args.toList (S.aq AG)=some ⟨.ret x,es,ks⟩)
 (hw:∀A,jL all o ks A S->∀φ G a w,Rel φ G A a w->Region.wanted o (yielded all.toArray a.tmps)=true):jM X.P all S o ⟨ks,es,true,x⟩:=by
 intro A M φ G a w E next R A7
 rw[aap (hw A M φ G a w E)];have V:∀x∈o.op.operands.toList,A.aq x=S.aq x:=λx V=>qx M V;have B4:∀x∈args.toList,A.aq x=S.aq x:=λx BN=>V x (by simp[U,Op.operands,Call.operands];exact .inr (by simpa using BN));obtain⟨g,AQ,A_,Aw,A9,Ax,_,AW⟩:=lP h;have AW:=AW A.mem (λk Y=>M.mem k Y);have BO:A.aq AG=(true,.fn g AQ):=by rw[V AG (by simp[U,Op.operands,Call.operands])];exact Aw
 have BP:dt A6 A.mem (keyOf o) (mC g) (gL g (cM A args.toList) AQ) (X.fp (mC g)).uw=some ⟨.ret x,A_,ks⟩:=by
  rw[uH B4];exact C0 M.keys Ax (λk Y=>M.mem k Y)
 refine tM AE U BO rfl (by rw[tO B4];exact A9) BP (M.gl.trans A4) E (λAs Au φ' w' v AH AI AN=>?_) (λt As Au=>by cases Au);cases Au;rw[AW]at AH AI AN;exact A7 φ' _ w' (AH.put o.dst (λt AF=>by show t<A.n;rw[M.n];exact H t AF) true x v (λ_=>AN)) (by simp only[aW.app,eI];exact AI)
theorem HZ{all:List Oper}{S1:St}{p:aW}(AE:iK X A6)(A4:S.gl=X.gl)(H:∀t,o.dst=some t->t<S.n){r:cP}(AB:cJ X.P S o=r)(h:eK X A6 S o r=some (S1,p))
 (hw:∀(ks:List Nat) A,jL all o ks A S->∀φ G a w,Rel φ G A a w->Region.wanted o (yielded all.toArray a.tmps)=true):S1=p.app o S/\(∀e∈p.es,e.key∈p.ks)/\jM X.P all S o p:=by
 cases r with
 |val c x=>
  simp only[eK]at h;split at h
  ·rename_i A9;cases h;exact⟨rfl,by simp,Ft H AB A9 (hw _)⟩
  ·cases h
 |cG c x An=>
  simp only[eK]at h;split at h
  ·rename_i A9;cases h;simp only[Ds,List.contains_eq_mem,aam]at A9;exact⟨rfl,by simpa using A9.2,Sk H AB (by simpa using A9.1) (hw _)⟩
  ·cases h
 |no=>
  simp only[eK,nf]at h;split at h
  ·rename_i AG args AU U;cases Aa:cj X A6 S o args.toList (S.aq AG)with
   |none=>rw[Aa]at h;cases h
   |some res=>
    rw[Aa]at h;obtain⟨out,es,ks⟩:=res;cases out with
    |panic=>cases h
    |ret x=>
     cases h;refine⟨rfl,?_,O7 AE A4 H U Aa (hw _)⟩;obtain⟨_,_,_,_,_,_,Y,_⟩:=lP Aa;exact Y
  ·cases h
theorem fZ.refl(S:St):fZ S S:=⟨rfl,rfl,rfl,λ_=>rfl⟩
theorem fZ.symm{S A:St}(h:fZ S A):fZ A S:=⟨h.n.symm,h.gl.symm,h.mem.symm,λt=>(h.env t).symm⟩
theorem fZ.trans{S A B8:St}(h:fZ S A)(k:fZ A B8):fZ S B8:=⟨h.n.trans k.n,h.gl.trans k.gl,h.mem.trans k.mem,λt=>(h.env t).trans (k.env t)⟩
theorem fZ.app{S A:St}(h:fZ S A)(p:aW)(o:Oper):fZ (p.app o S) (p.app o A):=
 ⟨by rw[tI,tI,h.n],by rw[qo,qo,h.gl],by simp only[aW.app,eI,h.mem],λt=>by rw[sA,sA,h.env]⟩
theorem jL.eqv{all:List Oper}{ks:List Nat}{A S S0:St}(h:jL all o ks A S)(he:fZ S S0):jL all o ks A S0:=
 ⟨h.n.trans he.n,h.gl.trans he.gl,by rw[h.keys,he.mem],λt AF=>(h.env t AF).trans (he.env t),λk Y=>by rw[h.mem k Y,he.mem]⟩
theorem jM.eqv{P:Program}{all:List Oper}{S S0:St}{p:aW}(h:jM P all S o p)(he:fZ S S0):jM P all S0 o p:=λA M=>h A (M.eqv he.symm)
theorem rD.eqv{P:Program}{Ao:Mem->Prop}{all:List Oper}{S S0:St}{p:aW}(h:rD P Ao all S o p)(he:fZ S S0):rD P Ao all S0 o p:=λA M=>h A (M.eqv he.symm)
theorem BJ{P:Program}{Ao:Mem->Prop}{all ops:List Oper}{S S1:St}{ps:List aW}(h:Cert P Ao all ops S ps S1):∀{S0:St},fZ S S0->∃AO,Cert P Ao all ops S0 ps AO/\fZ S1 AO:=by
 induction h with
 |nil S=>exact λhe=>⟨_,.nil _,he⟩
 |cons o rest S p ps S1 Y Az h E ih=>
  intro S0 he;obtain⟨AO,J,AJ⟩:=ih (he.app p o);exact⟨AO,.cons o rest S0 p ps AO Y Az (h.eqv he) J,AJ⟩
theorem Sn{all:List Oper}{S:St}{j:Nat}{t b:Bool}(AC:nU all S j=some (true,.d (.bool t)))(Z:t=b):fZ (S.cz (kF all j) b) S:=
 ⟨BI ..,Ak ..,C2 ..,λu=>Ya AC Z u⟩
theorem yY{md:Bool}{all:List Oper}{S1:St}{p:aW}(AE:iK X A6)(A4:S.gl=X.gl)(H:∀t,o.dst=some t->t<S.n)(h:eg X A6 md all S o=some (S1,p)):fZ S1 (p.app o S)/\(∀e∈p.es,e.key∈p.ks)/\jM X.P all S o p:=by
 have yes:∀{r:cP},cJ X.P S o=r->eK X A6 S o r=some (S1,p)->(∀(ks:List Nat) A,jL all o ks A S->∀φ G a w,Rel φ G A a w->Region.wanted o (yielded all.toArray a.tmps)=true)->fZ S1 (p.app o S)/\(∀e∈p.es,e.key∈p.ks)/\jM X.P all S o p:=by
  intro r AB h hw;obtain⟨I,J,AJ⟩:=HZ AE A4 H AB h hw;exact⟨by rw[I];exact fZ.refl _,J,AJ⟩
 unfold eg at h;split at h
 ·rename_i O;exact yes rfl h (λ_ _ _ _ _ _ _ _=>by simp[Region.wanted,O])
 ·rename_i j AK O;split at h
  ·rename_i t AC;replace AC:=HI AC;have hw:∀(ks:List Nat) A,jL all o ks A S->∀φ G a w,Rel φ G A a w->Region.wanted o (yielded all.toArray a.tmps)=(t == AK):=
    λks A M φ G a w E=>Fp O (by rw[Fq M O];exact AC) E
   have other:∀{r:cP},cJ X.P S o=r->(if (t == AK)=true then eK X A6 S o r else some (S.put o.dst true .aY,⟨[],[],true,.aY⟩))=some (S1,p)->fZ S1 (p.app o S)/\(∀e∈p.es,e.key∈p.ks)/\jM X.P all S o p:=by
    intro r AB h;split at h
    ·rename_i Z;exact yes AB h (λks A M φ G a w E=>by rw[hw ks A M φ G a w E];exact Z)
    ·rename_i Z;cases h;exact⟨fZ.refl _,by simp,rF H (λ_=>.inl rfl) (λA M φ G a w E=>by rw[hw _ A M φ G a w E];simpa using Z)⟩
   cases md with
   |true=>
    simp only at h;split at h
    ·rename_i Z;have At:t=AK:=by simpa using Z
     have he:=Sn AC At;obtain⟨I,J,AJ⟩:=HZ (S:=S.cz (kF all j) AK) AE (by rw[Ak];exact A4) (λt AF=>by rw[BI];exact H t AF) rfl h
      (λks A M φ G a w E=>by rw[hw ks A (M.eqv he) φ G a w E];exact Z)
     exact⟨by rw[I];exact he.app p o,J,AJ.eqv he⟩
    ·rename_i Z;have At:t=!AK:=by cases t<;>cases AK<;>simp_all
     cases h;have he:=Sn AC At;exact⟨he.app ⟨[],[],true,.bM []⟩ o,by simp,rF H (λ_=>.inr rfl) (λA M φ G a w E=>by rw[hw _ A M φ G a w E];simpa using Z)⟩
   |false=>
   simp only at h;unfold qv at h;split at h
   ·rename_i c x AB;split at h
    ·rename_i A8;cases h;refine⟨fZ.refl _,by simp,?_⟩;cases Z:(t == AK)
     ·exact rF H (by simp) (λA M φ G a w E=>by rw[hw _ A M φ G a w E];exact Z)
     ·exact Ft H AB (A8 Z) (λA M φ G a w E=>by rw[hw _ A M φ G a w E];exact Z)
    ·cases h
   ·exact other rfl h
  ·rename_i AC;replace AC:=Fl AC;cases h;exact⟨fZ.refl _,by simp,rF H (λ_=>.inr rfl) (λA M φ G a w E=>by
    have:=C1 E (by rw[Fq M O];exact AC);simp only[Region.wanted,O,this];cases AK<;>rfl)⟩
  ·cases h
inductive jm(T:Nat->St->Oper->aW->Prop):Nat->List Oper->St->List aW->Prop
 |nil (i S):jm T i [] S []
 |cons (i o rest S p ps) (h:T i S o p) (E:jm T (i+1) rest (p.app o S) ps):jm T i (o::rest) S (p::ps)
theorem jm.eqv{T:Nat->St->Oper->aW->Prop}(B':∀i S S0 o p,fZ S S0->T i S o p->T i S0 o p){i:Nat}{ops:List Oper}{S:St}{ps:List aW}(h:jm T i ops S ps):∀{S0:St},fZ S S0->jm T i ops S0 ps:=by
 induction h with
 |nil i S=>exact λ_=>.nil _ _
 |cons i o rest S p ps h E ih=>exact λhe=>.cons _ _ _ _ _ _ (B' _ _ _ _ _ he h) (ih (he.app p o))
theorem jm.mono{T Bc:Nat->St->Oper->aW->Prop}{i:Nat}{ops:List Oper}{S:St}{ps:List aW}(h:jm T i ops S ps):(∀k S o p,i<=k->T k S o p->Bc k S o p)->jm Bc i ops S ps:=by
 induction h with
 |nil i S=>exact λ_=>.nil _ _
 |cons i o rest S p ps h E ih=>exact λY=>.cons _ _ _ _ _ _ (Y _ _ _ _ (aai _) h) (ih λk S o p hi=>Y k S o p (by omega))
theorem jm.len{T:Nat->St->Oper->aW->Prop}{i:Nat}{ops:List Oper}{S:St}{ps:List aW}(h:jm T i ops S ps):ps.length=ops.length:=by
 induction h with
 |nil i S=>rfl
 |cons i o rest S p ps h E ih=>simp[ih]
theorem jm.at{T:Nat->St->Oper->aW->Prop}{all:List Oper}{ps:List aW}{i:Nat}{rest:List Oper}{S0 S:St}{AX:List aW}(h:jm T i rest S AX):∀(pre:List Oper)(pp:List aW),pre.length=i->pre.length=pp.length->all=pre++rest->ps=pp++AX->aC all ps S0 (List.range pre.length)=S->
 ∀j o p,pre.length<=j->all[j]?=some o->ps[j]?=some p->T j (aC all ps S0 (List.range j)) o p:=by
 induction h with
 |nil i S=>
  intro pre pp hi AT M BQ BR j o p AM U;simp only[afl]at M;subst M;rw[afq (by omega)]at U;cases U
 |cons i o rest S p AX B' E ih=>
  intro pre pp hi AT M BQ BR j Bd Bu AM BS BT;have Ap:all[pre.length]?=some o:=by rw[M];simp
  have Av:ps[pre.length]?=some p:=by rw[BQ,AT];simp
  rcases Nat.eq_or_lt_of_le AM with rfl|AM
  ·rw[Ap]at BS;rw[Av]at BT;cases BS;cases BT;rw[BR,hi];exact B'
  ·exact ih (pre++[o]) (pp++[p]) (by simp[hi]) (by simp[AT]) (by rw[M];simp) (by rw[BQ];simp) (by
    rw[ab0,acY,List.range_succ,na,BR];simp[aC,Ap,Av]) j Bd Bu (by simp;omega) BS BT
theorem Ab.eqv{P:Program}{all:List Oper}{S S0:St}{p:aW}{t:TypeId}{x:D}(h:Ab P all S o p t x)(he:fZ S S0):Ab P all S0 o p t x:=λA M=>h A (M.eqv he.symm)
def TT(P:Program)(all:List Oper)(j:Nat)(Aq:List Nat)(t:TypeId)(x:D)(N:Nat)(S1:St)(i:Nat)(S:St)(o:Oper)(p:aW):Prop:=
 (∀e∈p.es,e.key∈p.ks)/\(i≠j->(i<j\/Aq.contains i=true)->jM P all S o p)/\(i=j->Ab P all S o p t x/\S1.n=S.n/\S1.gl=S.gl/\S1.mem=jk N (bq S.mem p.es))
theorem TT.eqv{P:Program}{all:List Oper}{j:Nat}{Aq:List Nat}{t:TypeId}{x:D}{N:Nat}{S1:St}(i:Nat)(S S0:St)(o:Oper)(p:aW)(he:fZ S S0)(h:TT P all j Aq t x N S1 i S o p):TT P all j Aq t x N S1 i S0 o p:=
 ⟨h.1,λa b=>(h.2.1 a b).eqv he,λa=>⟨(h.2.2 a).1.eqv he,(h.2.2 a).2.1.trans he.n,(h.2.2 a).2.2.1.trans he.gl,by rw[<-he.mem];exact (h.2.2 a).2.2.2⟩⟩
theorem acT{X:Ctx}:iK X (λ_ _ _=>none):=λg args cs out l h=>by cases h
theorem yZ{md:Bool}{all:List Oper}{Aq:List Nat}:∀(ops:List Oper)(i:Nat)(S:St)(A2 AX:List aW),qM X md all Aq i ops S A2=some AX->S.gl=X.gl->je S.n ops=true->
 ∃ps,AX=A2.reverse++ps/\jm (λi S o p=>(∀e∈p.es,e.key∈p.ks)/\(Aq.contains i=true->jM X.P all S o p)) i ops S ps
 |[],i,S,A2,AX,h,A4,H=>by
  simp only[qM,aax]at h;exact⟨[],by simp[h],.nil _ _⟩
 |o::rest,i,S,A2,AX,h,A4,H=>by
  simp only[je,afX,Ds]at H;obtain⟨AY,H⟩:=H;have AZ:∀t,o.dst=some t->t<S.n:=λt AF=>by rw[AF]at AY;simpa using AY
  simp only[qM]at h;cases AM:Aq.contains i with
  |true=>
   rw[AM]at h;simp only at h;cases O:eg X (λ_ _ _=>none) md all S o with
   |none=>rw[O]at h;cases h
   |some q=>
    obtain⟨AO,p⟩:=q;rw[O]at h;simp only at h;obtain⟨heq,B0,Ac⟩:=yY acT A4 AZ O;obtain⟨ps,I,J⟩:=yZ rest (i+1) AO (p::A2) AX h (by rw[heq.gl,qo];exact A4) (by rw[heq.n,tI];exact H);exact⟨p::ps,by rw[I];simp,.cons _ _ _ _ _ _ ⟨B0,λ_=>Ac⟩ (J.eqv (λ_ _ _ _ _ he h=>⟨h.1,λa=>(h.2 a).eqv he⟩) heq)⟩
  |false=>
   rw[AM]at h;simp only at h;obtain⟨ps,I,J⟩:=yZ rest (i+1) (S.put o.dst false .aY) _ AX h (by rw[kP];exact A4) (by rw[ly];exact H);exact⟨⟨[],[],false,.aY⟩::ps,by rw[I];simp,.cons _ _ _ _ _ _ ⟨by simp,λhh=>by rw[AM]at hh;cases hh⟩ J⟩
theorem Fu{q:HJ}(h:j6 X A6 S o=some q):o.guard=none/\cJ X.P S o=.no/\∃AG args AU,o.op=.call {callee:=.value AG,args,argTypes:=AU}/\cj X A6 S o args.toList (S.aq AG)=some ⟨.panic q.t q.x,q.es,q.ks⟩/\q.S={S with mem:=bq S.mem q.es}:=by
 unfold j6 at h;split at h
 ·rename_i O;unfold BB at h;split at h
  ·rename_i AB;refine⟨O,AB,?_⟩;unfold HK at h;split at h
   ·rename_i AG args AU U;unfold uz at h;split at h
    ·rename_i t x es ks A8;cases h;exact⟨AG,args,AU,U,A8,rfl⟩
    ·cases h
   ·cases h
  ·cases h
 ·cases h
theorem H0{args:List Operand}{AG:Bool×AV}{out:Out}{es:List cg}{ks:List Nat}(Aa:cj X A6 S o args AG=some ⟨out,es,ks⟩):∀e∈es,e.key∈ks:=by
 obtain⟨_,_,_,_,_,_,Y,_⟩:=lP Aa;exact Y
theorem O8{all:List Oper}(AE:iK X A6)(A4:S.gl=X.gl){AG:Operand}{args:Array Operand}{AU:Array TypeId}(O:o.guard=none)(U:o.op=.call {callee:=.value AG,args,argTypes:=AU})
 {t:TypeId} {x:D} {es:List cg} {ks:List Nat} (h:cj X A6 S o args.toList (S.aq AG)=some ⟨.panic t x,es,ks⟩):Ab X.P all S o ⟨ks,es,true,.aY⟩ t x:=by
 intro A M φ G a w E next R A7
 rw[aap (by simp[Region.wanted,O])];have V:∀x∈o.op.operands.toList,A.aq x=S.aq x:=λx V=>qx M V;have B4:∀x∈args.toList,A.aq x=S.aq x:=λx BN=>V x (by simp[U,Op.operands,Call.operands];exact .inr (by simpa using BN));obtain⟨g,AQ,A_,Aw,A9,Ax,_,AW⟩:=lP h;have AW:=AW A.mem (λk Y=>M.mem k Y);have BO:A.aq AG=(true,.fn g AQ):=by rw[V AG (by simp[U,Op.operands,Call.operands])];exact Aw
 have BP:dt A6 A.mem (keyOf o) (mC g) (gL g (cM A args.toList) AQ) (X.fp (mC g)).uw=some ⟨.panic t x,A_,ks⟩:=by
  rw[uH B4];exact C0 M.keys Ax (λk Y=>M.mem k Y)
 refine tM AE U BO rfl (by rw[tO B4];exact A9) BP (M.gl.trans A4) E (λAs Au=>by cases Au) (λBn As Au φ' w' v AH AI AN=>?_);cases Au;rw[AW]at AH AI AN;exact A7 φ' a w' v AH AI AN
theorem A5{md:Bool}{AL:Nat×List (List Nat)}{all:List Oper}(AE:iK X A6):∀(ops:List Oper)(S:St)(A2:List aW)(e:XE)(S1:St),gM X A6 md AL all ops S A2=some (e,S1)->S.gl=X.gl->je S.n ops=true->
 (e=.normal/\∃ps AO,Cert X.P (λ_=>True) all ops S ps AO/\fZ S1 AO/\n7 AL.2 (A2.reverse++ps)=true)\/
 (∃t x j ps,e=.panic t x/\A2.length<=j/\j<A2.length+ops.length/\jm (TT X.P all j (AL.2.getD j []) t x (AL.1+fi (A2.reverse++ps)+1) S1) A2.length ops S ps/\n7 AL.2 (A2.reverse++ps)=true/\yJ (A2.reverse++ps) (AL.2.getD j [])=true/\S1.env=[])
 |[],S,A2,e,S1,h,A4,H=>by
  simp only[gM]at h;split at h
  ·rename_i AS;cases h;exact .inl ⟨rfl,[],S,.nil S,fZ.refl _,by simpa using AS⟩
  ·cases h
 |o::rest,S,A2,e,S1,h,A4,H=>by
  have Bv:=H;simp only[je,afX,Ds]at H;obtain⟨AY,H⟩:=H;have AZ:∀t,o.dst=some t->t<S.n:=λt AF=>by rw[AF]at AY;simpa using AY
  simp only[gM]at h;cases AP:j6 X A6 S o with
  |some q=>
   right;rw[AP]at h;simp only[mD,O1]at h;obtain⟨O,AB,AG,args,AU,U,A8,Be⟩:=Fu AP;obtain⟨CK,t,x,es,ks⟩:=q;simp only at A8 Be h;subst Be;cases BU:qM X md all (AL.2.getD A2.length []) (A2.length+1) rest (({S with mem:=bq S.mem es}:St).put o.dst true .aY) (⟨ks,es,true,.aY⟩::A2)with
   |none=>rw[BU]at h;cases h
   |some AX=>
    rw[BU]at h;simp only[O0]at h;split at h
    ·rename_i BF;simp only[Ds]at BF;obtain⟨rfl,rfl⟩:XE.panic t x=e/\St.kill {S with mem:=bq S.mem es} (AL.1+fi AX+1)=S1:=by simpa using h
     obtain⟨ps,rfl,Bw⟩:=yZ rest (A2.length+1) _ _ _ BU (by rw[kP];exact A4) (by rw[ly];exact H);have Ap:(⟨ks,es,true,.aY⟩::A2:List aW).reverse++ps=A2.reverse++(⟨ks,es,true,.aY⟩::ps):=by simp
     rw[Ap]at BF⊢;refine⟨t,x,A2.length,⟨ks,es,true,.aY⟩::ps,rfl,aai _,by simp,.cons _ _ _ _ _ _ ⟨H0 A8,λhh=>absurd rfl hh,λ_=>⟨O8 AE A4 O U A8,rfl,rfl,rfl⟩⟩ (Bw.mono λk S o p Y B'=>?_),BF.1,BF.2,rfl⟩;exact⟨B'.1,λ_ hh=>B'.2 (hh.resolve_left (by omega)),λhh=>by omega⟩
    ·cases h
  |none=>
   rw[AP]at h;simp only[mD]at h;cases O:eg X A6 md all S o with
   |none=>rw[O]at h;cases h
   |some q=>
    obtain⟨AO,p⟩:=q;rw[O]at h;simp only[wB]at h;obtain⟨heq,B0,Ac⟩:=yY AE A4 AZ O;rcases A5 AE rest AO (p::A2) e S1 h (by rw[heq.gl,qo];exact A4) (by rw[heq.n,tI];exact H)with ⟨he,ps,BV,A8,BW,AS⟩|⟨t,x,j,ps,he,Bz,C',A8,AS,Bf,C3⟩
    ·left;obtain⟨Ar,B5,B6⟩:=BJ A8 heq;exact⟨he,p::ps,Ar,.cons o rest S p ps Ar B0 (λ_ _=>trivial) Ac.toI B5,BW.trans B6,by simpa using AS⟩
    ·right;have Ap:(p::A2).reverse++ps=A2.reverse++(p::ps):=by simp
     rw[Ap]at AS Bf A8;simp only[ab1]at Bz C' A8;exact⟨t,x,j,p::ps,he,by omega,by simp;omega,.cons _ _ _ _ _ _ ⟨B0,λ_ _=>Ac,λhh=>by omega⟩ (A8.eqv TT.eqv heq),AS,Bf,C3⟩
def cellOf:Bool->ay->Nat->Option AV
 |false,.box cs,j=>cs[j]?
 |true,.vv ag (some x),j=>if ag.length=j then some x else none
 |_,_,_=>none
def qP(A':List Cl)(m:Mem):Prop:=∀q∈A',∃c,Mem.get m q.k=some ⟨q.k,q.v,c⟩/\cellOf q.vv c q.j=some q.x
theorem O9{c:ay}{j:Nat}{x:AV}(h:cellOf false c j=some x):∃cs,c=.box cs/\cs[j]?=some x:=by
 cases c with
 |box cs=>exact⟨cs,rfl,h⟩
 |dead=>cases h
 |vec _ _=>cases h
 |vv _ _=>cases h
theorem Sq{c:ay}{j:Nat}{x:AV}(h:cellOf true c j=some x):∃ag,c=.vv ag (some x)/\ag.length=j:=by
 cases c with
 |box cs=>cases h
 |dead=>cases h
 |vec _ _=>cases h
 |vv ag y=>
  cases y with
  |none=>cases h
  |some y=>
   simp only[cellOf]at h;split at h
   ·rename_i AM;cases h;exact⟨ag,rfl,AM⟩
   ·cases h
theorem Sr:∀{x y:AV},XW x y=true->x=y:=by
 intro x y h;unfold XW at h;split at h
 ·simp only[Ds,aam]at h;obtain⟨⟨⟨rfl,rfl⟩,rfl⟩,rfl⟩:=h;rfl
 ·simp only[Ds,aam]at h;obtain⟨⟨rfl,rfl⟩,rfl⟩:=h;rfl
 ·simp only[Ds,aam]at h;obtain⟨rfl,rfl⟩:=h;rfl
 ·simp only[aam]at h;subst h;rfl
 ·cases h
theorem wG{m:Mem}:∀{fl:List (Nat×Nat)}{A':List Cl},fC m fl=some A'->qP A' m
 |[],A',h=>by simp[fC]at h;subst h;exact λq AA=>by simp at AA
 |(k,j)::r,A',h=>by
  unfold fC at h;split at h
  ·rename_i key v cs l O AT;split at h
   ·rename_i x V;cases h;have Y:key=k:=(Mem.get_mem O).2;subst Y;intro q AA;rcases aan.1 AA with rfl|AA
    ·exact⟨.box cs,O,V⟩
    ·exact wG AT q AA
   ·cases h
  ·rename_i key v ag x l O AT;cases h;have Y:key=k:=(Mem.get_mem O).2;subst Y;intro q AA;rcases aan.1 AA with rfl|AA
   ·exact⟨.vv ag (some x),O,by simp[cellOf]⟩
   ·exact wG AT q AA
  ·cases h
theorem VP{q:Cl}{v:Nat}{c:ay}(h:clE q v c=true):v=q.v/\cellOf q.vv c q.j=some q.x:=by
 unfold clE at h;split at h
 ·rename_i cs;simp only[Ds,aam,akq]at h;obtain⟨⟨I,J⟩,AJ⟩:=h;refine⟨J,?_⟩;rw[I];simp only[cellOf];unfold clB at AJ;split at AJ
  ·rename_i x V;rw[V,Sr AJ]
  ·cases AJ
 ·rename_i ag x;simp only[Ds,aam]at h;obtain⟨⟨⟨I,J⟩,AJ⟩,AR⟩:=h;refine⟨J,?_⟩;rw[I];simp only[cellOf,AJ,adI,Sr AR]
 ·cases h
theorem H3{e:cg}:∀{A':List Cl},O2 e A'=true->∀q∈A',e.key=q.k->∃c,e=⟨q.k,q.v,c⟩/\cellOf q.vv c q.j=some q.x
 |[],_,q,AA,_=>by simp at AA
 |p::r,h,q,AA,Y=>by
  simp only[O2,Ds]at h;rcases aan.1 AA with rfl|AA
  ·have I:=h.1;simp only[Y,decide_true]at I;obtain⟨key,ak,cont⟩:=e;simp only at Y I;subst Y;obtain⟨rfl,J⟩:=VP I;exact⟨cont,rfl,J⟩
  ·exact H3 h.2 q AA Y
theorem Fz{A':List Cl}:∀{es:List cg},CU A' es=true->∀m,qP A' m->qP A' (bq m es)
 |[],_,m,hm=>hm
 |e::r,h,m,hm=>by
  simp only[CU,Ds]at h;refine Fz h.2 _ (λq AA=>?_);obtain⟨cs,I,J⟩:=hm q AA;by_cases Y:e.key=q.k
  ·obtain⟨C4,he,V⟩:=H3 h.1 q AA Y;refine⟨C4,?_,V⟩;have C5:e.key∈m.map (·.key):=by
    obtain⟨AJ,AR⟩:=Mem.get_mem I;rw[Y];exact abY AJ
   rw[<-Y,Mem.nN C5,he]
  ·exact⟨cs,by rw[Mem.nO Y];exact I,J⟩
theorem y9{b:Bool}{k v j:Nat}{x:AV}:∀{A':List Cl},Ae b k v j A'=some x->∃q∈A',q.vv=b/\q.k=k/\q.v=v/\q.j=j/\q.x=x
 |[],h=>by simp[Ae]at h
 |q::r,h=>by
  unfold Ae at h;split at h
  ·rename_i Z;simp only[Ds,aam]at Z;cases h;exact⟨q,by simp,Z.1.1.1.symm,Z.1.1.2.symm,Z.1.2.symm,Z.2.symm,rfl⟩
  ·obtain⟨BX,I,J⟩:=y9 h;exact⟨BX,by simp[I],J⟩
theorem wH{b:Bool}{k v:Nat}:∀{A':List Cl},BC b k v A'=true->∃q∈A',q.vv=b/\q.k=k/\q.v=v
 |[],h=>by simp[BC]at h
 |q::r,h=>by
  unfold BC at h;split at h
  ·rename_i Z;simp only[Ds,aam]at Z;exact⟨q,by simp,Z.1.1.symm,Z.1.2.symm,Z.2.symm⟩
  ·obtain⟨BX,I,J⟩:=wH h;exact⟨BX,by simp[I],J⟩
theorem Ei{A':List Cl}{m:Mem}(hm:qP A' m){q:Cl}(AA:q∈A')(AN:q.vv=false):∃cs,Mem.get m q.k=some ⟨q.k,q.v,.box cs⟩/\cs[q.j]?=some q.x:=by
 obtain⟨c,I,J⟩:=hm q AA;rw[AN]at J;obtain⟨cs,rfl,AJ⟩:=O9 J;exact⟨cs,I,AJ⟩
theorem Ss{A':List Cl}{m:Mem}(hm:qP A' m){q:Cl}(AA:q∈A')(AN:q.vv=true):∃ag,Mem.get m q.k=some ⟨q.k,q.v,.vv ag (some q.x)⟩/\ag.length=q.j:=by
 obtain⟨c,I,J⟩:=hm q AA;rw[AN]at J;obtain⟨cs,rfl,AJ⟩:=Sq J;exact⟨cs,I,AJ⟩
theorem VQ{P:Program}{A':List Cl}{S:St}{x:AV}(h:Af P A' S o.op=some x)(hm:qP A' S.mem):∃c,cJ P S o=.val c x/\(fM S o&&c)=true:=by
 unfold Af at h;split at h
 ·rename_i t y U;unfold XX at h;split at h
  ·rename_i k v off heq;split at h
   ·rename_i BY B7;obtain⟨q,AA,Al,rfl,rfl,rfl,rfl⟩:=y9 h;obtain⟨cs,I,J⟩:=Ei hm AA Al;have BD:q.j<cs.length:=(aaf.1 J).1;refine⟨true,?_,by simp[fM,U,gW,Op.operands,heq]⟩;unfold cJ;rw[U];simp only[heq,lj,I,BY,J,acV];simp only[ac7]at B7;simp[B7,BD]
   ·cases h
  ·rename_i k v i j heq;split at h
   ·rename_i BY B7 AM;obtain⟨q,AA,Al,rfl,rfl,rfl,rfl⟩:=y9 h;obtain⟨ag,I,J⟩:=Ss hm AA Al;simp only[aam]at AM;subst AM;refine⟨true,?_,by simp[fM,U,gW,Op.operands,heq]⟩;unfold cJ;rw[U];simp only[heq,lj,I,BY];simp only[ac7]at B7;simp[B7,J]
   ·cases h
  ·cases h
 ·rename_i s y f U;unfold XY at h;split at h
  ·rename_i n k v off A7 heq;split at h
   ·rename_i A8;cases h;obtain⟨q,AA,Al,rfl,rfl⟩:=wH A8;obtain⟨cs,I,J⟩:=Ei hm AA Al;refine⟨true,?_,by simp[fM,U,gW,Op.operands,heq]⟩;unfold cJ;rw[U];simp[heq,nD,A7,I]
   ·cases h
  ·cases h
 ·rename_i y U;unfold XZ at h;split at h
  ·rename_i k v off heq;split at h
   ·rename_i A8;cases h;obtain⟨q,AA,Al,rfl,rfl⟩:=wH A8;obtain⟨cs,I,J⟩:=Ei hm AA Al;refine⟨true,?_,by simp[fM,U,gW,Op.operands,heq]⟩;unfold cJ;rw[U];simp[heq,iz,I]
   ·cases h
  ·cases h
 ·rename_i t y z U;unfold X0 at h;split at h
  ·rename_i e k v off len CL n C6 heq Bg;split at h
   ·rename_i Bh A8 Bi Bj;cases h;simp only[aam]at Bh Bi Bj;obtain⟨q,AA,Al,rfl,rfl⟩:=wH A8;obtain⟨ag,I,J⟩:=Ss hm AA Al;refine⟨true,?_,by simp[fM,U,gW,Op.operands,heq,Bg]⟩;unfold cJ;rw[U];simp[heq,Bg,lE,C6,Bh,I,Bi,Bj]
   ·cases h
  ·cases h
 ·cases h
theorem Su{P:Program}{A':List Cl}{A S:St}(h:∀x∈o.op.operands.toList,A.aq x=S.aq x):Af P A' A o.op=Af P A' S o.op:=by
 unfold Af;split
 ·rename_i t y U;rw[h y (by simp[U,Op.operands])]
 ·rename_i s y f U;rw[h y (by simp[U,Op.operands])]
 ·rename_i y U;rw[h y (by simp[U,Op.operands])]
 ·rename_i t y z U;rw[h y (by simp[U,Op.operands]),h z (by simp[U,Op.operands])]
 ·rfl
theorem Pa{all:List Oper}{A':List Cl}{x:AV}(H:∀t,o.dst=some t->t<S.n)(h:Ag X.P A' S o=some x):rD X.P (qP A') all S o ⟨[],[],true,x⟩:=by
 intro A M Az φ G a w E next R A7
 unfold Ag at h;split at h
 ·rename_i O;rw[aap (by simp[Region.wanted,O])];have V:∀x∈o.op.operands.toList,A.aq x=S.aq x:=λx V=>qx M V;obtain⟨c,B3,A9⟩:=VQ (by rw[Su V];exact h) Az;obtain⟨_,_,_,AR⟩:=Ah (gb:=true) B3 A9 (λt AF=>by rw[M.n];exact H t AF);exact AR φ G a w E next R (λ_ φ' AD w' AH AI=>A7 φ' AD w' AH AI) (λt x he=>by cases he)
 ·cases h
theorem J9{l:List Nat}{r:List Oper}(h:vk l r=true):l=[]/\r=[]:=by
 cases l<;>cases r<;>simp_all [vk]
theorem VR{all:List Oper}{AL:List (List Nat)}{ps:List aW}(AB:By all AL=true)(AT:ps.length+1=all.length)(A7:AL.getD (all.length-1) []=[])(H:n7 AL ps=true):l7 all (ps++[A1])=true:=by
 have C7:=A0 AB A7;unfold l7;refine aaH.2 λj AM=>?_;have I:=aaH.1 AB j AM;have C8:j<all.length:=ab2.1 AM;unfold yG at I;unfold Gt;have C9:(ps++[A1])[j]?=some ((ps++[A1])[j]'(by simp;omega)):=by simp[AT,C8]
 rw[C9];cases U:all[j]? with
 |none=>rw[U]at I;cases I
 |some o=>
  rw[U]at I;simp only[Ds,aaH,aam,afP,ab2]at I⊢;refine⟨I.1,λi hi=>?_⟩;by_cases BK:j+1=all.length
  ·left;have:=C7 i (by omega);rw[<-BK]at this;simpa using this
  ·rcases I.2 i hi with J|J
   ·exact .inl J
   ·right;have BG:j<ps.length:=by omega
    have CA:(ps++[A1])[i]?=some (ps[i]'(by omega)):=by rw[aaq (by omega)];simp[show i<ps.length by omega]
    have CB:(ps++[A1])[j]'(by simp;omega)=ps[j]'BG:=List.getElem_append_left BG
    rw[CB];cases Bk:all[i]? with
    |none=>rw[Bk]at J;cases J
    |some Bd=>
     rw[Bk]at J;rw[CA];simp only[Ds]at J;simp only[yA];have Ap:=wj (po H i _ (acB (show i<ps.length by omega))) j (by simpa using J.2.1) _ (acB BG);have Av:=wj (po H j _ (acB BG)) i (by simpa using J.2.2) _ (acB (show i<ps.length by omega));have Bl:=J.1;simp only[Bx,Ds]at Bl;simp only[Ds];exact⟨⟨Bl,Ap⟩,Av⟩
def Sv(P:Program)(Ao:Mem->Prop)(AL:List (List Nat))(all ops:List Oper)(S:St)(A2:List aW)(e:XE)(S1:St):Prop:=
 (e=.normal/\∃ps AO,Cert P Ao all ops S ps AO/\fZ S1 AO/\n7 AL (A2.reverse++ps)=true)\/
  (∃init ol ps AO,ops=init++[ol]/\Cert P Ao all init S ps AO/\AL.getD (all.length-1) []=[]/\n7 AL (A2.reverse++ps)=true/\yV P all AO ol e S1)
theorem yV.eqv{P:Program}{all:List Oper}{S S0 S1:St}{e:XE}(h:yV P all S o e S1)(he:fZ S S0):yV P all S0 o e S1:=by
 obtain⟨I,J,AJ,AR⟩:=h;refine⟨I.trans he.n,J.trans he.gl,AJ,λφ G a w E next R A7 AP=>?_⟩;have:=AR φ G a w (E.eqv he.symm) next R
 rw[he.mem]at this;exact this A7 AP
theorem FA{md:Bool}{AL:List (List Nat)}{A':List Cl}{all:List Oper}(AE:iK X A6):∀(ops:List Oper)(S:St)(A2:List aW)(e:XE)(S1:St),A2.length+ops.length=all.length->pv X A6 md AL A' all ops S A2=some (e,S1)->S.gl=X.gl->je S.n ops=true->
 Sv X.P (qP A') AL all ops S A2 e S1
 |[],S,A2,e,S1,_,h,A4,H=>by
  simp only[pv]at h;split at h
  ·rename_i AS;cases h;exact .inl ⟨rfl,[],S,.nil S,fZ.refl _,by simpa using AS⟩
  ·cases h
 |o::rest,S,A2,e,S1,Bm,h,A4,H=>by
  have Bv:=H;simp only[je,afX,Ds]at H;obtain⟨AY,H⟩:=H;have AZ:∀t,o.dst=some t->t<S.n:=λt AF=>by rw[AF]at AY;simpa using AY
  simp only[ab1]at Bm;simp only[pv]at h;cases BZ:vk (AL.getD A2.length []) rest with
  |true=>
   rw[BZ]at h;simp only[O3]at h;obtain⟨CC,rfl⟩:=J9 BZ;split at h
   ·rename_i AS;right;refine⟨[],o,[],S,rfl,.nil S,?_,by simpa using AS,?_⟩
    ·have:all.length-1=A2.length:=by simp at Bm;omega
     rw[this];exact CC
    ·simp only[eQ]at h;rcases gf h with ⟨BV,I,J⟩|⟨I,J⟩
     ·cases J;exact sN AE A4 AZ I
     ·exact sN AE A4 AZ I
   ·cases h
  |false=>
  rw[BZ]at h;simp only at h;have glue:∀(p:aW)(A:St),(∀e∈p.es,e.key∈p.ks)->(∀m,qP A' m->qP A' (bq m p.es))->rD X.P (qP A') all S o p->fZ A (p.app o S)->pv X A6 md AL A' all rest A (p::A2)=some (e,S1)->Sv X.P (qP A') AL all (o::rest) S A2 e S1:=by
   intro p A Y Az Ac heq BL;rcases FA AE rest A (p::A2) e S1 (by simp;omega) BL (by rw[heq.gl,qo];exact A4) (by rw[heq.n,tI];exact H)with ⟨he,ps,BV,A8,BW,AS⟩|⟨init,ol,ps,BV,E,A8,A7,AS,CD⟩
   ·obtain⟨Ar,B5,B6⟩:=BJ A8 heq;exact .inl ⟨he,p::ps,Ar,.cons o rest S p ps Ar Y Az Ac B5,BW.trans B6,by simpa using AS⟩
   ·obtain⟨Ar,B5,B6⟩:=BJ A8 heq;exact .inr ⟨o::init,ol,p::ps,Ar,by rw[E];rfl,.cons o init S p ps Ar Y Az Ac B5,A7,by simpa using AS,CD.eqv B6⟩
  cases AT:Ag X.P A' S o with
  |some x=>
   rw[AT]at h;simp only[wC,wB]at h;exact glue ⟨[],[],true,x⟩ _ (by simp) (λ_ h=>h) (Pa (X:=X) (all:=all) AZ AT) (fZ.refl _) h
  |none=>
   rw[AT]at h;simp only[wC]at h;cases O:eg X A6 md all S o with
   |none=>rw[O]at h;cases h
   |some q=>
    obtain⟨AO,p⟩:=q;rw[O]at h;simp only[VM]at h;split at h
    ·rename_i hinv;simp only[wB]at h;obtain⟨heq,B0,Ac⟩:=yY AE A4 AZ O;exact glue p AO B0 (Fz hinv) Ac.toI heq h
    ·cases h
end
theorem a8.VS{φ:bG}{G:Fr}{m:Mem}{w:World}(h:a8 φ G m w){E H e1' e2':cg}(A3:E∈m)(A4:H∈m)(AK:E.key≠H.key){V Y L1' L2':Loc}(A5:φ E.key=some V)(A6:φ H.key=some Y)
 (A':e1'.key=E.key) (A0:e2'.key=H.key) (AL:V.ak<=L1'.ak) (AM:Y.ak<=L2'.ak) (AN:L1'.ak=V.ak->L1'={V with cC:=L1'.cC}) (AO:L2'.ak=Y.ak->L2'={Y with cC:=L2'.cC})
 (AP:L1'.ak=e1'.ak) (AQ:L2'.ak=e2'.ak) (A7:∀b,e1'.cont.cD L1' b->E.cont.cD V b\/H.cont.cD Y b) (A8:∀b,e2'.cont.cD L2' b->E.cont.cD V b\/H.cont.cD Y b)
 (AF:∀b,e1'.cont.cD L1' b->e2'.cont.cD L2' b->False)
 (AR:∀(φ':bG)(F':Nat->Prop),φ.le φ'->φ' E.key=some L1'->φ' H.key=some L2'->(∀b,F' b->Fo G φ m b)->dD φ' w F' L1' e1'.cont/\dD φ' w F' L2' e2'.cont):
 ∃φ',a8 φ' G (Mem.set (Mem.set m e1') e2') w/\aP φ m w φ' (Mem.set (Mem.set m e1') e2') w:=by
 obtain⟨m',A9⟩:∃m',m'=Mem.set (Mem.set m e1') e2':=⟨_,rfl⟩;rw[<-A9];have AS:((Mem.set m e1').map (·.key)).Nodup:=by rw[Mem.fS];exact h.nodup
 have AG:m'.map (·.key)=m.map (·.key):=by rw[A9,Mem.fS,Mem.fS]
 have A1:∀y,y∈m'->y=e2'\/y=e1'\/(y∈m/\y.key≠E.key/\y.key≠H.key):=by
  intro y T;rw[A9]at T;rcases (Mem.mem_set AS).1 T with ⟨A,_⟩|⟨A,I⟩
  ·exact .inl A
  ·rcases (Mem.mem_set h.nodup).1 A with ⟨A,_⟩|⟨A,U⟩
   ·exact .inr (.inl A)
   ·exact .inr (.inr ⟨A,by rw[<-A'];exact U,by rw[<-A0];exact I⟩)
 obtain⟨φ',AA⟩:∃φ':bG,φ'=λj=>if j=E.key then some L1' else if j=H.key then some L2' else φ j:=⟨_,rfl⟩
 have f1:φ' E.key=some L1':=by simp[AA]
 have f2:φ' H.key=some L2':=by simp[AA,show ¬H.key=E.key from λh=>AK h.symm]
 have f3:∀j,j≠E.key->j≠H.key->φ' j=φ j:=λj A I=>by simp[AA,A,I]
 have hle:φ.le φ':=by
  intro j AB Z;by_cases A:j=E.key
  ·subst A;rw[A5]at Z;cases Z;exact⟨_,f1,AL,AN⟩
  ·by_cases I:j=H.key
   ·subst I;rw[A6]at Z;cases Z;exact⟨_,f2,AM,AO⟩
   ·exact⟨AB,by rw[f3 j A I];exact Z,aai _,λ_=>rfl⟩
 have AH:∀b,E.cont.cD V b\/H.cont.cD Y b->gS φ m b:=λb J=>J.elim (λJ=>⟨E,A3,V,A5,J⟩) (λJ=>⟨H,A4,Y,A6,J⟩);have AC:∀b,gS φ' m' b->gS φ m b:=by
  rintro b ⟨y,T,O,D,M⟩;rcases A1 y T with rfl|rfl|⟨A,I,U⟩
  ·rw[A0,f2]at D;cases D;exact AH b (A8 b M)
  ·rw[A',f1]at D;cases D;exact AH b (A7 b M)
  ·rw[f3 _ I U]at D;exact⟨y,A,O,D,M⟩
 have AI:∀b,Fo G φ' m' b->Fo G φ m b:=λb=>Or.imp id (AC b);have AJ:=AR φ' (Fo G φ' m') hle f1 f2 AI;have A2:∀y∈m,y.key≠E.key->y.key≠H.key->∀O,φ y.key=some O->∀b,y.cont.cD O b->E.cont.cD V b\/H.cont.cD Y b->False:=by
  intro y T I U O D b M J;rcases J with J|J
  ·exact I (h.apart y T E A3 O V D A5 ⟨b,M,J⟩)
  ·exact U (h.apart y T H A4 O Y D A6 ⟨b,M,J⟩)
 refine⟨φ',⟨by rw[AG];exact h.nodup,?_,?_,?_,λb J=>h.jP b (AC b J),h.bound⟩,⟨hle,λ_ _ _=>rfl,λb _ J=>AC b J,aai _,rfl,rfl,rfl⟩⟩
 ·intro j AB Z;rw[AG];by_cases A:j=E.key
  ·subst A;exact abY A3
  ·by_cases I:j=H.key
   ·subst I;exact abY A4
   ·rw[f3 j A I]at Z;exact h.oI j AB Z
 ·intro y T;rcases A1 y T with rfl|rfl|⟨A,I,U⟩
  ·exact⟨L2',by rw[A0];exact f2,AQ,AJ.2⟩
  ·exact⟨L1',by rw[A'];exact f1,AP,AJ.1⟩
  ·obtain⟨O,D,AT,AU⟩:=h.fC y A;exact⟨O,by rw[f3 _ I U];exact D,AT,AU.mono hle (λ_ _ _=>rfl) (aai _) (λb _=>AI b) (λ_ _=>rfl)⟩
 ·rintro y T z AD O AE D N ⟨b,M,q⟩;rcases A1 y T with rfl|rfl|⟨A,I,U⟩
  ·rw[A0,f2]at D;cases D;rcases A1 z AD with rfl|rfl|⟨g1,g2,g3⟩
   ·rfl
   ·rw[A',f1]at N;cases N;exact (AF b q M).elim
   ·rw[f3 _ g2 g3]at N;exact (A2 z g1 g2 g3 AE N b q (A8 b M)).elim
  ·rw[A',f1]at D;cases D;rcases A1 z AD with rfl|rfl|⟨g1,g2,g3⟩
   ·rw[A0,f2]at N;cases N;exact (AF b M q).elim
   ·rfl
   ·rw[f3 _ g2 g3]at N;exact (A2 z g1 g2 g3 AE N b q (A7 b M)).elim
  ·rw[f3 _ I U]at D;rcases A1 z AD with rfl|rfl|⟨g1,g2,g3⟩
   ·rw[A0,f2]at N;cases N;exact (A2 y A I U O D b M (A8 b q)).elim
   ·rw[A',f1]at N;cases N;exact (A2 y A I U O D b M (A7 b q)).elim
   ·rw[f3 _ g2 g3]at N;exact h.apart y A z g1 O AE D N ⟨b,M,q⟩
theorem Pb(S:St)(Ai j k sz:Nat):dz S (S.jl Ai j k sz):=by
 unfold St.jl;split
 ·rename_i key BA cs T v cont B_ Z;split
  ·rename_i A6;split
   ·exact dz.refl S
   ·rename_i AO;refine⟨rfl,rfl,λφ G a w H=>?_⟩;obtain⟨hm,A',L,AA,AK,A_⟩:=H.mem.get Z;simp only at A' AK;subst A';obtain⟨Ba,AU,Cc,Cd,DX⟩:=H.mem.cG (e':=⟨T,v+1,.vec sz []⟩) hm AA rfl (L':=⟨v+1,0,sz,0,0,[]⟩) (by simp only;omega) (λhh=>by simp only at hh;omega) rfl
     (w':=w) (λ_ _ _=>rfl) (aai _) (λ_ A3=>absurd A3.1 (by simp)) rfl rfl rfl (λφ' AR Bb=>⟨rfl,by simp,by simp,λJ=>by simp at J⟩)
    have Ce:Mem.get (Mem.set S.mem ⟨T,v+1,.vec sz []⟩) Ai=some ⟨key,BA,.box cs⟩:=by
     rw[Mem.nO (by simpa using λh=>AO h.symm)];exact B_
    obtain⟨BQ,BB,BC,BR,BD,Bc⟩:=AU.get Ce;simp only at BB BD;subst BB;obtain⟨AN,Aj,AG,DY,DZ⟩:=AU.cG (e':=⟨key,BA,.box (cs.set j (.vec T (v+1) 0 0))⟩) BQ BR rfl (L':=BC) (aai _) (λ_=>rfl) BD
     (w':=w) (λ_ _ _=>rfl) (aai _) (λ_ A3=>.inl A3) rfl rfl rfl (λφ' AR Bb=>by
      obtain⟨g0,arr,elem,g1,g2,g3,g4⟩:=Bc;have Cf:∀b,Fo G φ' (Mem.set (Mem.set S.mem ⟨T,v+1,.vec sz []⟩) ⟨key,BA,.box (cs.set j (.vec T (v+1) 0 0))⟩) b->Fo G Ba (Mem.set S.mem ⟨T,v+1,.vec sz []⟩) b:=by
       rintro b (h|⟨x,AB,Bd,Aa,BE⟩)
       ·exact .inl h
       ·right;rcases (Mem.mem_set AU.nodup).1 AB with ⟨rfl,_⟩|⟨Be,Bf⟩
        ·simp only[AR,adI]at Aa;cases Aa;exact⟨_,BQ,BC,BR,BE⟩
        ·simp only[AR,Bf,acF]at Aa;exact⟨x,Be,Bd,Aa,BE⟩
      refine⟨by simpa using g0,arr,elem,g1,by simp[g2],g3,λi c u J hu=>?_⟩;rw[List.getElem?_set]at J;split at J
      ·rename_i Ak;subst Ak;split at J
       ·cases J;have:=g4 j _ u A6 hu;cases this;refine .vec T (v+1) 0 0 _ ⟨v+1,0,sz,0,0,[]⟩ ?_ (aai _) (λ_=>⟨_,_,rfl,by simp,λh=>by omega⟩) rfl;rw[AR];simp only
        rw[aah (λh=>AO h.symm)];exact Cd
       ·cases J
      ·exact (g4 i c u J hu).mono Bb (λ_ _ _=>rfl) (aai _) (λb _=>Cf b))
    have C7:=Cc.trans AG;exact⟨AN,H.x9 Aj C7,C7⟩
  ·exact dz.refl S
 ·exact dz.refl S
theorem za(AP:AV->AV):∀m:Mem,(sJ AP m).map (·.key)=m.map (·.key)
 |[]=>rfl
 |e::r=>by simp[sJ,za AP r]
theorem H5{AP:AV->AV}:∀{m:Mem}{x:cg},x∈sJ AP m↔∃e∈m,x=⟨e.key,e.ak,pe AP e.cont⟩
 |[],x=>by simp[sJ]
 |e::r,x=>by simp[sJ,H5 (m:=r)]
theorem Pc(S:St)(k AS:Nat):dz S (S.wm k AS):=by
 unfold St.wm;split
 ·rename_i key v sz ag T v2 cont Z Ab;split
  ·exact dz.refl S
  ·rename_i AO;refine⟨rfl,rfl,λφ G a w H=>?_⟩;obtain⟨hm,A',L,AA,AK,A_⟩:=H.mem.get Z;obtain⟨Aj,AG,AW,At,B0,_⟩:=H.mem.get Ab;simp only at A' AK AG B0;subst A';subst AG;have Cg:¬T=key:=λh=>AO h.symm;obtain⟨AP,C8⟩:∃AP,AP=Eg key v T (v2+1):=⟨_,rfl⟩;rw[<-C8];obtain⟨BS,AU⟩:∃BS,BS=Mem.set (sJ AP S.mem) ⟨key,v+1,.dead⟩:=⟨_,rfl⟩;have C9:((sJ AP S.mem).map (·.key)).Nodup:=by rw[za];exact H.mem.nodup
   have AL:(BS.map (·.key)).Nodup:=by rw[AU,Mem.fS];exact C9
   obtain⟨m',AT⟩:∃m',m'=Mem.set BS ⟨T,v2+1,.vec sz ag⟩:=⟨_,rfl⟩;rw[<-AU,<-AT];have BF:m'.map (·.key)=S.mem.map (·.key):=by rw[AT,Mem.fS,AU,Mem.fS,za]
   have BG:∀y,y∈m'->y=⟨T,v2+1,.vec sz ag⟩\/y=⟨key,v+1,.dead⟩\/(∃z∈S.mem,y=⟨z.key,z.ak,pe AP z.cont⟩/\z.key≠key/\z.key≠T):=by
    intro y AH;rw[AT]at AH;rcases (Mem.mem_set AL).1 AH with ⟨h,_⟩|⟨h,I⟩
    ·exact .inl h
    ·rw[AU]at h;rcases (Mem.mem_set C9).1 h with ⟨h,_⟩|⟨h,O⟩
     ·exact .inr (.inl h)
     ·obtain⟨z,BT,rfl⟩:=H5.1 h;exact .inr (.inr ⟨z,BT,rfl,O,I⟩)
   obtain⟨φ',AR⟩:∃φ':bG,φ'=λj=>if j=key then some {L with ak:=v+1} else if j=T then some {L with ak:=v2+1} else φ j:=⟨_,rfl⟩
   have f1:φ' key=some {L with ak:=v+1}:=by simp[AR]
   have f2:φ' T=some {L with ak:=v2+1}:=by simp[AR,Cg]
   have f3:∀j,j≠key->j≠T->φ' j=φ j:=λj E I=>by simp[AR,E,I]
   have hle:φ.le φ':=by
    intro j Bg AC;by_cases E:j=key
    ·subst E;rw[AA]at AC;cases AC;exact⟨_,f1,by simp only;omega,λhh=>by simp only at hh;omega⟩
    ·by_cases I:j=T
     ·subst I;rw[At]at AC;cases AC;exact⟨_,f2,by simp only;omega,λhh=>by simp only at hh;omega⟩
     ·exact⟨Bg,by rw[f3 j E I];exact AC,aai _,λ_=>rfl⟩
   have Bh:∀b,gS φ' m' b->gS φ S.mem b:=by
    rintro b ⟨y,AH,B1,AI,Al⟩;rcases BG y AH with rfl|rfl|⟨Au,E,rfl,I,O⟩
    ·simp only at AI;rw[f2]at AI;cases AI;exact⟨_,hm,L,AA,Al⟩
    ·exact Al.elim
    ·simp only at AI;rw[f3 _ I O]at AI;exact⟨Au,E,B1,AI,kj.1 Al⟩
   have A1:∀b,Fo G φ' m' b->Fo G φ S.mem b:=λb=>Or.imp id (Bh b);have Av:∀x u,az φ w (Fo G φ S.mem) x u->az φ' w (Fo G φ' m') (AP x) u:=by
    intro y u AC;have CA:=AC.mono (φ':=φ') (F':=Fo G φ' m') hle (λ_ _ _=>rfl) (aai _) (λb _=>A1 b);rw[C8];unfold Eg;split
    ·rename_i D_ v0 o l;split
     ·rename_i hh;obtain⟨rfl,rfl⟩:=hh;cases AC with
      |vec _ _ _ _ _ L' An _ h E=>
       rw[AA]at An;cases An;exact .vec T (v2+1) o l _ _ f2 (aai _) (λ_=>h AK.symm) E
     ·exact CA
    ·exact CA
   refine⟨φ',⟨H.size,H.defers,?_,⟨?_,?_,?_,?_,?_,?_⟩,H.jR.mono (λ_ _ _=>rfl) (aai _) (λb _=>A1 b)⟩,Hr Bh hle⟩
   ·intro t x AB;obtain⟨y,AH,rfl⟩:=yu _ S.env t true x AB;exact Av _ _ (H.env t y AH)
   ·show (m'.map (·.key)).Nodup;rw[BF];exact H.mem.nodup
   ·intro j Bg AC;show j∈m'.map (·.key);rw[BF];by_cases E:j=key
    ·subst E;exact abY hm
    ·by_cases I:j=T
     ·subst I;exact abY Aj
     ·rw[f3 j E I]at AC;exact H.mem.oI j Bg AC
   ·intro y AH;rcases BG y AH with rfl|rfl|⟨Au,E,rfl,I,O⟩
    ·refine⟨_,f2,rfl,?_⟩;have:=A_.mono (φ':=φ') (F':=Fo G φ' m') hle (λ_ _ _=>rfl) (aai _) (λb _=>A1 b) (λ_ _=>rfl);exact this
    ·exact⟨_,f1,rfl,trivial⟩
    ·obtain⟨B1,AI,Ch,B2⟩:=H.mem.fC Au E;refine⟨B1,by simp only;rw[f3 _ I O];exact AI,Ch,?_⟩;cases Bi:Au.cont with
     |dead=>trivial
     |box cs=>
      rw[Bi]at B2;obtain⟨g0,arr,elem,g1,g2,g3,g4⟩:=B2;refine⟨by simpa using g0,arr,elem,g1,by simp[g2],g3,λi c u CB hu=>?_⟩;rw[acj]at CB;obtain⟨x,AB,rfl⟩:=aak.1 CB;exact Av x u (g4 i x u AB hu)
     |vec Da Ci=>
      rw[Bi]at B2;exact B2.mono hle (λ_ _ _=>rfl) (aai _) (λb _=>A1 b) (λ_ _=>rfl)
     |vv Ci Db=>
      rw[Bi]at B2;exact jO.mono AP B2 (λ_ _ _ _ u hu=>hu.mono (λ_ _ _=>rfl) (aai _) (λb _=>A1 b)) (λx _ v AB=>Av x v AB) (λ_ _=>rfl)
   ·rintro y AH z BT B1 CC AI Ac ⟨b,Al,BH⟩;rcases BG y AH with rfl|rfl|⟨Au,E,rfl,I,O⟩
    ·rcases BG z BT with rfl|rfl|⟨z0,g1,rfl,g2,g3⟩
     ·rfl
     ·exact BH.elim
     ·simp only at AI;rw[f2]at AI;cases AI;simp only at Ac;rw[f3 _ g2 g3]at Ac;exact absurd (H.mem.apart _ hm z0 g1 L CC AA Ac ⟨b,Al,kj.1 BH⟩).symm g2
    ·exact Al.elim
    ·rcases BG z BT with rfl|rfl|⟨z0,g1,rfl,g2,g3⟩
     ·simp only at Ac;rw[f2]at Ac;cases Ac;simp only at AI;rw[f3 _ I O]at AI;exact absurd (H.mem.apart Au E _ hm B1 L AI AA ⟨b,kj.1 Al,BH⟩) I
     ·exact BH.elim
     ·simp only at AI Ac;rw[f3 _ I O]at AI;rw[f3 _ g2 g3]at Ac;exact H.mem.apart Au E z0 g1 B1 CC AI Ac ⟨b,kj.1 Al,kj.1 BH⟩
   ·intro b A;exact H.mem.jP b (Bh b A)
   ·exact H.mem.bound
 ·exact dz.refl S
theorem Sx{α:Type}{l:List α}{n:Nat}(h:l.length=n+1):∃(r:List α)(o:α),l=r++[o]/\r.length=n:=by
 refine⟨l.dropLast,l.getLast (by intro hh;simp[hh]at h),(List.dropLast_concat_getLast _).symm,by simp[h]⟩
theorem VU(S:St)(k AS:Nat):dz S (S.sB k AS):=by
 unfold St.sB;split
 ·rename_i key v ag T v2 cont Z Ab;split
  ·rename_i xs BI;split
   ·exact dz.refl S
   ·rename_i AO;refine⟨rfl,rfl,λφ G a w H=>?_⟩;obtain⟨hm,A',L,AA,AK,A_⟩:=H.mem.get Z;obtain⟨Aj,AG,AW,At,B0,_⟩:=H.mem.get Ab;simp only at A' AK AG B0;subst A';subst AG;have CD:ag=ag.dropLast++[xs]:=by
     rcases List.eq_nil_or_concat ag with rfl|⟨r,x,rfl⟩
     ·simp at BI
     ·simp at BI;subst BI;simp
    obtain⟨r,Cj⟩:∃r,r=ag.dropLast:=⟨_,rfl⟩;rw[<-Cj]at CD⊢;subst CD;obtain⟨⟨AC,E,I⟩,O,AJ,Ad⟩:jO φ w (Fo G φ S.mem) L (r++[xs]) none:=A_;simp only[ab0,acY,Option.toList_none,ae8,afA]at E I;obtain⟨arr,elem,g1,g2,g3,g4,_⟩:=Ad (by omega);obtain⟨cC,o,B3,Bj⟩:=Sx I;have CE:=g4 r.length xs o (by simp) (by rw[B3,<-Bj];simp);have B4:∀b,some b∈cC->some b∈L.cC:=λb A=>by rw[B3];simp[A]
    have AX:∀(i:Nat)(x:Option Nat),cC[i]?=some x->L.cC[i]?=some x:=λi x AB=>by
     rw[B3,aaq (aaf.1 AB).1];exact AB
    have Ck:∀b,o=some b->some b∉cC:=λb A hm=>by
     obtain⟨i,hi⟩:=List.getElem?_of_mem hm;have Aw:=(aaf.1 hi).1;have:=O i r.length b (AX i _ hi) (by rw[B3,<-Bj,<-A];simp);omega
    have base:∀(L2':Loc)(x:Value),(L2'.ak=v2+1/\L2'.sz=1)->arr[L.base+r.length]?=some x->(∀(φ':bG)(F':Nat->Prop),φ' T=some L2'->az φ' w F' (.vec T (v2+1) 0 xs.length) x)->
     (∀b,0<L2'.cap->L2'.cU=b->o=some b)->
     (∀(φ':bG)(F':Nat->Prop),φ.le φ'->(∀b,F' b->Fo G φ S.mem b)->dD φ' w F' L2' (.vec 1 xs))->
     ∃φ',Rel φ' G {S with mem:=Mem.set (Mem.set S.mem ⟨key,v,.vv r (some (.vec T (v2+1) 0 xs.length))⟩) ⟨T,v2+1,.vec 1 xs⟩} a w/\aP φ S.mem w φ' (Mem.set (Mem.set S.mem ⟨key,v,.vv r (some (.vec T (v2+1) 0 xs.length))⟩) ⟨T,v2+1,.vec 1 xs⟩) w:=by
     intro L2' x Bk AB Av CF Cl;have B5:∀(φ':bG)(F':Nat->Prop),φ.le φ'->φ' T=some L2'->(∀b,F' b->Fo G φ S.mem b)->dD φ' w F' {L with cC:=cC} (.vv r (some (.vec T (v2+1) 0 xs.length))):=by
      intro φ' F' hle f2 A1;refine⟨⟨AC,by simp;omega,Bj⟩,λi j b hi A6=>O i j b (AX _ _ hi) (AX _ _ A6),λb A=>AJ b (B4 b A),λ_=>⟨arr,elem,g1,g2,g3,λi Bl Bm hi A3=>?_,λy AH=>?_⟩⟩
      ·have Ax:=(aaf.1 hi).1;exact (g4 i Bl Bm (by rw[aaq Ax];exact hi) (AX _ _ A3)).mono (λd u _ hu=>hu.mono (λ_ _ _=>rfl) (aai _) (λb _=>A1 b)) (λ_ _=>rfl)
      ·cases AH;exact⟨x,AB,Av φ' F' f2⟩
     obtain⟨φ',AT,Y⟩:=H.mem.VS (e1':=⟨key,v,.vv r (some (.vec T (v2+1) 0 xs.length))⟩) (e2':=⟨T,v2+1,.vec 1 xs⟩) hm Aj AO AA At (L1':={L with cC:=cC}) (L2':=L2') rfl rfl (aai _) (by rw[Bk.1];omega)
      (λ_=>rfl) (λhh=>by rw[Bk.1]at hh;omega) AK Bk.1 (λb A=>.inl (by
       rcases A with A|A
       ·exact .inl A
       ·exact .inr (B4 b A))) (λb A=>.inl (.inr (by rw[B3,CF b A.1 A.2];simp))) (λb BJ BU=>by
       have CG:=CF b BU.1 BU.2;rcases BJ with ⟨_,BJ⟩|BJ
       ·exact (AJ b (by rw[B3,CG];simp)).2 BJ.symm
       ·exact Ck b CG BJ) (λφ' F' hle f1 f2 A1=>⟨B5 φ' F' hle f2 A1,Cl φ' F' hle A1⟩)
     exact⟨φ',H.x9 AT Y,Y⟩
    cases o with
    |none=>
     obtain⟨rfl,b,AE⟩:=CE;exact base ⟨v2+1,0,1,0,0,[]⟩ _ ⟨rfl,rfl⟩ AE (λφ' F' AY=>.vec T _ 0 0 _ _ AY (aai _) (λ_=>⟨_,_,rfl,by simp,λh=>by omega⟩) rfl) (λb A=>by simp at A) (λφ' F' hle A1=>⟨rfl,by simp,by simp,λJ=>by simp at J⟩)
    |some b=>
     obtain⟨row,Cn,off,cap,q1,q2,q3,Dc,Co,Cp,CI⟩:=CE;refine base ⟨v2+1,b,1,row.size-off,off,[]⟩ _ ⟨rfl,rfl⟩ q1 (λφ' F' AY=>.vec T _ 0 _ _ _ AY (aai _) (λ_=>⟨_,cap,rfl,q3,λh=>⟨by simp,by simp only;omega⟩⟩) rfl) (λDd _ A=>by simp only at A;rw[A]) (λφ' F' hle A1=>?_);refine⟨rfl,by simp only;omega,λd U=>?_,λJ=>⟨row,Cn,Co,by simp only;omega,Cp,λi d hi=>?_⟩⟩
     ·obtain⟨i,hi⟩:=List.getElem?_of_mem U;exact (CI i d hi).1
     ·obtain⟨_,u,hu,A6⟩:=CI i d hi;exact⟨u,hu.mono (λ_ _ _=>rfl) (aai _) (λb _=>A1 b),A6⟩
  ·exact dz.refl S
 ·exact dz.refl S
theorem VV(S:St)(k AS:Nat):dz S (S.cls k AS):=by
 unfold St.cls;split
 ·rename_i key v ag De v3 len T v2 xs Z Ab;split
  ·exact dz.refl S
  ·rename_i AO;split
   ·rename_i Cq;obtain⟨rfl,rfl,rfl⟩:=Cq;refine⟨rfl,rfl,λφ G a w H=>?_⟩;obtain⟨hm,A',L,AA,AK,A_⟩:=H.mem.get Z;obtain⟨Aj,AG,AW,At,B0,Cr⟩:=H.mem.get Ab;simp only at A' AK AG B0;subst A';subst AG;obtain⟨⟨AC,E,I⟩,O,AJ,Ad⟩:jO φ w (Fo G φ S.mem) L ag (some (.vec T v3 0 xs.length)):=A_;simp only[Option.toList_some,acY]at E;obtain⟨arr,elem,g1,g2,g3,g4,g5⟩:=Ad (by omega);obtain⟨y,Cs,Ct⟩:=g5 _ rfl;obtain⟨z0,Df,z2,z3⟩:=Cr;have Bn:∀b,0<AW.cap->AW.cU=b->(L.cU=b\/some b∈L.cC)->False:=by
     intro b J A hh;refine AO (H.mem.apart _ hm _ Aj L AW AA At ⟨b,?_,⟨J,A⟩⟩);rcases hh with hh|hh
     ·exact .inl ⟨by omega,hh⟩
     ·exact .inr hh
    have base:∀(o:Option Nat),(∀b,o=some b->0<AW.cap/\AW.cU=b)->(∀F':Nat->Prop,(∀b,F' b->Fo G φ S.mem b)->xZ w F' (some y) xs o)->
     ∃φ',Rel φ' G {S with mem:=Mem.set (Mem.set S.mem ⟨key,v,.vv (ag++[xs]) none⟩) ⟨T,v3+1,.dead⟩} a w/\aP φ S.mem w φ' (Mem.set (Mem.set S.mem ⟨key,v,.vv (ag++[xs]) none⟩) ⟨T,v3+1,.dead⟩) w:=by
     intro o A3 Cu;have CJ:∀(i b:Nat),(L.cC++[o])[i]?=some (some b)->(L.cC[i]?=some (some b)/\i<L.cC.length)\/(i=L.cC.length/\o=some b):=by
      intro i b hi;rcases Nat.lt_trichotomy i L.cC.length with Aw|heq|Cm
      ·rw[aaq Aw]at hi;exact .inl ⟨hi,Aw⟩
      ·subst heq;simp at hi;exact .inr ⟨rfl,hi⟩
      ·rw[aaF (by omega)]at hi;have:i-L.cC.length=(i-L.cC.length-1)+1:=by omega
       rw[this]at hi;simp at hi
     have B5:∀(φ':bG)(F':Nat->Prop),(∀b,F' b->Fo G φ S.mem b)->dD φ' w F' {L with cC:=L.cC++[o]} (.vv (ag++[xs]) none):=by
      intro φ' F' A1;refine⟨⟨AC,by simp;omega,by simp[I]⟩,λi j b hi A6=>?_,λb A=>?_,λ_=>⟨arr,elem,g1,g2,g3,λi Bl Bm hi BK=>?_,λy AH=>by cases AH⟩⟩
      ·rcases CJ i b hi with ⟨AX,Ax⟩|⟨Cv,AX⟩<;>rcases CJ j b A6 with ⟨B6,Ao⟩|⟨Cw,B6⟩
       ·exact O i j b AX B6
       ·exact (Bn b (A3 b B6).1 (A3 b B6).2 (.inr (aao AX))).elim
       ·exact (Bn b (A3 b AX).1 (A3 b AX).2 (.inr (aao B6))).elim
       ·rw[Cv,Cw]
      ·simp only[abT,List.mem_singleton]at A;refine⟨by simp only;omega,?_⟩;rcases A with A|A
       ·exact (AJ b A).2
       ·exact λhh=>Bn b (A3 b A.symm).1 (A3 b A.symm).2 (.inl hh.symm)
      ·rcases Nat.lt_or_ge i ag.length with Aw|Dg
       ·rw[aaq Aw]at hi;rw[aaq (by omega)]at BK;exact (g4 i Bl Bm hi BK).mono (λd u _ hu=>hu.mono (λ_ _ _=>rfl) (aai _) (λb _=>A1 b)) (λ_ _=>rfl)
       ·have Cx:i=ag.length:=by have:=(aaf.1 hi).1;simp at this;omega
        subst Cx;simp at hi;subst hi;rw[<-I]at BK;simp at BK;subst BK;simp only
        rw[Cs];exact Cu F' A1
     obtain⟨φ',AT,Y⟩:=H.mem.VS (e1':=⟨key,v,.vv (ag++[xs]) none⟩) (e2':=⟨T,v3+1,.dead⟩) hm Aj AO AA At (L1':={L with cC:=L.cC++[o]}) (L2':={AW with ak:=v3+1}) rfl rfl (aai _) (by simp only;omega)
      (λ_=>rfl) (λhh=>by simp only at hh;omega) AK rfl (λb A=>by
       rcases A with A|A
       ·exact .inl (.inl A)
       ·simp only[abT,List.mem_singleton]at A;rcases A with A|A
        ·exact .inl (.inr A)
        ·exact .inr (A3 b A.symm)) (λb A=>A.elim) (λb _ BU=>BU) (λφ' F' hle f1 f2 A1=>⟨B5 φ' F' A1,trivial⟩)
     exact⟨φ',H.x9 AT Y,Y⟩
    cases Ct with
    |vec _ _ _ _ _ L' An Dh AM B5=>
     rw[At]at An;cases An;obtain⟨Cy,cap,rfl,Cz,D'⟩:=AM B0.symm;by_cases CK:0<cap
     ·obtain⟨rfl,B7⟩:=D' CK;obtain⟨D0,D1,t1,t2,t3,t4⟩:=z3 (by omega);refine base (some AW.cU) (λb A=>by cases A;exact⟨by omega,rfl⟩) (λF' A1=>⟨D0,D1,AW.base,cap,by simp,CK,Cz,by rw[t2,z0];omega,t1,t3,λi d U=>?_⟩);obtain⟨u,hu,A6⟩:=t4 i d U;rw[z0]at A6;exact⟨by rw[z2 d (aao U),z0],u,hu.mono (λ_ _ _=>rfl) (aai _) (λb _=>A1 b),A6⟩
     ·have CL:xs=[]:=List.length_eq_zero_iff.1 (by omega);have D2:cap=0:=by omega
      subst D2;refine base none (λb A=>by cases A) (λF' A1=>⟨CL,Cy,by rw[CL];rfl⟩)
   ·exact dz.refl S
 ·exact dz.refl S
theorem Sy(S:St)(k:Nat):dz S (S.shut k):=by
 unfold St.shut;split
 ·rename_i key v ag y Z;refine⟨rfl,rfl,λφ G a w H=>?_⟩;obtain⟨hm,A',L,AA,AK,A_⟩:=H.mem.get Z;simp only at A' AK;subst A';obtain⟨φ',AT,Y,_,_⟩:=H.mem.cG (e':=⟨key,v,.vv ag none⟩) hm AA rfl (L':=L) (aai _) (λ_=>rfl) AK
   (w':=w) (λ_ _ _=>rfl) (aai _) (λ_ A3=>.inl A3) rfl rfl rfl (λφ' AR Bb=>by
    obtain⟨⟨AC,E,I⟩,O,AJ,Ad⟩:jO φ w (Fo G φ S.mem) L ag (some y):=A_;refine⟨⟨AC,by simp at E⊢;omega,I⟩,O,AJ,λJ=>?_⟩;obtain⟨arr,elem,g1,g2,g3,g4,g5⟩:=Ad J;refine⟨arr,elem,g1,g2,g3,λi xs o hi A3=>(g4 i xs o hi A3).mono (λd u _ hu=>hu.mono (λ_ _ _=>rfl) (aai _) (λb _ A=>?_)) (λ_ _=>rfl),λy AH=>by cases AH⟩;rcases A with A|⟨x,AB,Bd,Aa,BE⟩
    ·exact .inl A
    ·right;rcases (Mem.mem_set H.mem.nodup).1 AB with ⟨rfl,_⟩|⟨Be,Bf⟩
     ·simp only[AR,adI]at Aa;cases Aa;exact⟨_,hm,L,AA,BE⟩
     ·simp only[AR,Bf,acF]at Aa;exact⟨x,Be,Bd,Aa,BE⟩)
  exact⟨φ',H.x9 AT Y,Y⟩
 ·exact dz.refl S
theorem Ka(S:St)(Ai j k:Nat):dz S (S.sC Ai j k):=by
 unfold St.sC;split
 ·rename_i key BA cs T v cont B_ Z;split
  ·rename_i A6;split
   ·exact dz.refl S
   ·rename_i AO;refine⟨rfl,rfl,λφ G a w H=>?_⟩;obtain⟨BQ,BB,BC,BR,BD,Bc⟩:=H.mem.get B_;obtain⟨hm,A',L,AA,AK,A_⟩:=H.mem.get Z;simp only at BB BD A' AK;subst BB;subst A';have B5:∀(φ':bG)(F':Nat->Prop),φ.le φ'->φ' T=some ⟨v+1,0,1,0,0,[]⟩->(∀b,F' b->Fo G φ S.mem b)->dD φ' w F' BC (.box (cs.set j (.vec T (v+1) 0 0))):=by
     intro φ' F' hle f2 A1;obtain⟨g0,arr,elem,g1,g2,g3,g4⟩:=Bc;refine⟨by simpa using g0,arr,elem,g1,by simp[g2],g3,λi c u J hu=>?_⟩;rw[List.getElem?_set]at J;split at J
     ·rename_i Ak;subst Ak;split at J
      ·cases J;have:=g4 j _ u A6 hu;cases this;exact .vec T (v+1) 0 0 _ _ f2 (aai _) (λ_=>⟨_,_,rfl,by simp,λh=>by omega⟩) rfl
      ·cases J
     ·exact (g4 i c u J hu).mono hle (λ_ _ _=>rfl) (aai _) (λb _=>A1 b)
    obtain⟨φ',AT,Y⟩:=H.mem.VS (e1':=⟨key,BA,.box (cs.set j (.vec T (v+1) 0 0))⟩) (e2':=⟨T,v+1,.vv [] none⟩) BQ hm AO BR AA (L1':=BC) (L2':=⟨v+1,0,1,0,0,[]⟩) rfl rfl (aai _) (by simp only;omega)
     (λ_=>rfl) (λhh=>by simp only at hh;omega) BD rfl (λb A=>.inl A) (λb A=>by
      rcases A with ⟨A,_⟩|A
      ·simp at A
      ·simp at A) (λb _ A=>by
      rcases A with ⟨A,_⟩|A
      ·simp at A
      ·simp at A) (λφ' F' hle f1 f2 A1=>⟨B5 φ' F' hle f2 A1,⟨⟨rfl,by simp,rfl⟩,λi j b hi=>by simp at hi,λb A=>by simp at A,λJ=>by simp at J⟩⟩)
    exact⟨φ',H.x9 AT Y,Y⟩
  ·exact dz.refl S
 ·exact dz.refl S
theorem aaV(S:St)(g:Gh):dz S (g.go S):=by
 cases g with
 |trim k=>exact CH S k
 |freeze k=>exact J2 S k
 |jl Ai j k sz=>exact Pb S Ai j k sz
 |wm k AS=>exact Pc S k AS
 |sB k AS=>exact VU S k AS
 |cls k AS=>exact VV S k AS
 |shut k=>exact Sy S k
 |sC Ai j k=>exact Ka S Ai j k
theorem wI:∀(l:List Gh)(S:St),dz S (CV S l)
 |[],S=>dz.refl S
 |g::r,S=>(aaV S g).trans (wI r _)
theorem rG(X:Ctx)(f:FuncId)(id:Nat)(S:St):dz S (S.leave X f id):=(OJ S _).trans (wI _ _)
def dU(X:Ctx)(f:FuncId)(n:Nat):Code->Bool
 | .region id ops draw=>je n ops.toList&&(!draw||By ops.toList (X.od f id))
 | .seq a b=>dU X f n a&&dU X f n b
 | .cond _ a b=>dU X f n a&&dU X f n b
 | .block _ c=>dU X f n c
 | .loop c=>dU X f n c
 |_=>true
structure jo(X:Ctx):Prop where
 ov:X.ov=none
 names:∀(g:FuncId)(fn:Func),X.P.funcs[g]?=some fn->fn.name≠ "runtime.NumGoroutine"
 VW:∀(g:FuncId)(fn:Func)(c:Code),X.P.funcs[g]?=some fn->fn.body=some c->dU X g fn.ntmps c=true
 mixed:X.P.follows .mixedOrders=true
 vj:∀(g:FuncId)(h:List AV->Option AV),X.vj g=some h->ga X.P g=true/\∀(Bo:List AV)(a:AV),h Bo=some a->∀(φ:bG)(F:Nat->Prop)(w:World)(vs:Array Value),eh w F X.gl->(∀b,F b->b<w.heap.size)->Bo.length=vs.size->
  (∀(i:Nat) x v,Bo[i]?=some x->vs[i]?=some v->az φ w F x v)->Calls X.P g vs w λe w'=>∃v,e=.returned v/\Go.RowKit.Below w.heap.size w w'/\az φ w' F a v
theorem mz.is{n:Nat}{φ:bG}{G:Fr}{m:Mem}{w:World}{e:XE}{M:St}{e':Exit}{V:Act}{w':World}(h:mz n φ G m w (Is e M) e' V w'):
 ∃φ',M.n=n/\Rel φ' G M V w'/\aP φ m w φ' M.mem w'/\(match e' with
  | .normal=>e=.normal
  | .exit id=>e=.exit id
  | .ret=>e=.ret
  | .panic chain=>∃t x v,e=.panic t x/\chain=[{v:=.iface t v,recovered:=false}]/\aJ w' (Fo G φ' M.mem) x v
  |_=>False):=by
 cases e' with
 |normal=>obtain⟨φ',A4,A2,⟨E,rfl⟩,I,O⟩:=h;exact⟨φ',A2,I,O,E.symm⟩
 |exit id=>obtain⟨φ',A4,A2,⟨E,rfl⟩,I,O⟩:=h;exact⟨φ',A2,I,O,E.symm⟩
 |ret=>obtain⟨φ',A4,A2,⟨E,rfl⟩,I,O⟩:=h;exact⟨φ',A2,I,O,E.symm⟩
 |panic chain=>obtain⟨φ',A4,t,x,v,J,U,A2,⟨E,rfl⟩,I,O⟩:=h;exact⟨φ',A2,I,O,t,x,v,E.symm,J,U⟩
 |_=>exact h.elim
section
variable {X:Ctx} {Ap:bj} {f:FuncId} {n:Nat}
theorem aaW{P:Program}{c:Code}{S S1:St}{Q:XE->St->Prop}(t:dz S S1)(h:lH P c S1 Q):lH P c S Q:=λφ G a w H=>by
 obtain⟨Ba,D3,A'⟩:=t.2.2 φ G a w H;exact wp_mono (h Ba G a w D3) λe a2 BM AF=>by rw[t.1]at AF;exact AF.weaken A'
theorem H6{P:Program}{S:St}{e:XE}{c:Code}{k:St->St}(A':∀S,dz S (k S)){r:Option (XE×St)}{M:St}(h:uA k r=some (e,M))
 (H:∀A7 S1,r=some (A7,S1)->S1.n=S.n/\S1.gl=S.gl/\lH P c S (Is A7 S1)):M.n=S.n/\M.gl=S.gl/\lH P c S (Is e M):=by
 unfold uA at h;split at h
 ·rename_i S1;cases h;obtain⟨E,I,O⟩:=H _ _ rfl;obtain⟨t1,t2,t3⟩:=A' S1;refine⟨t1.trans E,t2.trans I,λφ G a w Bp=>wp_mono (O φ G a w Bp) λe' V w' AF=>?_⟩;obtain⟨φ',A2,A8,Y,he⟩:=AF.is;cases e' with
  |normal=>
   obtain⟨AN,Ay,AG⟩:=t3 φ' G V w' A8;exact⟨AN,k S1,t1.trans A2,⟨rfl,rfl⟩,Ay,Y.trans AG⟩
  |exit id=>cases he
  |ret=>cases he
  |panic chain=>obtain⟨t,x,v,AJ,_⟩:=he;cases AJ
  |_=>exact he.elim
 ·exact H _ _ h
theorem aaX{P:Program}{Az:Mem->Prop}{all:List Oper}{ops:List Oper}{S:St}{ps:List aW}{S1:St}(h:Cert P Az all ops S ps S1):S1.n=S.n/\S1.gl=S.gl:=by
 induction h with
 |nil S=>exact⟨rfl,rfl⟩
 |cons o rest S p ps S1 _ _ _ _ ih=>exact⟨ih.1.trans (tI ..),ih.2.trans (qo ..)⟩
theorem H7{P:Program}{Az:Mem->Prop}{all:List Oper}:∀{ops:List Oper}{S:St}{ps:List aW}{S1:St},Cert P Az all ops S ps S1->ps.length=ops.length:=by
 intro ops S ps S1 h;induction h with
 |nil S=>rfl
 |cons o rest S p ps S1 _ _ _ _ ih=>simp[ih]
theorem FB:∀{es:List cg},Ed es=true->∀e∈es,100<=e.key
 |_::r,h,e,he=>by
  simp only[Ed,Ds,aam]at h;rcases aan.1 he with rfl|he
  ·exact h.1
  ·exact FB h.2 e he
theorem FC{ps:List aW}:∀{CM:List Nat},yJ ps CM=true->∀i∈CM,∀p,ps[i]?=some p->∀e∈p.es,100<=e.key
 |k::r,h,i,hi,p,AF,e,he=>by
  simp only[yJ,Ds]at h;rcases aan.1 hi with rfl|hi
  ·have:=h.1;rw[AF]at this;exact FB this e he
  ·exact FC h.2 i hi p AF e he
theorem zc{all:List Oper}{Ae:List (List Nat)}(h:By all Ae=true){i j:Nat}(Ak:i<j)(A6:j<all.length)(A2:i∉(fY all []).getD j []):(Ae.getD i []).contains j=true/\(Ae.getD j []).contains i=true:=by
 have E:=aaH.1 h j (ab2.2 A6);unfold yG at E;rw[acB A6]at E;simp only[Ds,aaH,afP,ab2]at E;rcases E.2 i Ak with I|I
 ·exact absurd (by simpa using I) A2
 ·rw[acB (by omega)]at I;simp only[Ds]at I;exact I.2
theorem Pd{P:Program}{S S1:St}{id:Nat}{ops:List Oper}{Ae:List (List Nat)}{ps:List aW}{j N:Nat}{t:TypeId}{x:D}(hm:P.follows .mixedOrders=true)(Af:By ops Ae=true)
 (J:jm (TT P ops j (Ae.getD j []) t x N S1) 0 ops S ps) (D4:n7 Ae ps=true) (Bq:yJ ps (Ae.getD j [])=true) (Br:S1.env=[]) (Ao:j<ops.length) (D5:N=fm S.mem+fi ps+1):
 S1.n=S.n/\S1.gl=S.gl/\∀{φ:bG}{G:Fr}{a:Act}{w:World},Rel φ G S a w->∀{Q:Exit->Act->World->Prop},
 (∀φ' V w' v,Rel φ' G S1 V w'->aP φ S.mem w φ' S1.mem w'->aJ w' (Fo G φ' S1.mem) x v->Q (.panic [{v:=.iface t v,recovered:=false}]) V w')->(Code.region id ops.toArray true).wp P Q a w:=by
 have BV:=J.len;have Bs:=jm.at (ps:=ps) (S0:=S) J [] [] rfl rfl rfl rfl rfl;have AQ:=Sa Af D4 BV;obtain⟨Bt,CN⟩:∃Bt,ops[j]?=some Bt:=⟨ops[j],by simp[Ao]⟩;obtain⟨Bu,CO⟩:∃Bu,ps[j]?=some Bu:=⟨ps[j]'(by omega),by simp[show j<ps.length by omega]⟩
 obtain⟨D6,AL,A9,AU⟩:=(Bs j Bt Bu (by simp) CN CO).2.2 rfl;rw[nr]at AL;rw[lK]at A9;refine⟨AL,A9,λ{φ G a w} H {Q} Bv=>wp_region_any hm ?_⟩;have D7:∀(i:Nat)(p:aW),ps[i]?=some p->∀e∈p.es,e.key∈p.ks:=λi p AF=>by
  have Ax:i<ps.length:=(aaf.1 AF).1;exact (Bs i (ops[i]'(by omega)) p (by simp) (by simp[show i<ops.length by omega]) AF).1
 have D8:Rel φ G S a {w with drawn:=w.drawn+1}:=H.grow (λ_ _=>rfl) (aai _);have CP:(gE ops.length λi=>(Array.replicate ops.length false).getD i false)=[]:=by
  rw[gE,afN];intro i hi;simp[aay,ab2.1 hi]
 refine Sc (S0:=S) (S1:=S1) (φ0:=φ) (w0:=w) (G:=G) (j:=j) BV AQ H.mem.nodup D7 ?_ CN CO D6 ?_ AL A9 Br (by rw[AU,D5];rfl) (λφ' V w' v A8 Y AE=>Bv φ' V w' v A8 Y AE) _ _ φ a _ (by simp) ?_ ?_ ?_ ?_ ?_
 ·intro i o p A3 AF Ak Bw;have Ax:i<ops.length:=(aaf.1 A3).1;refine (Bs i o p (by simp) A3 AF).2.1 Ak ?_;rcases Nat.lt_or_ge i j with h|h
  ·exact .inl h
  ·exact .inr (zc Af (by omega) Ax Bw).1
 ·intro i p AF Ak hi Bw e he;have Ax:i<ops.length:=by have:=(aaf.1 AF).1;omega
  have B4:(Ae.getD j []).contains i=true:=by
   rcases Nat.lt_or_ge i j with h|h
   ·exact (zc Af h Ao hi).2
   ·exact (zc Af (by omega) Ax Bw).1
  exact FC Bq i (by simpa using B4) p AF e he
 ·intro j o _ A6;exfalso;simp only[aay]at A6;by_cases h:j<ops.length
  ·simp[h]at A6
  ·simp[h]at A6
 ·simp only[aay];simp[Ao]
 ·simp only[acK];rw[CP];exact D8
 ·simp only[acK];rw[CP];exact aP.grow (λ_ _=>rfl) (aai _) rfl rfl rfl
 ·simp only[acK];exact ag6 (List.length_filter_le _ _) (by simp)
theorem H8(Aq:jo X)(B7:iK X Ap):∀(c:Code)(S:St)(e:XE)(M:St),den X f Ap n c S=some (e,M)->S.gl=X.gl->dU X f S.n c=true->
 M.n=S.n/\M.gl=S.gl/\lH X.P c S (Is e M):=by
 intro c;induction c with
 |skip=>
  intro S e M h AD U;simp only[den,aax,ab3]at h;obtain⟨rfl,rfl⟩:=h;exact⟨rfl,rfl,Vy ⟨rfl,rfl⟩⟩
 |region id ops draw=>
  intro S e M h AD U;simp only[den]at h;simp only[dU,Ds]at U;cases draw with
  |false=>
   refine H6 (rG X f id) h (λA7 S1 E=>?_);obtain⟨I,O,AJ⟩:=yX B7 ops.toList S A7 S1 E AD U.1;exact⟨I,O,λφ G a w H=>wp_region_lit (AJ φ G a w H _ (λ_ _ _ h=>h))⟩
  |true=>
   refine H6 (rG X f id) h (λA7 S1 E=>?_);have Af:By ops.toList (X.od f id)=true:=by simpa using U.2
   have key:(∃Az:Mem->Prop,Az S.mem/\A7=.normal/\∃ps A4,Cert X.P Az ops.toList ops.toList S ps A4/\fZ S1 A4/\n7 (X.od f id) ps=true)\/
    (S1.n=S.n/\S1.gl=S.gl/\∀φ G a w,Rel φ G S a w->∀Q:Exit->Act->World->Prop,(A7=.normal->∀φ' V w',Rel φ' G S1 V w'->aP φ S.mem w φ' S1.mem w'->Q .normal V w')->
     (∀t x,A7=.panic t x->∀φ' V w' v,Rel φ' G S1 V w'->aP φ S.mem w φ' S1.mem w'->aJ w' (Fo G φ' S1.mem) x v->Q (.panic [{v:=.iface t v,recovered:=false}]) V w')->(Code.region id ops true).wp X.P Q a w)/\(A7=.normal\/∃t x,A7=.panic t x):=by
    cases CQ:X.fl f id with
    |nil=>
     rw[CQ]at E;simp only[sH]at E;rcases A5 B7 ops.toList S [] A7 S1 E AD U.1 with ⟨he,ps,A4,J,heq,AQ⟩|⟨t,x,j,ps,he,B6,D9,J,AQ,Bq,Br⟩
     ·exact .inl ⟨_,trivial,he,ps,A4,J,heq,by simpa using AQ⟩
     ·right;obtain⟨I,O,AJ⟩:=Pd (id:=id) Aq.mixed Af J (by simpa using AQ) (by simpa using Bq) Br (by simpa using D9) rfl;exact⟨⟨I,O,λφ G a w H Q _ Bv=>AJ H (λφ' V w' v Ad DA DB=>Bv t x he φ' V w' v Ad DA DB)⟩,.inr ⟨t,x,he⟩⟩
    |cons q r=>
     rw[CQ]at E;simp only[sH]at E;cases BW:fC S.mem (q::r)with
     |none=>rw[BW]at E;cases E
     |some Di=>
      rw[BW]at E;simp only[O4]at E;rcases FA B7 ops.toList S [] A7 S1 (by simp) E AD U.1 with ⟨he,ps,A4,J,heq,AQ⟩|⟨init,ol,ps,A4,CS,J,A2,AQ,I,O,AJ,Ad⟩
      ·exact .inl ⟨_,wG BW,he,ps,A4,J,heq,by simpa using AQ⟩
      ·obtain⟨Bx,Ab⟩:=aaX J;refine .inr ⟨⟨I.trans Bx,O.trans Ab,λφ G a w H Q DC DD=>?_⟩,AJ⟩;have BV:ps.length+1=ops.toList.length:=by
        have:=H7 J;rw[CS];simp[this]
       refine J6 (ops:=ops.toList) CS (A0 Af A2) (wG BW) Aq.mixed J (VR Af BV A2 (by simpa using AQ)) H (λφ' V w' A8 Y next DE=>?_);exact Ad φ' G V w' A8 next Q (λhe AN a2 BM Ay AG=>DE a2 BM (DC he AN a2 BM Ay (Y.trans AG))) (λt x he AN a2 BM v Ay AG AE=>DD t x he AN a2 BM v Ay (Y.trans AG) AE)
   rcases key with ⟨Az,DF,rfl,ps,A4,J,heq,AQ⟩|⟨⟨AL,A9,DG⟩,_⟩;rotate_left
   ·exact⟨AL,A9,λφ G a w H=>DG φ G a w H _ (λhe φ' V w' A8 Y=>⟨φ',S1,AL,⟨he.symm,rfl⟩,A8,Y⟩) (λt x he φ' V w' v A8 Y AE=>⟨φ',S1,t,x,v,rfl,AE,AL,⟨he.symm,rfl⟩,A8,Y⟩)⟩
   obtain⟨AL,A9⟩:=acG J;have AQ:=Sa Af AQ (H7 J);refine⟨heq.n.trans AL,heq.gl.trans A9,λφ G a w H=>?_⟩;exact J5 (ops:=ops.toList) DF Aq.mixed J AQ H (λφ' V w' A8 Y=>⟨φ',S1,heq.n.trans AL,⟨rfl,rfl⟩,A8.eqv heq.symm,by rw[heq.mem];exact Y⟩)
 |seq a b BX Bz=>
  intro S e M h AD U;simp only[dU,Ds]at U;simp only[den]at h;rcases gf h with ⟨S1,E,I⟩|⟨E,I⟩
  ·obtain⟨AL,A9,C'⟩:=BX S _ S1 E AD U.1;obtain⟨Bx,Ab,DH⟩:=Bz S1 e M I (A9.trans AD) (by rw[AL];exact U.2);refine⟨Bx.trans AL,Ab.trans A9,KK (C'.mono λA7 A4 AM=>?_)⟩;obtain⟨rfl,rfl⟩:=AM;exact DH
  ·obtain⟨AL,A9,C'⟩:=BX S _ M E AD U.1;refine⟨AL,A9,KK (C'.mono λA7 A4 AM=>?_)⟩;obtain⟨rfl,rfl⟩:=AM;cases A7 with
   |normal=>exact absurd rfl I
   |_=>exact⟨rfl,rfl⟩
 |cond c a b BX Bz=>
  intro S e M h AD U;simp only[dU,Ds]at U;simp only[den]at h;cases J:S.aq c with
  |mk g y=>
   rw[J]at h;unfold CX at h;split at h
   ·rename_i t heq;cases heq;cases t with
    |true=>
     obtain⟨E,I,O⟩:=BX S e M (by simpa using h) AD U.1;exact⟨E,I,Hm J (λ_=>O) (λAY=>by cases AY)⟩
    |false=>
     obtain⟨E,I,O⟩:=Bz S e M (by simpa using h) AD U.2;exact⟨E,I,Hm J (λAY=>by cases AY) (λ_=>O)⟩
   ·cases h
 |block id c ih=>
  intro S e M h AD U;simp only[den]at h;have BN:=wI (X.gh f (id+2000000)) S;have ih:∀e M,den X f Ap n c (S.enter X f id)=some (e,M)->M.n=S.n/\M.gl=S.gl/\lH X.P c S (Is e M):=λe M h=>by
   obtain⟨Ag,a2,a3⟩:=ih (S.enter X f id) e M h (BN.2.1.trans AD) (by simp only[St.enter];rw[BN.1];exact U);exact⟨Ag.trans BN.1,a2.trans BN.2.1,aaW BN a3⟩
  unfold CW at h;split at h
  ·rename_i C0 S1 E;obtain⟨A2,Z,AZ⟩:=ih _ S1 E;split at h
   ·rename_i hid;cases h;refine⟨A2,Z,yq (AZ.mono λA7 A4 AM=>?_)⟩;obtain⟨rfl,rfl⟩:=AM;simp only[hid,adI];exact⟨rfl,rfl⟩
   ·rename_i hid;cases h;refine⟨A2,Z,yq (AZ.mono λA7 A4 AM=>?_)⟩;obtain⟨rfl,rfl⟩:=AM;simp only[hid,acF];exact⟨rfl,rfl⟩
  ·rename_i AO;obtain⟨A2,Z,AZ⟩:=ih _ M h;refine⟨A2,Z,yq (AZ.mono λA7 A4 AM=>?_)⟩;obtain⟨rfl,rfl⟩:=AM;cases A7 with
   |exit C0=>exact absurd h (AO C0 A4)
   |_=>exact⟨rfl,rfl⟩
 |loop c ih=>
  intro S e M h AD U;simp only[den]at h;simp only[dU]at U;have B4:∀(k:Nat)(S1:St),iter (den X f Ap n c) k S1=some (e,M)->S1.gl=X.gl->dU X f S1.n c=true->M.n=S1.n/\M.gl=S1.gl:=by
   intro k;induction k with
   |zero=>intro S1 E;cases E
   |succ k DI=>
    intro S1 E A9 Ar;simp only[iter]at E;rcases gf E with ⟨A4,I,O⟩|⟨I,O⟩
    ·obtain⟨Ag,a2,_⟩:=ih S1 _ A4 I A9 Ar;obtain⟨DJ,DK⟩:=DI A4 O (a2.trans A9) (by rw[Ag];exact Ar);exact⟨DJ.trans Ag,DK.trans a2⟩
    ·obtain⟨Ag,a2,_⟩:=ih S1 _ M I A9 Ar;exact⟨Ag,a2⟩
  obtain⟨A2,Z⟩:=B4 n S h AD U;refine⟨A2,Z,?_⟩;refine VA (α:=Nat×St) (λx=>x.2) (λx=>iter (den X f Ap n c) x.1 x.2=some (e,M)/\x.2.gl=X.gl/\dU X f x.2.n c=true) (λx=>x.1) (n,S) rfl ⟨h,AD,U⟩ ?_;rintro ⟨k,S1⟩ ⟨E,A9,Ar⟩;simp only at E A9 Ar⊢;cases k with
  |zero=>cases E
  |succ k=>
   simp only[iter]at E;rcases gf E with ⟨A4,I,O⟩|⟨I,O⟩
   ·obtain⟨Ag,a2,AZ⟩:=ih S1 _ A4 I A9 Ar;refine AZ.mono λA7 CT AM=>?_;obtain⟨rfl,rfl⟩:=AM;exact⟨(k,CT),rfl,⟨O,a2.trans A9,by rw[Ag];exact Ar⟩,Nat.lt_succ_self k⟩
   ·obtain⟨Ag,a2,AZ⟩:=ih S1 _ M I A9 Ar;refine AZ.mono λA7 CT AM=>?_;obtain⟨rfl,rfl⟩:=AM;cases A7 with
    |normal=>exact absurd rfl O
    |_=>exact⟨rfl,rfl⟩
 |exit id=>
  intro S e M h AD U;simp only[den,aax,ab3]at h;obtain⟨rfl,rfl⟩:=h;obtain⟨t1,t2,t3⟩:=wI (X.gh f (id+1000000)) S;refine⟨t1,t2,λφ G a w Bp=>wp_mono ((Vz (Q:=Is (.exit id) S) ⟨rfl,rfl⟩:lH X.P (.exit id) S (Is (.exit id) S)) φ G a w Bp) λe' V w' AF=>?_⟩;obtain⟨φ',A2,A8,Y,he⟩:=AF.is;cases e' with
  |exit C0=>
   cases he;obtain⟨AN,Ay,AG⟩:=t3 φ' G V w' A8;exact⟨AN,_,t1.trans A2,⟨rfl,rfl⟩,Ay,Y.trans AG⟩
  |normal=>cases he
  |ret=>cases he
  |panic chain=>obtain⟨t,x,v,AJ,_⟩:=he;cases AJ
  |_=>exact he.elim
 |ret=>
  intro S e M h AD U;simp only[den,aax,ab3]at h;obtain⟨rfl,rfl⟩:=h;exact⟨rfl,rfl,aaQ ⟨rfl,rfl⟩⟩
 |rangeFunc _ _ _ _=>intro S e M h;simp[den]at h
 |scope _ _=>intro S e M h;simp[den]at h
 |label _=>intro S e M h;simp[den]at h
 |goto _=>intro S e M h;simp[den]at h
 |refuse _=>intro S e M h;simp[den]at h
theorem BL:∀(cs:List ay)(i:Nat),(dr i cs).map (·.key)=List.range' i cs.length
 |[],i=>rfl
 |c::r,i=>by simp[dr,BL r,afZ]
theorem Ej:∀(cs:List ay)(i:Nat)(e:cg),e∈dr i cs->e.ak=0
 |[],i,e,he=>by simp[dr]at he
 |c::r,i,e,he=>by
  simp only[dr,aan]at he;rcases he with rfl|he
  ·rfl
  ·exact Ej r (i+1) e he
theorem a8.dv{φ:bG}{G:Fr}{m:Mem}{w:World}(h:a8 φ G m w)(dv:List Deferred):a8 φ ⟨G.g,dv⟩ m w:=
 ⟨h.nodup,h.oI,h.fC,h.apart,h.jP,h.bound⟩
theorem Ev.dv{P:Program}{gl f args m K}(h:∀φ G w (vs:Array Value),G.dv=[]->a8 φ G m w->eh w (Fo G φ m) gl->args.length=vs.size->(∀(i:Nat) x v,args[i]?=some x->vs[i]?=some v->az φ w (Fo G φ m) x v)->
 Calls P f vs w λe w'=>∃φ' m' out,K out m'/\a8 φ' G m' w'/\aP φ m w φ' m' w'/\mP φ' w' (Fo G φ' m') out e):Ev P gl f args m K:=by
 intro φ G w vs hm Z As B8;refine (h φ ⟨G.g,[]⟩ w vs rfl (hm.dv []) Z As B8).mono ?_;rintro e w' ⟨φ',m',out,E,I,O,AJ⟩;exact⟨φ',m',out,E,I.dv G.dv,O,AJ⟩
theorem wJ(Aq:jo X)(B7:iK X Ap){fn:Func}{c:Code}{args:List AV}{cs:List ay}{out:Out}{l:List (Nat×ay)}(AY:X.P.funcs[f]?=some fn)(A:fn.body=some c)
 (h:pQ X f Ap n fn c args cs=some (out,l)):Ev X.P X.gl f args (dr 0 cs) λo m=>o=out/\m=cZ 0 l:=by
 unfold pQ at h;split at h
 ·rename_i J;simp only[Ds,aam,aaH]at J;obtain⟨⟨⟨Dj,Dk⟩,DL⟩,DM⟩:=J;refine Ev.dv ?_;intro φ G w vs BO hm DN DO Av;have BF:∀k,k∈(dr 0 cs).map (·.key)↔k<cs.length:=λk=>by rw[BL];simp
  have C1:∀k∈(X.fp f).sites,k∉(dr 0 cs).map (·.key):=by
   intro k A' DP;have E:=DL k A';have I:=(BF k).1 DP;omega
  have CU:∀k L,φ k=some L->k<cs.length/\L.ak=0:=λk L AA=>by
   have A':=hm.oI k L AA;obtain⟨e,he,rfl⟩:=acb.1 A';obtain⟨L',An,AK,_⟩:=hm.fC e he;rw[AA]at An;cases An;exact⟨(BF _).1 A',by rw[AK];exact Ej cs 0 e he⟩
  have DQ:=hm.add DM C1;have C2:aP φ (dr 0 cs) w (φ.add (X.fp f).sites) (dr 0 cs++(X.fp f).sites.map dead) w:=⟨Hu hm C1,λ_ _ _=>rfl,λb _ A3=>(z7 C1 b).1 A3,aai _,rfl,rfl,rfl⟩;refine calls_of_wp AY A ?_;obtain⟨S0,BP⟩:∃S0,S0=entry fn.ntmps X.gl args cs (X.fp f).sites:=⟨_,rfl⟩;have H:Rel (φ.add (X.fp f).sites) G S0 {tmps:=vs++Array.replicate (fn.ntmps-vs.size) undef,defers:=[]} w:=by
   rw[BP];refine⟨by simp[entry];omega,BO.symm,λt x AB=>?_,DQ,?_⟩
   ·obtain⟨j,rfl,A6⟩:=we 0 args t _ AB;have Ao:j<vs.size:=by rw[<-DO];exact (aaf.1 A6).1
    have e:(vs++Array.replicate (fn.ntmps-vs.size) undef).getD (0+j) undef=vs[j]:=by
     simp only[ac3,aay];rw[afG Ao];simp[Ao]
    rw[e];exact C2.av (Av j x _ A6 (by simp[Ao]))
   ·exact C2.jR DN
  rw[<-BP]at h;cases C3:den X f Ap n c S0 with
  |none=>rw[C3]at h;cases h
  |some q=>
   obtain⟨e,M⟩:=q;rw[C3]at h;obtain⟨Dl,Dm,AZ⟩:=H8 Aq B7 c S0 e M C3 (by rw[BP];rfl) (by rw[BP];exact Aq.VW f fn c AY A);refine wp_mono (AZ _ G _ w H) λe' V w' AF=>?_;obtain⟨φ',_,A8,Y,he⟩:=AF.is;have CY:aP φ (dr 0 cs) w φ' M.mem w':=by
    have:S0.mem=dr 0 cs++(X.fp f).sites.map dead:=by rw[BP];rfl
    rw[this]at Y;exact C2.trans Y
   have CZ:finish X.P (X.fp f) cs.length fn.results.toList M=some (out,l)->
    V.defers=[]/\∃v,(results fn V.tmps).run X.P w'=.ok v w'/\∃BY m' C_,(C_=out/\m'=cZ 0 l)/\a8 BY G m' w'/\aP φ (dr 0 cs) w BY m' w'/\mP BY w' (Fo G BY m') C_ (.returned v):=by
    intro B9;unfold finish at B9;split at B9
    ·rename_i DR xs BI;split at B9
     ·rename_i DS;obtain⟨B',E,I,O⟩:=v7 A8 fn.results.toList DR xs BI DS;obtain⟨AN,Ah,rfl,g1,g2,g3,g4,_⟩:=rC B9 A8.mem A8.jR I O CY CU;have DT:(results fn V.tmps).run X.P w'=.ok (if h:B'.toArray.size=1 then B'.toArray[0]else .tuple B'.toArray) w':=by
       have e:results fn V.tmps=(do let vs <-fn.results.mapM (yz V.tmps);pure (if h:vs.size=1 then vs[0]else .tuple vs)):=by
        unfold results;congr 1
       rw[e,Array.mapM_eq_mapM_toList];simp only[Sem.run_bind,Sem.run_map,E,Result.andThen_ok,Sem.run_pure]
      refine⟨A8.defers.trans BO,_,DT,AN,_,_,⟨rfl,rfl⟩,g1,g2,?_⟩;show az AN w' _ (oneOf Ah) _;by_cases C4:B'.length=1
      ·obtain⟨v,rfl⟩:∃v,B'=[v]:=by
        cases B' with
        |nil=>simp at C4
        |cons v r=>exact⟨v,by cases r with|nil=>rfl|cons _ _=>simp at C4⟩
       obtain⟨y,rfl⟩:∃y,Ah=[y]:=by
        cases Ah with
        |nil=>simp at g3
        |cons v r=>exact⟨v,by cases r with|nil=>rfl|cons _ _=>simp at g3⟩
       simpa [oneOf]using g4 0 y v (by simp) (by simp)
      ·have e:oneOf Ah=.bM Ah:=by
        cases Ah with
        |nil=>rfl
        |cons y r=>cases r with|nil=>simp at g3;omega|cons _ _=>rfl
       rw[e,dif_neg (by simpa using C4)];exact .bM Ah B'.toArray (by simpa using g3) (λi y v h C5=>g4 i y v h (by simpa using C5))
     ·cases B9
    ·cases B9
   cases e' with
   |normal=>cases he;exact CZ h
   |ret=>cases he;exact CZ h
   |exit id=>cases he;cases h
   |panic chain=>
    obtain⟨t,x,v,rfl,rfl,U⟩:=he;have C5:pg (X.fp f) cs.length M [] (λ_=>.panic t x)=some (out,l):=h;obtain⟨AN,Ah,rfl,g1,g2,_,_,g5⟩:=rC (vs:=[]) C5 A8.mem A8.jR rfl (by simp) CY CU;exact⟨A8.defers.trans BO,AN,_,_,⟨rfl,rfl⟩,g1,g2,v,rfl,U.mono (λ_ _ _=>rfl) (aai _) (λb _=>g5 b)⟩
   |_=>exact he.elim
 ·cases h
theorem Ev.split{P:Program}{gl f r m K}(E:Ev P gl f (.lit (.slice none 0 0)::r) m K)(I:Ev P gl f (.nn::r) m K):Ev P gl f (.d (.list [])::r) m K:=by
 intro φ G w vs hm Z As B8;have go:∀y,(∀v,vs[0]?=some v->az φ w (Fo G φ m) y v)->∀(i:Nat) x v,(y::r)[i]?=some x->vs[i]?=some v->az φ w (Fo G φ m) x v:=by
  intro y AH i x v AB AE;cases i with
  |zero=>simp at AB;subst AB;exact AH v AE
  |succ i=>exact B8 (i+1) x v (by simpa using AB) AE
 have Ca:0<vs.size:=by rw[<-As];simp
 have AC:=B8 0 (.d (.list [])) vs[0] (by simp) (by simp[Ca]);generalize DU:vs[0]=v0 at AC;have C6:vs[0]?=some v0:=by rw[<-DU];simp[Ca]
 cases AC with
 |d _ _ U=>
  cases U with
  |nil a cap A2=>
   cases a with
   |none=>
    have:=A2 rfl;subst this;exact E φ G w vs hm Z (by simpa using As) (go _ (λv AE=>by rw[C6]at AE;cases AE;exact .lit _ rfl))
   |some a=>exact I φ G w vs hm Z (by simpa using As) (go _ (λv AE=>by rw[C6]at AE;cases AE;exact .nn a cap))
  |list _ b off cap sz Dn=>exact I φ G w vs hm Z (by simpa using As) (go _ (λv AE=>by rw[C6]at AE;cases AE;exact .nn _ cap))
theorem eR{r:Option (Out×List (Nat×ay))}{sz:Nat}(h:nt r=some sz):r=some (.ret (.vec 0 0 0 0),[(0,.vec sz [])]):=by
 unfold nt at h;split at h
 ·cases h;rfl
 ·cases h
theorem Kb{h:List AV->Option AV}{args:List AV}{cs:List ay}{r:Out×List (Nat×ay)}(H:lN h args cs=some r):cs=[]/\∃d,h args=some d/\r=(.ret d,[]):=by
 unfold lN at H;split at H
 ·split at H
  ·rename_i d U;cases H;exact⟨rfl,d,U,rfl⟩
  ·cases H
 ·cases H
theorem toDs_eq:∀{args:List AV}{BZ:List D},toDs args=some BZ->args=BZ.map .d
 |[],BZ,h=>by
  simp only[toDs,aax]at h;subst h;rfl
 |y::r,BZ,h=>by
  cases H:toDs r with
  |none=>unfold toDs at h;rw[H]at h;cases y<;>cases h
  |some Ah=>
   unfold toDs at h;rw[H]at h;cases y<;>cases h;rw[toDs_eq H];rfl
theorem ac0(Aq:jo X){g:FuncId}{h:List AV->Option AV}(Z:X.vj g=some h){args:List AV}{cs:List ay}{out:Out}{l:List (Nat×ay)}(H:lN h args cs=some (out,l)):
 ga X.P g=true/\Ev X.P X.gl g args (dr 0 cs) λo m=>o=out/\m=cZ 0 l:=by
 obtain⟨J,DV⟩:=Aq.vj g h Z;refine⟨J,?_⟩;obtain⟨rfl,d,U,he⟩:=Kb H;cases he;intro φ G w vs hm AD As B8;have Cb:∀b,gS φ (dr 0 []) b->False:=by
  rintro b ⟨e,he,_⟩;simp[dr]at he
 refine (DV args d U φ (Fo G φ (dr 0 [])) w vs AD (λb A=>A.elim (hm.bound b) λh=>(Cb b h).elim) As B8).mono ?_;rintro e w' ⟨v,rfl,A,BO⟩;refine⟨φ,dr 0 [],.ret d,⟨rfl,rfl⟩,⟨hm.nodup,hm.oI,λe he=>by simp[dr]at he,λe he=>by simp[dr]at he,λb A=>(Cb b A).elim,λb DW=>afQ (hm.bound b DW) A.size⟩,⟨bG.le_refl _,λb Aw _=>A.block b Aw,λb _ A3=>A3,A.size,A.os,A.tape,A.output⟩,?_⟩;exact BO
end
def ahy(φ:bG)(w:World)(F:Nat->Prop)(x:DF)(d:Deferred):Prop:=
 ∃Z:Array Value,d.target=.fn (.func x.1) Z/\x.2.length=(d.args++Z).size/\∀(i:Nat) y v,x.2[i]?=some y->(d.args++Z)[i]?=some v->az φ w F y v
def mX(φ:bG)(w:World)(F:Nat->Prop):List DF->List Deferred->Prop
 |[],[]=>True
 |x::xs,d::D=>ahy φ w F x d/\mX φ w F xs D
 |_,_=>False
theorem mX.keeps{φ m w φ' m' w'}{G:Fr}(h:aP φ m w φ' m' w'):∀{xs:List DF}{D:List Deferred},mX φ w (Fo G φ m) xs D->mX φ' w' (Fo G φ' m') xs D
 |[],[],_=>trivial
 |x::xs,d::D,⟨⟨Z,A5,A2,A3⟩,A7⟩=>⟨⟨Z,A5,A2,λi y v A8 A'=>h.av (A3 i y v A8 A')⟩,mX.keeps h A7⟩
 |[],_::_,AM=>AM.elim
 |_::_,[],AM=>AM.elim
def wK(n:Nat)(φ:bG)(g:Nat->Prop)(m:Mem)(w:World)(e:XE)(A:St)(E:List DF)(e':Exit)(J:Act)(w':World):Prop:=
 ∃φ' q,A.n=n/\Rel φ' ⟨g,q⟩ A J w'/\aP φ m w φ' A.mem w'/\mX φ' w' (Fo ⟨g,q⟩ φ' A.mem) E q/\(match e' with
  | .normal=>e=.normal
  | .exit id=>e=.exit id
  | .ret=>e=.ret
  | .panic chain=>∃t x v,e=.panic t x/\chain=[{v:=.iface t v,recovered:=false}]/\aJ w' (Fo ⟨g,q⟩ φ' A.mem) x v
  |_=>False)
theorem wK.weaken{n:Nat}{φ AV:bG}{g:Nat->Prop}{m AW:Mem}{w AX:World}{e A E e' J w'}(h:wK n AV g AW AX e A E e' J w')(Ai:aP φ m w AV AW AX):wK n φ g m w e A E e' J w':=by
 obtain⟨φ',q,A5,A2,A3,A7,T⟩:=h;exact⟨φ',q,A5,A2,Ai.trans A3,A7,T⟩
theorem Ic{S:St}{o:Oper}{d:DF}(h:gA S o=some d):o.guard=none/\∃c A9 args AH g AC,o.op=.defer c/\c={callee:=.value A9,args,argTypes:=AH}/\S.aq A9=(true,.fn g AC)/\g<qV/\gW S args.toList=true/\d=(g,cM S args.toList++AC):=by
 unfold gA at h;split at h
 ·rename_i A9 args AH AN AO;unfold CY at h;split at h
  ·rename_i g AC AI;split at h
   ·rename_i AD;cases h;simp only[Ds,aam]at AD;exact⟨AN,_,A9,args,AH,g,AC,AO,rfl,AI,AD.2,AD.1,rfl⟩
   ·cases h
  ·cases h
 ·cases h
section
variable {X:Ctx} {A0:bj} {f:FuncId} {n:Nat}
theorem wL{md:Bool}{all:List Oper}(A4:iK X A0):∀(ops:List Oper)(S:St)(D:List DF)(e:XE)(A:St)(E:List DF),eX X A0 md all ops S D=some (e,A,E)->S.gl=X.gl->je S.n ops=true->
 A.n=S.n/\A.gl=S.gl/\∀φ g dv a w,Rel φ ⟨g,dv⟩ S a w->mX φ w (Fo ⟨g,dv⟩ φ S.mem) D dv->∀Q:Exit->Act->World->Prop,(∀e' J w',wK S.n φ g S.mem w e A E e' J w'->Q e' J w')->wpList X.P all.toArray Q ops a w
 |[],S,D,e,A,E,h,N,I=>by
  simp only[eX,aax,ab3]at h;obtain⟨rfl,rfl,rfl⟩:=h;exact⟨rfl,rfl,λφ g dv a w H M Q AA=>AA .normal _ _ ⟨φ,dv,rfl,H,aP.refl ..,M,rfl⟩⟩
 |o::rest,S,D,e,A,E,h,N,I=>by
  simp only[je,afX,Ds]at I;obtain⟨AY,I⟩:=I;have AZ:∀t,o.dst=some t->t<S.n:=λt Aj=>by rw[Aj]at AY;simpa using AY
  simp only[eX]at h;cases AP:gA S o with
  |some d=>
   rw[AP]at h;simp only at h;obtain⟨AN,c,A9,args,AH,g0,AC,AO,Ak,AI,Al,AD,rfl⟩:=Ic AP;obtain⟨AE,AF,AQ⟩:=wL A4 rest (S.put o.dst true .aY) _ e A E h ((kP ..).trans N) (by rw[ly];exact I);refine⟨AE.trans (ly ..),AF.trans (kP ..),λφ g dv a w H M Q AA=>?_⟩;have AR:=H.aq A9 (by rw[AI]);rw[AI]at AR;generalize An:a.eval A9=Ax at AR;cases AR with
   |qW _ _ Z A_ Aa=>exact absurd Al (Nat.not_lt.2 (akz _ _))
   |fn _ _ Z Ay A_ Aa=>
    have Ao:(execOp a.eval o).run X.P w=.ok (.defer {target:=.fn (.func g0) Z,args:=args.map a.eval}) w:=by
     simp[execOp,AO,Ak,resolve,An,Deferred.ofValue]
    have hw:Region.wanted o (yielded all.toArray a.tmps)=true:=by simp[Region.wanted,AN]
    unfold wpList;rw[aap hw];left;unfold Oper.wp;rw[Ao,Oper.upon_defer];have Ap:Rel φ ⟨g,{target:=.fn (.func g0) Z,args:=args.map a.eval}::dv⟩ S {a with defers:={target:=.fn (.func g0) Z,args:=args.map a.eval}::a.defers} w:=
     ⟨H.size,by rw[H.defers],H.env,H.mem.dv _,H.jR⟩
    have AS:=Ap.put o.dst AZ true .aY undef (λ_=>.aY _);refine AQ φ g _ _ w AS ⟨⟨Z,rfl,?_,?_⟩,?_⟩ Q (λe' a2 AJ U=>AA e' a2 AJ ?_)
    ·rw[ab0,iE];simp[A_]
    ·intro i y v A8 A';rw[eI];by_cases hi:i<args.size
     ·rw[aaq (by rw[iE];simpa using hi),uG]at A8;rw[afG (by simpa using hi)]at A';simp only[Array.getElem?_map,aak]at A';obtain⟨z,Ab,rfl⟩:=A';obtain⟨Az,Ac,rfl⟩:=aak.1 A8;rw[afw,Ab]at Ac;cases Ac;exact H.aq z (tA AD z (by simpa using Array.mem_of_getElem? Ab))
     ·rw[aaF (by rw[iE];simpa using hi),iE]at A8;rw[Array.getElem?_append_right (by simpa using hi)]at A';simp only[Array.size_map,abZ]at A8 A';exact Aa _ _ v A8 A'
    ·rw[eI];exact M
    ·rw[ly,eI]at U;exact U
  |none=>
   rw[AP]at h;simp only at h;cases AT:mb X A0 md all S o with
   |none=>rw[AT]at h;cases h
   |some p=>
    obtain⟨O,S1⟩:=p;rw[AT]at h;obtain⟨V,A1,Aq,Ad⟩:=sN A4 N AZ AT;rcases Aq with rfl|⟨t0,B',rfl⟩
    ·simp only[Gv]at h;obtain⟨AE,AF,AQ⟩:=wL A4 rest S1 D e A E h (A1.trans N) (by rw[V];exact I);refine⟨AE.trans V,AF.trans A1,λφ g dv a w H M Q AA=>?_⟩;have:=Ad φ ⟨g,dv⟩ a w H (wpList X.P all.toArray Q rest) Q
      (λ_ φ' J w' AG A6=>AQ φ' g dv J w' AG (M.keeps A6) Q (λe' a2 AJ U=>AA e' a2 AJ (by rw[<-V];exact U.weaken A6))) (λt x he=>by cases he)
     unfold wpList;split
     ·rename_i hw;rw[aap hw]at this;exact .inl this
     ·rename_i hw;rw[aah hw]at this;exact this
    ·simp only[Gv,aax,ab3]at h;obtain⟨rfl,rfl,rfl⟩:=h;refine⟨V,A1,λφ g dv a w H M Q AA=>?_⟩;have:=Ad φ ⟨g,dv⟩ a w H (wpList X.P all.toArray Q rest) Q
      (λhe=>by cases he) (λt x he φ' J w' v AG A6 A'=>AA (.panic _) J w' ⟨φ',dv,V,AG,A6,M.keeps A6,t,x,v,he,rfl,A'⟩)
     unfold wpList;split
     ·rename_i hw;rw[aap hw]at this;exact .inl this
     ·rename_i hw;rw[aah hw]at this;exact this
theorem KU(AK:jo X)(A4:iK X A0){c:Code}{S:St}{D:List DF}{e:XE}{A:St}{E:List DF}(h:wD D (den X f A0 n c S)=some (e,A,E))(N:S.gl=X.gl)(I:dU X f S.n c=true):
 A.n=S.n/\A.gl=S.gl/\∀φ g dv a w,Rel φ ⟨g,dv⟩ S a w->mX φ w (Fo ⟨g,dv⟩ φ S.mem) D dv->c.wp X.P (wK S.n φ g S.mem w e A E) a w:=by
 cases Y:den X f A0 n c S with
 |none=>rw[Y]at h;cases h
 |some p=>
  obtain⟨O,S1⟩:=p;rw[Y]at h;simp only[wD,aax,ab3]at h;obtain⟨rfl,rfl,rfl⟩:=h;obtain⟨A5,A2,A3⟩:=H8 AK A4 c S O S1 Y N I;refine⟨A5,A2,λφ g dv a w H M=>wp_mono (A3 φ ⟨g,dv⟩ a w H) λe' J w' U=>?_⟩;obtain⟨φ',Ar,AG,A6,he⟩:=U.is;exact⟨φ',dv,Ar,AG,A6,M.keeps A6,by cases e'<;>exact he⟩
theorem aaY(AK:jo X)(A4:iK X A0)(c:Code):∀(S:St)(D:List DF)(e:XE)(A:St)(E:List DF),ib X f A0 n c S D=some (e,A,E)->S.gl=X.gl->dU X f S.n c=true->
 A.n=S.n/\A.gl=S.gl/\∀φ g dv a w,Rel φ ⟨g,dv⟩ S a w->mX φ w (Fo ⟨g,dv⟩ φ S.mem) D dv->c.wp X.P (wK S.n φ g S.mem w e A E) a w:=by
 induction c with
 |seq a b As At=>
  intro S D e A E h N I;simp only[dU,Ds]at I;simp only[ib]at h;cases Y:ib X f A0 n a S D with
  |none=>rw[Y]at h;cases h
  |some p=>
   obtain⟨O,S1,AB⟩:=p;obtain⟨V,A1,AL⟩:=As S D O S1 AB Y N I.1;have stop:O≠.normal->e=O/\A=S1/\E=AB:=λhe=>by
    rw[Y]at h;cases O with
    |normal=>exact absurd rfl he
    |_=>simp only[HL,aax,ab3]at h;exact⟨h.1.symm,h.2.1.symm,h.2.2.symm⟩
   by_cases he:O=.normal
   ·subst he;rw[Y]at h;simp only[HL]at h;obtain⟨AE,AF,Au⟩:=At S1 AB e A E h (A1.trans N) (by rw[V];exact I.2);refine⟨AE.trans V,AF.trans A1,λφ g dv ac w H M=>wp_seq (wp_mono (AL φ g dv ac w H M) λe' J w' U=>?_)⟩;obtain⟨φ',q,A5,A2,A3,A7,T⟩:=U;cases e' with
    |normal=>exact wp_mono (Au φ' g q J w' A2 A7) λB0 a2 AJ Ae=>by rw[V]at Ae;exact Ae.weaken A3
    |exit id=>cases T
    |ret=>cases T
    |panic chain=>obtain⟨t,x,v,AU,_⟩:=T;cases AU
    |_=>exact T.elim
   ·obtain⟨rfl,rfl,rfl⟩:=stop he;refine⟨V,A1,λφ g dv ac w H M=>wp_seq (wp_mono (AL φ g dv ac w H M) λe' J w' U=>?_)⟩;cases e' with
    |normal=>obtain⟨_,_,_,_,_,_,T⟩:=U;exact absurd T he
    |_=>exact U
 |region id ops draw=>
  intro S D e A E h N I;simp only[ib]at h;split at h
  ·rename_i Af;simp only[Ds,akq]at Af;obtain⟨rfl,_⟩:=Af;simp only[dU,Ds]at I;have Av:je S.n ops.toList=true:=I.1;cases Y:eX X A0 (X.md f id) ops.toList ops.toList S D with
   |none=>rw[Y]at h;cases h
   |some p=>
    obtain⟨O,S1,AB⟩:=p;rw[Y]at h;obtain⟨V,A1,AL⟩:=wL A4 ops.toList S D O S1 AB Y N Av;have Ag:∀φ g dv a w,Rel φ ⟨g,dv⟩ S a w->mX φ w (Fo ⟨g,dv⟩ φ S.mem) D dv->(Code.region id ops false).wp X.P (wK S.n φ g S.mem w O S1 AB) a w:=
     λφ g dv a w H M=>wp_region_lit (AL φ g dv a w H M _ (λ_ _ _ h=>h))
    by_cases he:O=.normal
    ·subst he;simp only[yQ,aax,ab3]at h;obtain⟨rfl,rfl,rfl⟩:=h;obtain⟨t1,t2,t3⟩:=rG X f id S1;refine⟨t1.trans V,t2.trans A1,λφ g dv a w H M=>wp_mono (Ag φ g dv a w H M) λe' J w' U=>?_⟩;obtain⟨φ',q,A5,A2,A3,A7,T⟩:=U;cases e' with
     |normal=>
      obtain⟨Aw,AS,Ah⟩:=t3 φ' ⟨g,q⟩ J w' A2;exact⟨Aw,q,t1.trans A5,AS,A3.trans Ah,A7.keeps Ah,rfl⟩
     |exit id=>cases T
     |ret=>cases T
     |panic chain=>obtain⟨t,x,v,AU,_⟩:=T;cases AU
     |_=>exact T.elim
    ·have:e=O/\A=S1/\E=AB:=by
      cases O with
      |normal=>exact absurd rfl he
      |_=>simp only[yQ,aax,ab3]at h;exact⟨h.1.symm,h.2.1.symm,h.2.2.symm⟩
     obtain⟨rfl,rfl,rfl⟩:=this;exact⟨V,A1,Ag⟩
  ·exact KU AK A4 h N I
 |_=>intro S D e A E h N I;exact KU AK A4 (by simpa only[ib]using h) N I
end
abbrev Ru:=FuncId->Array Value->World->(Ending->World->Prop)->Prop
def Ie(C:Ru):Prop:=∀f vs w R A1,C f vs w R->(∀e w',R e w'->A1 e w')->C f vs w A1
def Ig(C:Ru)(gl:List (Nat×D))(f:FuncId)(args:List AV)(m:Mem)(K:Out->Mem->Prop):Prop:=
 ∀φ G w (vs:Array Value),a8 φ G m w->eh w (Fo G φ m) gl->args.length=vs.size->(∀(i:Nat) x v,args[i]?=some x->vs[i]?=some v->az φ w (Fo G φ m) x v)->
  C f vs w λe w'=>∃φ' m' out,K out m'/\a8 φ' G m' w'/\aP φ m w φ' m' w'/\mP φ' w' (Fo G φ' m') out e
theorem Ig.frz{C:Ru}(T:Ie C){gl f args}{cs:List ay}{out:Out}{A:List (Nat×ay)}(h:Ig C gl f args (dr 0 cs) λo m=>o=out/\m=cZ 0 A)(A2:cs.length<=A.length):
 Ig C gl f args (dr 0 cs) λo m=>o=Ee cs.length A out/\m=cZ 0 (dO (cZ 0 A) (List.range cs.length) (λ_=>true) (λ_ v=>v) 0 (List.range cs.length)):=by
 intro φ G w vs hm U AD AE;refine T _ _ _ _ _ (h φ G w vs hm U AD AE) ?_;rintro e w' ⟨φ',m',V,⟨rfl,rfl⟩,M,E,H⟩;obtain⟨s1,s2,AF⟩:=z6 (G1:=G) (ρ:=List.range cs.length) (bor:=λ_=>true) (nv:=λ_ v=>v) M List.nodup_range (λk N=>vq A 0 k (alp _) (by simp at N;omega)) (λb h=>.inl h) (λb h=>M.jP b h.own)
  (λk e L b U _ _ Y q=>M.jP _ ⟨e,(Mem.get_mem U).1,L,by rw[(Mem.get_mem U).2];exact Y,q⟩)
 refine⟨_,_,_,⟨rfl,rfl⟩,s1,⟨?_,E.x8,?_,E.size,E.os,E.tape,E.output⟩,?_⟩
 ·intro k L Y;have N:k<cs.length:=by
   have:=hm.oI k L Y;rw[Hv,pb]at this;simpa using this
  obtain⟨L',A',AG,AH⟩:=E.le k L Y;exact⟨L',by simp[bG.gC,N,A'],AG,AH⟩
 ·intro b AI q;exact E.own b AI ((vf (φ:=φ') (nv:=λ_ v=>v) (bor:=λ_=>true) (λk N=>vq A 0 k (alp _) (by simp at N;omega)) b).1 q).own
 ·cases V with
  |ret x=>
   cases e with
   |returned v=>exact (s2 x v H).norm
   |_=>exact H.elim
  |panic t x=>
   cases e with
   |panicked chain=>
    obtain⟨v,Z,J⟩:=H;exact⟨v,Z,J.mono (λ_ _ _=>rfl) (aai _) (λb _=>AF b)⟩
   |_=>exact H.elim
theorem Kc{C:Ru}(T:Ie C){gl:List (Nat×D)}{A3:bj}(AJ:∀g args cs out l,A3 g args cs=some (out,l)->Ig C gl g args (dr 0 cs) λo m=>o=out/\m=cZ 0 l)
 {m:Mem} {A4:Nat} {g:FuncId} {I:List AV} {mt:List Nat} {res:eF} (h:dt A3 m A4 g I mt=some res) {φ:bG} {G:Fr} {w:World} (hm:a8 φ G m w) (AK:eh w (Fo G φ m) gl)
 {vs:Array Value} (A2:I.length=vs.size) (AL:∀(i:Nat) x v,I[i]?=some x->vs[i]?=some v->az φ w (Fo G φ m) x v):
 C g vs w λe w'=>∃φ',a8 φ' G (bq m res.es) w'/\aP φ m w φ' (bq m res.es) w'/\mP φ' w' (Fo G φ' (bq m res.es)) res.out e:=by
 unfold dt kW kV at h;obtain⟨ρ,A5⟩:∃ρ,ρ=collect m 64 (j5 mt 0 I) []:=⟨_,rfl⟩;have A6:=nY m 64 (j5 mt 0 I) [] List.nodup_nil (by simp);rw[<-A5]at h A6;generalize (sF mt 0 I).filter (λk=>!ρ.contains k)=B at h;clear A5;obtain⟨A7,A8⟩:=A6;unfold eP at h;split at h
 ·rename_i out A AM;split at h
  ·rename_i Z;cases h;have A9:Ig C gl g (gw (mt.contains 1000) m ρ B I) (dr 0 (nb (dO m ρ (λk=>B.contains k) gu 0 ρ))) λo m=>o=out/\m=cZ 0 A:=by
    obtain⟨AZ,A_,AN,A'⟩:=yT AM;have AA:=AJ _ _ _ _ _ AN;rcases A' with ⟨rfl,rfl⟩|⟨Aa,rfl,rfl⟩
    ·exact AA
    ·have AB:(nb (dO m ρ (λk=>B.contains k) gu 0 ρ)).length=ρ.length:=by rw[sM,pM]
     have:=AA.frz T (by rw[AB];omega);rw[AB]at this;exact this
   simp only[Ds,afP,aam]at Z;obtain⟨⟨Ab,AO⟩,AP⟩:=Z;rw[yR]at A9;obtain⟨v1,v2,v3⟩:=E9 (B:=B) hm A7 A8;have AQ:∀(i:Nat) x v,(gw (mt.contains 1000) m ρ B I)[i]?=some x->vs[i]?=some v->az (φ.gC ρ gu) w (Fo (kB φ G m ρ B) (φ.gC ρ gu) (cZ 0 (dO m ρ (λk=>B.contains k) gu 0 ρ))) x v:=by
    intro i x v J AR;rw[wE]at J;obtain⟨y,AS,rfl⟩:=aak.1 J;exact (v2 y v (AL i y v AS AR)).AU
   have AT:eh w (Fo (kB φ G m ρ B) (φ.gC ρ gu) (cZ 0 (dO m ρ (λk=>B.contains k) gu 0 ρ))) gl:=
    AK.mono (λ_ _ _=>rfl) (aai _) (λb _=>v3 b)
   refine T _ _ _ _ _ (A9 (φ.gC ρ gu) (kB φ G m ρ B) w _ v1 AT (by rw[qN];exact A2) AQ) ?_;rintro e w' ⟨Ac,Ad,V,⟨rfl,rfl⟩,AW,AX,H⟩;have A0:B=[]\/(yN V=true/\mV A=true):=AP.imp (by simp) id;obtain⟨φ',M,E,AC⟩:=Fa (B:=B) hm A7 A8 (fr:=List.range' (A4+1) (A.length-ρ.length)) List.nodup_range' (BG AO) AW AX (by simp;omega) (A0.imp id λO=>wF O.2);refine⟨φ',M,E,?_⟩;cases V with
   |ret x=>
    cases e with
    |returned v=>exact AC x v (A0.imp id λO=>O.1) H
    |_=>exact H.elim
   |panic t x=>
    cases e with
    |panicked chain=>
     obtain⟨v,rfl,J⟩:=H;have:=AC (.d x) v (A0.imp id λO=>O.1) (.d _ _ J);cases this with
     |d _ _ AY=>exact⟨v,rfl,AY⟩
    |_=>exact H.elim
  ·cases h
 ·cases h
theorem FD{P:Program}{ops:Array Oper}{Q:Exit->Act->List Frame->World->Prop}{cs:List Frame}(AB:∀a w,¬Q .outgrown a cs w):∀(l:List Nat)(a:Act)(w:World),
 wpOps P ops (λe a w=>Q e a cs w) l a w->wpOpsS P ops Q l a cs w
 |[],a,w,h=>h
 |i::rest,a,w,h=>by
  have ih:=FD (P:=P) (ops:=ops) AB rest;unfold wpOps at h;unfold wpOpsS;split at h
  ·rename_i Y;simp only[Y];exact ih a w h
  ·rename_i o Y;simp only[Y];split at h
   ·rename_i hw;rw[aap hw];rcases h with h|⟨_,a0,w0,h⟩
    ·have U:=Oper.wp_mono (K':=λH w'=>wpOpsS P ops Q rest H cs w') ih h;unfold Oper.wp at U;split
     ·rename_i w' I;rw[I]at U;exact U.elim
     ·exact U
    ·exact absurd h (AB a0 w0)
   ·rename_i hw;rw[aah hw];exact ih _ w h
def Pe(A:Frame)(D:List Frame)(v:Value)(E:FrameMode):Prop:=
 recoverD (A::D)=some (v,{A with mode:=E}::D)\/(recoverD (A::D)=none/\v=.nilIface/\E=A.mode)
theorem Ek{o:Oper}(h:tK o=true):o.guard=none/\∃A4,o.op=.call {callee:=.builtin .recover,args:=#[],argTypes:=A4}:=by
 unfold tK at h;split at h
 ·rename_i args A4 A6 Y;refine⟨A6,A4,?_⟩;rw[Y];have:args=#[]:=by
   cases args with
   |mk l=>cases l with
    |nil=>rfl
    |cons a r=>simp at h
  rw[this]
 ·cases h
abbrev Gw(A:Frame)(D:List Frame)(E:FrameMode)(n:Nat)(φ:bG)(G:Fr)(m:Mem)(w:World)(e:XE)(J:St):Exit->Act->List Frame->World->Prop:=
 λe' H A0 w'=>A0={A with mode:=E}::D/\mz n φ G m w (Is e J) e' H w'
theorem wO{P:Program}{c:Code}{Q AC:Exit->Act->List Frame->World->Prop}{a:Act}{cs:List Frame}{w:World}(h:c.wpS P Q a cs w)(AL:∀e a cs w,Q e a cs w->AC e a cs w):c.wpS P AC a cs w:=
 λb k AM I=>let ⟨e,H,A0,w',q,r⟩:=h b k AM I;⟨e,H,A0,w',AL _ _ _ _ q,r⟩
section
variable {X:Ctx} {A7:bj} {f:FuncId} {n:Nat}
theorem aaZ(AN:jo X)(AD:iK X A7)(A1:AV)(c:Code):∀(S:St)(e:XE)(J:St),mE X f A7 n A1 c S=some (e,J)->S.gl=X.gl->dU X f S.n c=true->
 J.n=S.n/\J.gl=S.gl/\∀φ G a w A D v E,Pe A D v E->az φ w (Fo G φ S.mem) A1 v->Rel φ G S a w->c.wpS X.P (Gw A D E S.n φ G S.mem w e J) a (A::D) w:=by
 induction c with
 |seq a b AE Ae=>
  intro S e J h A3 Z;simp only[dU,Ds]at Z;simp only[mE]at h;rcases gf h with ⟨S1,y,U⟩|⟨y,U⟩
  ·obtain⟨N,O,T⟩:=AE S .normal S1 y A3 Z.1;obtain⟨AO,AP,AQ⟩:=H8 AN AD b S1 e J U (O.trans A3) (by rw[N];exact Z.2);refine⟨AO.trans N,AP.trans O,λφ G ac w A D v E M A' I=>wpS_seq (wO (T φ G ac w A D v E M A' I) ?_)⟩;rintro e' H A0 w' ⟨rfl,V⟩;obtain⟨φ',AF,A8,A9,he⟩:=V.is;cases e' with
   |normal=>
    refine wpS_of_wp (wp_mono (AQ φ' G H w' A8) λAf a2 Ag AG=>⟨rfl,?_⟩);rw[N]at AG;exact AG.weaken A9
   |exit id=>cases he
   |ret=>cases he
   |panic chain=>obtain⟨t,x,v,AR,_⟩:=he;cases AR
   |_=>exact he.elim
  ·obtain⟨N,O,T⟩:=AE S e J y A3 Z.1;refine⟨N,O,λφ G ac w A D v E M A' I=>wpS_seq (wO (T φ G ac w A D v E M A' I) ?_)⟩;rintro e' H A0 w' ⟨rfl,V⟩;cases e' with
   |normal=>obtain⟨φ',_,_,_,he⟩:=V.is;exact absurd he U
   |_=>exact⟨rfl,V⟩
 |region id ops draw=>
  intro S e J h A3 Z;simp only[mE]at h;split at h
  ·rename_i o r AH;split at h
   ·rename_i AS;obtain⟨A6,A4,Y⟩:=Ek AS;simp only[dU,Ds]at Z;have AA:je S.n ops.toList=true:=Z.1;rw[AH]at AA;simp only[je,afX,Ds]at AA;obtain⟨AI,AT⟩:=AA;have AU:∀t,o.dst=some t->t<S.n:=λt AW=>by rw[AW]at AI;simpa using AI
    have A5:(o::r).toArray=ops:=by rw[<-AH]
    have key:∀A2 S1,eQ X A7 (X.md f id) (o::r) r (S.put o.dst true A1)=some (A2,S1)->S1.n=S.n/\S1.gl=S.gl/\∀φ G a w A D v E,Pe A D v E->az φ w (Fo G φ S.mem) A1 v->Rel φ G S a w->
     (Code.region id ops false).wpS X.P (Gw A D E S.n φ G S.mem w A2 S1) a (A::D) w:=by
     intro A2 S1 y;obtain⟨N,O,T⟩:=yX AD r (S.put o.dst true A1) A2 S1 y ((kP ..).trans A3) (by rw[ly];exact AT);rw[ly]at N T;rw[kP]at O;rw[eI]at T;refine⟨N,O,λφ G a w A D v E M A' I=>wpS_region ?_⟩;have AX:List.range ops.size=0::List.range' 1 r.length:=by
      rw[<-A5];simp[List.range_eq_range',afZ]
     have AY:ops[0]?=some o:=by rw[<-A5];simp
     have AZ:(execOp a.eval o).run X.P w=.ok .recover w:=by
      simp[execOp,Y,resolve,Deferred.ofValue,invoke,builtin]
     have A_:=I.put o.dst AU true A1 v (λ_=>A');have AJ:=T φ G _ w A_ (λe a w'=>Gw A D E S.n φ G S.mem w A2 S1 e a ({A with mode:=E}::D) w') (λe' H w' V=>⟨rfl,V⟩);rw[A5,<-wpOps_eq_wpList r 1 (λj=>by rw[<-A5];simp[Nat.add_comm])]at AJ;have AK:=FD (Q:=Gw A D E S.n φ G S.mem w A2 S1) (cs:={A with mode:=E}::D) (λ_ _ hh=>hh.2) _ _ _ AJ;rw[AX];unfold wpOpsS;simp only[AY];rw[aap (by simp[Region.wanted,A6])];simp only[AZ];rcases M with M|⟨M,rfl,rfl⟩
     ·rw[M];exact AK
     ·rw[M];exact AK
    unfold uA at h;split at h
    ·rename_i S1 y;cases h;obtain⟨N,O,T⟩:=key _ _ y;obtain⟨t1,t2,t3⟩:=rG X f id S1;refine⟨t1.trans N,t2.trans O,λφ G a w A D v E M A' I=>wO (T φ G a w A D v E M A' I) ?_⟩;rintro e' H A0 w' ⟨rfl,V⟩;refine⟨rfl,?_⟩;obtain⟨φ',AF,A8,A9,he⟩:=V.is;cases e' with
     |normal=>
      obtain⟨Aa,Ab,Ac⟩:=t3 φ' G H w' A8;exact⟨Aa,_,t1.trans AF,⟨rfl,rfl⟩,Ab,A9.trans Ac⟩
     |exit id=>cases he
     |ret=>cases he
     |panic chain=>obtain⟨t,x,v,Ad,_⟩:=he;cases Ad
     |_=>exact he.elim
    ·exact key _ _ h
   ·cases h
  ·cases h
 |_=>intro S e J h;simp[mE]at h
end
section
variable {X:Ctx} {A5:bj} {f:FuncId} {n:Nat}
theorem Ih{fn:Func}{args:List AV}{cs:List ay}(AK:args.length<=fn.ntmps)(AL:cs.length<=100)(A6:∀k∈(X.fp f).sites,100<=k)(A7:(X.fp f).sites.Nodup)
 {φ:bG} {G:Fr} {w:World} {vs:Array Value} (A8:G.dv=[]) (hm:a8 φ G (dr 0 cs) w) (A9:eh w (Fo G φ (dr 0 cs)) X.gl) (AA:args.length=vs.size)
 (AB:∀(i:Nat) x v,args[i]?=some x->vs[i]?=some v->az φ w (Fo G φ (dr 0 cs)) x v):
 Rel (φ.add (X.fp f).sites) G (entry fn.ntmps X.gl args cs (X.fp f).sites) {tmps:=vs++Array.replicate (fn.ntmps-vs.size) undef,defers:=[]} w/\
  aP φ (dr 0 cs) w (φ.add (X.fp f).sites) (entry fn.ntmps X.gl args cs (X.fp f).sites).mem w/\(∀k L,φ k=some L->k<cs.length/\L.ak=0):=by
 have AM:∀k,k∈(dr 0 cs).map (·.key)↔k<cs.length:=λk=>by rw[BL];simp
 have AC:∀k∈(X.fp f).sites,k∉(dr 0 cs).map (·.key):=by
  intro k Z A_;have q:=A6 k Z;have A':=(AM k).1 A_;omega
 have T:∀k L,φ k=some L->k<cs.length/\L.ak=0:=λk L AN=>by
  have Z:=hm.oI k L AN;obtain⟨e,he,rfl⟩:=acb.1 Z;obtain⟨L',AO,Aa,_⟩:=hm.fC e he;rw[AN]at AO;cases AO;exact⟨(AM _).1 Z,by rw[Aa];exact Ej cs 0 e he⟩
 have AD:=hm.add A7 AC;have AE:aP φ (dr 0 cs) w (φ.add (X.fp f).sites) (dr 0 cs++(X.fp f).sites.map dead) w:=⟨Hu hm AC,λ_ _ _=>rfl,λb _ Ab=>(z7 AC b).1 Ab,aai _,rfl,rfl,rfl⟩;refine⟨⟨by simp[entry];omega,A8.symm,λt x U=>?_,AD,AE.jR A9⟩,AE,T⟩;obtain⟨j,rfl,AP⟩:=we 0 args t _ U;have AF:j<vs.size:=by rw[<-AA];exact (aaf.1 AP).1
 have e:(vs++Array.replicate (fn.ntmps-vs.size) undef).getD (0+j) undef=vs[j]:=by
  simp only[ac3,aay];rw[afG AF];simp[AF]
 rw[e];exact AE.av (AB j x _ AP (by simp[AF]))
theorem FE{fn:Func}{cs:List ay}{out:Out}{l:List (Nat×ay)}{φ φ':bG}{G:Fr}{N:St}{E:Act}{w w':World}(O:Rel φ' G N E w')(AG:aP φ (dr 0 cs) w φ' N.mem w')
 (T:∀k L,φ k=some L->k<cs.length/\L.ak=0) (H:finish X.P (X.fp f) cs.length fn.results.toList N=some (out,l)):
 ∃v,(results fn E.tmps).run X.P w'=.ok v w'/\∃A m' V,(V=out/\m'=cZ 0 l)/\a8 A G m' w'/\aP φ (dr 0 cs) w A m' w'/\mP A w' (Fo G A m') V (.returned v):=by
 unfold finish at H;split at H
 ·rename_i Ac xs Ad;split at H
  ·rename_i Ae;obtain⟨J,q,A',AH⟩:=v7 O fn.results.toList Ac xs Ad Ae;obtain⟨A0,M,rfl,g1,g2,g3,g4,_⟩:=rC H O.mem O.jR A' AH AG T;have Af:(results fn E.tmps).run X.P w'=.ok (if h:J.toArray.size=1 then J.toArray[0]else .tuple J.toArray) w':=by
    have e:results fn E.tmps=(do let vs <-fn.results.mapM (yz E.tmps);pure (if h:vs.size=1 then vs[0]else .tuple vs)):=by
     unfold results;congr 1
    rw[e,Array.mapM_eq_mapM_toList];simp only[Sem.run_bind,Sem.run_map,q,Result.andThen_ok,Sem.run_pure]
   refine⟨_,Af,A0,_,_,⟨rfl,rfl⟩,g1,g2,?_⟩;show az A0 w' _ (oneOf M) _;by_cases AI:J.length=1
   ·obtain⟨v,rfl⟩:∃v,J=[v]:=by
     cases J with
     |nil=>simp at AI
     |cons v r=>exact⟨v,by cases r with|nil=>rfl|cons _ _=>simp at AI⟩
    obtain⟨y,rfl⟩:∃y,M=[y]:=by
     cases M with
     |nil=>simp at g3
     |cons v r=>exact⟨v,by cases r with|nil=>rfl|cons _ _=>simp at g3⟩
    simpa [oneOf]using g4 0 y v (by simp) (by simp)
   ·have e:oneOf M=.bM M:=by
     cases M with
     |nil=>rfl
     |cons y r=>cases r with|nil=>simp at g3;omega|cons _ _=>rfl
    rw[e,dif_neg (by simpa using AI)];exact .bM M J.toArray (by simpa using g3) (λi y v h Ag=>g4 i y v h (by simpa using Ag))
  ·cases H
 ·cases H
def SC(u:FrameMode)(v:Value):Prop:=(v=.nilIface/\u=.returning)\/∃t x,v=.iface t x/\u=.panicking [{v:=.iface t x,recovered:=false}]
def RuR(P:Program):Ru:=λf vs w R=>∀u v,vs.back?=some v->SC u v->CallsD P f vs.pop u w λe D w'=>settle D=.returning/\R e w'
theorem VY(P:Program):Ie (RuR P):=λf vs w R Az h Ah u v I hm=>(h u v I hm).mono λe D w' hh=>⟨hh.1,Ah e w' hh.2⟩
theorem SD(AQ:jo X)(Ai:iK X A5){fn:Func}{c:Code}{args:List AV}{cs:List ay}{out:Out}{l:List (Nat×ay)}(AR:X.P.funcs[f]?=some fn)(AS:fn.body=some c)
 (h:vm X f A5 n fn c args cs=some (out,l)):Ig (RuR X.P) X.gl f args (dr 0 cs) λo m=>o=out/\m=cZ 0 l:=by
 unfold vm at h;split at h
 ·rename_i A1 AT;split at h
  ·rename_i AU;simp only[Ds,aam,aaH]at AU;obtain⟨⟨⟨AK,AL⟩,A6⟩,A7⟩:=AU;intro φ A2 w vs AD A9 AA AB u v I Aj;obtain⟨G,Y⟩:∃G:Fr,G=⟨A2.g,[]⟩:=⟨_,rfl⟩;have A8:G.dv=[]:=by rw[Y]
   have hm:a8 φ G (dr 0 cs) w:=by rw[Y];exact AD.dv []
   have Ak:eh w (Fo G φ (dr 0 cs)) X.gl:=by rw[Y];exact A9
   have AW:∀(i:Nat) x v,args[i]?=some x->vs[i]?=some v->az φ w (Fo G φ (dr 0 cs)) x v:=by rw[Y];exact AB
   have Al:args≠[]:=by rintro rfl;cases AT
   have B':0<args.length:=List.length_pos_iff.2 Al;have An:args.dropLast.length=vs.pop.size:=by simp;omega
   obtain⟨Ao,AX,T⟩:=Ih (fn:=fn) AK AL A6 A7 A8 hm Ak An (λi x v U I=>by
    have hi:i<args.length-1:=by have:=(aaf.1 U).1;simpa using this
    refine AW i x v ?_ ?_
    ·rw[List.dropLast_eq_take,List.getElem?_take_of_lt (by omega)]at U;exact U
    ·rw[Array.getElem?_pop]at I;rw[aap (by omega)]at I;exact I)
   have Ap:az (φ.add (X.fp f).sites) w (Fo G (φ.add (X.fp f).sites) (entry fn.ntmps X.gl args.dropLast cs (X.fp f).sites).mem) A1 v:=by
    refine AX.av (AW (args.length-1) A1 v ?_ ?_)
    ·rw[<-List.getLast?_eq_getElem?];exact AT
    ·rw[Array.back?]at I;rw[AA];exact I
   cases AJ:mE X f A5 n A1 c (entry fn.ntmps X.gl args.dropLast cs (X.fp f).sites)with
   |none=>rw[AJ]at h;cases h
   |some p=>
    obtain⟨e,N⟩:=p;rw[AJ]at h;obtain⟨B0,B1,Aq⟩:=aaZ AQ Ai A1 c _ e N AJ rfl (AQ.VW f fn c AR AS);refine callsD_of_wpS AR AS λA3 A4 hu=>?_;obtain⟨D,Ar,As⟩:∃D,Pe A3 A4 v D/\settle D=.returning:=by
     rcases Aj with ⟨rfl,rfl⟩|⟨t,x,rfl,rfl⟩
     ·exact⟨.returning,.inr ⟨by simp[recoverD,hu],rfl,hu.symm⟩,rfl⟩
     ·exact⟨.panicking [{v:=.iface t x,recovered:=true}],.inl (by simp[recoverD,hu]),by simp[settle]⟩
    refine wO (Aq _ G _ w A3 A4 v D Ar Ap Ao) ?_;rintro e' E B2 w' ⟨rfl,At⟩;obtain⟨φ',_,O,Au,he⟩:=At.is;have AG:=AX.trans Au;have AY:finish X.P (X.fp f) cs.length fn.results.toList N=some (out,l)->E.defers=[]/\∃AZ,({A3 with mode:=D}::A4)={A3 with mode:=AZ}::A4/\∃v,(results fn E.tmps).run X.P w'=.ok v w'/\(settle AZ=.returning/\
     ∃A m' V,(V=out/\m'=cZ 0 l)/\a8 A A2 m' w'/\aP φ (dr 0 cs) w A m' w'/\mP A w' (Fo A2 A m') V (.returned v)):=by
     intro H;obtain⟨v,q,A0,Av,Aw,A',AH,Ax,Ay⟩:=FE O AG T H;subst Y;exact⟨O.defers,D,rfl,v,q,As,A0,Av,Aw,A',AH.dv A2.dv,Ax,Ay⟩
    cases e' with
    |normal=>cases he;exact AY h
    |ret=>cases he;exact AY h
    |exit id=>cases he;cases h
    |panic chain=>obtain⟨t,x,v,rfl,_⟩:=he;cases h
    |_=>exact he.elim
  ·cases h
 ·cases h
end
def Yh(X:Ctx)(Y:bj):Prop:=∀g args cs out l,Y g args cs=some (out,l)->ga X.P g=true/\Ig (RuR X.P) X.gl g args (dr 0 cs) λo m=>o=out/\m=cZ 0 l
theorem Gl{M:bj}{m:Mem}{AN:Nat}{g:FuncId}{AD:List AV}{mt:List Nat}{res:eF}(h:dt M m AN g AD mt=some res):∃args cs out l,M g args cs=some (out,l):=by
 unfold dt kW kV eP at h;split at h
 ·rename_i out B1 N;obtain⟨B2,B3,AE,_⟩:=yT N;exact⟨_,_,_,_,AE⟩
 ·cases h
section
variable {X:Ctx} {M Y:bj} {f:FuncId} {n:Nat}
theorem SF(A:jo X)(A8:iK X M)(AF:Yh X Y){fn:Func}{c:Code}{args:List AV}{cs:List ay}{out:Out}{l:List (Nat×ay)}(D:X.P.funcs[f]?=some fn)(E:fn.body=some c)
 (h:vn X f M Y n fn c args cs=some (out,l)):Ev X.P X.gl f args (dr 0 cs) λo m=>o=out/\m=cZ 0 l:=by
 unfold vn at h;split at h
 ·rename_i AG;simp only[Ds,aam,aaH]at AG;obtain⟨⟨⟨AO,AP⟩,AQ⟩,AR⟩:=AG;refine Ev.dv ?_;intro φ G w vs A9 hm AS AT AU;obtain⟨A0,Z,AH⟩:=Ih (fn:=fn) AO AP AQ AR A9 hm AS AT AU;obtain⟨g,B4⟩:=G;simp only at A9;subst A9;cases AA:ib X f M n c (entry fn.ntmps X.gl args cs (X.fp f).sites) []with
  |none=>rw[AA]at h;cases h
  |some p=>
   obtain⟨e,q,AI⟩:=p;rw[AA]at h;obtain⟨B5,AW,AX⟩:=aaY A A8 c _ _ e q AI AA rfl (A.VW f fn c D E);refine calls_of_wp_defers D E (wp_mono (AX _ g [] _ w A0 trivial) λe' H w' AY=>?_);obtain⟨φ',AJ,_,J,AZ,A1,he⟩:=AY;have A2:=Z.trans AZ;have A_:q.gl=X.gl:=AW;have back:∀{T:bG}{A3:St}{I:World},Rel T ⟨g,AJ⟩ A3 H I->aP φ (dr 0 cs) w T A3.mem I->finish X.P (X.fp f) cs.length fn.results.toList A3=some (out,l)->
    ∃v,(results fn H.tmps).run X.P I=.ok v I/\∃A4 m' y,(y=out/\m'=cZ 0 l)/\a8 A4 ⟨g,[]⟩ m' I/\aP φ (dr 0 cs) w A4 m' I/\mP A4 I (Fo ⟨g,[]⟩ A4 m') y (.returned v):=by
    intro T A3 I Aa A5 Ab;obtain⟨v,Ac,Ad,Ae,Af,Ag,Ah,Ai,Aj⟩:=FE Aa A5 AH Ab;exact⟨v,Ac,Ad,Ae,Af,Ag,Ah.dv [],Ai,Aj⟩
   match AI,AJ,A1 with
   |[],[],_=>
    have O:H.defers=[]:=J.defers;simp only[uB]at h;cases e' with
    |normal=>cases he;show Leaves _ _ _ _ H.defers _ _;rw[O];exact back J A2 h
    |ret=>cases he;show Leaves _ _ _ _ H.defers _ _;rw[O];exact back J A2 h
    |exit id=>cases he;cases h
    |panic chain=>
     obtain⟨t,x,v,rfl,rfl,AB⟩:=he;have Ak:pg (X.fp f) cs.length q [] (λ_=>.panic t x)=some (out,l):=h;obtain⟨T,AD,rfl,g1,g2,_,_,g5⟩:=rC (vs:=[]) Ak J.mem J.jR rfl (by simp) A2 AH;show Leaves _ _ _ _ H.defers _ _;rw[O];exact⟨T,_,_,⟨rfl,rfl⟩,g1,g2,v,rfl,AB.mono (λ_ _ _=>rfl) (aai _) (λb _=>g5 b)⟩
    |_=>exact he.elim
   |[d],[U],⟨Al,_⟩=>
    have O:H.defers=[U]:=J.defers;simp only[uB]at h;have one:∀u A6 A',u≠FrameMode.run->SC u A'->az φ' w' (Fo ⟨g,[U]⟩ φ' q.mem) A6 A'->BD e=some A6->
     Leaves X.P fn H.tmps (λe w'=>∃φ' m' y,(y=out/\m'=cZ 0 l)/\a8 φ' ⟨g,[]⟩ m' w'/\aP φ (dr 0 cs) w φ' m' w'/\mP φ' w' (Fo ⟨g,[]⟩ φ' m') y e) [U] u w':=by
     intro u A6 A' hu An Ao Ap;rw[Ap]at h;simp only[rE]at h;cases N:dt Y q.mem 0 d.1 (d.2++[A6]) (X.fp d.1).uw with
     |none=>rw[N]at h;cases h
     |some res=>
      rw[N]at h;obtain⟨AC,AK,AL,Aq⟩:=Al;obtain⟨_,_,_,_,Ar⟩:=Gl N;have As:=(AF _ _ _ _ _ Ar).1;have At:=Kc (VY X.P) (gl:=X.gl) (λg args cs out l hh=>(AF g args cs out l hh).2) N (φ:=φ') (G:=⟨g,[U]⟩) (w:=w') (vs:=(U.args++AC).push A') J.mem (by rw[<-A_];exact J.jR)
       (by simp[AL];omega) (λi x v V A7=>by
        by_cases hi:i<d.2.length
        ·rw[aaq hi]at V;rw[Array.getElem?_push,aah (by omega)]at A7;exact Aq i x v V A7
        ·have:i=d.2.length:=by
          have:=(aaf.1 V).1;simp at this;omega
         subst this;rw[aaF (aai _)]at V;simp at V;subst V;rw[Array.getElem?_push,aap AL]at A7;cases A7;exact Ao)
      have AM:=At u A' (by simp) An;rw[Array.pop_push]at AM;refine⟨hu,.func d.1,AC,d.1,U.args++AC,AK,by rw[AK];simp[invoke,sL As],AM.mono ?_⟩;rintro Z Au I ⟨Av,T,Aw,A5,Ax⟩;unfold sK at h;split at h
      ·rename_i x es ks heq;cases heq;cases Z with
       |returned v2=>
        show Leaves _ _ _ _ [] (settle Au) I;rw[Av];exact back (J.x9 Aw A5) (A2.trans A5) h
       |_=>exact Ax.elim
      ·cases h
    cases e' with
    |normal=>cases he;show Leaves _ _ _ _ H.defers _ _;rw[O];exact one .returning _ .nilIface (by simp) (.inl ⟨rfl,rfl⟩) (.lit _ rfl) rfl
    |ret=>cases he;show Leaves _ _ _ _ H.defers _ _;rw[O];exact one .returning _ .nilIface (by simp) (.inl ⟨rfl,rfl⟩) (.lit _ rfl) rfl
    |exit id=>cases he;cases h
    |panic chain=>
     obtain⟨t,x,v,rfl,rfl,AB⟩:=he;show Leaves _ _ _ _ H.defers _ _;rw[O];exact one (.panicking [{v:=.iface t v,recovered:=false}]) _ (.iface t v) (by simp) (.inr ⟨t,v,rfl,rfl⟩) (.fR _ _ _ AB) rfl
    |_=>exact he.elim
   |_::_::_,_,_=>cases h
 ·cases h
theorem VZ(A:jo X)(A8:iK X M):Yh X (mc X n M):=by
 intro g args cs out l h;unfold mc at h;split at h
 ·rename_i fn D;split at h
  ·rename_i c E;refine⟨?_,SD A A8 D E h⟩;unfold ga;rw[D];simp[E,A.names g fn D]
  ·cases h
 ·cases h
theorem Ii(A:jo X):∀n,iK X (aF X n)
 |0=>λg args cs out l h=>by cases h
 |n+1=>λg args cs out l h=>by
  have ih:=Ii A n;simp only[aF,A.ov]at h;split at h
  ·rename_i AE Ay;exact ac0 A Ay h
  split at h
  ·rename_i fn D;split at h
   ·rename_i c E;have N:ga X.P g=true:=by
     unfold ga;rw[D];simp[E,A.names g fn D]
    refine⟨N,?_⟩;cases A1:uC c with
    |true=>
     rw[A1]at h;exact SF A ih (VZ A ih) D E h
    |false=>
    rw[A1]at h;simp only[vo]at h;unfold gd at h;split at h
    ·split at h
     ·rename_i r;unfold jF at h;split at h
      ·rename_i a b Az B';split at h
       ·rename_i B0;subst B0;have A0:=eR Az;have Z:=eR B';rw[A0]at h;cases h;exact Ev.split (wJ A ih D E A0) (wJ A ih D E Z)
       ·cases h
      ·cases h
     ·exact wJ A ih D E h
    ·exact wJ A ih D E h
   ·cases h
  ·cases h
end
def aH{α:Type}(f:Nat->Option α):Prop:=∀n r,f n=some r->f (n+1)=some r
theorem aH.le{α:Type}{f:Nat->Option α}(h:aH f){n m:Nat}(AY:n<=m){r:α}(V:f n=some r):f m=some r:=by
 induction AY with
 |refl=>exact V
 |step _ ih=>exact h _ _ ih
theorem aH.const{α:Type}(x:Option α):aH λ_=>x:=λ_ _ h=>h
theorem aH.bind{α β:Type}{f:Nat->Option α}{g:α->Nat->Option β}(T:aH f)(Y:∀x,aH (g x)):aH λn=>(f n).bind λx=>g x n:=by
 intro n r h;obtain⟨x,AE,V⟩:=aku.1 h;simp only[T n x AE,ac1];exact Y x n r V
open Classical in
noncomputable def fQ{α:Type}(f:Nat->Option α):Option α:=if h:∃n,(f n).isSome=true then f (Classical.choose h)else none
theorem df{α:Type}{f:Nat->Option α}(T:aH f){r:α}:fQ f=some r↔∃n,f n=some r:=by
 unfold fQ;constructor
 ·intro h;split at h
  ·exact⟨_,h⟩
  ·cases h
 ·rintro ⟨n,U⟩;have hex:∃n,(f n).isSome=true:=⟨n,by rw[U];rfl⟩;rw[dif_pos hex];have AJ:=Classical.choose_spec hex;obtain⟨An,AK⟩:=akr.1 AJ;rw[AK];rcases Nat.le_total n (Classical.choose hex)with I|I
  ·rw[<-AK];exact T.le I U
  ·have:=T.le I AK;rw[this]at U;exact U
theorem aN{α:Type}(x:Option α):fQ (λ_=>x)=x:=by
 cases x with
 |some r=>exact (df (aH.const _)).2 ⟨0,rfl⟩
 |none=>unfold fQ;rw[dif_neg];rintro ⟨_,h⟩;cases h
theorem dA{α β:Type}{f:Nat->Option α}{g:α->Nat->Option β}(T:aH f)(Y:∀x,aH (g x)):fQ (λn=>(f n).bind λx=>g x n)=(fQ f).bind λx=>fQ (g x):=by
 apply Option.ext;intro r;rw[df (T.bind Y),aku];constructor
 ·rintro ⟨n,U⟩;obtain⟨x,AE,V⟩:=aku.1 U;exact⟨x,(df T).2 ⟨n,AE⟩,(df (Y x)).2 ⟨n,V⟩⟩
 ·rintro ⟨x,AE,V⟩;obtain⟨n,U⟩:=(df T).1 AE;obtain⟨m,hm⟩:=(df (Y x)).1 V;exact⟨max n m,by rw[T.le (Nat.le_max_left n m) U];exact (Y x).le (Nat.le_max_right n m) hm⟩
theorem tS{α:Type}{f:Nat->Option α}(T:aH f):fQ (λn=>f (n+1))=fQ f:=by
 have AZ:aH λn=>f (n+1):=λn r h=>T (n+1) r h;apply Option.ext;intro r;rw[df AZ,df T];exact⟨λ⟨n,h⟩=>⟨n+1,h⟩,λ⟨n,h⟩=>⟨n,T n r h⟩⟩
def aT(k:St->Option (XE×St)):XE×St->Option (XE×St)
 |(.normal,S)=>k S
 |r=>some r
theorem wP(r:Option (XE×St))(k:St->Option (XE×St)):andThen r k=r.bind (aT k):=by
 rcases r with _|⟨e,S⟩
 ·rfl
 ·cases e<;>rfl
def mT(k:St->St):XE×St->Option (XE×St)
 |(.normal,S)=>some (.normal,k S)
 |r=>some r
theorem px(k:St->St)(r:Option (XE×St)):uA k r=r.bind (mT k):=by
 rcases r with _|⟨e,S⟩
 ·rfl
 ·cases e<;>rfl
def bT(id:Nat):XE×St->Option (XE×St)
 |(.exit AT,S)=>if AT=id then some (.normal,S)else some (.exit AT,S)
 |r=>some r
theorem Ij(id:Nat)(r:Option (XE×St)):CW id r=r.bind (bT id):=by
 rcases r with _|⟨e,S⟩
 ·rfl
 ·cases e<;>rfl
def cT(m:Mem)(A0:Nat)(ρ B:List Nat)(O:Nat)(b:Bool)(p:Out×List (Nat×ay)):Option eF:=eP m A0 ρ B (pr O b (some p))
theorem uI(m:Mem)(A0:Nat)(ρ B:List Nat)(O:Nat)(b:Bool)(r:Option (Out×List (Nat×ay))):eP m A0 ρ B (pr O b r)=r.bind (cT m A0 ρ B O b):=by cases r<;>rfl
theorem El(S:St)(d:Option Nat)(r:Option eF):sG S d r=r.bind λc=>sG S d (some c):=by cases r<;>rfl
theorem Ik(b:Bool)(m:Mem)(r:Option eF):wu b m r=r.bind λc=>wu b m (some c):=by cases r<;>cases b<;>rfl
theorem BN(S:St)(o:Oper)(r:Option eF):wA S o r=r.bind λc=>wA S o (some c):=by cases r<;>rfl
theorem lQ(D:List aW)(r:Option (St×aW))(k:St->List aW->Option (XE×St)):wB D r k=r.bind λp=>k p.1 (p.2::D):=by cases r<;>rfl
theorem Il(P:Program)(p:aw)(O:Nat)(rs:List ResultVar)(r:Option (XE×St)):fin P p O rs r=r.bind λq=>fin P p O rs (some q):=by cases r<;>rfl
def ea(C:Nat->bj):Prop:=∀g a c,aH λk=>C k g a c
section
variable {X:Ctx} {C:Nat->bj} {S:St} {o:Oper} {md:Bool}
theorem mY(A:ea C)(m:Mem)(A0:Nat)(g:FuncId)(AH:List AV)(mt:List Nat):aH (λk=>dt (C k) m A0 g AH mt):=by
 unfold dt kW kV;simp only[uI];exact (A _ _ _).bind λ_=>aH.const _
theorem j7(A:ea C)(args:List Operand)(J:Bool×AV):aH (λk=>cj X (C k) S o args J):=by
 unfold cj;split
 ·split
  ·simp only[Ik _ _ (dt _ _ _ _ _ _)];exact (mY A _ _ _ _ _).bind λ_=>aH.const _
  ·exact aH.const _
 ·exact aH.const _
theorem Ke(A:ea C):aH (λk=>qu X (C k) S o):=by
 unfold qu;split
 ·rename_i J args A8 A5;have I:(λk=>sG S o.dst (cj X (C k) S o args.toList (S.aq J)))=λk=>(cj X (C k) S o args.toList (S.aq J)).bind λc=>sG S o.dst (some c):=by
   funext k;exact El ..
  rw[I];exact (j7 A args.toList (S.aq J)).bind (λ_=>aH.const _)
 ·exact aH.const _
 ·exact aH.const _
theorem uJ(A:ea C)(r:cP):aH (λk=>gx X (C k) S o r):=by
 cases r with
 |no=>exact Ke A
 |val c x=>exact aH.const _
 |cG c x e=>exact aH.const _
theorem Im(A:ea C)(b:Bool)(r:cP):aH (λk=>nJ X (C k) S o b r):=by
 have other:∀r,aH (λk=>if b=true then gx X (C k) S o r else some (.normal,S.put o.dst true .aY)):=by
  intro r;split
  ·exact uJ A r
  ·exact aH.const _
 cases r with
 |no=>exact other .no
 |val c x=>exact aH.const _
 |cG c x e=>exact other (.cG c x e)
theorem rI(A:ea C)(all:List Oper):aH (λk=>mb X (C k) md all S o):=by
 unfold mb;split
 ·exact uJ A _
 ·split
  ·split
   ·exact Im A _ _
   ·split
    ·exact uJ A _
    ·exact aH.const _
  ·exact aH.const _
  ·exact aH.const _
theorem og{F:Nat->Option (XE×St)}{K:St->Nat->Option (XE×St)}(A2:aH F)(AF:∀S,aH (K S)):aH (λn=>andThen (F n) (λS=>K S n)):=by
 simp only[wP];refine A2.bind (g:=λx n=>aT (λS=>K S n) x) λx=>?_;obtain⟨e,S⟩:=x;cases e with
 |normal=>exact AF S
 |_=>exact aH.const _
theorem jG(A:ea C)(all:List Oper):∀(ops:List Oper)(S:St),aH (λk=>eQ X (C k) md all ops S)
 |[],S=>aH.const _
 |o::r,S=>og (rI A all) (λZ=>jG A all r Z)
theorem Ph(A:ea C):aH (λk=>nf X (C k) S o):=by
 unfold nf;split
 ·rename_i J args A8 A5;have I:(λk=>wA S o (cj X (C k) S o args.toList (S.aq J)))=λk=>(cj X (C k) S o args.toList (S.aq J)).bind λc=>wA S o (some c):=by
   funext k;exact BN ..
  rw[I];exact (j7 A args.toList (S.aq J)).bind (λ_=>aH.const _)
 ·exact aH.const _
theorem wQ(A:ea C)(r:cP):aH (λk=>eK X (C k) S o r):=by
 cases r with
 |no=>exact Ph A
 |val c x=>exact aH.const _
 |cG c x e=>exact aH.const _
theorem Kf(A:ea C)(b:Bool)(r:cP):aH (λk=>qv X (C k) S o b r):=by
 have other:∀r,aH (λk=>if b=true then eK X (C k) S o r else some (S.put o.dst true .aY,⟨[],[],true,.aY⟩)):=by
  intro r;split
  ·exact wQ A r
  ·exact aH.const _
 cases r with
 |no=>exact other .no
 |val c x=>exact aH.const _
 |cG c x e=>exact other (.cG c x e)
theorem kX(A:ea C)(all:List Oper):aH (λk=>eg X (C k) md all S o):=by
 unfold eg;split
 ·exact wQ A _
 ·split
  ·split
   ·exact Kf A _ _
   ·split
    ·exact wQ A _
    ·exact aH.const _
  ·exact aH.const _
  ·exact aH.const _
theorem Em(S:St)(r:Option eF):uz S r=r.bind λc=>uz S (some c):=by cases r<;>rfl
theorem FG(A:ea C):aH (λk=>j6 X (C k) S o):=by
 unfold j6;split
 ·unfold BB;split
  ·unfold HK;split
   ·rename_i J args A8 A5;have I:(λk=>uz S (cj X (C k) S o args.toList (S.aq J)))=λk=>(cj X (C k) S o args.toList (S.aq J)).bind λc=>uz S (some c):=by
     funext k;exact Em ..
    rw[I];exact (j7 A args.toList (S.aq J)).bind (λ_=>aH.const _)
   ·exact aH.const _
  ·exact aH.const _
 ·exact aH.const _
theorem BO{AL:bj}{all:List Oper}{q:St×aW}(h:eg X AL md all S o=some q):j6 X AL S o=none:=by
 cases A3:j6 X AL S o with
 |none=>rfl
 |some p=>
  obtain⟨Y,A_,J,args,A8,A5,AJ,_⟩:=Fu A3;unfold eg at h;rw[Y]at h;simp only[eK,nf,A_,A5,AJ]at h;cases h
theorem SH(A:ea C)(E:Nat×List (List Nat))(all r:List Oper)(D:List aW){K:Nat->St->List aW->Option (XE×St)}(AF:∀S D,aH λk=>K k S D):aH (λk=>mD X (C k) md E all r S o D (K k) (j6 X (C k) S o)):=by
 intro n y h;simp only at h⊢;cases A3:j6 X (C n) S o with
 |some q=>
  rw[A3]at h;have Aa:j6 X (C (n+1)) S o=some q:=FG A n q A3;rw[Aa];exact h
 |none=>
  rw[A3]at h;simp only[mD,lQ]at h;cases Y:eg X (C n) md all S o with
  |none=>rw[Y]at h;cases h
  |some p=>
   have AU:eg X (C (n+1)) md all S o=some p:=kX A all n p Y;rw[BO AU];simp only[mD,lQ];rw[Y]at h;rw[AU];exact AF _ _ n y h
theorem mZ(A:ea C)(E:Nat×List (List Nat))(all:List Oper):∀(ops:List Oper)(S:St)(D:List aW),aH (λk=>gM X (C k) md E all ops S D)
 |[],S,D=>aH.const _
 |o::r,S,D=>SH A E all r D λS D=>mZ A E all r S D
def Pj(N:List Cl)(p:St×aW):Option (St×aW):=if CU N p.2.es=true then some p else none
theorem KW(N:List Cl)(r:Option (St×aW)):VM N r=r.bind (Pj N):=by
 rcases r with _|⟨S,p⟩<;>rfl
theorem tT(A:ea C)(E:List (List Nat))(N:List Cl)(all:List Oper):∀(ops:List Oper)(S:St)(D:List aW),aH (λk=>pv X (C k) md E N all ops S D)
 |[],S,D=>aH.const _
 |o::r,S,D=>by
  simp only[pv,lQ];cases vk (E.getD D.length []) r with
  |true=>
   simp only[O3];split
   ·exact jG A all [o] S
   ·exact aH.const _
  |false=>
  simp only
  cases Ag X.P N S o with
  |some x=>
   simp only[wC,ac1];exact tT A E N all r _ _
  |none=>
   simp only[wC,KW];exact ((kX A all).bind (g:=λp _=>Pj N p) λp=>aH.const _).bind (g:=λp n=>pv X (C n) md E N all r p.1 (p.2::D)) λp=>tT A E N all r p.1 (p.2::D)
theorem FH(A:ea C)(E:List (List Nat))(all:List Oper)(S:St)(fl:List (Nat×Nat)):aH (λk=>sH X (C k) md E all S fl):=by
 cases fl with
 |nil=>exact mZ A _ all all S []
 |cons q r=>
  simp only[sH];cases fC S.mem (q::r)with
  |none=>exact aH.const _
  |some N=>exact tT A E N all all S []
theorem FI(f:St->Option (XE×St)):∀(j:Nat)(S:St)(r:XE×St),iter f j S=some r->iter f (j+1) S=some r
 |0,S,r,h=>by cases h
 |j+1,S,r,h=>by
  simp only[iter]at h;rw[iter];rcases gf h with ⟨S1,I,A'⟩|⟨I,A'⟩
  ·rw[I];exact FI f j S1 r A'
  ·rw[I];obtain⟨e,S1⟩:=r;cases e with
   |normal=>exact absurd rfl A'
   |_=>rfl
theorem sQ(f:St->Option (XE×St)){j k:Nat}(h:j<=k){S:St}{r:XE×St}(V:iter f j S=some r):iter f k S=some r:=by
 induction h with
 |refl=>exact V
 |step _ ih=>exact FI f _ S r ih
theorem tU{F:Nat->St->Option (XE×St)}(A2:∀S,aH (λk=>F k S)):∀(j:Nat)(S:St),aH (λk=>iter (F k) j S)
 |0,S=>aH.const _
 |j+1,S=>og (A2 S) (λZ=>tU A2 j Z)
theorem wR(A:ea C)(f:FuncId){m:Nat->Nat}(hm:∀k,m k<=m (k+1)):∀(c:Code)(S:St),aH (λk=>den X f (C k) (m k) c S):=by
 intro c;induction c with
 |region id ops draw=>
  intro S;cases draw with
  |false=>
   simp only[den,px];exact (jG A _ _ _).bind λ_=>aH.const _
  |true=>
   simp only[den,px];exact (FH A _ _ _ _).bind λ_=>aH.const _
 |seq a b A6 A9=>intro S;exact og (A6 S) (λZ=>A9 Z)
 |cond c a b A6 A9=>
  intro S;simp only[den];unfold CX;split
  ·split
   ·exact A6 S
   ·exact A9 S
  ·exact aH.const _
 |block id c ih=>
  intro S;simp only[den,Ij];exact (ih _).bind λ_=>aH.const _
 |loop c ih=>
  intro S n r h;simp only[den]at h⊢;have I:=tU (F:=λk=>den X f (C k) (m k) c) ih (m n) S n r h;exact sQ _ (hm n) I
 |skip=>intro S;exact aH.const _
 |exit id=>intro S;exact aH.const _
 |ret=>intro S;exact aH.const _
 |rangeFunc _ _ _ _=>intro S;exact aH.const _
 |scope _ _=>intro S;exact aH.const _
 |label _=>intro S;exact aH.const _
 |goto _=>intro S;exact aH.const _
 |refuse _=>intro S;exact aH.const _
theorem C7(A:ea C)(f:FuncId){m:Nat->Nat}(hm:∀k,m k<=m (k+1))(fn:Func)(c:Code)(args:List AV)(cs:List ay):aH (λk=>pQ X f (C k) (m k) fn c args cs):=by
 unfold pQ;split
 ·simp only[Il X.P (X.fp f) cs.length fn.results.toList (den _ _ _ _ _ _)];exact (wR A f hm c _).bind λ_=>aH.const _
 ·exact aH.const _
theorem xO{F G:Nat->Option (Out×List (Nat×ay))}(A2:aH F)(Ab:aH G):aH (λn=>jF (F n) (G n)):=by
 intro n r h;replace h:jF (F n) (G n)=some r:=h;show jF (F (n+1)) (G (n+1))=some r;unfold jF at h;split at h
 ·rename_i a b A7 AA;have AB:=eR A7;have Ac:=eR AA;have f1:=A2 n _ AB;have f2:=Ab n _ Ac;rw[AB]at h;rw[f1,f2];simp only[jF,nt];exact h
 ·cases h
theorem Gm{R:Nat->List AV->Option (Out×List (Nat×ay))}(AC:∀a,aH (λn=>R n a))(args:List AV)(b:Bool):aH (λn=>gd (R n) args b):=by
 unfold gd;split
 ·split
  ·exact xO (AC _) (AC _)
  ·exact AC _
 ·exact AC _
def nT(k:St->XD)(H:List DF):XE×St->XD
 |(.normal,S)=>k S
 |(e,S)=>some (e,S,H)
theorem BP(k:St->XD)(H:List DF)(r:Option (XE×St)):Gv k H r=r.bind (nT k H):=by
 rcases r with _|⟨e,S⟩
 ·rfl
 ·cases e<;>rfl
def lT(k:St->St):XE×St×List DF->XD
 |(.normal,S,H)=>some (.normal,k S,H)
 |r=>some r
theorem ze(k:St->St)(r:XD):yQ k r=r.bind (lT k):=by
 rcases r with _|⟨e,S,H⟩
 ·rfl
 ·cases e<;>rfl
def dT(H:List DF)(p:XE×St):XD:=some (p.1,p.2,H)
theorem En(H:List DF)(r:Option (XE×St)):wD H r=r.bind (dT H):=by
 rcases r with _|⟨e,S⟩<;>rfl
def sT(k:St->List DF->XD):XE×St×List DF->XD
 |(.normal,S,H)=>k S H
 |r=>some r
theorem KX(k:St->List DF->XD)(r:XD):HL k r=r.bind (sT k):=by
 rcases r with _|⟨e,S,H⟩
 ·rfl
 ·cases e<;>rfl
theorem lR(A:ea C)(all:List Oper):∀(ops:List Oper)(S:St)(H:List DF),aH (λk=>eX X (C k) md all ops S H)
 |[],S,H=>aH.const _
 |o::r,S,H=>by
  simp only[eX];cases gA S o with
  |some d=>exact lR A all r _ _
  |none=>
   simp only[BP];refine (rI A all).bind (g:=λx n=>nT (λS1=>eX X (C n) md all r S1 H) H x) λx=>?_;obtain⟨e,S1⟩:=x;cases e with
   |normal=>exact lR A all r S1 H
   |_=>exact aH.const _
theorem FJ(A:ea C)(f:FuncId){m:Nat->Nat}(hm:∀k,m k<=m (k+1)):∀(c:Code)(S:St)(H:List DF),aH (λk=>ib X f (C k) (m k) c S H):=by
 have add:∀(c:Code)(S:St)(H:List DF),aH (λk=>wD H (den X f (C k) (m k) c S)):=λc S H=>by
  simp only[En];exact (wR A f hm c S).bind λ_=>aH.const _
 intro c;induction c with
 |seq a b A6 A9=>
  intro S H;simp only[ib,KX];refine (A6 S H).bind (g:=λx n=>sT (ib X f (C n) (m n) b) x) λx=>?_;obtain⟨e,S1,Ad⟩:=x;cases e with
  |normal=>exact A9 S1 Ad
  |_=>exact aH.const _
 |region id ops draw=>
  intro S H;simp only[ib];split
  ·simp only[ze];exact (lR A _ _ _ _).bind λ_=>aH.const _
  ·exact add _ _ _
 |_=>intro S H;simp only[ib];exact add _ _ _
theorem zh(A:ea C)(f:FuncId){m:Nat->Nat}(hm:∀k,m k<=m (k+1))(AG:AV):∀(c:Code)(S:St),aH (λk=>mE X f (C k) (m k) AG c S):=by
 intro c;induction c with
 |seq a b A6 A9=>intro S;exact og (A6 S) (λZ=>wR A f hm b Z)
 |region id ops draw=>
  intro S;simp only[mE];split
  ·split
   ·simp only[px];exact (jG A _ _ _).bind λ_=>aH.const _
   ·exact aH.const _
  ·exact aH.const _
 |_=>intro S;simp only[mE];exact aH.const _
theorem KY(P:Program)(p:aw)(O:Nat)(rs:List ResultVar)(r:Option (XE×St)):O5 P p O rs r=r.bind λq=>O5 P p O rs (some q):=by cases r<;>rfl
theorem Kg(A:ea C)(f:FuncId){m:Nat->Nat}(hm:∀k,m k<=m (k+1))(fn:Func)(c:Code)(args:List AV)(cs:List ay):aH (λk=>vm X f (C k) (m k) fn c args cs):=by
 unfold vm;split
 ·split
  ·simp only[KY X.P (X.fp f) cs.length fn.results.toList (mE _ _ _ _ _ _ _)];exact (zh A f hm _ c _).bind λ_=>aH.const _
  ·exact aH.const _
 ·exact aH.const _
theorem C8(A:ea C){m:Nat->Nat}(hm:∀k,m k<=m (k+1)):ea (λk=>mc X (m k) (C k)):=by
 intro g args cs;simp only[mc];split
 ·split
  ·exact Kg A g hm _ _ _ _
  ·exact aH.const _
 ·exact aH.const _
theorem KZ(S:St)(r:Option eF):sK S r=r.bind λc=>sK S (some c):=by cases r<;>rfl
theorem K0(X:Ctx)(p:aw)(O:Nat)(rs:List ResultVar)(r:Option St):BE X p O rs r=r.bind λS=>finish X.P p O rs S:=by cases r<;>rfl
theorem K1(X:Ctx)(p:aw)(O:Nat)(rs:List ResultVar)(AW:bj)(r:XD):uB X p O rs AW r=r.bind λq=>uB X p O rs AW (some q):=by cases r<;>rfl
theorem Pk{CR:Nat->bj}(A:ea CR)(p:aw)(O:Nat)(rs:List ResultVar)(S:St)(d:DF)(AG:Option AV):aH (λk=>rE X p O rs (CR k) S d AG):=by
 cases AG with
 |none=>exact aH.const _
 |some AG=>
  simp only[rE,K0,KZ S (dt _ _ _ _ _ _)];exact ((mY A _ _ _ _ _).bind (g:=λc _=>sK S (some c)) λ_=>aH.const _).bind (g:=λS _=>finish X.P p O rs S) λ_=>aH.const _
theorem C9{CR:Nat->bj}(A:ea CR)(p:aw)(O:Nat)(rs:List ResultVar)(q:XE×St×List DF):aH (λk=>uB X p O rs (CR k) (some q)):=by
 obtain⟨e,S,H⟩:=q;match H with
 |[]=>exact aH.const _
 |[d]=>exact Pk A p O rs S d (BD e)
 |_::_::_=>exact aH.const _
theorem Kh(A:ea C){CR:Nat->bj}(AC:ea CR)(f:FuncId){m:Nat->Nat}(hm:∀k,m k<=m (k+1))(fn:Func)(c:Code)(args:List AV)(cs:List ay):aH (λk=>vn X f (C k) (CR k) (m k) fn c args cs):=by
 unfold vn;split
 ·simp only[K1 X (X.fp f) cs.length fn.results.toList _ (ib _ _ _ _ _ _ _)];exact (FJ A f hm c _ _).bind (g:=λq n=>uB X (X.fp f) cs.length fn.results.toList (CR n) (some q)) λq=>C9 AC _ _ _ q
 ·exact aH.const _
theorem Da(X:Ctx):∀n g a c r,aF X n g a c=some r->aF X (n+1) g a c=some r
 |0,g,a,c,r,h=>by cases h
 |n+1,g,a,c,r,h=>by
  have ih:=Da X n;have A:ea λk=>if k=0 then aF X n else aF X (n+1):=by
   intro g a c k r h;by_cases M:k=0
   ·subst M;exact ih g a c r h
   ·simp only[M,acF]at h;simpa using h
  have hm:∀k,(if k=0 then n else n+1)<=(if k+1=0 then n else n+1):=by
   intro k;by_cases M:k=0<;>simp[M]
  cases A1:X.ov with
  |some Ao=>simp only[aF,A1]at h⊢;exact h
  |none=>
  cases A4:X.vj g with
  |some Ap=>simp only[aF,A1,A4]at h⊢;exact h
  |none=>
  cases T:X.P.funcs[g]? with
  |none=>simp only[aF,A1,A4,T]at h;cases h
  |some fn=>
   cases AA:fn.body with
   |none=>simp only[aF,A1,A4,T,AA]at h;cases h
   |some code=>
    have AB:∀k,aF X (k+1) g a c=vo X g (aF X k) k fn code a c (uC code):=by
     intro k;simp only[aF,A1,A4,T,AA]
    rw[AB]at h⊢;cases AI:uC code with
    |true=>
     rw[AI]at h;exact Kh (X:=X) (C:=λk=>if k=0 then aF X n else aF X (n+1)) (CR:=λk=>mc X (if k=0 then n else n+1) (if k=0 then aF X n else aF X (n+1))) A (C8 A hm) g hm fn code a c 0 r h
    |false=>
    rw[AI]at h;exact Gm (R:=λk args=>pQ X g ((λk=>if k=0 then aF X n else aF X (n+1)) k) ((λk=>if k=0 then n else n+1) k) fn code args c) (λargs=>C7 A g hm fn code args c) a _ 0 r h
theorem bp(X:Ctx):ea (aF X):=λg a c n r h=>Da X n g a c r h
end
noncomputable def ah(X:Ctx):bj:=λg a c=>fQ λk=>aF X k g a c
noncomputable def fg(X:Ctx)(f:FuncId)(c:Code)(S:St):Option (XE×St):=fQ λk=>den X f (aF X k) k c S
theorem bk{X:Ctx}{g a c r}(n:Nat)(h:aF X n g a c=some r):ah X g a c=some r:=(df (bp X g a c)).2 ⟨n,h⟩
theorem V0{X:Ctx}(Ae:jo X):iK X (ah X):=λg args cs out l h=>by
 obtain⟨n,U⟩:=(df (bp X g args cs)).1 h;exact Ii Ae n g args cs out l U
section
variable {X:Ctx} {S:St} {o:Oper} {f:FuncId} {md:Bool}
theorem dm(c:Code)(S:St):aH (λk=>den X f (aF X k) k c S):=wR (bp X) f (m:=λk=>k) (λk=>akw k) c S
theorem Pl(m:Mem)(A0:Nat)(g:FuncId)(AH:List AV)(mt:List Nat):fQ (λk=>dt (aF X k) m A0 g AH mt)=dt (ah X) m A0 g AH mt:=by
 unfold dt kW kV;simp only[uI];rw[dA (bp X _ _ _) (λ_=>aH.const _)];simp only[aN];rfl
theorem uK(args:List Operand)(J:Bool×AV):fQ (λk=>cj X (aF X k) S o args J)=cj X (ah X) S o args J:=by
 unfold cj;split
 ·split
  ·simp only[Ik _ _ (dt _ _ _ _ _ _)];rw[dA (mY (bp X) _ _ _ _ _) (λ_=>aH.const _),Pl];simp only[aN]
  ·exact aN _
 ·exact aN _
theorem Pm:fQ (λk=>qu X (aF X k) S o)=qu X (ah X) S o:=by
 unfold qu;split
 ·rename_i J args A8 A5;have I:(λk=>sG S o.dst (cj X (aF X k) S o args.toList (S.aq J)))=λk=>(cj X (aF X k) S o args.toList (S.aq J)).bind λc=>sG S o.dst (some c):=by
   funext k;exact El ..
  rw[I,dA (j7 (bp X) _ _) (λ_=>aH.const _),uK,El];simp only[aN]
 ·exact aN _
 ·exact aN _
theorem wS(r:cP):fQ (λk=>gx X (aF X k) S o r)=gx X (ah X) S o r:=by
 cases r with
 |no=>exact Pm
 |val c x=>exact aN _
 |cG c x e=>exact aN _
theorem Ki(b:Bool)(r:cP):fQ (λk=>nJ X (aF X k) S o b r)=nJ X (ah X) S o b r:=by
 have other:∀r,fQ (λk=>if b=true then gx X (aF X k) S o r else some (.normal,S.put o.dst true .aY))=if b=true then gx X (ah X) S o r else some (.normal,S.put o.dst true .aY):=by
  intro r;split
  ·exact wS r
  ·exact aN _
 cases r with
 |no=>exact other .no
 |val c x=>exact aN _
 |cG c x e=>exact other (.cG c x e)
theorem FK(all:List Oper):fQ (λk=>mb X (aF X k) md all S o)=mb X (ah X) md all S o:=by
 unfold mb;split
 ·exact wS _
 ·split
  ·split
   ·exact Ki _ _
   ·split
    ·exact wS _
    ·exact aN _
  ·exact aN _
  ·exact aN _
theorem uL{F:Nat->Option (XE×St)}{K:St->Nat->Option (XE×St)}(A2:aH F)(AF:∀S,aH (K S)):fQ (λn=>andThen (F n) (λS=>K S n))=andThen (fQ F) (λS=>fQ (K S)):=by
 simp only[wP];rw[dA (g:=λx n=>aT (λS=>K S n) x) A2 (λx=>by
  obtain⟨e,S⟩:=x;cases e with
  |normal=>exact AF S
  |_=>exact aH.const _)]
 congr 1;funext x;obtain⟨e,S⟩:=x;cases e<;>first|rfl|exact aN _
theorem rJ(all:List Oper):∀(ops:List Oper)(S:St),fQ (λk=>eQ X (aF X k) md all ops S)=eQ X (ah X) md all ops S
 |[],S=>aN _
 |o::r,S=>by
  simp only[eQ];have:=uL (F:=λk=>mb X (aF X k) md all S o) (K:=λZ k=>eQ X (aF X k) md all r Z) (rI (bp X) all) (λZ=>jG (bp X) all r Z);rw[FK]at this;simp only[rJ all r]at this;exact this
theorem SI:fQ (λk=>nf X (aF X k) S o)=nf X (ah X) S o:=by
 unfold nf;split
 ·rename_i J args A8 A5;have I:(λk=>wA S o (cj X (aF X k) S o args.toList (S.aq J)))=λk=>(cj X (aF X k) S o args.toList (S.aq J)).bind λc=>wA S o (some c):=by
   funext k;exact BN ..
  rw[I,dA (j7 (bp X) _ _) (λ_=>aH.const _),uK,BN];simp only[aN]
 ·exact aN _
theorem zi(r:cP):fQ (λk=>eK X (aF X k) S o r)=eK X (ah X) S o r:=by
 cases r with
 |no=>exact SI
 |val c x=>exact aN _
 |cG c x e=>exact aN _
theorem Po(b:Bool)(r:cP):fQ (λk=>qv X (aF X k) S o b r)=qv X (ah X) S o b r:=by
 have other:∀r,fQ (λk=>if b=true then eK X (aF X k) S o r else some (S.put o.dst true .aY,(⟨[],[],true,.aY⟩:aW)))=if b=true then eK X (ah X) S o r else some (S.put o.dst true .aY,⟨[],[],true,.aY⟩):=by
  intro r;split
  ·exact zi r
  ·exact aN _
 cases r with
 |no=>exact other .no
 |val c x=>exact aN _
 |cG c x e=>exact other (.cG c x e)
theorem Db(all:List Oper):fQ (λk=>eg X (aF X k) md all S o)=eg X (ah X) md all S o:=by
 unfold eg;split
 ·exact zi _
 ·split
  ·split
   ·exact Po _ _
   ·split
    ·exact zi _
    ·exact aN _
  ·exact aN _
  ·exact aN _
theorem V1:fQ (λk=>j6 X (aF X k) S o)=j6 X (ah X) S o:=by
 unfold j6;split
 ·unfold BB;split
  ·unfold HK;split
   ·rename_i J args A8 A5;have I:(λk=>uz S (cj X (aF X k) S o args.toList (S.aq J)))=λk=>(cj X (aF X k) S o args.toList (S.aq J)).bind λc=>uz S (some c):=by
     funext k;exact Em ..
    rw[I,dA (j7 (bp X) _ _) (λ_=>aH.const _),uK,Em];simp only[aN]
   ·exact aN _
  ·exact aN _
 ·exact aN _
theorem Dc(E:Nat×List (List Nat))(all:List Oper):∀(ops:List Oper)(S:St)(D:List aW),fQ (λk=>gM X (aF X k) md E all ops S D)=gM X (ah X) md E all ops S D
 |[],S,D=>aN _
 |o::r,S,D=>by
  have A3:∀q,j6 X (ah X) S o=some q↔∃k,j6 X (aF X k) S o=some q:=λq=>by rw[<-V1];exact df (FG (bp X))
  have Y:∀q,eg X (ah X) md all S o=some q↔∃k,eg X (aF X k) md all S o=some q:=λq=>by rw[<-Db];exact df (kX (bp X) all)
  have V:∀S D y,gM X (ah X) md E all r S D=some y↔∃k,gM X (aF X k) md E all r S D=some y:=λS D y=>by rw[<-Dc E all r S D];exact df (mZ (bp X) E all r S D)
  apply Option.ext;intro y;rw[df (mZ (bp X) E all (o::r) S D)];simp only[gM];constructor
  ·rintro ⟨k,M⟩;cases AM:j6 X (aF X k) S o with
   |some q=>
    rw[AM]at M;rw[(A3 q).2 ⟨k,AM⟩];exact M
   |none=>
    rw[AM]at M;simp only[mD,lQ]at M;cases AN:eg X (aF X k) md all S o with
    |none=>rw[AN]at M;cases M
    |some p=>
     rw[AN]at M;have AD:=(Y p).2 ⟨k,AN⟩;rw[BO AD];simp only[mD,lQ,AD,ac1]at M⊢;exact (V _ _ y).2 ⟨k,M⟩
  ·intro h;cases AO:j6 X (ah X) S o with
   |some q=>
    rw[AO]at h;obtain⟨k,M⟩:=(A3 q).1 AO;exact⟨k,by rw[M];exact h⟩
   |none=>
    rw[AO]at h;simp only[mD,lQ]at h;cases AD:eg X (ah X) md all S o with
    |none=>rw[AD]at h;cases h
    |some p=>
     rw[AD]at h;simp only[ac1]at h;obtain⟨AP,Af⟩:=(Y p).1 AD;obtain⟨AQ,Ah⟩:=(V _ _ y).1 h;refine⟨max AP AQ,?_⟩;have AX:=(kX (X:=X) (S:=S) (o:=o) (md:=md) (bp X) all).le (Nat.le_max_left AP AQ) Af;have Ai:=(mZ (X:=X) (md:=md) (bp X) E all r p.1 (p.2::D)).le (Nat.le_max_right AP AQ) Ah;rw[BO AX];simp only[mD,lQ,AX,ac1];exact Ai
theorem BQ(E:List (List Nat))(N:List Cl)(all:List Oper):∀(ops:List Oper)(S:St)(D:List aW),fQ (λk=>pv X (aF X k) md E N all ops S D)=pv X (ah X) md E N all ops S D
 |[],S,D=>aN _
 |o::r,S,D=>by
  simp only[pv,lQ];cases vk (E.getD D.length []) r with
  |true=>
   simp only[O3];split
   ·exact rJ all [o] S
   ·exact aN _
  |false=>
  simp only
  cases Ag X.P N S o with
  |some x=>
   simp only[wC,ac1];exact BQ E N all r _ _
  |none=>
   simp only[wC,KW];rw[dA (g:=λp n=>pv X (aF X n) md E N all r p.1 (p.2::D)) ((kX (bp X) all).bind (g:=λp _=>Pj N p) λp=>aH.const _) (λp=>tT (bp X) E N all r p.1 (p.2::D)),
    dA (g:=λp _=>Pj N p) (kX (bp X) all) (λp=>aH.const _),Db]
   simp only[BQ E N all r,aN]
theorem V2(E:List (List Nat))(all:List Oper)(S:St)(fl:List (Nat×Nat)):fQ (λk=>sH X (aF X k) md E all S fl)=sH X (ah X) md E all S fl:=by
 cases fl with
 |nil=>exact Dc _ all all S []
 |cons q r=>
  simp only[sH];cases fC S.mem (q::r)with
  |none=>exact aN _
  |some N=>exact BQ E N all all S []
theorem SJ:fg X f .skip S=some (.normal,S):=aN _
theorem SL{id:Nat}:fg X f (.exit id) S=some (.exit id,CV S (X.gh f (id+1000000))):=aN _
theorem V3:fg X f .ret S=some (.ret,S):=aN _
theorem V4{a b:Code}:fg X f (.seq a b) S=andThen (fg X f a S) (fg X f b):=uL (dm a S) (λZ=>dm b Z)
theorem SM{c:Operand}{a b:Code}:fg X f (.cond c a b) S=CX (fg X f a S) (fg X f b S) (S.aq c):=by
 unfold fg;simp only[den];unfold CX;split
 ·split<;>rfl
 ·exact aN _
theorem Pp{id:Nat}{c:Code}:fg X f (.block id c) S=CW id (fg X f c (S.enter X f id)):=by
 unfold fg;simp only[den,Ij];rw[dA (dm c _) (λ_=>aH.const _)];simp only[aN]
theorem Kj{id:Nat}{ops:Array Oper}:fg X f (.region id ops false) S=uA (St.leave X f id) (eQ X (ah X) (X.md f id) ops.toList ops.toList S):=by
 unfold fg;simp only[den,px];rw[dA (jG (bp X) _ _ _) (λ_=>aH.const _),rJ];simp only[aN]
theorem SN{id:Nat}{ops:Array Oper}:fg X f (.region id ops true) S=uA (St.leave X f id) (sH X (ah X) (X.md f id) (X.od f id) ops.toList S (X.fl f id)):=by
 unfold fg;simp only[den,px];rw[dA (FH (bp X) _ _ _ _) (λ_=>aH.const _),V2];simp only[aN]
theorem SO{c:Code}:fg X f (.loop c) S=andThen (fg X f c S) (fg X f (.loop c)):=by
 apply Option.ext;intro r;have AR:∀S r,fg X f (.loop c) S=some r↔∃k,iter (den X f (aF X k) k c) k S=some r:=λS r=>df (dm (.loop c) S);have hi:∀{k j i:Nat}{S r},k<=j->i<=j->iter (den X f (aF X k) k c) i S=some r->iter (den X f (aF X j) j c) j S=some r:=by
  intro k j i S r M Aj h;exact sQ _ Aj ((tU (F:=λk=>den X f (aF X k) k c) (λS=>dm c S) i S).le M h)
 rw[AR];constructor
 ·rintro ⟨k,M⟩;cases k with
  |zero=>cases M
  |succ k=>
   simp only[iter]at M;rcases gf M with ⟨S1,I,A'⟩|⟨I,A'⟩
   ·have:fg X f c S=some (.normal,S1):=(df (dm c S)).2 ⟨k+1,I⟩;rw[this];exact (AR S1 r).2 ⟨k+1,hi (aai _) (akw k) A'⟩
   ·have:fg X f c S=some r:=(df (dm c S)).2 ⟨k+1,I⟩;rw[this];obtain⟨e,S1⟩:=r;cases e with
    |normal=>exact absurd rfl A'
    |_=>rfl
 ·intro h;rcases gf h with ⟨S1,I,A'⟩|⟨I,A'⟩
  ·obtain⟨k,M⟩:=(df (dm c S)).1 I;obtain⟨j,Ak⟩:=(AR S1 r).1 A';refine⟨max k j+1,?_⟩;rw[iter,(dm c S).le (show k<=max k j+1 by omega) M];have:=(tU (F:=λk=>den X f (aF X k) k c) (λS=>dm c S) j S1).le (show j<=max k j+1 by omega) Ak;exact sQ _ (show j<=max k j by omega) this
  ·obtain⟨k,M⟩:=(df (dm c S)).1 I;refine⟨k+1,?_⟩;rw[iter,(dm c S).le (akw k) M];obtain⟨e,S1⟩:=r;cases e with
   |normal=>exact absurd rfl A'
   |_=>rfl
noncomputable def vu(X:Ctx)(f:FuncId)(fn:Func)(c:Code)(cs:List ay)(args:List AV):Option (Out×List (Nat×ay)):=
 if (decide (args.length<=fn.ntmps)&&decide (cs.length<=100)&&(X.fp f).sites.all (λk=>decide (100<=k))&&decide (X.fp f).sites.Nodup)=true then
  fin X.P (X.fp f) cs.length fn.results.toList (fg X f c (entry fn.ntmps X.gl args cs (X.fp f).sites))
 else none
theorem zj{h:List AV->Option AV}{args:List AV}{cs:List ay}(A1:X.ov=none)(A4:X.vj f=some h):ah X f args cs=lN h args cs:=by
 unfold ah;rw[<-tS (bp X f args cs)];have:(λn=>aF X (n+1) f args cs)=λ_=>lN h args cs:=by funext n;simp only[aF,A1,A4]
 rw[this,aN]
theorem Io{fn:Func}{c:Code}{args:List AV}{cs:List ay}(A1:X.ov=none)(A4:X.vj f=none)(T:X.P.funcs[f]?=some fn)(AA:fn.body=some c)(AI:uC c=false):
 ah X f args cs=gd (vu X f fn c cs) args (X.fp f).split:=by
 have hm:∀args,aH (λk=>pQ X f (aF X k) k fn c args cs):=λargs=>C7 (bp X) f (m:=λk=>k) (λk=>akw k) fn c args cs;have V:∀args,fQ (λk=>pQ X f (aF X k) k fn c args cs)=vu X f fn c cs args:=by
  intro args;unfold pQ vu;split
  ·rename_i h;have I:(λk=>fin X.P (X.fp f) cs.length fn.results.toList (den X f (aF X k) k c (entry fn.ntmps X.gl args cs (X.fp f).sites)))=λk=>(den X f (aF X k) k c (entry fn.ntmps X.gl args cs (X.fp f).sites)).bind λq=>fin X.P (X.fp f) cs.length fn.results.toList (some q):=by
    funext k;exact Il ..
   rw[I,dA (dm c _) (λ_=>aH.const _),Il];simp only[aN];rfl
  ·exact aN _
 have AB:ah X f args cs=fQ (λk=>gd (λargs=>pQ X f (aF X k) k fn c args cs) args (X.fp f).split):=by
  unfold ah;rw[<-tS (bp X f args cs)];congr 1;funext k;rw[aF,A1,A4,T];simp only[AA,AI,vo]
 rw[AB];unfold gd;split
 ·split
  ·rename_i r;apply Option.ext;intro y;rw[df (xO (hm _) (hm _)),<-V,<-V];constructor
   ·rintro ⟨n,U⟩;unfold jF at U⊢;split at U
    ·rename_i a b A7 AS;have f1:=(df (hm _)).2 ⟨n,eR A7⟩;have f2:=(df (hm _)).2 ⟨n,eR AS⟩;rw[f1,f2];rw[eR A7]at U;exact U
    ·cases U
   ·intro h;unfold jF at h;split at h
    ·rename_i a b A7 AS;obtain⟨n,U⟩:=(df (hm _)).1 (eR A7);obtain⟨m,Al⟩:=(df (hm _)).1 (eR AS);refine⟨max n m,?_⟩;rw[(hm _).le (Nat.le_max_left n m) U,(hm _).le (Nat.le_max_right n m) Al];rw[eR A7]at h;exact h
    ·cases h
  ·exact V _
 ·exact V _
end
abbrev bW:=Option (Out×List (Nat×ay))
abbrev Kt:=XE->St->bW
noncomputable def aI(X:Ctx)(f:FuncId)(c:Code)(S:St)(k:Kt):bW:=(fg X f c S).bind λp=>k p.1 p.2
noncomputable def runK(X:Ctx)(md:Bool)(all ops:List Oper)(S:St)(k:Kt):bW:=(eQ X (ah X) md all ops S).bind λp=>k p.1 p.2
noncomputable def j8(X:Ctx)(md:Bool)(A:Nat×List (List Nat))(all ops:List Oper)(S:St)(E:List aW)(k:Kt):bW:=(gM X (ah X) md A all ops S E).bind λp=>k p.1 p.2
noncomputable def zn(X:Ctx)(f:FuncId)(b:Code)(k:Kt):Kt
 | .normal,S=>aI X f b S k
 |e,S=>k e S
def BR(id:Nat)(k:Kt):Kt
 | .exit N,S=>if N=id then k .normal S else k (.exit N) S
 |e,S=>k e S
noncomputable def Dd(X:Ctx)(f:FuncId)(c:Code)(k:Kt):Kt
 | .normal,S=>aI X f (.loop c) S k
 |e,S=>k e S
def zp(X:Ctx)(f:FuncId)(id:Nat)(k:Kt):Kt
 | .normal,S=>k .normal (S.leave X f id)
 |e,S=>k e S
def uM(P:Program)(p:aw)(J:Nat)(rs:List ResultVar):Kt
 | .normal,S=>finish P p J rs S
 | .ret,S=>finish P p J rs S
 | .panic t x,S=>wg p J t x S
 | .exit _,_=>none
def SP:Bool×AV->Bool
 |(true,.d (.bool _))=>true
 |_=>false
def zq:Bool×AV->Bool
 |(_,.d (.bool b))=>b
 |_=>false
def Env.kn:Env->Nat->Bool->Env
 |[],_,_=>[]
 |(t,x)::r,c,b=>if t=c then (t,true,.d (.bool b))::r else (t,x)::Env.kn r c b
def St.kn(S:St)(c:Nat)(b:Bool):St:={S with env:=Env.kn S.env c b}
section
variable {X:Ctx} {f:FuncId} {S:St} {k:Kt}
theorem sS(r:Option (XE×St))(g:St->Option (XE×St)):(andThen r g).bind (λp=>k p.1 p.2)=r.bind λp=>match p with
 |(.normal,S)=>(g S).bind λp=>k p.1 p.2
 |(e,S)=>k e S:=by
 rcases r with _|⟨e,S⟩
 ·rfl
 ·cases e<;>rfl
theorem SQ:aI X f .skip S k=k .normal S:=by simp only[aI,SJ,ac1]
theorem SR{id:Nat}:aI X f (.exit id) S k=k (.exit id) (CV S (X.gh f (id+1000000))):=by simp only[aI,SL,ac1]
theorem V5:aI X f .ret S k=k .ret S:=by simp only[aI,V3,ac1]
theorem fF{a b:Code}:aI X f (.seq a b) S k=aI X f a S (zn X f b k):=by
 simp only[aI,V4,sS];congr 1;funext p;obtain⟨e,S⟩:=p;cases e<;>rfl
theorem ai{c:Code}:aI X f (.loop c) S k=aI X f c S (Dd X f c k):=by
 rw[aI,SO,sS,aI];congr 1;funext p;obtain⟨e,S⟩:=p;cases e<;>rfl
theorem Pq{id:Nat}{c:Code}:aI X f (.block id c) S k=aI X f c (S.enter X f id) (BR id k):=by
 simp only[aI,Pp];rcases fg X f c (S.enter X f id)with _|⟨e,S⟩
 ·rfl
 ·cases e with
  |exit N=>
   simp only[CW,ac1,BR];split<;>rfl
  |_=>rfl
theorem FL{c:Operand}{a b:Code}:aI X f (.cond c a b) S k=if SP (S.aq c)=true then (if zq (S.aq c)=true then aI X f a S k else aI X f b S k)else none:=by
 simp only[aI,SM];generalize S.aq c=v;obtain⟨g,x⟩:=v;cases g with
 |false=>rfl
 |true=>
  cases x with
  |d x=>
   cases x with
   |bool t=>cases t<;>rfl
   |_=>rfl
  |_=>rfl
theorem Yi{b:Bool}:∀{env:Env}{c:Nat},Env.lk env c=some (true,.d (.bool b))->Env.kn env c b=env
 |[],c,h=>by cases h
 |(t,x)::r,c,h=>by
  simp only[Env.lk]at h;simp only[Env.kn];split
  ·rename_i A';rw[aap A']at h;cases h;rfl
  ·rename_i A';rw[aah A']at h;rw[Yi h]
theorem ac9{c:Tmp}{b:Bool}(h:S.aq (.tmp c)=(true,.d (.bool b))):Env.lk S.env c=some (true,.d (.bool b)):=by
 simp only[St.aq]at h;cases Y:Env.lk S.env c with
 |none=>rw[Y]at h;simp at h
 |some x=>rw[Y]at h;simp only[acV]at h;rw[h]
theorem Pr{c:Tmp}{a b:Code}:aI X f (.cond (.tmp c) a b) S k=if SP (S.aq (.tmp c))=true then (if zq (S.aq (.tmp c))=true then aI X f a (S.kn c true) k else aI X f b (S.kn c false) k)else none:=by
 rw[FL];generalize AD:S.aq (.tmp c)=v;obtain⟨g,x⟩:=v;cases g with
 |false=>rfl
 |true=>
  cases x with
  |d x=>
   cases x with
   |bool t=>
    have:S.kn c t=S:=by
     unfold St.kn;rw[Yi (ac9 AD)]
    cases t with
    |true=>rw[this];rfl
    |false=>rw[this];rfl
   |_=>rfl
  |_=>rfl
theorem Ps{v:Value}{a b:Code}:aI X f (.cond (.const v) a b) S k=if SP (S.aq (.const v))=true then (if zq (S.aq (.const v))=true then aI X f a S k else aI X f b S k)else none:=FL
theorem Kk{id:Nat}{l:List Oper}:aI X f (.region id ⟨l⟩ false) S k=runK X (X.md f id) l l S (zp X f id k):=by
 simp only[aI,Kj,runK];rcases eQ X (ah X) (X.md f id) l l S with _|⟨e,S⟩
 ·rfl
 ·cases e<;>rfl
noncomputable def Gy(X:Ctx)(md:Bool)(A:List (List Nat))(l:List Oper)(S:St)(k:Kt):List (Nat×Nat)->bW
 |[]=>j8 X md (fm S.mem,A) l l S [] k
 |q::r=>(O4 X (ah X) md A l S (fC S.mem (q::r))).bind λp=>k p.1 p.2
theorem SU{id:Nat}{l:List Oper}:aI X f (.region id ⟨l⟩ true) S k=Gy X (X.md f id) (X.od f id) l S (zp X f id k) (X.fl f id):=by
 simp only[aI,SN];cases X.fl f id with
 |nil=>
  simp only[sH,Gy,j8];rcases gM X (ah X) (X.md f id) (fm S.mem,X.od f id) l l S []with _|⟨e,S⟩
  ·rfl
  ·cases e<;>rfl
 |cons q r=>
  simp only[sH,Gy];rcases O4 X (ah X) (X.md f id) (X.od f id) l S (fC S.mem (q::r))with _|⟨e,S⟩
  ·rfl
  ·cases e<;>rfl
theorem aa0{md:Bool}{A:List (List Nat)}{l:List Oper}:Gy X md A l S k []=j8 X md (fm S.mem,A) l l S [] k:=rfl
theorem iL{b:Code}:zn X f b k .normal S=aI X f b S k:=rfl
theorem ada{b:Code}{id:Nat}:zn X f b k (.exit id) S=k (.exit id) S:=rfl
theorem adb{b:Code}:zn X f b k .ret S=k .ret S:=rfl
theorem ade{b:Code}{t:TypeId}{x:D}:zn X f b k (.panic t x) S=k (.panic t x) S:=rfl
theorem adf{id:Nat}:BR id k .normal S=k .normal S:=rfl
theorem adg{id N:Nat}:BR id k (.exit N) S=if N=id then k .normal S else k (.exit N) S:=rfl
theorem adh{id:Nat}:BR id k .ret S=k .ret S:=rfl
theorem adi{id:Nat}{t:TypeId}{x:D}:BR id k (.panic t x) S=k (.panic t x) S:=rfl
theorem aa1{c:Code}:Dd X f c k .normal S=aI X f (.loop c) S k:=rfl
theorem aa2{c:Code}{id:Nat}:Dd X f c k (.exit id) S=k (.exit id) S:=rfl
theorem aa3{c:Code}:Dd X f c k .ret S=k .ret S:=rfl
theorem aa4{c:Code}{t:TypeId}{x:D}:Dd X f c k (.panic t x) S=k (.panic t x) S:=rfl
theorem V6{id:Nat}:zp X f id k .normal S=k .normal (S.leave X f id):=rfl
theorem V7{id:Nat}{t:TypeId}{x:D}:zp X f id k (.panic t x) S=k (.panic t x) S:=rfl
theorem adj{P:Program}{p:aw}{J:Nat}{rs:List ResultVar}:uM P p J rs .normal S=finish P p J rs S:=rfl
theorem adk{P:Program}{p:aw}{J:Nat}{rs:List ResultVar}:uM P p J rs .ret S=finish P p J rs S:=rfl
theorem adl{P:Program}{p:aw}{J:Nat}{rs:List ResultVar}{t:TypeId}{x:D}:uM P p J rs (.panic t x) S=wg p J t x S:=rfl
end
def wT(all:List Oper)(o:Oper):Option Nat:=
 match o.guard with
 |some (j,_)=>kF all j
 |none=>none
noncomputable def pR(X:Ctx)(md:Bool)(S:St)(d:Option Nat)(all r:List Oper)(k:Kt):Option eF->bW
 |some ⟨.ret x,es,_⟩=>runK X md all r (({S with mem:=bq S.mem es}:St).put d true x) k
 |some ⟨.panic t x,es,_⟩=>k (.panic t x) {S with mem:=bq S.mem es}
 |none=>none
def Ip(S:St)(k:Kt):Bool×AV->bW
 |(true,.fR t d)=>k (.panic t d) S
 |_=>none
noncomputable def tV(X:Ctx)(md:Bool)(S:St)(o:Oper)(all r:List Oper)(k:Kt):Op->bW
 | .call {callee:=.value M,args,..}=>pR X md S o.dst all r k (cj X (ah X) S o args.toList (S.aq M))
 | .panic x=>Ip S k (S.aq x)
 |_=>none
noncomputable def pS(X:Ctx)(md:Bool)(S:St)(o:Oper)(all r:List Oper)(k:Kt):cP->bW
 | .val c x=>if (fM S o&&c)=true then runK X md all r (S.put o.dst true x) k else none
 | .cG c x e=>if (fM S o&&c)=true then runK X md all r (({S with mem:=Mem.set S.mem e}:St).put o.dst true x) k else none
 | .no=>tV X md S o all r k o.op
noncomputable def sU(X:Ctx)(md:Bool)(S:St)(o:Oper)(all r:List Oper)(k:Kt)(b:Bool):cP->bW
 | .val c x=>if b=true->(fM S o&&c)=true then runK X md all r (S.put o.dst b x) k else none
 | .cG c x e=>if b=true then pS X md S o all r k (.cG c x e)else runK X md all r (S.put o.dst true .aY) k
 | .no=>if b=true then tV X md S o all r k o.op else runK X md all r (S.put o.dst true .aY) k
noncomputable def De(X:Ctx)(S:St)(o:Oper)(all r:List Oper)(k:Kt)(H t:Bool):Bool->bW
 |false=>sU X false S o all r k (t == H) (cJ X.P S o)
 |true=>if (t == H)=true then pS X true (S.cz (wT all o) H) o all r k (cJ X.P (S.cz (wT all o) H) o)else runK X true all r ((S.cz (wT all o) (!H)).put o.dst true (.bM [])) k
noncomputable def Iq(X:Ctx)(md:Bool)(S:St)(o:Oper)(all r:List Oper)(k:Kt)(H:Bool):GV->bW
 | .ri t=>De X S o all r k H t md
 | .skip=>runK X md all r (S.put o.dst true (.bM [])) k
 | .bad=>none
section
variable {X:Ctx} {f:FuncId} {S:St} {k:Kt} {all r:List Oper} {md:Bool}
theorem wU(o:Oper)(res:cP):(andThen (gx X (ah X) S o res) (eQ X (ah X) md all r)).bind (λp=>k p.1 p.2)=pS X md S o all r k res:=by
 cases res with
 |val c x=>simp only[gx,pS];split<;>rfl
 |cG c x e=>simp only[gx,pS];split<;>rfl
 |no=>
  simp only[gx,pS,qu];split
  ·rename_i M args AB O;rw[O];simp only[tV];rcases cj X (ah X) S o args.toList (S.aq M)with _|⟨out,es,ks⟩
   ·rfl
   ·cases out<;>rfl
  ·rename_i x O;rw[O];simp only[tV];generalize S.aq x=v;obtain⟨g,y⟩:=v;cases g<;>cases y<;>rfl
  ·rename_i V AE;unfold tV;split
   ·rename_i heq;exact absurd heq (V _ _ _)
   ·rename_i heq;exact absurd heq (AE _)
   ·rfl
theorem V8:runK X md all [] S k=k .normal S:=rfl
theorem SV{d:Option Tmp}{op:Op}{ty:TypeId}{pos:String}{I:Array Edge}:runK X md all (⟨d,op,ty,pos,I,none⟩::r) S k=pS X md S ⟨d,op,ty,pos,I,none⟩ all r k (cJ X.P S ⟨d,op,ty,pos,I,none⟩):=
 wU _ _
theorem Pt{d:Option Tmp}{op:Op}{ty:TypeId}{pos:String}{I:Array Edge}{j:Nat}{w:Bool}:runK X md all (⟨d,op,ty,pos,I,some (j,w)⟩::r) S k=Iq X md S ⟨d,op,ty,pos,I,some (j,w)⟩ all r k w (oc (nU all S j)):=by
 simp only[runK,eQ,mb];generalize oc (nU all S j)=g;cases g with
 |skip=>rfl
 |bad=>rfl
 |ri t=>
  simp only[Iq];cases md with
  |true=>
   simp only[De,wT];split
   ·exact wU _ _
   ·rfl
  |false=>
  simp only[De];generalize T:cJ X.P S _=res;cases res with
  |val c x=>simp only[nJ,sU];split<;>rfl
  |cG c x e=>
   simp only[nJ,sU];split
   ·exact wU _ (.cG c x e)
   ·rfl
  |no=>
   simp only[nJ,sU];split
   ·exact wU _ .no
   ·rfl
theorem SW{d:Option Nat}{c:Prop}[Decidable c]{a b:Option eF}:pR X md S d all r k (if c then a else b)=if c then pR X md S d all r k a else pR X md S d all r k b:=by split<;>rfl
end
theorem Ir{m:Mem}{A0:Nat}{ρ B:List Nat}{c:Prop}[Decidable c]{a b:Option (Out×List (Nat×ay))}:eP m A0 ρ B (if c then a else b)=if c then eP m A0 ρ B a else eP m A0 ρ B b:=by split<;>rfl
noncomputable def kQ(X:Ctx)(md:Bool)(A:Nat×List (List Nat))(S:St)(d:Option Nat)(all r:List Oper)(E:List aW)(k:Kt):Option eF->bW
 |some ⟨.ret x,es,ks⟩=>j8 X md A all r (({S with mem:=bq S.mem es}:St).put d true x) (⟨ks,es,true,x⟩::E) k
 |some ⟨.panic t x,es,ks⟩=>(O1 X md A all r d E ⟨{S with mem:=bq S.mem es},t,x,es,ks⟩).bind λp=>k p.1 p.2
 |none=>none
noncomputable def zr(X:Ctx)(md:Bool)(A:Nat×List (List Nat))(S:St)(o:Oper)(all r:List Oper)(E:List aW)(k:Kt):Op->bW
 | .call {callee:=.value M,args,..}=>kQ X md A S o.dst all r E k (cj X (ah X) S o args.toList (S.aq M))
 |_=>none
noncomputable def sV(X:Ctx)(md:Bool)(A:Nat×List (List Nat))(S:St)(o:Oper)(all r:List Oper)(E:List aW)(k:Kt):cP->bW
 | .val c x=>if (fM S o&&c)=true then j8 X md A all r (S.put o.dst true x) (⟨iq S o,[],true,x⟩::E) k else none
 | .cG c x e=>if (fM S o&&c&&(iq S o).contains e.key)=true then j8 X md A all r (({S with mem:=Mem.set S.mem e}:St).put o.dst true x) (⟨iq S o,[e],true,x⟩::E) k else none
 | .no=>zr X md A S o all r E k o.op
noncomputable def oh(X:Ctx)(md:Bool)(A:Nat×List (List Nat))(S:St)(d:Option Nat)(all r:List Oper)(E:List aW)(k:Kt):Option eF->bW
 |some ⟨.ret x,es,ks⟩=>j8 X md A all r (({S with mem:=bq S.mem es}:St).put d true x) (⟨ks,es,true,x⟩::E) k
 |_=>none
noncomputable def vy(X:Ctx)(md:Bool)(A:Nat×List (List Nat))(S:St)(o:Oper)(all r:List Oper)(E:List aW)(k:Kt):Op->bW
 | .call {callee:=.value M,args,..}=>oh X md A S o.dst all r E k (cj X (ah X) S o args.toList (S.aq M))
 |_=>none
noncomputable def om(X:Ctx)(md:Bool)(A:Nat×List (List Nat))(S:St)(o:Oper)(all r:List Oper)(E:List aW)(k:Kt):cP->bW
 | .val c x=>if (fM S o&&c)=true then j8 X md A all r (S.put o.dst true x) (⟨iq S o,[],true,x⟩::E) k else none
 | .cG c x e=>if (fM S o&&c&&(iq S o).contains e.key)=true then j8 X md A all r (({S with mem:=Mem.set S.mem e}:St).put o.dst true x) (⟨iq S o,[e],true,x⟩::E) k else none
 | .no=>vy X md A S o all r E k o.op
noncomputable def py(X:Ctx)(md:Bool)(A:Nat×List (List Nat))(S:St)(o:Oper)(all r:List Oper)(E:List aW)(k:Kt)(b:Bool):cP->bW
 | .val c x=>if b=true->(fM S o&&c)=true then j8 X md A all r (S.put o.dst b x) (⟨iq S o,[],b,x⟩::E) k else none
 | .cG c x e=>if b=true then om X md A S o all r E k (.cG c x e)else j8 X md A all r (S.put o.dst true .aY) (⟨[],[],true,.aY⟩::E) k
 | .no=>if b=true then vy X md A S o all r E k o.op else j8 X md A all r (S.put o.dst true .aY) (⟨[],[],true,.aY⟩::E) k
noncomputable def zt(X:Ctx)(A:Nat×List (List Nat))(S:St)(o:Oper)(all r:List Oper)(E:List aW)(k:Kt)(H t:Bool):Bool->bW
 |false=>py X false A S o all r E k (t == H) (cJ X.P S o)
 |true=>if (t == H)=true then om X true A (S.cz (wT all o) H) o all r E k (cJ X.P (S.cz (wT all o) H) o)else j8 X true A all r ((S.cz (wT all o) (!H)).put o.dst true (.bM [])) (⟨[],[],true,.bM []⟩::E) k
noncomputable def Df(X:Ctx)(md:Bool)(A:Nat×List (List Nat))(S:St)(o:Oper)(all r:List Oper)(E:List aW)(k:Kt)(H:Bool):GV->bW
 | .ri t=>zt X A S o all r E k H t md
 | .skip=>j8 X md A all r (S.put o.dst true (.bM [])) (⟨[],[],true,.bM []⟩::E) k
 | .bad=>none
section
variable {X:Ctx} {f:FuncId} {S:St} {k:Kt} {all r:List Oper} {md:Bool} {A:Nat×List (List Nat)} {E:List aW}
theorem qz(o:Oper)(res:cP):(wB E (eK X (ah X) S o res) (gM X (ah X) md A all r)).bind (λp=>k p.1 p.2)=om X md A S o all r E k res:=by
 cases res with
 |val c x=>simp only[eK,om];split<;>rfl
 |cG c x e=>simp only[eK,om];split<;>rfl
 |no=>
  simp only[eK,om,nf];split
  ·rename_i M args AB O;rw[O];simp only[vy];rcases cj X (ah X) S o args.toList (S.aq M)with _|⟨out,es,ks⟩
   ·rfl
   ·cases out<;>rfl
  ·rename_i V;unfold vy;split
   ·rename_i heq;exact absurd heq (V _ _ _)
   ·rfl
def BS:List aW->List aW->List aW
 |[],r=>r
 |x::l,r=>BS l (x::r)
theorem Eo:∀(l r:List aW),BS l r=l.reverse++r
 |[],_=>rfl
 |x::l,r=>by rw[BS,Eo l];simp
theorem aj:j8 X md A all [] S E k=if n7 A.2 (BS E [])=true then k .normal S else none:=by
 rw[Eo,afl];simp only[j8,gM];split<;>rfl
theorem SX{d:Option Tmp}{op:Op}{ty:TypeId}{pos:String}{I:Array Edge}:j8 X md A all (⟨d,op,ty,pos,I,none⟩::r) S E k=sV X md A S ⟨d,op,ty,pos,I,none⟩ all r E k (cJ X.P S ⟨d,op,ty,pos,I,none⟩):=by
 simp only[j8,gM,j6];generalize O:(⟨d,op,ty,pos,I,none⟩:Oper)=o;have AF:o.guard=none:=by subst O;rfl
 have U:eg X (ah X) md all S o=eK X (ah X) S o (cJ X.P S o):=by unfold eg;rw[AF]
 generalize T:cJ X.P S o=res;rw[T]at U;cases res with
 |val c x=>simp only[BB,mD,U,sV];exact qz _ (.val c x)
 |cG c x e=>simp only[BB,mD,U,sV];exact qz _ (.cG c x e)
 |no=>
  simp only[BB,HK,sV];split
  ·rename_i M args AB A1;rw[A1];simp only[zr];cases AC:cj X (ah X) S o args.toList (S.aq M)with
   |none=>
    simp only[uz,mD,U,eK,nf,A1,AC,kQ];rfl
   |some res=>
    obtain⟨out,es,ks⟩:=res;cases out with
    |ret x=>
     simp only[uz,mD,U,eK,nf,A1,AC,kQ];rfl
    |panic t x=>rfl
  ·rename_i V;simp only[mD,U,eK,nf];unfold zr;split
   ·rename_i heq;exact absurd heq (V _ _ _)
   ·rfl
theorem Pu{d:Option Tmp}{op:Op}{ty:TypeId}{pos:String}{I:Array Edge}{j:Nat}{w:Bool}:j8 X md A all (⟨d,op,ty,pos,I,some (j,w)⟩::r) S E k=Df X md A S ⟨d,op,ty,pos,I,some (j,w)⟩ all r E k w (oc (nU all S j)):=by
 simp only[j8,gM,j6,mD,eg];generalize oc (nU all S j)=g;cases g with
 |skip=>rfl
 |bad=>rfl
 |ri t=>
  simp only[Df];cases md with
  |true=>
   simp only[zt,wT];split
   ·exact qz _ _
   ·rfl
  |false=>
  simp only[zt];generalize T:cJ X.P S _=res;cases res with
  |val c x=>simp only[qv,py];split<;>rfl
  |cG c x e=>
   simp only[qv,py];split
   ·exact qz _ (.cG c x e)
   ·rfl
  |no=>
   simp only[qv,py];split
   ·exact qz _ .no
   ·rfl
theorem Pv{d:Option Nat}{c:Prop}[Decidable c]{a b:Option eF}:kQ X md A S d all r E k (if c then a else b)=if c then kQ X md A S d all r E k a else kQ X md A S d all r E k b:=by split<;>rfl
theorem Pw{d:Option Nat}{c:Prop}[Decidable c]{a b:Option eF}:oh X md A S d all r E k (if c then a else b)=if c then oh X md A S d all r E k a else oh X md A S d all r E k b:=by split<;>rfl
end
def iM(n:Nat)(p:aw)(args:List AV)(cs:List ay):Bool:=
 decide (args.length<=n)&&decide (cs.length<=100)&&p.sites.all (λk=>decide (100<=k))&&decide p.sites.Nodup
theorem ax{X:Ctx}{f:FuncId}{fn:Func}{c:Code}{args:List AV}{cs:List ay}{n:Nat}{rs:List ResultVar}{p:aw}(A2:X.ov=none)(A3:X.vj f=none)(A4:X.P.funcs[f]?=some fn)(A5:fn.body=some c)(A6:uC c=false)(A7:fn.ntmps=n)(A8:fn.results.toList=rs)
 (A9:X.fp f=p) (T:p.split=false) (AA:iM n p args cs=true):ah X f args cs=aI X f c (entry n X.gl args cs p.sites) (uM X.P p cs.length rs):=by
 subst A9;rw[Io A2 A3 A4 A5 A6,T];simp only[gd,vu];subst A7;subst A8;rw[aap (by simpa only[iM]using AA)];simp only[aI];rcases fg X f c _ with _|⟨e,S⟩
 ·rfl
 ·cases e<;>rfl
theorem Ep{X:Ctx}{f:FuncId}{fn:Func}{c:Code}{args:List AV}{cs:List ay}{n:Nat}{rs:List ResultVar}{p:aw}(A2:X.ov=none)(A3:X.vj f=none)(A4:X.P.funcs[f]?=some fn)(A5:fn.body=some c)(A6:uC c=false)(A7:fn.ntmps=n)(A8:fn.results.toList=rs)
 (A9:X.fp f=p) (T:p.split=true) (AA:iM n p args cs=true):ah X f args cs=gd (λargs=>aI X f c (entry n X.gl args cs p.sites) (uM X.P p cs.length rs)) args true:=by
 subst A9;rw[Io A2 A3 A4 A5 A6,T];subst A7;subst A8;have key:∀Z:List AV,Z.length=args.length->vu X f fn c cs Z=aI X f c (entry fn.ntmps X.gl Z cs (X.fp f).sites) (uM X.P (X.fp f) cs.length fn.results.toList):=by
  intro Z Y;simp only[vu];rw[aap (by rw[Y];simpa only[iM]using AA)];simp only[aI];rcases fg X f c _ with _|⟨e,S⟩
  ·rfl
  ·cases e<;>rfl
 simp only[gd];split
 ·rename_i r;rw[key _ (by simp),key _ (by simp)]
 ·exact key _ rfl
attribute [simp] cJ.eq_1
attribute [simp] fM.eq_1
attribute [simp] gW.eq_1 gW.eq_2
attribute [simp] Go.Op.operands.eq_1 Go.Op.operands.eq_2 Go.Op.operands.eq_3 Go.Op.operands.eq_4 Go.Op.operands.eq_5 Go.Op.operands.eq_6 Go.Op.operands.eq_7 Go.Op.operands.eq_8 Go.Op.operands.eq_9 Go.Op.operands.eq_10 Go.Op.operands.eq_11 Go.Op.operands.eq_12 Go.Op.operands.eq_13 Go.Op.operands.eq_14 Go.Op.operands.eq_15 Go.Op.operands.eq_16 Go.Op.operands.eq_17 Go.Op.operands.eq_18 Go.Op.operands.eq_19 Go.Op.operands.eq_20 Go.Op.operands.eq_21 Go.Op.operands.eq_22 Go.Op.operands.eq_23 Go.Op.operands.eq_24 Go.Op.operands.eq_25 Go.Op.operands.eq_26 Go.Op.operands.eq_27 Go.Op.operands.eq_28 Go.Op.operands.eq_29 Go.Op.operands.eq_30 Go.Op.operands.eq_31 Go.Op.operands.eq_32 Go.Op.operands.eq_33 Go.Op.operands.eq_34 Go.Op.operands.eq_35 Go.Op.operands.eq_36 Go.Op.operands.eq_37 Go.Op.operands.eq_38 Go.Op.operands.eq_39 Go.Op.operands.eq_40 Go.Op.operands.eq_41 Go.Op.operands.eq_42 Go.Op.operands.eq_43
attribute [simp] St.aq.eq_1 St.aq.eq_2 St.aq.eq_3 St.aq.eq_4
attribute [simp] Env.lk.eq_1 Env.lk.eq_2
attribute [simp] St.put.eq_1 St.put.eq_2
attribute [simp] Mem.get.eq_1 Mem.get.eq_2
attribute [simp] Mem.set.eq_1 Mem.set.eq_2
attribute [simp] AV.kr.eq_1 AV.kr.eq_2 AV.kr.eq_3
attribute [simp] l4.eq_1 l4.eq_2 l4.eq_3 l4.eq_4 l4.eq_5 l4.eq_6
attribute [simp] AV.cells.eq_1 AV.cells.eq_2 AV.cells.eq_3
attribute [simp] lj.eq_1 lj.eq_2 lj.eq_3 lj.eq_4 lj.eq_5
attribute [simp] nQ.eq_1 nQ.eq_2 nQ.eq_3
attribute [simp] nD.eq_1 iz.eq_1 iz.eq_2 iz.eq_3
attribute [simp] lE.eq_1 lE.eq_2
attribute [simp] qf.eq_1 qf.eq_2 qf.eq_3 qf.eq_4
attribute [simp] yp.eq_1 yp.eq_2 yp.eq_3 yp.eq_4
attribute [simp] o8.eq_1 o8.eq_2 o8.eq_3 o8.eq_4 o8.eq_5 o8.eq_6 o8.eq_7 o8.eq_8 o8.eq_9
attribute [simp] ew.eq_1 ew.eq_2 ew.eq_3 ew.eq_4 ew.eq_5 ew.eq_6 ew.eq_7 ew.eq_8 ew.eq_9 ew.eq_10 ew.eq_11 ew.eq_12 ew.eq_13 ew.eq_14 ew.eq_15 ew.eq_16
attribute [simp] lG.eq_1 lG.eq_2 lG.eq_3 lG.eq_4 lG.eq_5 lG.eq_6 lG.eq_7 lG.eq_8
attribute [simp] Gs.eq_1
attribute [simp] sm.eq_1 sm.eq_2
attribute [simp] Cs.eq_1 Cs.eq_2
attribute [simp] nU.eq_1
attribute [simp] zY.eq_1
def Px{α:Type}(y:α):Option (List α)->Option (List α)
 |some E=>some (y::E)
 |none=>none
@[simp] theorem ahC{α:Type}(y:α)(E:List α):Px y (some E)=some (y::E):=rfl
@[simp] theorem ahD{α:Type}(y:α):Px y none=none:=rfl
@[simp] theorem toDs_nil:toDs []=some []:=rfl
@[simp] theorem toDs_d(y r):toDs (.d y::r)=Px y (toDs r):=by
 cases h:toDs r with
 |none=>exact toDs.eq_3 _ _ (λ_ _ _ H=>by rw[h]at H;cases H)
 |some E=>exact toDs.eq_2 _ _ _ h
@[simp] theorem toDs_vec(a b c d r):toDs (.vec a b c d::r)=none:=by rw[toDs.eq_def]
@[simp] theorem toDs_ptr(a b c r):toDs (.ptr a b c::r)=none:=by rw[toDs.eq_def]
@[simp] theorem toDs_lit(a r):toDs (.lit a::r)=none:=by rw[toDs.eq_def]
@[simp] theorem toDs_fn(a b r):toDs (.fn a b::r)=none:=by rw[toDs.eq_def]
@[simp] theorem toDs_nn(r):toDs (.nn::r)=none:=by rw[toDs.eq_def]
@[simp] theorem toDs_junk(r):toDs (.aY::r)=none:=by rw[toDs.eq_def]
attribute [simp] ru.eq_1 ru.eq_2
attribute [simp] Ha.eq_1 Ha.eq_2 Ha.eq_3 Ha.eq_4
attribute [simp] ky.eq_1 ky.eq_2 ky.eq_3 ky.eq_4 ky.eq_5 ky.eq_6 OG.eq_1
attribute [simp] m7.eq_1 m7.eq_2 m7.eq_3 m7.eq_4 m7.eq_5
attribute [simp] qL.eq_1
attribute [simp] yg.eq_1 Ot.eq_1 Ot.eq_2 Vm.eq_1 Vm.eq_2
attribute [simp] tB.eq_1 tB.eq_2
attribute [simp] gk.eq_1 gk.eq_2 gk.eq_3 gk.eq_4 gk.eq_5
attribute [simp] vU.eq_1
attribute [simp] vW.eq_1
attribute [simp] D7.eq_1 D7.eq_2
attribute [simp] l5.eq_1 l5.eq_2 l5.eq_3 l5.eq_4
attribute [simp] Cu.eq_1
attribute [simp] pK.eq_1 pK.eq_2
attribute [simp] jA.eq_1
attribute [simp] qd.eq_1 qd.eq_2
attribute [simp] rA.eq_1 rA.eq_2
attribute [simp] lu.eq_1 lu.eq_2 lu.eq_3 lu.eq_4 lu.eq_5 lu.eq_6
attribute [simp] rr.eq_1
attribute [simp] nG.eq_1 nG.eq_2 nG.eq_3
attribute [simp] sn.eq_1 sn.eq_2 vd.eq_1 vd.eq_2 zZ.eq_1
attribute [simp] o9.eq_1 o9.eq_2 o9.eq_3 o9.eq_4
attribute [simp] jY.eq_1 jY.eq_2 jY.eq_3 jY.eq_4 jY.eq_5
attribute [simp] bound.eq_1 bound.eq_2 bound.eq_3
attribute [simp] bf.eq_1 bf.eq_2
attribute [simp] iX.eq_1 iX.eq_2 iX.eq_3 iX.eq_4 iX.eq_5 iX.eq_6 iX.eq_7 iX.eq_8 iX.eq_9 iX.eq_10 iX.eq_11 iX.eq_12
attribute [simp] D.cells.eq_1 D.cells.eq_2
attribute [simp] D.size.eq_1 D.size.eq_2
attribute [simp] D.flat.eq_1 D.flat.eq_2
mutual
@[simp] theorem V9:∀x:D,yO x x=true
 | .int ..=>by simp[yO]
 | .bool _=>by simp[yO]
 | .str _=>by simp[yO]
 | .list xs=>by simp[yO,zu xs]
 | .agg xs=>by simp[yO,zu xs]
 | .xC=>by simp[yO]
@[simp] theorem zu:∀x:List D,wq x x=true
 |[]=>by simp[wq]
 |x::r=>by simp[wq,V9 x,zu r]
end
attribute [simp] Ef.eq_1 Ef.eq_2 Ef.eq_3 Ad.eq_1 Ad.eq_2 yP.eq_1 yP.eq_2 Gu.eq_1 Gu.eq_2 pt.eq_1 pt.eq_2 OZ.eq_1 OZ.eq_2 wu.eq_1 wu.eq_2 wu.eq_3
attribute [simp] cj.eq_1 cj.eq_2
attribute [simp] cM.eq_1 cM.eq_2 mC.eq_1 gL.eq_1 Ac.eq_1 rW.eq_1 qV.eq_1
attribute [simp] collect.eq_1 collect.eq_2 collect.eq_3
attribute [simp] j5.eq_1 j5.eq_2
attribute [simp] sF.eq_1 sF.eq_2
attribute [simp] ig.eq_1 ig.eq_2 ig.eq_3 ig.eq_4 ig.eq_5 ig.eq_6 ig.eq_7 ig.eq_8 ig.eq_9 ig.eq_10 ig.eq_11 ig.eq_12
attribute [simp] ma.eq_1 ma.eq_2 ma.eq_3 ma.eq_4 ma.eq_5 ma.eq_6 ma.eq_7
attribute [simp] rV.eq_1 rV.eq_2 rV.eq_3 rV.eq_4
attribute [simp] kE.eq_1 kE.eq_2
attribute [simp] gw.eq_1 gw.eq_2 AU.eq_1 AU.eq_2
attribute [simp] nb.eq_1 nb.eq_2
attribute [simp] uu.eq_1 uu.eq_2 uu.eq_3
attribute [simp] uv.eq_1 uv.eq_2
attribute [simp] jK.eq_1 jK.eq_2
attribute [simp] eP.eq_1 eP.eq_2
attribute [simp] wo.eq_1 wo.eq_2
attribute [simp] yN.eq_1 yN.eq_2
attribute [simp] mV.eq_1 mV.eq_2 mV.eq_1 mV.eq_2
attribute [simp] kO.eq_1 kO.eq_2 kO.eq_3
attribute [simp] dj.eq_1 dj.eq_2 dj.eq_3 dj.eq_4 dj.eq_5 dj.eq_6 dj.eq_7 dj.eq_8 dj.eq_9 dj.eq_10 dj.eq_11 dj.eq_12
attribute [simp] gK.eq_1 gK.eq_2 gK.eq_3 gK.eq_4 gK.eq_5 gK.eq_6
attribute [simp] upO.eq_1 upO.eq_2
attribute [simp] up.eq_1 up.eq_2 up.eq_3 up.eq_4 up.eq_5 up.eq_6 up.eq_7 up.eq_8 up.eq_9 up.eq_10 up.eq_11 up.eq_12
attribute [simp] CB.eq_1 CB.eq_2 CB.eq_3
attribute [simp] gX.eq_1 gX.eq_2
attribute [simp] base.eq_1 base.eq_2
attribute [simp] bq.eq_1 bq.eq_2
attribute [simp] CV.eq_1 CV.eq_2
attribute [simp] Gh.go.eq_1 Gh.go.eq_2 Gh.go.eq_3 Gh.go.eq_4
attribute [simp] St.wm.eq_1 Eg.eq_1 Eg.eq_2 sJ.eq_1 sJ.eq_2 VB.eq_1 VB.eq_2 tD.eq_1 tD.eq_2
attribute [simp] finish.eq_1
attribute [simp] sx.eq_1 sx.eq_2
attribute [simp] yy.eq_1 yy.eq_2
attribute [simp] pf.eq_1
attribute [simp] St.wb.eq_1
attribute [simp] vg.eq_1 vg.eq_2 vg.eq_3
attribute [simp] CG.eq_1 CG.eq_2
attribute [simp] lz.eq_1 lz.eq_2 lz.eq_3 lz.eq_4 lz.eq_5 lz.eq_6 lz.eq_7 lz.eq_8 lz.eq_9 lz.eq_10 lz.eq_11 lz.eq_12
attribute [simp] St.trim.eq_1
attribute [simp] mU.eq_1 mU.eq_2
attribute [simp] mapM.eq_1 mapM.eq_2
attribute [simp] pe.eq_1 pe.eq_2 pe.eq_3
attribute [simp] kC.eq_1 kC.eq_2 kC.eq_3 kC.eq_4 kC.eq_5 kC.eq_6 kC.eq_7 kC.eq_8 kC.eq_9 kC.eq_10 kC.eq_11 kC.eq_12
attribute [simp] kU.eq_1 kU.eq_2
attribute [simp] oneOf.eq_1 oneOf.eq_2
attribute [simp] AV.norm.eq_1 AV.norm.eq_2 AV.norm.eq_3 AV.norm.eq_4
attribute [simp] toD1.eq_1 toD1.eq_2 toD1.eq_3 toD1.eq_4
attribute [simp] toDsN.eq_1 toDsN.eq_2
attribute [simp] vw.eq_1 vw.eq_2 vw.eq_3 vw.eq_4 vw.eq_5 vw.eq_6 vw.eq_7 vw.eq_8 vw.eq_9 vw.eq_10 vw.eq_11 vw.eq_12
attribute [simp] dO.eq_1 dO.eq_2
attribute [simp] TK.agg.eq_1 TK.agg.eq_2 TK.agg.eq_3
attribute [simp] pS.eq_1 pS.eq_2 pS.eq_3
attribute [simp] sU.eq_1 sU.eq_2 sU.eq_3
attribute [simp] Iq.eq_1 Iq.eq_2 Iq.eq_3
attribute [simp] tV.eq_1 tV.eq_2 tV.eq_3
attribute [simp] pR.eq_1 pR.eq_2 pR.eq_3
attribute [simp] Ip.eq_1 Ip.eq_2
attribute [simp] SP.eq_1 SP.eq_2
attribute [simp] zq.eq_1 zq.eq_2
attribute [simp] qJ.eq_1
attribute [simp] sq.eq_1 Hj.eq_1 RN.eq_1 RN.eq_2 zeroOf.eq_1 zeroOf.eq_2 zeroOf.eq_3
attribute [simp] St.wc.eq_1 St.wc.eq_2
attribute [simp] qh.eq_1 qh.eq_2
attribute [simp] jC.eq_1 jC.eq_2
attribute [simp] iZ.eq_1 iZ.eq_2
attribute [simp] tF.eq_1 tF.eq_2
attribute [simp] qn.eq_1 qn.eq_2
attribute [simp] l6.eq_1 l6.eq_2
attribute [simp] j2.eq_1 j2.eq_2
attribute [simp] sD.eq_1 sD.eq_2
attribute [simp] sE.eq_1 sE.eq_2
attribute [simp] gz.eq_1 gz.eq_2
attribute [simp] dr.eq_1 dr.eq_2
attribute [simp] gd.eq_1 gd.eq_2 gd.eq_3
attribute [simp] nt.eq_1 nt.eq_2
attribute [simp] jF.eq_1
attribute [simp] iq.eq_1 CM.eq_1 CM.eq_2 CM.eq_3
attribute [simp] rU.eq_1 rU.eq_2
attribute [simp] bP.eq_1 bP.eq_2 bP.eq_3 bP.eq_4
attribute [simp] sV.eq_1 sV.eq_2 sV.eq_3
attribute [simp] py.eq_1 py.eq_2 py.eq_3
attribute [simp] Df.eq_1 Df.eq_2 Df.eq_3
attribute [simp] zr.eq_1 zr.eq_2 om.eq_1 om.eq_2 om.eq_3 vy.eq_1 vy.eq_2 oh.eq_1 oh.eq_2
attribute [simp] kQ.eq_1 kQ.eq_2 kQ.eq_3
attribute [simp] kD.eq_1 kD.eq_2 kD.eq_3 kD.eq_4 kD.eq_5 kD.eq_6 kD.eq_7 kD.eq_8 kD.eq_9 kD.eq_10 kD.eq_11 kD.eq_12
attribute [simp] m8.eq_1 m8.eq_2
attribute [simp] St.freeze.eq_1
attribute [simp] St.jl.eq_1
attribute [simp] Go.Call.operands.eq_1
attribute [simp] D.isByte.eq_1 D.isByte.eq_2
attribute [simp] sj.eq_1 sj.eq_2 sj.eq_3 sj.eq_4
attribute [simp] dK.eq_1 dK.eq_2 dK.eq_3
attribute [simp] EU.eq_1 EU.eq_2
attribute [simp] SQ SR V5 fF Pq Pr Ps Kk SU aa0 iL ada adb ade adf adg adh adi aa1 aa2 aa3 aa4 V6 V7 adj adk adl V8 SV Pt SW Ir SX Pu Pv Pw
attribute [simp] Ee.eq_1 Ee.eq_2 pr.eq_1 pr.eq_2 cZ.eq_1 cZ.eq_2
attribute [simp] De.eq_1 De.eq_2
attribute [simp] zt.eq_1 zt.eq_2
attribute [simp] wT.eq_1
attribute [simp] Env.kn.eq_1 Env.kn.eq_2 St.kn.eq_1
attribute [simp] n7.eq_1 wi.eq_1 wi.eq_2 wi.eq_3 Ec.eq_1 Ec.eq_2 Eb.eq_1 Eb.eq_2 BS.eq_1 BS.eq_2 pk.eq_1
attribute [simp] lN.eq_1 lN.eq_2 ng.eq_1
@[simp] theorem atx(t:Bool):oc (some (true,.d (.bool t)))=.ri t:=rfl
@[simp] theorem aty:oc (some (true,.bM []))=.skip:=rfl
attribute [simp] kF.eq_1
attribute [simp] St.cz St.prune keyOf St.leave St.enter pg z8 Hx St.yx CJ gu iM entry dead dt kW kV D.at D.cell D.setCells wg
@[simp] theorem ahE(m ρ bor nv):∀A:List D,qh m ρ bor nv (A.map .d)=A.map .d
 |[]=>rfl
 |d::r=>by simp[ahE m ρ bor nv r]
@[simp] theorem ahF(ρ I):∀A:List D,tF ρ I (A.map .d)=A.map .d
 |[]=>rfl
 |d::r=>by simp[ahF ρ I r]
@[simp] theorem SY:∀A:List D,j2 (A.map .d)=[]
 |[]=>rfl
 |d::r=>by simp[SY r]
@[simp] theorem Wa(k v):∀A:List D,qn k v (A.map .d)=none
 |[]=>rfl
 |d::r=>by simp[Wa k v r]
@[simp] theorem aa5(k v o l):∀A:List D,l6 k v o l (A.map .d)=A.map .d
 |[]=>rfl
 |d::r=>by simp[aa5 k v o l r]
@[simp] theorem Py:∀A:List D,jC (A.map .d)=iZ A
 |[]=>rfl
 |d::r=>by simp[Py r]
attribute [simp] List.take_of_length_le
@[simp] def Code.at:Code->List Nat->Code
 |c,[]=>c
 | .seq a b,i::p=>if i=0 then Code.at a p else Code.at b p
 | .cond _ a b,i::p=>if i=0 then Code.at a p else Code.at b p
 | .block _ c,_::p=>Code.at c p
 | .loop c,_::p=>Code.at c p
 |c,_=>c
@[simp] theorem aqU:List.range 2=[0,1]:=rfl
@[simp] theorem aqV:List.range 3=[0,1,2]:=rfl
@[simp] theorem aqW:List.range 4=[0,1,2,3]:=rfl
@[simp] theorem aqX:List.range 5=[0,1,2,3,4]:=rfl
@[simp] theorem aqY:List.range 6=[0,1,2,3,4,5]:=rfl
@[simp] theorem aqZ(a b:Int):(a == b)=decide (a=b):=by by_cases h:a=b<;>simp[h]
def aG(n:Int):Prop:= -9223372036854775808<=n/\n<=9223372036854775807
theorem aE{n:Int}(h:aG n):IntKind.i64.wrap n=n:=IntWalk.i64_in _ (by unfold aG at h;omega)
def q1(m:Nat):Nat:=m/4294967296%4294967296
def q2(m:Nat):Nat:=m/18446744073709551616%4294967296
def q3(m:Nat):Nat:=m/79228162514264337593543950336%4294967296
def q0(m:Nat):Nat:=m%4294967296
def kG(z:Int):Int×Bool:=if-9223372036854775808<=z/\z<=9223372036854775807 then (z,true)else (0,false)
def Es(a b:Int):Int×Int:=if b=0 then (0,3)else if a= -9223372036854775808/\b= -1 then (0,2)else (a.tdiv b,0)
def Et(a b:Int):Int×Int:=if b=0 then (0,3)else (a.tmod b,0)
theorem BT(a b:Int):a.tdiv b=(if decide (a<0)=decide (b<0)then ((a.natAbs/b.natAbs:Nat):Int)else-((a.natAbs/b.natAbs:Nat):Int)):=by
 rcases Int.lt_or_le a 0 with D|D<;>rcases Int.lt_or_le b 0 with A|A
 ·rw[aap (by simp[D,A])];obtain⟨m,rfl⟩:∃m:Nat,a= -(m:Int):=⟨a.natAbs,by omega⟩;obtain⟨n,rfl⟩:∃n:Nat,b= -(n:Int):=⟨b.natAbs,by omega⟩;simp[Int.neg_tdiv,Int.tdiv_neg]
 ·rw[aah (by simp[D];omega)];obtain⟨m,rfl⟩:∃m:Nat,a= -(m:Int):=⟨a.natAbs,by omega⟩;obtain⟨n,rfl⟩:∃n:Nat,b=(n:Int):=⟨b.natAbs,by omega⟩;simp[Int.neg_tdiv]
 ·rw[aah (by simp[A];omega)];obtain⟨m,rfl⟩:∃m:Nat,a=(m:Int):=⟨a.natAbs,by omega⟩;obtain⟨n,rfl⟩:∃n:Nat,b= -(n:Int):=⟨b.natAbs,by omega⟩;simp[Int.tdiv_neg]
 ·rw[aap (by simp;omega)];obtain⟨m,rfl⟩:∃m:Nat,a=(m:Int):=⟨a.natAbs,by omega⟩;obtain⟨n,rfl⟩:∃n:Nat,b=(n:Int):=⟨b.natAbs,by omega⟩;simp
theorem Wb(a b:Int):a.tmod b=(if a<0 then-((a.natAbs%b.natAbs:Nat):Int)else ((a.natAbs%b.natAbs:Nat):Int)):=by
 have A:a.tmod b=a.tmod (b.natAbs:Int):=by
  rcases Int.lt_or_le b 0 with A|A
  ·obtain⟨n,rfl⟩:∃n:Nat,b= -(n:Int):=⟨b.natAbs,by omega⟩;simp[Int.tmod_neg]
  ·obtain⟨n,rfl⟩:∃n:Nat,b=(n:Int):=⟨b.natAbs,by omega⟩;simp
 rw[A];split
 ·obtain⟨m,rfl⟩:∃m:Nat,a= -(m:Int):=⟨a.natAbs,by omega⟩;rw[Int.neg_tmod,Int.natAbs_neg];simp only[Int.natAbs_natCast];rw[<-Int.ofNat_tmod]
 ·obtain⟨m,rfl⟩:∃m:Nat,a=(m:Int):=⟨a.natAbs,by omega⟩;simp only[Int.natAbs_natCast];rw[<-Int.ofNat_tmod]
theorem aa6(a b:Int):a*b=(if decide (a<0)=decide (b<0)then ((a.natAbs*b.natAbs:Nat):Int)else-((a.natAbs*b.natAbs:Nat):Int)):=by
 rcases Int.lt_or_le a 0 with D|D<;>rcases Int.lt_or_le b 0 with A|A
 ·rw[aap (by simp[D,A])];obtain⟨m,rfl⟩:∃m:Nat,a= -(m:Int):=⟨a.natAbs,by omega⟩;obtain⟨n,rfl⟩:∃n:Nat,b= -(n:Int):=⟨b.natAbs,by omega⟩;simp[Int.neg_mul,Int.mul_neg]
 ·rw[aah (by simp[D];omega)];obtain⟨m,rfl⟩:∃m:Nat,a= -(m:Int):=⟨a.natAbs,by omega⟩;obtain⟨n,rfl⟩:∃n:Nat,b=(n:Int):=⟨b.natAbs,by omega⟩;simp[Int.neg_mul]
 ·rw[aah (by simp[A];omega)];obtain⟨m,rfl⟩:∃m:Nat,a=(m:Int):=⟨a.natAbs,by omega⟩;obtain⟨n,rfl⟩:∃n:Nat,b= -(n:Int):=⟨b.natAbs,by omega⟩;simp[Int.mul_neg]
 ·rw[aap (by simp;omega)];obtain⟨m,rfl⟩:∃m:Nat,a=(m:Int):=⟨a.natAbs,by omega⟩;obtain⟨n,rfl⟩:∃n:Nat,b=(n:Int):=⟨b.natAbs,by omega⟩;simp
def dG(b:Bool):Int:=if b=true then 1 else 0
@[simp] def A6(p:Int×Bool×Int):AV:=.bM [.d (.int .i64 p.1),.d (.bool p.2.1),.d (.int .i64 p.2.2)]
def j9:Int×Bool×Int:=(0,false, -1)
def uN(p:Int×Bool):Int×Bool×Int:=if p.2=true then (p.1,false,0)else (0,false,2)
def zv(p:Int×Int):Int×Bool×Int:=if p.2=3 then (0,false,1)else if p.2=0 then (p.1,false,0)else (0,false,2)
def oo(op a:Int)(t:Bool):Int×Bool×Int:=
 if t=true then (if a≠0/\a≠1 then j9 else if op=7 then (dG (decide (a=0)),true,0)else j9)
 else if op=6 then uN (kG (0-a))else j9
def Eu(op a b:Int):Int×Bool×Int:=
 if op=13 then (dG (decide (a=b)),true,0)else if op=14\/op=20 then (dG (decide (a≠b)),true,0)
 else if op=19 then (dG (decide (a=1/\b=1)),true,0)else if op=21 then (dG (decide (a=1\/b=1)),true,0)else j9
def A7(op a b:Int):Int×Bool×Int:=
 if op=8 then uN (kG (a+b))else if op=9 then uN (kG (a-b))else if op=10 then uN (kG (a*b))else if op=11 then zv (Es a b)else if op=12 then zv (Et a b)
 else if op=13 then (dG (decide (a=b)),true,0)else if op=14 then (dG (decide (a≠b)),true,0)else if op=15 then (dG (decide (a<b)),true,0)
 else if op=16 then (dG (decide (b<a)),true,0)else if op=17 then (dG (decide (a<=b)),true,0)else if op=18 then (dG (decide (b<=a)),true,0)else j9
def kl(op a b:Int)(t:Bool):Int×Bool×Int:=
 if t=true then (if (a≠0/\a≠1)\/(b≠0/\b≠1)then j9 else Eu op a b)else A7 op a b
def xP(e b:Int):Int:=if e<b then e+1 else e
def rK(k a b q e:Int):List Int:=
 if k=10 then (if a=0 then [a,b,0,0]else [a,b,dG (decide (b<=xP e b)),xP e b])
 else if k=11 then (if a=0 then (if q=0 then [a,b,q,e]else [a,b,dG (decide (xP e b<b)),xP e b])else [a,b,1,0])
 else [a,b,q,e]
def Yj(a b q e p r:Int):List Int:=
 let E:=if a≠0/\p=0/\r=0 then 1 else r
 let D:=if a≠0/\p=0/\r=0 then 0 else e
 if E=0 then [a,b,q,D,dG (decide (a≠0)),E]else [a,b,dG (decide (D<b)),xP D b,dG (decide (a≠0)),dG (decide (D<b))]
def Yk(a s v q c p:Int):List Int:=
 let A:=if s≠0 then 0 else if a≠0/\p=0/\c<9223372036854775807 then c+1 else c
 [a,s,v,dG (decide (v<=A)),A,dG (decide (a≠0))]
def Yl(a s v q c p:Int):List Int:=
 let A:=if s≠0 then v else if a≠0/\p=0/\ -9223372036854775808<c then c-1 else c
 [a,s,v,dG (decide (A<=0)),A,dG (decide (a≠0))]
def nh(k a b q e p r:Int):List Int:=
 if k=12 then Yj a b q e p r else if k=13 then Yk a b q e p r else if k=14 then Yl a b q e p r else [a,b,q,e,p,r]
def rL(k a b q:Int):List Int:=
 if k=15 then [a,dG (decide (a≠0/\q=0)),dG (decide (a≠0))]else if k=16 then [a,dG (decide (a=0/\q≠0)),dG (decide (a≠0))]
 else if k=17 then [a,b,dG (decide (a≠0\/(q≠0/\b=0)))]else if k=18 then [a,b,dG (decide (b=0/\(q≠0\/a≠0)))]else [a,b,q]
def gg(k:Int):List Int->List Int
 |[a,b,q]=>rL k a b q
 |[a,b,q,e]=>rK k a b q e
 |[a,b,q,e,p,r]=>nh k a b q e p r
 |c=>c
end Go.Am
end
section
namespace Go.Am
inductive Ends(succ:Nat->List Nat):Nat->Prop
 |mk (i:Nat) (h:∀j∈succ i,Ends succ j):Ends succ i
inductive Way(succ:Nat->List Nat):Nat->Nat->Prop
 |one {i j} (h:j∈succ i):Way succ i j
 |more {i j k} (h:Way succ i j) (J:k∈succ j):Way succ i k
theorem Way.trans{succ:Nat->List Nat}{i j k:Nat}(h:Way succ i j)(J:Way succ j k):Way succ i k:=by
 induction J with
 |one M=>exact .more h M
 |more _ M ih=>exact .more ih M
def fresh(A:List Nat):Nat:=A.countP (·== 0)
structure An(succ:Nat->List Nat)(A H:List Nat):Prop where
 len:H.length=A.length
 adm:∀i,H.getD i 0=1↔A.getD i 0=1
 black:∀i,A.getD i 0=2->H.getD i 0=2
 adn:(∀i,A.getD i 0<=2)->∀i,H.getD i 0<=2
 ends:(∀i,A.getD i 0=2->Ends succ i)->∀i,H.getD i 0=2->Ends succ i
 fresh:fresh H<=fresh A
theorem An.refl(succ:Nat->List Nat)(s:List Nat):An succ s s:=⟨rfl,λ_=>Iff.rfl,λ_ h=>h,λh=>h,λh=>h,aai _⟩
theorem An.trans{succ:Nat->List Nat}{a b c:List Nat}(h:An succ a b)(k:An succ b c):An succ a c:=
 ⟨by rw[k.len,h.len],λi=>(k.adm i).trans (h.adm i),λi hi=>k.black i (h.black i hi),λN=>k.adn (h.adn N),λhe=>k.ends (h.ends he),ag6 k.fresh h.fresh⟩
def left(g:List Bool):Nat:=g.countP (·== false)
structure wV(succ:Nat->List Nat)(s D:List Bool×Bool):Prop where
 len:D.1.length=s.1.length
 ends:(∀i<s.1.length,s.1.getD i true=true->Ends succ i)->∀i<s.1.length,D.1.getD i true=true->Ends succ i
 less:D.2=true->s.2=false->left D.1<left s.1
 le:left D.1<=left s.1
 more:s.2=true->D.2=true
 same:D.2=false->D=s
theorem wV.trans{succ:Nat->List Nat}{a b c:List Bool×Bool}(h:wV succ a b)(k:wV succ b c):wV succ a c:=
 ⟨by
  rw[k.len,h.len],λhe=>by have:=k.ends;rw[h.len]at this;exact this (h.ends he),λE J=>by
  cases I:b.2 with
  |true=>exact Nat.lt_of_le_of_lt k.le (h.less I J)
  |false=>exact afQ (k.less E I) h.le,ag6 k.le h.le,λE=>k.more (h.more E),λE=>by
  cases I:b.2 with
  |true=>rw[k.more I]at E;cases E
  |false=>rw[k.same E,h.same I]⟩
structure aU where
 op:Int
 a:Int
 b:Int
 n:Int
 m:Int
def ni(cells at_ n:Int):Bool:=decide (0<=at_)&&decide (0<=n)&&decide (n<=cells)&&decide (at_<=cells-n)
def ahG(x:aU):Bool:=
 if x.a=0 then decide (x.b=6)||decide (8<=x.b)&&decide (x.b<=18)
 else if x.a=1 then decide (x.b=7)||decide (x.b=13)||decide (x.b=14)||decide (19<=x.b)&&decide (x.b<=21)
 else false
def Pz(cells:Int)(x:aU):Bool:=decide (0<=x.n)&&decide (x.n<=x.m)&&decide (x.m<=255)&&ni cells x.a (x.m-x.n+1)
def Ym(A:Int->Nat)(cells last at_:Int)(x:aU):Bool:=
 if x.op=1\/x.op=11 then true
 else if x.op=2\/x.op=3\/x.op=6\/x.op=14 then ni cells x.a 1
 else if x.op=13 then ni cells x.a 1&&ni cells x.b 2
 else if x.op=4\/x.op=5\/x.op=7 then Pz cells x
 else if x.op=8 then ahG x
 else if x.op=9\/x.op=10 then decide (0<=x.a)&&decide (x.a<=last)
 else if x.op=12 then decide (0<A x.b)&&ni cells x.a (A x.b)
 else if x.op=15 then decide (at_=last)
 else false
def Ew(n:Nat)(t:Bool)(S:List Bool):Option (List Bool):=
 if S.length<n then none else if t&&(S.drop (S.length-n)).any (λb=>!b)then none else some (S.take (S.length-n))
def Ap(t:Bool)(S:List Bool):Option (List Bool):=if S.length<64 then some (S++[t])else none
def SZ(S:List Bool):Option (List Bool):=if S=[]then some []else none
def qA(x:aU)(S:List Bool):Option (List Bool):=
 if x.op=1 then Ap (decide (x.n=0)||decide (x.n=1)) S
 else if x.op=2 then Ap false S
 else if x.op=3\/x.op=13\/x.op=14 then Ap true S
 else if x.op=4 then (Ew 1 false S).bind (Ap false)
 else if x.op=5 then (Ew 1 false S).bind (Ap true)
 else if x.op=6 then Ew 1 false S
 else if x.op=7 then Ew 2 false S
 else if x.op=8 then (Ew (if x.b=6\/x.b=7 then 1 else 2) (decide (x.a=1)) S).bind (Ap (decide (x.b=7)||decide (13<=x.b)))
 else if x.op=10 then (Ew 1 true S).bind SZ
 else SZ S
def ahH(ins:List aU)(i:Nat):List Nat:=
 match ins[i]? with
 |none=>[]
 |some x=>if x.op=9 then [x.a.toNat]else if x.op=10 then [i+1,x.a.toNat]else if x.op=15 then []else [i+1]
end Go.Am
end
section
namespace Go.Am
open Go
noncomputable def oq(X:Ctx)(f:FuncId)(c:Code)(S:St)(A:List DF):XD:=fQ λk=>ib X f (aF X k) k c S A
noncomputable def Dg(X:Ctx)(f:FuncId)(E:AV)(c:Code)(S:St):Option (XE×St):=fQ λk=>mE X f (aF X k) k E c S
noncomputable def wW(X:Ctx):bj:=λg args cs=>fQ λk=>mc X k (aF X k) g args cs
abbrev zx:=XE->St->List DF->bW
noncomputable def iS(X:Ctx)(f:FuncId)(c:Code)(S:St)(A:List DF)(k:zx):bW:=(oq X f c S A).bind λp=>k p.1 p.2.1 p.2.2
noncomputable def wX(X:Ctx)(md:Bool)(all ops:List Oper)(S:St)(A:List DF)(k:zx):bW:=(eX X (ah X) md all ops S A).bind λp=>k p.1 p.2.1 p.2.2
noncomputable def Dh(X:Ctx)(f:FuncId)(b:Code)(k:zx):zx
 | .normal,S,A=>iS X f b S A k
 |e,S,A=>k e S A
def Ey(X:Ctx)(f:FuncId)(id:Nat)(k:zx):zx
 | .normal,S,A=>k .normal (S.leave X f id) A
 |e,S,A=>k e S A
noncomputable def It(X:Ctx)(md:Bool)(all r:List Oper)(A:List DF)(k:zx):Kt
 | .normal,S=>wX X md all r S A k
 |e,S=>k e S A
noncomputable def GA(X:Ctx)(md:Bool)(all r:List Oper)(o:Oper)(S:St)(A:List DF)(k:zx):Option DF->bW
 |some d=>wX X md all r (S.put o.dst true .aY) (d::A) k
 |none=>runK X md all [o] S (It X md all r A k)
section
variable {X:Ctx} {f:FuncId} {S:St} {A:List DF} {md:Bool}
theorem uO(all:List Oper):∀(ops:List Oper)(S:St)(A:List DF),fQ (λk=>eX X (aF X k) md all ops S A)=eX X (ah X) md all ops S A
 |[],S,A=>aN _
 |o::r,S,A=>by
  simp only[eX];cases gA S o with
  |some d=>exact uO all r _ _
  |none=>
   simp only[BP];rw[dA (g:=λx n=>nT (λS1=>eX X (aF X n) md all r S1 A) A x) (rI (bp X) all) (λx=>by
    obtain⟨e,S1⟩:=x;cases e with
    |normal=>exact lR (bp X) all r S1 A
    |_=>exact aH.const _),FK]
   congr 1;funext x;obtain⟨e,S1⟩:=x;cases e with
   |normal=>exact uO all r S1 A
   |_=>exact aN _
theorem dmD(c:Code)(S:St)(A:List DF):aH (λk=>ib X f (aF X k) k c S A):=FJ (bp X) f (m:=λk=>k) (λk=>akw k) c S A
theorem S5{a b:Code}:oq X f (.seq a b) S A=HL (oq X f b) (oq X f a S A):=by
 unfold oq;simp only[ib,KX];rw[dA (g:=λx n=>sT (ib X f (aF X n) n b) x) (dmD a S A) (λx=>by
  obtain⟨e,S1,D⟩:=x;cases e with
  |normal=>exact dmD b S1 D
  |_=>exact aH.const _)]
 congr 1;funext x;obtain⟨e,S1,D⟩:=x;cases e<;>first|rfl|exact aN _
theorem lS{c:Code}(h:∀k,ib X f (aF X k) k c S A=wD A (den X f (aF X k) k c S)):oq X f c S A=wD A (fg X f c S):=by
 unfold oq fg;have:(λk=>ib X f (aF X k) k c S A)=λk=>(den X f (aF X k) k c S).bind λq=>dT A q:=by
  funext k;rw[h,En]
 rw[this,dA (dm c S) (λ_=>aH.const _),En];simp only[aN]
theorem S6{id:Nat}{ops:Array Oper}(h:lO ops.toList=true):oq X f (.region id ops false) S A=yQ (St.leave X f id) (eX X (ah X) (X.md f id) ops.toList ops.toList S A):=by
 unfold oq;have:(λk=>ib X f (aF X k) k (.region id ops false) S A)=λk=>(eX X (aF X k) (X.md f id) ops.toList ops.toList S A).bind λq=>lT (St.leave X f id) q:=by
  funext k;simp only[ib,h,Bool.not_false,Bool.and_self,ze]
 rw[this,dA (lR (bp X) _ _ _ _) (λ_=>aH.const _),uO,ze];simp only[aN]
variable {k:zx}
theorem S7{a b:Code}:iS X f (.seq a b) S A k=iS X f a S A (Dh X f b k):=by
 simp only[iS,S5];rcases oq X f a S A with _|⟨e,S1,D⟩
 ·rfl
 ·cases e<;>rfl
theorem lU{c:Code}(h:oq X f c S A=wD A (fg X f c S)):iS X f c S A k=aI X f c S λe S=>k e S A:=by
 simp only[iS,aI,h];rcases fg X f c S with _|⟨e,S1⟩<;>rfl
theorem PA{o:Operand}{a b:Code}:iS X f (.cond o a b) S A k=aI X f (.cond o a b) S λe S=>k e S A:=lU (lS λ_=>rfl)
theorem S8:iS X f .ret S A k=aI X f .ret S λe S=>k e S A:=lU (lS λ_=>rfl)
theorem PB:iS X f .skip S A k=aI X f .skip S λe S=>k e S A:=lU (lS λ_=>rfl)
theorem PC{c:Code}:iS X f (.loop c) S A k=aI X f (.loop c) S λe S=>k e S A:=lU (lS λ_=>rfl)
theorem Kl{id:Nat}{c:Code}:iS X f (.block id c) S A k=aI X f (.block id c) S λe S=>k e S A:=lU (lS λ_=>rfl)
theorem PD{id:Nat}{ops:Array Oper}:iS X f (.region id ops true) S A k=aI X f (.region id ops true) S λe S=>k e S A:=lU (lS λ_=>rfl)
theorem S9{id:Nat}{l:List Oper}:iS X f (.region id ⟨l⟩ false) S A k=if lO l=true then wX X (X.md f id) l l S A (Ey X f id k)else aI X f (.region id ⟨l⟩ false) S λe S=>k e S A:=by
 split
 ·rename_i h;simp only[iS,wX,S6 (ops:=⟨l⟩) h];rcases eX X (ah X) (X.md f id) l l S A with _|⟨e,S1,D⟩
  ·rfl
  ·cases e<;>rfl
 ·rename_i h;exact lU (lS λ_=>by simp[ib,h])
theorem Ta{all:List Oper}:wX X md all [] S A k=k .normal S A:=rfl
theorem PE{all r:List Oper}{o:Oper}:wX X md all (o::r) S A k=GA X md all r o S A k (gA S o):=by
 simp only[wX,eX];cases gA S o with
 |some d=>rfl
 |none=>
  simp only[GA,runK,eQ,BP,wP];rcases mb X (ah X) md all S o with _|⟨e,S1⟩
  ·rfl
  ·cases e<;>rfl
end
noncomputable def Aq(X:Ctx)(p:aw)(D:Nat)(rs:List ResultVar):zx
 |e,S,[]=>uM X.P p D rs e S
 |e,S,[d]=>rE X p D rs (wW X) S d (BD e)
 |_,_,_=>none
noncomputable def rN(X:Ctx)(f:FuncId)(A:AV)(c:Code)(S:St)(k:Kt):bW:=(Dg X f A c S).bind λp=>k p.1 p.2
def Di(P:Program)(p:aw)(D:Nat)(rs:List ResultVar):Kt
 | .normal,S=>finish P p D rs S
 | .ret,S=>finish P p D rs S
 |_,_=>none
section
variable {X:Ctx} {f:FuncId} {S:St}
theorem pT(X:Ctx):ea λk=>mc X k (aF X k):=C8 (bp X) (m:=λk=>k) (λk=>akw k)
theorem Km{C:Nat->bj}(Y:ea C)(m:Mem)(V:Nat)(g:FuncId)(E:List AV)(mt:List Nat):fQ (λk=>dt (C k) m V g E mt)=dt (λg a c=>fQ λk=>C k g a c) m V g E mt:=by
 unfold dt kW kV;simp only[uI];rw[dA (Y _ _ _) (λ_=>aH.const _)];simp only[aN]
theorem Tb(p:aw)(D:Nat)(rs:List ResultVar)(d:DF)(A:Option AV):fQ (λk=>rE X p D rs (mc X k (aF X k)) S d A)=rE X p D rs (wW X) S d A:=by
 cases A with
 |none=>exact aN _
 |some A=>
  simp only[rE,K0,KZ S (dt _ _ _ _ _ _)];rw[dA (g:=λS _=>finish X.P p D rs S) ((mY (pT X) _ _ _ _ _).bind (g:=λc _=>sK S (some c)) λ_=>aH.const _) (λ_=>aH.const _),
   dA (g:=λc _=>sK S (some c)) (mY (pT X) _ _ _ _ _) (λ_=>aH.const _),Km (pT X)]
  simp only[aN];rfl
theorem FM{fn:Func}{c:Code}{args:List AV}{cs:List ay}{n:Nat}{rs:List ResultVar}{p:aw}(Z:X.ov=none)(y:X.vj f=none)(H:X.P.funcs[f]?=some fn)(I:fn.body=some c)(A':uC c=true)(J:fn.ntmps=n)(M:fn.results.toList=rs)
 (N:X.fp f=p) (O:iM n p args cs=true):ah X f args cs=iS X f c (entry n X.gl args cs p.sites) [] (Aq X p cs.length rs):=by
 subst N;subst J;subst M;unfold ah;rw[<-tS (bp X f args cs)];have T:(λk=>aF X (k+1) f args cs)=λk=>(ib X f (aF X k) k c (entry fn.ntmps X.gl args cs (X.fp f).sites) []).bind λq=>uB X (X.fp f) cs.length fn.results.toList (mc X k (aF X k)) (some q):=by
  funext k;rw[aF,Z,y,H];simp only[I,A',vo,vn];rw[aap (by simpa only[iM]using O),K1]
 rw[T,dA (g:=λq k=>uB X (X.fp f) cs.length fn.results.toList (mc X k (aF X k)) (some q)) (dmD c _ _) (λq=>C9 (pT X) _ _ _ q)];simp only[iS];congr 1;funext q;obtain⟨e,S1,A0⟩:=q;match A0 with
 |[]=>
  simp only[uB,Aq,aN];cases e<;>rfl
 |[d]=>exact Tb _ _ _ _ _
 |_::_::_=>exact aN _
theorem K3{fn:Func}{c:Code}{args E:List AV}{A:AV}{cs:List ay}{n:Nat}{rs:List ResultVar}{p:aw}(H:X.P.funcs[f]?=some fn)(I:fn.body=some c)(J:fn.ntmps=n)(M:fn.results.toList=rs)
 (N:X.fp f=p) (A1:args.getLast?=some A) (A2:args.dropLast=E) (O:iM n p E cs=true):wW X f args cs=rN X f A c (entry n X.gl E cs p.sites) (Di X.P p cs.length rs):=by
 subst N;subst J;subst M;subst A2;unfold wW;have T:(λk=>mc X k (aF X k) f args cs)=λk=>(mE X f (aF X k) k A c (entry fn.ntmps X.gl args.dropLast cs (X.fp f).sites)).bind λq=>O5 X.P (X.fp f) cs.length fn.results.toList (some q):=by
  funext k;simp only[mc,H,I,vm,A1];rw[aap (by simpa only[iM]using O),KY]
 rw[T,dA (zh (bp X) f (m:=λk=>k) (λk=>akw k) A c _) (λ_=>aH.const _)];simp only[rN,aN];congr 1;funext q;obtain⟨e,S1⟩:=q;cases e<;>rfl
variable {k:Kt} {A:AV}
theorem Tc{a b:Code}:rN X f A (.seq a b) S k=rN X f A a S (zn X f b k):=by
 have h:Dg X f A (.seq a b) S=andThen (Dg X f A a S) (fg X f b):=
  uL (F:=λn=>mE X f (aF X n) n A a S) (K:=λU n=>den X f (aF X n) n b U) (zh (bp X) f (m:=λk=>k) (λk=>akw k) A a S) (λU=>dm b U)
 simp only[rN,h,sS];congr 1;funext q;obtain⟨e,S1⟩:=q;cases e<;>rfl
theorem zy{id:Nat}{o:Oper}{r:List Oper}(h:tK o=true):rN X f A (.region id ⟨o::r⟩ false) S k=runK X (X.md f id) (o::r) r (S.put o.dst true A) (zp X f id k):=by
 have A3:Dg X f A (.region id ⟨o::r⟩ false) S=uA (St.leave X f id) (eQ X (ah X) (X.md f id) (o::r) r (S.put o.dst true A)):=by
  unfold Dg;have:(λk=>mE X f (aF X k) k A (.region id ⟨o::r⟩ false) S)=λk=>(eQ X (aF X k) (X.md f id) (o::r) r (S.put o.dst true A)).bind λq=>mT (St.leave X f id) q:=by
   funext k;simp only[mE,h,adI,px]
  rw[this,dA (jG (bp X) _ _ _) (λ_=>aH.const _),rJ,px];simp only[aN]
 simp only[rN,runK,A3];rcases eQ X (ah X) (X.md f id) (o::r) r (S.put o.dst true A)with _|⟨e,S1⟩
 ·rfl
 ·cases e<;>rfl
end
def Ctx.over(X:Ctx)(E:bj):Ctx:={X with ov:=some E}
section
variable {X:Ctx} {E C:bj} {f:FuncId}
@[simp] theorem atz:(X.over E).P=X.P:=rfl
@[simp] theorem aq0:(X.over E).gl=X.gl:=rfl
@[simp] theorem akH:(X.over E).pa=X.pa:=rfl
@[simp] theorem aq1:(X.over E).gh=X.gh:=rfl
@[simp] theorem aq2:(X.over E).md=X.md:=rfl
@[simp] theorem aq3:(X.over E).fp=X.fp:=rfl
@[simp] theorem aq4:(X.over E).od=X.od:=rfl
@[simp] theorem aq5:(X.over E).fl=X.fl:=rfl
@[simp] theorem ahI:ah (X.over E)=E:=by
 funext g a c;unfold ah;rw[<-tS (bp (X.over E) g a c)];have:(λn=>aF (X.over E) (n+1) g a c)=λ_=>E g a c:=rfl;rw[this,aN]
end
inductive PR(D A α:Type) where
 |ok (a:α) (s:A)
 |bad (e:D) (s:A)
 |out
section
variable {D A α β H:Type}
def PR.el(r:PR D A α)(f:α->A->Option β)(g:D->A->Option β):Option β:=
 match r with
 | .ok a s=>f a s
 | .bad e s=>g e s
 | .out=>none
@[simp] theorem awp{a:α}{s:A}{f:α->A->Option β}{g:D->A->Option β}:(PR.ok a s).el f g=f a s:=rfl
@[simp] theorem atA{e:D}{s:A}{f:α->A->Option β}{g:D->A->Option β}:(PR.bad e s).el f g=g e s:=rfl
@[simp] theorem atB{f:α->A->Option β}{g:D->A->Option β}:(PR.out:PR D A α).el f g=none:=rfl
@[simp] theorem atC{c:Prop}[Decidable c]{a b:PR D A α}{f:α->A->Option β}{g:D->A->Option β}:(if c then a else b).el f g=if c then a.el f g else b.el f g:=by split<;>rfl
def PR.bind(r:PR D A α)(k:α->A->PR D A H):PR D A H:=
 match r with
 | .ok a s=>k a s
 | .bad e s=>.bad e s
 | .out=>.out
@[simp] theorem aq6{a:α}{s:A}{k:α->A->PR D A H}:(PR.ok a s).bind k=k a s:=rfl
@[simp] theorem amr{e:D}{s:A}{k:α->A->PR D A H}:(PR.bad e s:PR D A α).bind k=.bad e s:=rfl
@[simp] theorem ams{k:α->A->PR D A H}:(PR.out:PR D A α).bind k=.out:=rfl
@[simp] theorem aq7{r:PR D A α}{k:α->A->PR D A H}{f:H->A->Option β}{g:D->A->Option β}:(r.bind k).el f g=r.el (λa s=>(k a s).el f g) g:=by cases r<;>rfl
@[simp] theorem awq{r:PR D A α}{f:α->A->Option β}{g:D->A->Option β}:r.el (λa s=>f a s) (λe s=>g e s)=r.el f g:=rfl
theorem adp{I:Nat}{b:Bool}{r:PR D A α}{f:α->A->bW}{g:D->A->bW}:pr I b (r.el f g)=r.el (λa s=>pr I b (f a s)) (λe s=>pr I b (g e s)):=by cases r<;>rfl
theorem aa7{m:Mem}{J:Nat}{ρ B:List Nat}{r:PR D A α}{f:α->A->bW}{g:D->A->bW}:eP m J ρ B (r.el f g)=r.el (λa s=>eP m J ρ B (f a s)) (λe s=>eP m J ρ B (g e s)):=by cases r<;>rfl
theorem Wc{X:Ctx}{md:Bool}{S:St}{d:Option Nat}{all q:List Oper}{k:Kt}{r:PR D A α}{f:α->A->Option eF}{g:D->A->Option eF}:pR X md S d all q k (r.el f g)=r.el (λa s=>pR X md S d all q k (f a s)) (λe s=>pR X md S d all q k (g e s)):=by cases r<;>rfl
theorem Td{X:Ctx}{md:Bool}{M:Nat×List (List Nat)}{S:St}{d:Option Nat}{all q:List Oper}{N:List aW}{k:Kt}{r:PR D A α}{f:α->A->Option eF}{g:D->A->Option eF}:kQ X md M S d all q N k (r.el f g)=r.el (λa s=>kQ X md M S d all q N k (f a s)) (λe s=>kQ X md M S d all q N k (g e s)):=by cases r<;>rfl
def Le(a b:Option β):Prop:=∀r,a=some r->b=some r
theorem Le.refl(a:Option β):Le a a:=λ_ h=>h
theorem Le.trans{a b c:Option β}(h:Le a b)(k:Le b c):Le a c:=λr Y=>k r (h r Y)
theorem Le.none{b:Option β}:Le none b:=λ_ h=>by cases h
theorem Le.el{r:PR D A α}{f O:α->A->Option β}{g T:D->A->Option β}(Z:∀a s,Le (f a s) (O a s))(y:∀e s,Le (g e s) (T e s)):Le (r.el f g) (r.el O T):=by
 cases r with
 |ok a s=>exact Z a s
 |bad e s=>exact y e s
 |out=>exact Le.none
theorem Le.ite{c:Prop}[Decidable c]{a b U V:Option β}(h:c->Le a U)(A':¬c->Le b V):Le (if c then a else b) (if c then U else V):=by
 split
 ·exact h ‹_›
 ·exact A' ‹_›
end
end Go.Am
end
section
namespace Go.Am
abbrev Tx:=List UInt8
def pz(c:UInt8):Bool:=decide (65<=c.toNat)&&decide (c.toNat<=90)||decide (97<=c.toNat)&&decide (c.toNat<=122)
def ot(c:UInt8):Bool:=decide (48<=c.toNat)&&decide (c.toNat<=57)
def eB(c:UInt8):Bool:=pz c||ot c||decide (c.toNat=95)
def vz(c:UInt8):Bool:=decide (c.toNat=32)||decide (c.toNat=10)||decide (c.toNat=9)
def fo(c:UInt8):Nat:=if ot c then c.toNat-48 else if 65<=c.toNat/\c.toNat<=70 then c.toNat-65+10 else 99
def jq(p:Int×Int)(c:UInt8):Int×Int:=if c=10 then (p.1+1,1)else (p.1,p.2+1)
def fq(s:Tx):Int×Int:=s.foldl jq (1,1)
theorem Dj:∀(s:Tx)(p:Int×Int)(n:Nat),1<=p.1->p.1<=n->1<=p.2->p.2<=n->1<=(s.foldl jq p).1/\(s.foldl jq p).1<=n+s.length/\1<=(s.foldl jq p).2/\(s.foldl jq p).2<=n+s.length
 |[],p,n,D,I,J,M=>by simp;omega
 |c::r,p,n,D,I,J,M=>by
  have h:=Dj r (jq p c) (n+1) (by unfold jq;split<;>simp<;>omega) (by unfold jq;split<;>simp<;>omega) (by unfold jq;split<;>simp<;>omega) (by unfold jq;split<;>simp<;>omega);simp only[afH,ab1];omega
theorem Tf{s:Tx}{i:Nat}:1<=(fq (s.take i)).1/\(fq (s.take i)).1<=s.length+1/\1<=(fq (s.take i)).2/\(fq (s.take i)).2<=s.length+1:=by
 have h:=Dj (s.take i) (1,1) 1 (by simp) (by simp) (by simp) (by simp);have N:(s.take i).length<=s.length:=by simp;omega
 unfold fq;omega
theorem zz{s:Tx}{i:Nat}(h:i<s.length):fq (s.take (i+1))=jq (fq (s.take i)) s[i]:=by
 unfold fq;rw[List.take_add_one,acB h,List.foldl_append];rfl
def me:Tx->Option Nat
 |[]=>none
 |c::r=>if c=42/\r.head?=some 41 then some 0 else (me r).map (·+1)
def gZ(s:Tx):Nat:=(s.takeWhile (·≠10)).length
theorem Iu(s:Tx):gZ s<=s.length:=by unfold gZ;exact (agD _).length_le
theorem Yn(a c:UInt8):(a == c)=decide (c=a):=by
 by_cases h:c=a
 ·simp[h]
 ·simp[h];exact λe=>h e.symm
theorem vA:∀(t:Tx),Go.Lib.indexByte t 10=if gZ t<t.length then (gZ t:Int)else-1
 |[]=>rfl
 |c::r=>by
  have ih:=vA r;unfold Go.Lib.indexByte;by_cases A:c=10
  ·subst A;simp[gZ]
  ·have e:gZ (c::r)=gZ r+1:=by simp[gZ,A]
   rw[e,ih];simp only[beq_iff_eq,A,acF,ab1];by_cases h:gZ r<r.length
   ·simp only[aap h];rw[aah (by omega),aap (by omega)];omega
   ·simp[h]
theorem wY:∀{t:Tx}{m:Nat},me t=some m->m+2<=t.length
 |[],m,h=>by cases h
 |c::r,m,h=>by
  unfold me at h;split at h
  ·rename_i A;cases h;cases r with
   |nil=>simp at A
   |cons d r=>simp
  ·cases E:me r with
   |none=>rw[E]at h;cases h
   |some n=>
    rw[E]at h;cases h;have:=wY E;simp;omega
theorem FN:∀(t:Tx),Go.Lib.index t [42,41]=match me t with|none=> -1|some m=>(m:Int)
 |[]=>rfl
 |c::r=>by
  have ih:=FN r;unfold Go.Lib.index me;have e:(([42,41]:Tx).isPrefixOf (c::r))=decide (c=42/\r.head?=some 41):=by
   cases r with
   |nil=>simp[List.isPrefixOf]
   |cons d r=>simp[List.isPrefixOf,Yn]
  rw[e,ih];by_cases A:c=42/\r.head?=some 41
  ·simp[A]
  ·rw[aah A];simp only[A,decide_false,aky,acF];cases E:me r with
   |none=>simp
   |some n=>simp
theorem Dk(a b c:UInt8)(r:Tx):Go.Lib.hasPrefix (c::r) [a,b]=(decide (c=a)&&decide (r.head?=some b)):=by
 unfold Go.Lib.hasPrefix;cases r with
 |nil=>simp[List.isPrefixOf]
 |cons d r=>simp[List.isPrefixOf,Yn]
def eY:Nat->Tx->Nat×Bool
 |0,_=>(0,true)
 |_+1,[]=>(0,true)
 |f+1,c::r=>
  if vz c then (1+(eY f r).1,(eY f r).2)
  else if c=47/\r.head?=some 47 then (gZ (c::r)+(eY f ((c::r).drop (gZ (c::r)))).1,(eY f ((c::r).drop (gZ (c::r)))).2)
  else if c=40/\r.head?=some 42 then match me r.tail with
   |none=>(0,false)
   |some m=>(m+4+(eY f ((c::r).drop (m+4))).1,(eY f ((c::r).drop (m+4))).2)
  else (0,true)
def nj(s:Tx):Nat×Nat:=if [49,54,35].isPrefixOf s then (16,3)else if [56,35].isPrefixOf s then (8,2)else if [50,35].isPrefixOf s then (2,2)else (10,0)
def Ez(base:Nat):Nat->Tx->Option Nat
 |x,[]=>some x
 |x,c::r=>if (9223372036854775807-fo c)/base<x then none else Ez base (x*base+fo c) r
def BV(s:Tx)(b h:Nat)(H:Tx):Nat×Nat×Nat:=
 if H=[]\/(∃c,s[h+H.length]?=some c/\(eB c=true\/c=35))then (0,0,5)
 else match Ez b 0 H with
  |none=>(0,0,2)
  |some x=>(h+H.length,x,0)
def mF(s:Tx):Nat×Nat×Nat:=BV s (nj s).1 (nj s).2 ((s.drop (nj s).2).takeWhile (λc=>decide (fo c<(nj s).1)))
def zA:Tx:=[43,45,42,47,40,41,91,93,46,44,59,58,60,62,61]
def Iw:List Tx:=[[58,61],[60,61],[62,61],[60,62],[46,46]]
def rO(s:Tx):Nat:=if Iw.any (λp=>p.isPrefixOf s)then 2 else match s with
 |[]=>0
 |c::_=>if c∈zA then 1 else 0
theorem Ar:∀(f:Nat)(t:Tx),(eY f t).1<=t.length
 |0,_=>by simp[eY]
 |_+1,[]=>by simp[eY]
 |f+1,c::r=>by
  unfold eY;split
  ·have:=Ar f r;simp;omega
  ·split
   ·have D:=Ar f ((c::r).drop (gZ (c::r)));have I:=Iu (c::r);simp only[acL]at D;simp only;omega
   ·split
    ·split
     ·simp
     ·rename_i m hm;have D:=Ar f ((c::r).drop (m+4));have I:=wY hm;have J:r.tail.length=r.length-1:=by simp
      simp only[acL,ab1]at D⊢;omega
    ·simp
def Tg:Tx:=[80,82,79,71,82,65,77,32,69,78,68,95,80,82,79,71,82,65,77,32,86,65,82,32,86,65,82,95,73,78,80,85,84,32,86,65,82,95,79,85,84,80,85,84,32,69,78,68,95,86,65,82,32,73,78,84,32,66,79,79,76,32,65,82,82,65,89,32,79,70,32,84,82,85,69,32,70,65,76,83,69,32,73,70,32,84,72,69,78,32,69,76,83,73,70,32,69,76,83,69,32,69,78,68,95,73,70,32,67,65,83,69,32,69,78,68,95,67,65,83,69,32,70,79,82,32,84,79,32,66,89,32,68,79,32,69,78,68,95,70,79,82,32,87,72,73,76,69,32,69,78,68,95,87,72,73,76,69,32,82,69,80,69,65,84,32,85,78,84,73,76,32,69,78,68,95,82,69,80,69,65,84,32,69,88,73,84,32,82,69,84,85,82,78,32,65,78,68,32,79,82,32,88,79,82,32,78,79,84,32,77,79,68]
def jr:List Tx:=[[80,82,79,71,82,65,77],[69,78,68,95,80,82,79,71,82,65,77],[86,65,82],[86,65,82,95,73,78,80,85,84],[86,65,82,95,79,85,84,80,85,84],[69,78,68,95,86,65,82],[73,78,84],[66,79,79,76],[65,82,82,65,89],[79,70],[84,82,85,69],[70,65,76,83,69],[73,70],[84,72,69,78],[69,76,83,73,70],[69,76,83,69],[69,78,68,95,73,70],[67,65,83,69],[69,78,68,95,67,65,83,69],[70,79,82],[84,79],[66,89],[68,79],[69,78,68,95,70,79,82],[87,72,73,76,69],[69,78,68,95,87,72,73,76,69],[82,69,80,69,65,84],[85,78,84,73,76],[69,78,68,95,82,69,80,69,65,84],[69,88,73,84],[82,69,84,85,82,78],[65,78,68],[79,82],[88,79,82],[78,79,84],[77,79,68]]
def tW(s:Tx):Bool:=decide (s∈jr)
structure eJ where
 kind:Int
 text:Tx
 n:Int
 line:Int
 Dl:Int
 deriving DecidableEq
def jN(s:Tx):Nat×Nat×Nat×Nat:=
 match s with
 |[]=>(5,0,0,0)
 |c::_=>
  if pz c then
   if tW (s.take (s.takeWhile eB).length)then (0,2,(s.takeWhile eB).length,0)
   else if 16<(s.takeWhile eB).length then (9,1,0,0)else (0,1,(s.takeWhile eB).length,0)
  else if ot c then
   if (mF s).2.2=0 then (0,3,(mF s).1,(mF s).2.1)else ((mF s).2.2,0,0,0)
  else if rO s=0 then (5,0,0,0)else (0,4,rO s,0)
def here(p:Int×Int):eJ:=⟨0,[],0,p.1,p.2⟩
def BW(s:Tx):Nat->Nat->List eJ->List eJ×Nat×eJ
 |0,_,_=>([],5,⟨0,[],0,0,0⟩)
 |f+1,i,out=>
  if (eY (s.length+1) (s.drop i)).2=false then ([],5,here (fq (s.take (i+(eY (s.length+1) (s.drop i)).1))))
  else if s.drop (i+(eY (s.length+1) (s.drop i)).1)=[]then (out++[here (fq (s.take (i+(eY (s.length+1) (s.drop i)).1)))],0,⟨0,[],0,0,0⟩)
  else if (jN (s.drop (i+(eY (s.length+1) (s.drop i)).1))).1≠0 then ([],(jN (s.drop (i+(eY (s.length+1) (s.drop i)).1))).1,here (fq (s.take (i+(eY (s.length+1) (s.drop i)).1))))
  else BW s f (i+(eY (s.length+1) (s.drop i)).1+(jN (s.drop (i+(eY (s.length+1) (s.drop i)).1))).2.2.1)
   (out++[⟨(jN (s.drop (i+(eY (s.length+1) (s.drop i)).1))).2.1,(s.drop (i+(eY (s.length+1) (s.drop i)).1)).take (jN (s.drop (i+(eY (s.length+1) (s.drop i)).1))).2.2.1,(jN (s.drop (i+(eY (s.length+1) (s.drop i)).1))).2.2.2,
    (fq (s.take (i+(eY (s.length+1) (s.drop i)).1))).1,(fq (s.take (i+(eY (s.length+1) (s.drop i)).1))).2⟩])
def EA(s:Tx):List eJ×Nat×eJ:=if 16384<s.length then ([],13,⟨0,[],0,1,1⟩)else BW s (s.length+1) 0 []
end Go.Am
end
