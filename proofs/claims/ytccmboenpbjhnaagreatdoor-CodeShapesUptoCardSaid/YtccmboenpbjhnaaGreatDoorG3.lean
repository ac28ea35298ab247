/-
  Texts of one proof, one behind the other.
-/
import Derived.Test.YtccmboenpbjhnaaGreatDoorG2
import Derived.Below
import Derived.Recover
import Derived.Orders
import Derived.Laws.BitsLemmas
import Derived.Laws.Bits64
import Derived.Lib.Mul64
set_option linter.all false
section
namespace Go.Am
open Go
abbrev Is(e:XE)(E:St):XE->St->Prop:=λe' B0=>e'=e/\B0=E
def Oh(P:Program)(S:St)(o:Oper)(e:XE)(E:St):Prop:=
 E.n=S.n/\E.gl=S.gl/\(e=.normal\/∃t x,e=.panic t x)/\∀φ G a w,Rel φ G S a w->∀(next:Act->World->Prop)(R:Exit->Act->World->Prop),
  (e=.normal->∀φ' AC w',Rel φ' G E AC w'->aX φ S.mem w φ' E.mem w'->next AC w')->
  (∀t x,e=.panic t x->∀φ' AC w' v,Rel φ' G E AC w'->aX φ S.mem w φ' E.mem w'->aQ w' (Fo G φ' E.mem) x v->R (.panic [{v:=.iface t v,recovered:=false}]) AC w')->o.wp P a w next R
theorem mu(S:St)(d g x):(S.put d g x).gl=S.gl:=by cases d<;>rfl
section
variable {X:Ctx} {A3:bE} {S E:St} {o:Oper} {e:XE}
theorem Ch{c:Bool}{x:AV}{gb:Bool}(AA:du X.P S o=.val c x)(A8:(gR S o&&c)=true)(I:∀t,o.dst=some t->t<S.n):Oh X.P S o .normal (S.put o.dst gb x):=by
 simp only[Ds]at A8;have:=J3 X.P S o A8.1;rw[AA]at this;refine⟨mW ..,mu ..,.inl rfl,λφ G a w H next R A5 _=>?_⟩;exact YN this A8.2 H I (λAC w' AG AH=>A5 rfl φ AC w' AG (by rw[fQ];exact AH))
theorem Oi{c:Bool}{x:AV}{Ad:cJ}(AA:du X.P S o=.dp c x Ad)(A8:(gR S o&&c)=true)(I:∀t,o.dst=some t->t<S.n):Oh X.P S o .normal (({S with mem:=Mem.set S.mem Ad}:St).put o.dst true x):=by
 simp only[Ds]at A8;have:=J3 X.P S o A8.1;rw[AA]at this;refine⟨mW ..,mu ..,.inl rfl,λφ G a w H next R A5 _=>?_⟩;exact YO this A8.2 H I (λφ' AC w' AG AH=>A5 rfl φ' AC w' AG (by rw[fQ];exact AH))
theorem Nz{m:Mem}{B1:Nat}{g:FuncId}{BN:List AV}{mt:List Nat}{out:Out}{es:List cJ}{ks:List Nat}(h:ef A3 m B1 g BN mt=some ⟨out,es,ks⟩):∀e∈es,e.key∈ks:=by
 unfold ef mE mD fY at h;split at h
 ·rename_i out B6 _;split at h
  ·rename_i A7;simp only[Ds,aa8]at A7;simp only[abp,fM.mk.injEq]at h;obtain⟨_,rfl,rfl⟩:=h;intro e he;obtain⟨j,v,c,AL,rfl⟩:=vO.1 he;have B7:=(aa1.1 AL).1;simp only[afO];generalize collect m 64 (lG mt 0 BN) []=ρ at A7 B7⊢;have B2:j<(ρ++List.range' (B1+1) (B6.length-ρ.length)).length:=by simp;omega
   have hm:=af8 B2;have Al:(ρ++List.range' (B1+1) (B6.length-ρ.length)).getD j 0=(ρ++List.range' (B1+1) (B6.length-ρ.length))[j]:=by
    rw[adN,adv B2];rfl
   rw[Al];rcases abo.1 hm with J|J
   ·exact ajo _ (ajo _ J)
   ·exact List.mem_append_right _ J
  ·cases h
 ·cases h
mutual
theorem VC:∀{x y:D},Bc x y=true->x=y
 |x,y,h=>by
  unfold Bc at h;split at h
  ·simp only[Ds,aa8]at h;obtain⟨rfl,rfl⟩:=h;rfl
  ·rw[adL h]
  ·rw[adL h]
  ·rw[Ci h]
  ·rw[Ci h]
  ·rfl
  ·cases h
theorem Ci:∀{x y:List D},yZ x y=true->x=y
 |x,y,h=>by
  unfold yZ at h;split at h
  ·rfl
  ·simp only[Ds]at h;rw[VC h.1,Ci h.2]
  ·cases h
end
theorem aea{x y:AV}(h:GQ x y=true):x=y:=by
 unfold GQ at h;split at h
 ·rw[VC h]
 ·simp only[Ds,aa8]at h;obtain⟨rfl,rfl,rfl⟩:=h;rfl
 ·simp only[Ds,aa8]at h;obtain⟨rfl,rfl,rfl,rfl⟩:=h;rfl
 ·cases h
theorem KC:∀{x y:List AV},Cg x y=true->x=y
 |[],[],_=>rfl
 |[],_::_,h=>by cases h
 |_::_,[],h=>by cases h
 |a::r,b::s,h=>by
  simp only[Cg,Ds]at h;rw[aea h.1,KC h.2]
theorem VD{x y:aH}(h:Be x y=true):x=y:=by
 unfold Be at h;split at h
 ·rw[KC h]
 ·simp only[Ds,aa8]at h;rw[h.1,Ci h.2]
 ·cases h
theorem KD:∀{m:Mem}{e:cJ},Mem.get m e.key=some e->Mem.set m e=m
 |[],_,_=>rfl
 |x::r,e,h=>by
  simp only[Mem.get]at h;simp only[Mem.set];split at h
  ·rename_i Z;cases h;rw[abf rfl]
  ·rename_i Z;rw[aa4 Z,KD h]
theorem Df:∀{es:List cJ}{m m':Mem}{ks:List Nat},rj m es=true->(∀e∈es,e.key∈ks)->(∀k∈ks,Mem.get m' k=Mem.get m k)->bH m' es=m'
 |[],_,_,_,_,_,_=>rfl
 |e::r,m,m',ks,h,Z,hm=>by
  simp only[rj,Ds]at h;have J:Mem.get m' e.key=some e:=by
   rw[hm _ (Z e (by simp))];obtain⟨h,_⟩:=h;cases U:Mem.get m e.key with
   |none=>rw[U]at h;cases h
   |some x=>
    rw[U]at h;simp only[Jb,Ds,aa8]at h;have Y:=(Mem.get_mem U).2;obtain⟨k,v,c⟩:=x;obtain⟨C5,C6,C7⟩:=e;simp only at h Y;rw[h.1,VD h.2,Y]
  rw[bH,KD J];exact Df h.2 (λe he=>Z e (afA _ he)) hm
theorem nt{args:List Operand}{AF:Bool×AV}{out:Out}{es:List cJ}{ks:List Nat}(h:cN X A3 S o args AF=some ⟨out,es,ks⟩):∃g AP A_,AF=(true,.fn g AP)/\jh S args=true/\
 ef A3 S.mem (keyOf o) (og g) (iT g (dA S args) AP) (X.fp (og g)).wW=some ⟨out,A_,ks⟩/\(∀e∈es,e.key∈ks)/\∀m',(∀k∈ks,Mem.get m' k=Mem.get S.mem k)->bH m' A_=bH m' es:=by
 unfold cN at h;split at h
 ·rename_i g AP;split at h
  ·rename_i A8;generalize (X.fp (og g)).wW.contains 2000=b at h;cases A7:ef A3 S.mem (keyOf o) (og g) (iT g (dA S args) AP) (X.fp (og g)).wW with
   |none=>rw[A7]at h;cases b<;>cases h
   |some res=>
    obtain⟨C8,A_,C9⟩:=res;have Z:=Nz A7;rw[A7]at h;cases b with
    |false=>cases h;exact⟨g,AP,es,rfl,A8,A7,Z,λ_ _=>rfl⟩
    |true=>
     simp only[y9,abp]at h;cases AA:rj S.mem A_ with
     |false=>rw[AA]at h;cases h;exact⟨g,AP,es,rfl,A8,A7,Z,λ_ _=>rfl⟩
     |true=>rw[AA]at h;cases h;exact⟨g,AP,A_,rfl,A8,A7,by simp,λm' hm=>Df AA Z hm⟩
  ·cases h
 ·cases h
theorem Y3(AD:jR X A3){AF:Operand}{args:Array Operand}{AT:Array TypeId}(V:o.op=.call {callee:=.value AF,args,argTypes:=AT})(A2:S.gl=X.gl)(I:∀t,o.dst=some t->t<S.n)
 (h:dC S o.dst (cN X A3 S o args.toList (S.aq AF))=some (e,E)):Oh X.P S o e E:=by
 cases Aa:cN X A3 S o args.toList (S.aq AF)with
 |none=>rw[Aa]at h;cases h
 |some res=>
  rw[Aa]at h;obtain⟨out,es,ks⟩:=res;obtain⟨g,AP,A_,An,A8,Ao,_,AU⟩:=nt Aa;have AU:=AU S.mem (λ_ _=>rfl);cases out with
  |ret x=>
   simp only[dC,abp,adI]at h;obtain⟨rfl,rfl⟩:=h;refine⟨mW ..,mu ..,.inl rfl,λφ G a w H next R A5 _=>?_⟩;refine vW AD V An rfl A8 Ao A2 H (λAi Y φ' w' v AG AH AM=>?_) (λt Ai Y=>by cases Y);cases Y;rw[AU]at AG AH AM;exact A5 rfl φ' _ w' (AG.put o.dst I true x v (λ_=>AM)) (by rw[fQ];exact AH)
  |panic t x=>
   simp only[dC,abp,adI]at h;obtain⟨rfl,rfl⟩:=h;refine⟨rfl,rfl,.inr ⟨t,x,rfl⟩,λφ G a w H next R _ AO=>?_⟩;refine vW AD V An rfl A8 Ao A2 H (λAi Y=>by cases Y) (λBa Ai Y φ' w' v AG AH AM=>?_);cases Y;rw[AU]at AG AH AM;exact AO t x rfl φ' a w' v AG AH AM
theorem VE{x:Operand}(V:o.op=.panic x)(h:DL S (S.aq x)=some (e,E)):Oh X.P S o e E:=by
 cases Y:S.aq x with
 |mk g y=>
  rw[Y]at h;unfold DL at h;split at h
  ·rename_i t d heq;cases heq;simp only[abp,adI]at h;obtain⟨rfl,rfl⟩:=h;refine⟨rfl,rfl,.inr ⟨t,d,rfl⟩,λφ G a w H next R _ AO=>?_⟩;have AM:=H.aq x (by rw[Y]);rw[Y]at AM;generalize Bb:a.eval x=u at AM;cases AM with
   |im _ _ v I=>
    have B8:(execOp a.eval o).run X.P w=.halt (.panic (.iface t v)) w:=by
     simp[execOp,V,Bb,Instr.panic]
    unfold Oper.wp;rw[B8];exact AO t d rfl φ a w v H (aX.refl ..) I
  ·cases h
theorem Bj(AD:jR X A3)(A2:S.gl=X.gl)(I:∀t,o.dst=some t->t<S.n)(h:iA X A3 S o (du X.P S o)=some (e,E)):Oh X.P S o e E:=by
 generalize AA:du X.P S o=r at h;cases r with
 |val c x=>
  simp only[iA]at h;split at h
  ·rename_i A8;cases h;exact Ch AA A8 I
  ·cases h
 |dp c x Ad=>
  simp only[iA]at h;split at h
  ·rename_i A8;cases h;exact Oi AA A8 I
  ·cases h
 |no=>
  simp only[iA,sD]at h;split at h
  ·rename_i AF args AT V;exact Y3 AD V A2 I h
  ·rename_i x V;exact VE V h
  ·cases h
def Bk(P:Program)(all:List Oper)(S:St)(o:Oper)(e:XE)(E:St):Prop:=
 E.n=S.n/\E.gl=S.gl/\(e=.normal\/∃t x,e=.panic t x)/\∀φ G a w,Rel φ G S a w->∀(next:Act->World->Prop)(R:Exit->Act->World->Prop),
  (e=.normal->∀φ' AC w',Rel φ' G E AC w'->aX φ S.mem w φ' E.mem w'->next AC w')->
  (∀t x,e=.panic t x->∀φ' AC w' v,Rel φ' G E AC w'->aX φ S.mem w φ' E.mem w'->aQ w' (Fo G φ' E.mem) x v->R (.panic [{v:=.iface t v,recovered:=false}]) AC w')->
  if Region.wanted o (yielded all.toArray a.tmps)then o.wp P a w next R else next (a.put o.dst undef) w
theorem Cj{all:List Oper}(h:Oh X.P S o e E)(hw:∀φ G a w,Rel φ G S a w->Region.wanted o (yielded all.toArray a.tmps)=true):Bk X.P all S o e E:=by
 obtain⟨J,M,AI,AQ⟩:=h;refine⟨J,M,AI,λφ G a w H next R A5 AO=>?_⟩;rw[abf (hw φ G a w H)];exact AQ φ G a w H next R A5 AO
theorem Bl{φ:bW}{w:World}{F:Nat->Prop}{x:AV}(Y:x=.bm\/x=.bg []):aF φ w F x undef:=by
 rcases Y with rfl|rfl
 ·exact .bm _
 ·exact .bg [] #[] rfl (λi c v h=>by simp at h)
theorem Fy{all:List Oper}{j:Nat}{φ G a w}(h:Rel φ G S a w)(U:pT all S j=some (true,.bg [])):yielded all.toArray a.tmps j=none:=by
 unfold pT at U;split at U
 ·rename_i o V;split at U
  ·rename_i t AE;have J:=h.env t _ U;unfold yielded;simp only[af4,V,adV,AE];rw[abr]at J;cases A9:a.tmps[t]? with
   |none=>rfl
   |some v=>
    rw[A9]at J;simp only[afU]at J;cases J;rfl
  ·cases U
 ·cases U
theorem KI{all:List Oper}{gb:Bool}{x:AV}(Y:gb=true->x=.bm\/x=.bg [])(I:∀t,o.dst=some t->t<S.n)(hw:∀φ G a w,Rel φ G S a w->Region.wanted o (yielded all.toArray a.tmps)=false):Bk X.P all S o .normal (S.put o.dst gb x):=by
 refine⟨mW ..,mu ..,.inl rfl,λφ G a w H next R A5 _=>?_⟩;rw[aa4 (by rw[hw φ G a w H];simp)];exact A5 rfl φ _ w (H.put o.dst I gb x undef (λU=>Bl (Y U))) (by rw[fQ];exact aX.refl ..)
theorem H2{all:List Oper}{j:Nat}{AJ t:Bool}(U:o.guard=some (j,AJ))(AB:pT all S j=some (true,.d (.bool t))){φ G a w}(H:Rel φ G S a w):Region.wanted o (yielded all.toArray a.tmps)=(t == AJ):=by
 have Au:=Vf H AB;simp only[Region.wanted,U,Au];cases t<;>cases AJ<;>rfl
theorem DT(S:St)(d b):(S.cz d b).n=S.n:=mW ..
theorem Ck(S:St)(d b):(S.cz d b).gl=S.gl:=mu ..
theorem Fz(S:St)(d b):(S.cz d b).mem=S.mem:=fQ ..
theorem abm{all:List Oper}{S:St}{j:Nat}{t b:Bool}(AB:pT all S j=some (true,.d (.bool t)))(A':t=b)(u:Nat):Env.lk (S.cz (me all j) b).env u=Env.lk S.env u:=by
 subst A';unfold pT at AB;unfold St.cz me;split at AB
 ·rename_i Bd AL;split at AB
  ·rename_i d I;simp only[AL,I,St.put,Env.lk];split
   ·rename_i hu;subst hu;exact AB.symm
   ·rfl
  ·cases AB
 ·cases AB
theorem agm{all:List Oper}{S:St}{j:Nat}{t b:Bool}(AB:pT all S j=some (true,.d (.bool t)))(A':t=b){φ G a w}(H:Rel φ G S a w):Rel φ G (S.cz (me all j) b) a w:=
 Rel.eqv H ⟨(DT ..).symm,(Ck ..).symm,(Fz ..).symm,λu=>(abm AB A' u).symm⟩
theorem uU{all:List Oper}(AD:jR X A3)(A2:S.gl=X.gl)(I:∀t,o.dst=some t->t<S.n){md:Bool}(h:nO X A3 md all S o=some (e,E)):Bk X.P all S o e E:=by
 unfold nO at h;split at h
 ·rename_i U;exact Cj (Bj AD A2 I h) (λ_ _ _ _ _=>by simp[Region.wanted,U])
 ·rename_i j AJ U;split at h
  ·rename_i t AB;replace AB:=Km AB;have hw:∀φ G a w,Rel φ G S a w->Region.wanted o (yielded all.toArray a.tmps)=(t == AJ):=λφ G a w H=>H2 U AB H;have other:∀{r:dF},du X.P S o=r->(if (t == AJ)=true then iA X A3 S o r else some (.normal,S.put o.dst true .bm))=some (e,E)->Bk X.P all S o e E:=by
    intro r AA h;split at h
    ·rename_i A';exact Cj (Bj AD A2 I (by rw[AA];exact h)) (λφ G a w H=>by rw[hw φ G a w H];exact A')
    ·rename_i A';cases h;exact KI (λ_=>.inl rfl) I (λφ G a w H=>by rw[hw φ G a w H];simpa using A')
   cases md with
   |true=>
    simp only at h;have BO:∀b,t=b->∀φ G a w,Rel φ G S a w->Rel φ G (S.cz (me all j) b) a w:=λb A' φ G a w H=>agm AB A' H;split at h
    ·rename_i A';have Aj:t=AJ:=by simpa using A'
     have:=Bj (S:=S.cz (me all j) AJ) AD (by rw[Ck];exact A2) (λt AE=>by rw[DT];exact I t AE) h;obtain⟨J,M,AI,AQ⟩:=this;refine Cj ⟨by rw[J,DT],by rw[M,Ck],AI,λφ G a w H next R A5 AO=>?_⟩ (λφ G a w H=>by rw[hw φ G a w H];exact A');have BP:=AQ φ G a w (BO AJ Aj φ G a w H) next R
     rw[Fz]at BP;exact BP A5 AO
    ·rename_i A';have Aj:t=!AJ:=by cases t<;>cases AJ<;>simp_all
     cases h;refine⟨by rw[mW,DT],by rw[mu,Ck],.inl rfl,λφ G a w H next R A5 _=>?_⟩;rw[aa4 (by rw[hw φ G a w H];simpa using A')];exact A5 rfl φ _ w ((BO _ Aj φ G a w H).put o.dst (λt AE=>by rw[DT];exact I t AE) true (.bg []) undef (λ_=>Bl (.inr rfl))) (by rw[fQ,Fz];exact aX.refl ..)
   |false=>
   simp only at h;unfold pF at h;split at h
   ·rename_i c x AA;split at h
    ·rename_i A7;cases h;cases A':(t == AJ)
     ·exact KI (by simp) I (λφ G a w H=>by rw[hw φ G a w H];exact A')
     ·exact Cj (Ch AA (A7 A') I) (λφ G a w H=>by rw[hw φ G a w H];exact A')
    ·cases h
   ·rename_i r H;exact other rfl h
  ·rename_i AB;replace AB:=HZ AB;cases h;exact KI (λ_=>.inr rfl) I (λφ G a w H=>by
    simp only[Region.wanted,U,Fy H AB];cases AJ<;>rfl)
  ·cases h
theorem ic{r:Option (XE×St)}{k:St->Option (XE×St)}{y:XE×St}(h:andThen r k=some y):(∃S1,r=some (.normal,S1)/\k S1=some y)\/(r=some y/\y.1≠.normal):=by
 unfold andThen at h;split at h
 ·rename_i S1;exact .inl ⟨S1,rfl,h⟩
 ·rename_i H;refine .inr ⟨h,λhe=>?_⟩;obtain⟨e,S1⟩:=y;simp only at he;subst he;exact H S1 h
theorem aX.post{n:Nat}{φ φ':bW}{G:Fr}{m:Mem}{w w':World}{e:XE}{E:St}{AC:Act}(A5:E.n=n)(H:Rel φ' G E AC w')(Z:aX φ m w φ' E.mem w')(he:e=.normal):oc n φ G m w (Is e E) .normal AC w':=
 ⟨φ',E,A5,⟨he.symm,rfl⟩,H,Z⟩
theorem Bm{md:Bool}{all:List Oper}(AD:jR X A3):∀(ops:List Oper)(S:St)(e:XE)(E:St),fZ X A3 md all ops S=some (e,E)->S.gl=X.gl->ki S.n ops=true->
 E.n=S.n/\E.gl=S.gl/\∀φ G a w,Rel φ G S a w->∀Q:Exit->Act->World->Prop,(∀e' AC w',oc S.n φ G S.mem w (Is e E) e' AC w'->Q e' AC w')->wpList X.P all.toArray Q ops a w
 |[],S,e,E,h,A2,I=>by
  simp only[fZ,abp,adI]at h;obtain⟨rfl,rfl⟩:=h;exact⟨rfl,rfl,λφ G a w H Q Av=>Av _ _ _ (aX.post rfl H (aX.refl ..) rfl)⟩
 |o::rest,S,e,E,h,A2,I=>by
  simp only[ki,aiP,Ds]at I;obtain⟨AX,I⟩:=I;have AZ:∀t,o.dst=some t->t<S.n:=λt AE=>by rw[AE]at AX;simpa using AX
  simp only[fZ]at h;rcases ic h with ⟨S1,J,M⟩|⟨J,M⟩
  ·obtain⟨Ap,B3,_,B9⟩:=uU AD A2 AZ J;obtain⟨Bf,Bg,Bh⟩:=Bm AD rest S1 e E M (B3.trans A2) (by rw[Ap];exact I);refine⟨Bf.trans Ap,Bg.trans B3,λφ G a w H Q Av=>?_⟩;have:=B9 φ G a w H (wpList X.P all.toArray Q rest) Q
    (λ_ φ' AC w' AG AH=>Bh φ' G AC w' AG Q (λe' a2 Bi AO=>Av e' a2 Bi (by rw[<-Ap];exact AO.weaken AH))) (λt x he=>by cases he)
   unfold wpList;split
   ·rename_i hw;rw[abf hw]at this;exact .inl this
   ·rename_i hw;rw[aa4 hw]at this;exact this
  ·obtain⟨Ap,B3,CA,B9⟩:=uU AD A2 AZ J;refine⟨Ap,B3,λφ G a w H Q Av=>?_⟩;have:=B9 φ G a w H (wpList X.P all.toArray Q rest) Q
    (λhe=>absurd he M) (λt x he φ' AC w' v AG AH AM=>Av _ _ _ ⟨φ',E,t,x,v,rfl,AM,Ap,⟨he.symm,rfl⟩,AG,AH⟩)
   unfold wpList;split
   ·rename_i hw;rw[abf hw]at this;exact .inl this
   ·rename_i hw;rw[aa4 hw]at this;exact this
theorem sG{all:List Oper}{ks:List Nat}{E S:St}(h:kX all o ks E S){x:Operand}(Y:x∈o.op.operands.toList):E.aq x=S.aq x:=by
 cases x with
 |tmp t=>
  simp only[St.aq];rw[h.env t (by simp only[looks,abo,List.mem_filterMap];exact .inl ⟨.tmp t,Y,rfl⟩)]
 |global g=>simp only[St.aq,h.gl]
 |_=>rfl
theorem H3{all:List Oper}{ks:List Nat}{E S:St}(h:kX all o ks E S){j AJ}(U:o.guard=some (j,AJ)):Am.pT all E j=Am.pT all S j:=by
 unfold Am.pT;split
 ·rename_i Bd AL;split
  ·rename_i t AE;exact h.env t (by simp only[looks,abo,U,abj,AL,AE];exact .inr (by simp))
  ·rfl
 ·rfl
theorem vY{E S:St}:∀{l:List Operand},(∀x∈l,E.aq x=S.aq x)->jh E l=jh S l
 |[],_=>rfl
 |x::r,h=>by simp only[jh,h x (by simp),vY (l:=r) (λy Au=>h y (afA _ Au))]
theorem xj{E S:St}:∀{l:List Operand},(∀x∈l,E.aq x=S.aq x)->dA E l=dA S l
 |[],_=>rfl
 |x::r,h=>by simp only[dA,h x (by simp),xj (l:=r) (λy Au=>h y (afA _ Au))]
theorem KJ{E S:St}(h:∀x∈o.op.operands.toList,E.aq x=S.aq x):gR E o=gR S o:=by
 unfold gR;split
 ·rfl
 ·exact vY h
theorem H4{all:List Oper}{c:Bool}{x:AV}{gb:Bool}(I:∀t,o.dst=some t->t<S.n)(AA:du X.P S o=.val c x)(A8:(gR S o&&c)=true)
 (hw:∀E,kX all o (jB S o) E S->∀φ G a w,Rel φ G E a w->Region.wanted o (yielded all.toArray a.tmps)=true):kY X.P all S o ⟨jB S o,[],gb,x⟩:=by
 intro E O φ G a w H next R A5
 rw[abf (hw E O φ G a w H)];have Y:∀x∈o.op.operands.toList,E.aq x=S.aq x:=λx Y=>sG O Y;have Aw:du X.P E o=.val c x:=by rw[HU Y O.mem];exact AA
 obtain⟨_,_,_,AQ⟩:=Ch (gb:=gb) Aw (by rw[KJ Y];exact A8) (λt AE=>by rw[O.n];exact I t AE);exact AQ φ G a w H next R (λ_ φ' AC w' AG AH=>A5 φ' AC w' AG AH) (λt x he=>by cases he)
theorem VF{all:List Oper}{c:Bool}{x:AV}{Ad:cJ}(I:∀t,o.dst=some t->t<S.n)(AA:du X.P S o=.dp c x Ad)(A8:(gR S o&&c)=true)
 (hw:∀E,kX all o (jB S o) E S->∀φ G a w,Rel φ G E a w->Region.wanted o (yielded all.toArray a.tmps)=true):kY X.P all S o ⟨jB S o,[Ad],true,x⟩:=by
 intro E O φ G a w H next R A5
 rw[abf (hw E O φ G a w H)];have Y:∀x∈o.op.operands.toList,E.aq x=S.aq x:=λx Y=>sG O Y;have Aw:du X.P E o=.dp c x Ad:=by rw[HU Y O.mem];exact AA
 obtain⟨_,_,_,AQ⟩:=Oi Aw (by rw[KJ Y];exact A8) (λt AE=>by rw[O.n];exact I t AE);exact AQ φ G a w H next R (λ_ φ' AC w' AG AH=>A5 φ' AC w' AG AH) (λt x he=>by cases he)
theorem tP{all:List Oper}{ks:List Nat}{gb:Bool}{x:AV}(I:∀t,o.dst=some t->t<S.n)(Y:gb=true->x=.bm\/x=.bg [])
 (hw:∀E,kX all o ks E S->∀φ G a w,Rel φ G E a w->Region.wanted o (yielded all.toArray a.tmps)=false):kY X.P all S o ⟨ks,[],gb,x⟩:=by
 intro E O φ G a w H next R A5
 rw[aa4 (by rw[hw E O φ G a w H];simp)];exact A5 φ _ w (H.put o.dst (λt AE=>by rw[O.n];exact I t AE) gb x undef (λU=>Bl (Y U))) (by simp only[bf.app,fQ];exact aX.refl ..)
theorem Sq{all:List Oper}(AD:jR X A3)(A2:S.gl=X.gl)(I:∀t,o.dst=some t->t<S.n){AF:Operand}{args:Array Operand}{AT:Array TypeId}(V:o.op=.call {callee:=.value AF,args,argTypes:=AT})
 {x:AV} {es:List cJ} {ks:List Nat} (h:cN X A3 S o args.toList (S.aq AF)=some ⟨.ret x,es,ks⟩)
 (hw:∀E,kX all o ks E S->∀φ G a w,Rel φ G E a w->Region.wanted o (yielded all.toArray a.tmps)=true):kY X.P all S o ⟨ks,es,true,x⟩:=by
 intro E O φ G a w H next R A5
 rw[abf (hw E O φ G a w H)];have Y:∀x∈o.op.operands.toList,E.aq x=S.aq x:=λx Y=>sG O Y;have Ax:∀x∈args.toList,E.aq x=S.aq x:=λx BA=>Y x (by simp[V,Op.operands,Call.operands];exact .inr (by simpa using BA));obtain⟨g,AP,A_,An,A8,Ao,_,AU⟩:=nt h;have AU:=AU E.mem (λk Z=>O.mem k Z);have BB:E.aq AF=(true,.fn g AP):=by rw[Y AF (by simp[V,Op.operands,Call.operands])];exact An
 have BC:ef A3 E.mem (keyOf o) (og g) (iT g (dA E args.toList) AP) (X.fp (og g)).wW=some ⟨.ret x,A_,ks⟩:=by
  rw[xj Ax];exact Fx O.keys Ao (λk Z=>O.mem k Z)
 refine vW AD V BB rfl (by rw[vY Ax];exact A8) BC (O.gl.trans A2) H (λAi Ak φ' w' v AG AH AM=>?_) (λt Ai Ak=>by cases Ak);cases Ak;rw[AU]at AG AH AM;exact A5 φ' _ w' (AG.put o.dst (λt AE=>by show t<E.n;rw[O.n];exact I t AE) true x v (λ_=>AM)) (by simp only[bf.app,fQ];exact AH)
theorem KL{all:List Oper}{S1:St}{p:bf}(AD:jR X A3)(A2:S.gl=X.gl)(I:∀t,o.dst=some t->t<S.n){r:dF}(AA:du X.P S o=r)(h:fi X A3 S o r=some (S1,p))
 (hw:∀(ks:List Nat) E,kX all o ks E S->∀φ G a w,Rel φ G E a w->Region.wanted o (yielded all.toArray a.tmps)=true):S1=p.app o S/\(∀e∈p.es,e.key∈p.ks)/\kY X.P all S o p:=by
 cases r with
 |val c x=>
  simp only[fi]at h;split at h
  ·rename_i A8;cases h;exact⟨rfl,by simp,H4 I AA A8 (hw _)⟩
  ·cases h
 |dp c x Ad=>
  simp only[fi]at h;split at h
  ·rename_i A8;cases h;simp only[Ds,List.contains_eq_mem,aa8]at A8;exact⟨rfl,by simpa using A8.2,VF I AA (by simpa using A8.1) (hw _)⟩
  ·cases h
 |no=>
  simp only[fi,mf]at h;split at h
  ·rename_i AF args AT V;cases Aa:cN X A3 S o args.toList (S.aq AF)with
   |none=>rw[Aa]at h;cases h
   |some res=>
    rw[Aa]at h;obtain⟨out,es,ks⟩:=res;cases out with
    |panic=>cases h
    |ret x=>
     cases h;refine⟨rfl,?_,Sq AD A2 I V Aa (hw _)⟩;obtain⟨_,_,_,_,_,_,Z,_⟩:=nt Aa;exact Z
  ·cases h
theorem ia.refl(S:St):ia S S:=⟨rfl,rfl,rfl,λ_=>rfl⟩
theorem ia.symm{S E:St}(h:ia S E):ia E S:=⟨h.n.symm,h.gl.symm,h.mem.symm,λt=>(h.env t).symm⟩
theorem ia.trans{S E B0:St}(h:ia S E)(k:ia E B0):ia S B0:=⟨h.n.trans k.n,h.gl.trans k.gl,h.mem.trans k.mem,λt=>(h.env t).trans (k.env t)⟩
theorem ia.app{S E:St}(h:ia S E)(p:bf)(o:Oper):ia (p.app o S) (p.app o E):=
 ⟨by rw[vQ,vQ,h.n],by rw[sx,sx,h.gl],by simp only[bf.app,fQ,h.mem],λt=>by rw[uL,uL,h.env]⟩
theorem kX.eqv{all:List Oper}{ks:List Nat}{E S S0:St}(h:kX all o ks E S)(he:ia S S0):kX all o ks E S0:=
 ⟨h.n.trans he.n,h.gl.trans he.gl,by rw[h.keys,he.mem],λt AE=>(h.env t AE).trans (he.env t),λk Z=>by rw[h.mem k Z,he.mem]⟩
theorem kY.eqv{P:Program}{all:List Oper}{S S0:St}{p:bf}(h:kY P all S o p)(he:ia S S0):kY P all S0 o p:=λE O=>h E (O.eqv he.symm)
theorem tL.eqv{P:Program}{Ae:Mem->Prop}{all:List Oper}{S S0:St}{p:bf}(h:tL P Ae all S o p)(he:ia S S0):tL P Ae all S0 o p:=λE O=>h E (O.eqv he.symm)
theorem DV{P:Program}{Ae:Mem->Prop}{all ops:List Oper}{S S1:St}{ps:List bf}(h:Cert P Ae all ops S ps S1):∀{S0:St},ia S S0->∃AN,Cert P Ae all ops S0 ps AN/\ia S1 AN:=by
 induction h with
 |nil S=>exact λhe=>⟨_,.nil _,he⟩
 |cons o rest S p ps S1 Z Aq h H ih=>
  intro S0 he;obtain⟨AN,M,AI⟩:=ih (he.app p o);exact⟨AN,.cons o rest S0 p ps AN Z Aq (h.eqv he) M,AI⟩
theorem VH{all:List Oper}{S:St}{j:Nat}{t b:Bool}(AB:pT all S j=some (true,.d (.bool t)))(A':t=b):ia (S.cz (me all j) b) S:=
 ⟨DT ..,Ck ..,Fz ..,λu=>abm AB A' u⟩
theorem Bn{md:Bool}{all:List Oper}{S1:St}{p:bf}(AD:jR X A3)(A2:S.gl=X.gl)(I:∀t,o.dst=some t->t<S.n)(h:eE X A3 md all S o=some (S1,p)):ia S1 (p.app o S)/\(∀e∈p.es,e.key∈p.ks)/\kY X.P all S o p:=by
 have yes:∀{r:dF},du X.P S o=r->fi X A3 S o r=some (S1,p)->(∀(ks:List Nat) E,kX all o ks E S->∀φ G a w,Rel φ G E a w->Region.wanted o (yielded all.toArray a.tmps)=true)->ia S1 (p.app o S)/\(∀e∈p.es,e.key∈p.ks)/\kY X.P all S o p:=by
  intro r AA h hw;obtain⟨J,M,AI⟩:=KL AD A2 I AA h hw;exact⟨by rw[J];exact ia.refl _,M,AI⟩
 unfold eE at h;split at h
 ·rename_i U;exact yes rfl h (λ_ _ _ _ _ _ _ _=>by simp[Region.wanted,U])
 ·rename_i j AJ U;split at h
  ·rename_i t AB;replace AB:=Km AB;have hw:∀(ks:List Nat) E,kX all o ks E S->∀φ G a w,Rel φ G E a w->Region.wanted o (yielded all.toArray a.tmps)=(t == AJ):=
    λks E O φ G a w H=>H2 U (by rw[H3 O U];exact AB) H
   have other:∀{r:dF},du X.P S o=r->(if (t == AJ)=true then fi X A3 S o r else some (S.put o.dst true .bm,⟨[],[],true,.bm⟩))=some (S1,p)->ia S1 (p.app o S)/\(∀e∈p.es,e.key∈p.ks)/\kY X.P all S o p:=by
    intro r AA h;split at h
    ·rename_i A';exact yes AA h (λks E O φ G a w H=>by rw[hw ks E O φ G a w H];exact A')
    ·rename_i A';cases h;exact⟨ia.refl _,by simp,tP I (λ_=>.inl rfl) (λE O φ G a w H=>by rw[hw _ E O φ G a w H];simpa using A')⟩
   cases md with
   |true=>
    simp only at h;split at h
    ·rename_i A';have Aj:t=AJ:=by simpa using A'
     have he:=VH AB Aj;obtain⟨J,M,AI⟩:=KL (S:=S.cz (me all j) AJ) AD (by rw[Ck];exact A2) (λt AE=>by rw[DT];exact I t AE) rfl h
      (λks E O φ G a w H=>by rw[hw ks E (O.eqv he) φ G a w H];exact A')
     exact⟨by rw[J];exact he.app p o,M,AI.eqv he⟩
    ·rename_i A';have Aj:t=!AJ:=by cases t<;>cases AJ<;>simp_all
     cases h;have he:=VH AB Aj;exact⟨he.app ⟨[],[],true,.bg []⟩ o,by simp,tP I (λ_=>.inr rfl) (λE O φ G a w H=>by rw[hw _ E O φ G a w H];simpa using A')⟩
   |false=>
   simp only at h;unfold sE at h;split at h
   ·rename_i c x AA;split at h
    ·rename_i A7;cases h;refine⟨ia.refl _,by simp,?_⟩;cases A':(t == AJ)
     ·exact tP I (by simp) (λE O φ G a w H=>by rw[hw _ E O φ G a w H];exact A')
     ·exact H4 I AA (A7 A') (λE O φ G a w H=>by rw[hw _ E O φ G a w H];exact A')
    ·cases h
   ·exact other rfl h
  ·rename_i AB;replace AB:=HZ AB;cases h;exact⟨ia.refl _,by simp,tP I (λ_=>.inr rfl) (λE O φ G a w H=>by
    have:=Fy H (by rw[H3 O U];exact AB);simp only[Region.wanted,U,this];cases AJ<;>rfl)⟩
  ·cases h
inductive kq(T:Nat->St->Oper->bf->Prop):Nat->List Oper->St->List bf->Prop
 |nil (i S):kq T i [] S []
 |cons (i o rest S p ps) (h:T i S o p) (H:kq T (i+1) rest (p.app o S) ps):kq T i (o::rest) S (p::ps)
theorem kq.eqv{T:Nat->St->Oper->bf->Prop}(Ar:∀i S S0 o p,ia S S0->T i S o p->T i S0 o p){i:Nat}{ops:List Oper}{S:St}{ps:List bf}(h:kq T i ops S ps):∀{S0:St},ia S S0->kq T i ops S0 ps:=by
 induction h with
 |nil i S=>exact λ_=>.nil _ _
 |cons i o rest S p ps h H ih=>exact λhe=>.cons _ _ _ _ _ _ (Ar _ _ _ _ _ he h) (ih (he.app p o))
theorem kq.mono{T BQ:Nat->St->Oper->bf->Prop}{i:Nat}{ops:List Oper}{S:St}{ps:List bf}(h:kq T i ops S ps):(∀k S o p,i<=k->T k S o p->BQ k S o p)->kq BQ i ops S ps:=by
 induction h with
 |nil i S=>exact λ_=>.nil _ _
 |cons i o rest S p ps h H ih=>exact λZ=>.cons _ _ _ _ _ _ (Z _ _ _ _ (aa7 _) h) (ih λk S o p hi=>Z k S o p (by omega))
theorem kq.len{T:Nat->St->Oper->bf->Prop}{i:Nat}{ops:List Oper}{S:St}{ps:List bf}(h:kq T i ops S ps):ps.length=ops.length:=by
 induction h with
 |nil i S=>rfl
 |cons i o rest S p ps h H ih=>simp[ih]
theorem kq.at{T:Nat->St->Oper->bf->Prop}{all:List Oper}{ps:List bf}{i:Nat}{rest:List Oper}{S0 S:St}{AW:List bf}(h:kq T i rest S AW):∀(pre:List Oper)(pp:List bf),pre.length=i->pre.length=pp.length->all=pre++rest->ps=pp++AW->aM all ps S0 (List.range pre.length)=S->
 ∀j o p,pre.length<=j->all[j]?=some o->ps[j]?=some p->T j (aM all ps S0 (List.range j)) o p:=by
 induction h with
 |nil i S=>
  intro pre pp hi AS O BD BE j o p AL V;simp only[afy]at O;subst O;rw[age (by omega)]at V;cases V
 |cons i o rest S p AW Ar H ih=>
  intro pre pp hi AS O BD BE j BR Bq AL BF BG;have Af:all[pre.length]?=some o:=by rw[O];simp
  have Al:ps[pre.length]?=some p:=by rw[BD,AS];simp
  rcases Nat.eq_or_lt_of_le AL with rfl|AL
  ·rw[Af]at BF;rw[Al]at BG;cases BF;cases BG;rw[BE,hi];exact Ar
  ·exact ih (pre++[o]) (pp++[p]) (by simp[hi]) (by simp[AS]) (by rw[O];simp) (by rw[BD];simp) (by
    rw[aa9,afZ,List.range_succ,oU,BE];simp[aM,Af,Al]) j BR Bq (by simp;omega) BF BG
theorem Ce.eqv{P:Program}{all:List Oper}{S S0:St}{p:bf}{t:TypeId}{x:D}(h:Ce P all S o p t x)(he:ia S S0):Ce P all S0 o p t x:=λE O=>h E (O.eqv he.symm)
def TT(P:Program)(all:List Oper)(j:Nat)(Ag:List Nat)(t:TypeId)(x:D)(N:Nat)(S1:St)(i:Nat)(S:St)(o:Oper)(p:bf):Prop:=
 (∀e∈p.es,e.key∈p.ks)/\(i≠j->(i<j\/Ag.contains i=true)->kY P all S o p)/\(i=j->Ce P all S o p t x/\S1.n=S.n/\S1.gl=S.gl/\S1.mem=kp N (bH S.mem p.es))
theorem TT.eqv{P:Program}{all:List Oper}{j:Nat}{Ag:List Nat}{t:TypeId}{x:D}{N:Nat}{S1:St}(i:Nat)(S S0:St)(o:Oper)(p:bf)(he:ia S S0)(h:TT P all j Ag t x N S1 i S o p):TT P all j Ag t x N S1 i S0 o p:=
 ⟨h.1,λa b=>(h.2.1 a b).eqv he,λa=>⟨(h.2.2 a).1.eqv he,(h.2.2 a).2.1.trans he.n,(h.2.2 a).2.2.1.trans he.gl,by rw[<-he.mem];exact (h.2.2 a).2.2.2⟩⟩
theorem agn{X:Ctx}:jR X (λ_ _ _=>none):=λg args cs out l h=>by cases h
theorem Bo{md:Bool}{all:List Oper}{Ag:List Nat}:∀(ops:List Oper)(i:Nat)(S:St)(A1 AW:List bf),sX X md all Ag i ops S A1=some AW->S.gl=X.gl->ki S.n ops=true->
 ∃ps,AW=A1.reverse++ps/\kq (λi S o p=>(∀e∈p.es,e.key∈p.ks)/\(Ag.contains i=true->kY X.P all S o p)) i ops S ps
 |[],i,S,A1,AW,h,A2,I=>by
  simp only[sX,abp]at h;exact⟨[],by simp[h],.nil _ _⟩
 |o::rest,i,S,A1,AW,h,A2,I=>by
  simp only[ki,aiP,Ds]at I;obtain⟨AX,I⟩:=I;have AZ:∀t,o.dst=some t->t<S.n:=λt AE=>by rw[AE]at AX;simpa using AX
  simp only[sX]at h;cases AL:Ag.contains i with
  |true=>
   rw[AL]at h;simp only at h;cases U:eE X (λ_ _ _=>none) md all S o with
   |none=>rw[U]at h;cases h
   |some q=>
    obtain⟨AN,p⟩:=q;rw[U]at h;simp only at h;obtain⟨heq,As,Ab⟩:=Bn agn A2 AZ U;obtain⟨ps,J,M⟩:=Bo rest (i+1) AN (p::A1) AW h (by rw[heq.gl,sx];exact A2) (by rw[heq.n,vQ];exact I);exact⟨p::ps,by rw[J];simp,.cons _ _ _ _ _ _ ⟨As,λ_=>Ab⟩ (M.eqv (λ_ _ _ _ _ he h=>⟨h.1,λa=>(h.2 a).eqv he⟩) heq)⟩
  |false=>
   rw[AL]at h;simp only at h;obtain⟨ps,J,M⟩:=Bo rest (i+1) (S.put o.dst false .bm) _ AW h (by rw[mu];exact A2) (by rw[mW];exact I);exact⟨⟨[],[],false,.bm⟩::ps,by rw[J];simp,.cons _ _ _ _ _ _ ⟨by simp,λhh=>by rw[AL]at hh;cases hh⟩ M⟩
theorem H5{q:Kn}(h:lH X A3 S o=some q):o.guard=none/\du X.P S o=.no/\∃AF args AT,o.op=.call {callee:=.value AF,args,argTypes:=AT}/\cN X A3 S o args.toList (S.aq AF)=some ⟨.panic q.t q.x,q.es,q.ks⟩/\q.S={S with mem:=bH S.mem q.es}:=by
 unfold lH at h;split at h
 ·rename_i U;unfold DM at h;split at h
  ·rename_i AA;refine⟨U,AA,?_⟩;unfold Ko at h;split at h
   ·rename_i AF args AT V;unfold wY at h;split at h
    ·rename_i t x es ks A7;cases h;exact⟨AF,args,AT,V,A7,rfl⟩
    ·cases h
   ·cases h
  ·cases h
 ·cases h
theorem KM{args:List Operand}{AF:Bool×AV}{out:Out}{es:List cJ}{ks:List Nat}(Aa:cN X A3 S o args AF=some ⟨out,es,ks⟩):∀e∈es,e.key∈ks:=by
 obtain⟨_,_,_,_,_,_,Z,_⟩:=nt Aa;exact Z
theorem Sr{all:List Oper}(AD:jR X A3)(A2:S.gl=X.gl){AF:Operand}{args:Array Operand}{AT:Array TypeId}(U:o.guard=none)(V:o.op=.call {callee:=.value AF,args,argTypes:=AT})
 {t:TypeId} {x:D} {es:List cJ} {ks:List Nat} (h:cN X A3 S o args.toList (S.aq AF)=some ⟨.panic t x,es,ks⟩):Ce X.P all S o ⟨ks,es,true,.bm⟩ t x:=by
 intro E O φ G a w H next R A5
 rw[abf (by simp[Region.wanted,U])];have Y:∀x∈o.op.operands.toList,E.aq x=S.aq x:=λx Y=>sG O Y;have Ax:∀x∈args.toList,E.aq x=S.aq x:=λx BA=>Y x (by simp[V,Op.operands,Call.operands];exact .inr (by simpa using BA));obtain⟨g,AP,A_,An,A8,Ao,_,AU⟩:=nt h;have AU:=AU E.mem (λk Z=>O.mem k Z);have BB:E.aq AF=(true,.fn g AP):=by rw[Y AF (by simp[V,Op.operands,Call.operands])];exact An
 have BC:ef A3 E.mem (keyOf o) (og g) (iT g (dA E args.toList) AP) (X.fp (og g)).wW=some ⟨.panic t x,A_,ks⟩:=by
  rw[xj Ax];exact Fx O.keys Ao (λk Z=>O.mem k Z)
 refine vW AD V BB rfl (by rw[vY Ax];exact A8) BC (O.gl.trans A2) H (λAi Ak=>by cases Ak) (λBa Ai Ak φ' w' v AG AH AM=>?_);cases Ak;rw[AU]at AG AH AM;exact A5 φ' a w' v AG AH AM
theorem Dh{md:Bool}{AK:Nat×List (List Nat)}{all:List Oper}(AD:jR X A3):∀(ops:List Oper)(S:St)(A1:List bf)(e:XE)(S1:St),iU X A3 md AK all ops S A1=some (e,S1)->S.gl=X.gl->ki S.n ops=true->
 (e=.normal/\∃ps AN,Cert X.P (λ_=>True) all ops S ps AN/\ia S1 AN/\oe AK.2 (A1.reverse++ps)=true)\/
 (∃t x j ps,e=.panic t x/\A1.length<=j/\j<A1.length+ops.length/\kq (TT X.P all j (AK.2.getD j []) t x (AK.1+gB (A1.reverse++ps)+1) S1) A1.length ops S ps/\oe AK.2 (A1.reverse++ps)=true/\A6 (A1.reverse++ps) (AK.2.getD j [])=true/\S1.env=[])
 |[],S,A1,e,S1,h,A2,I=>by
  simp only[iU]at h;split at h
  ·rename_i AR;cases h;exact .inl ⟨rfl,[],S,.nil S,ia.refl _,by simpa using AR⟩
  ·cases h
 |o::rest,S,A1,e,S1,h,A2,I=>by
  have Br:=I;simp only[ki,aiP,Ds]at I;obtain⟨AX,I⟩:=I;have AZ:∀t,o.dst=some t->t<S.n:=λt AE=>by rw[AE]at AX;simpa using AX
  simp only[iU]at h;cases AO:lH X A3 S o with
  |some q=>
   right;rw[AO]at h;simp only[oh,Sl]at h;obtain⟨U,AA,AF,args,AT,V,A7,BS⟩:=H5 AO;obtain⟨CB,t,x,es,ks⟩:=q;simp only at A7 BS h;subst BS;cases BH:sX X md all (AK.2.getD A1.length []) (A1.length+1) rest (({S with mem:=bH S.mem es}:St).put o.dst true .bm) (⟨ks,es,true,.bm⟩::A1)with
   |none=>rw[BH]at h;cases h
   |some AW=>
    rw[BH]at h;simp only[Sk]at h;split at h
    ·rename_i B4;simp only[Ds]at B4;obtain⟨rfl,rfl⟩:XE.panic t x=e/\St.kill {S with mem:=bH S.mem es} (AK.1+gB AW+1)=S1:=by simpa using h
     obtain⟨ps,rfl,Bs⟩:=Bo rest (A1.length+1) _ _ _ BH (by rw[mu];exact A2) (by rw[mW];exact I);have Af:(⟨ks,es,true,.bm⟩::A1:List bf).reverse++ps=A1.reverse++(⟨ks,es,true,.bm⟩::ps):=by simp
     rw[Af]at B4⊢;refine⟨t,x,A1.length,⟨ks,es,true,.bm⟩::ps,rfl,aa7 _,by simp,.cons _ _ _ _ _ _ ⟨KM A7,λhh=>absurd rfl hh,λ_=>⟨Sr AD A2 U V A7,rfl,rfl,rfl⟩⟩ (Bs.mono λk S o p Z Ar=>?_),B4.1,B4.2,rfl⟩;exact⟨Ar.1,λ_ hh=>Ar.2 (hh.resolve_left (by omega)),λhh=>by omega⟩
    ·cases h
  |none=>
   rw[AO]at h;simp only[oh]at h;cases U:eE X A3 md all S o with
   |none=>rw[U]at h;cases h
   |some q=>
    obtain⟨AN,p⟩:=q;rw[U]at h;simp only[za]at h;obtain⟨heq,As,Ab⟩:=Bn AD A2 AZ U;rcases Dh AD rest AN (p::A1) e S1 h (by rw[heq.gl,sx];exact A2) (by rw[heq.n,vQ];exact I)with ⟨he,ps,BI,A7,BJ,AR⟩|⟨t,x,j,ps,he,Bt,Bu,A7,AR,BT,Bv⟩
    ·left;obtain⟨Ah,Ay,Az⟩:=DV A7 heq;exact⟨he,p::ps,Ah,.cons o rest S p ps Ah As (λ_ _=>trivial) Ab.toI Ay,BJ.trans Az,by simpa using AR⟩
    ·right;have Af:(p::A1).reverse++ps=A1.reverse++(p::ps):=by simp
     rw[Af]at AR BT A7;simp only[abb]at Bt Bu A7;exact⟨t,x,j,p::ps,he,by omega,by simp;omega,.cons _ _ _ _ _ _ ⟨As,λ_ _=>Ab,λhh=>by omega⟩ (A7.eqv TT.eqv heq),AR,BT,Bv⟩
def cellOf:Bool->aH->Nat->Option AV
 |false,.box cs,j=>cs[j]?
 |true,.vv aj (some x),j=>if aj.length=j then some x else none
 |_,_,_=>none
def sZ(A0:List Cl)(m:Mem):Prop:=∀q∈A0,∃c,Mem.get m q.k=some ⟨q.k,q.v,c⟩/\cellOf q.vv c q.j=some q.x
theorem Ss{c:aH}{j:Nat}{x:AV}(h:cellOf false c j=some x):∃cs,c=.box cs/\cs[j]?=some x:=by
 cases c with
 |box cs=>exact⟨cs,rfl,h⟩
 |dead=>cases h
 |vec _ _=>cases h
 |vv _ _=>cases h
theorem VK{c:aH}{j:Nat}{x:AV}(h:cellOf true c j=some x):∃aj,c=.vv aj (some x)/\aj.length=j:=by
 cases c with
 |box cs=>cases h
 |dead=>cases h
 |vec _ _=>cases h
 |vv aj y=>
  cases y with
  |none=>cases h
  |some y=>
   simp only[cellOf]at h;split at h
   ·rename_i AL;cases h;exact⟨aj,rfl,AL⟩
   ·cases h
theorem VL:∀{x y:AV},Kq x y=true->x=y:=by
 intro x y h;unfold Kq at h;split at h
 ·simp only[Ds,aa8]at h;obtain⟨⟨⟨rfl,rfl⟩,rfl⟩,rfl⟩:=h;rfl
 ·simp only[Ds,aa8]at h;obtain⟨⟨rfl,rfl⟩,rfl⟩:=h;rfl
 ·simp only[Ds,aa8]at h;obtain⟨rfl,rfl⟩:=h;rfl
 ·simp only[aa8]at h;subst h;rfl
 ·cases h
theorem zi{m:Mem}:∀{fl:List (Nat×Nat)}{A0:List Cl},fK m fl=some A0->sZ A0 m
 |[],A0,h=>by simp[fK]at h;subst h;exact λq A9=>by simp at A9
 |(k,j)::r,A0,h=>by
  unfold fK at h;split at h
  ·rename_i key v cs l U AS;split at h
   ·rename_i x Y;cases h;have Z:key=k:=(Mem.get_mem U).2;subst Z;intro q A9;rcases abd.1 A9 with rfl|A9
    ·exact⟨.box cs,U,Y⟩
    ·exact zi AS q A9
   ·cases h
  ·rename_i key v aj x l U AS;cases h;have Z:key=k:=(Mem.get_mem U).2;subst Z;intro q A9;rcases abd.1 A9 with rfl|A9
   ·exact⟨.vv aj (some x),U,by simp[cellOf]⟩
   ·exact zi AS q A9
  ·cases h
theorem Y4{q:Cl}{v:Nat}{c:aH}(h:Oe q v c=true):v=q.v/\cellOf q.vv c q.j=some q.x:=by
 unfold Oe at h;split at h
 ·rename_i cs;simp only[Ds,aa8,ago]at h;obtain⟨⟨J,M⟩,AI⟩:=h;refine⟨M,?_⟩;rw[J];simp only[cellOf];unfold Vz at AI;split at AI
  ·rename_i x Y;rw[Y,VL AI]
  ·cases AI
 ·rename_i aj x;simp only[Ds,aa8]at h;obtain⟨⟨⟨J,M⟩,AI⟩,AQ⟩:=h;refine⟨M,?_⟩;rw[J];simp only[cellOf,AI,afz,VL AQ]
 ·cases h
theorem KO{e:cJ}:∀{A0:List Cl},DN e A0=true->∀q∈A0,e.key=q.k->∃c,e=⟨q.k,q.v,c⟩/\cellOf q.vv c q.j=some q.x
 |[],_,q,A9,_=>by simp at A9
 |p::r,h,q,A9,Z=>by
  simp only[DN,Ds]at h;rcases abd.1 A9 with rfl|A9
  ·have J:=h.1;simp only[Z,decide_true]at J;obtain⟨key,ak,cont⟩:=e;simp only at Z J;subst Z;obtain⟨rfl,M⟩:=Y4 J;exact⟨cont,rfl,M⟩
  ·exact KO h.2 q A9 Z
theorem H7{A0:List Cl}:∀{es:List cJ},vT A0 es=true->∀m,sZ A0 m->sZ A0 (bH m es)
 |[],_,m,hm=>hm
 |e::r,h,m,hm=>by
  simp only[vT,Ds]at h;refine H7 h.2 _ (λq A9=>?_);obtain⟨cs,J,M⟩:=hm q A9;by_cases Z:e.key=q.k
  ·obtain⟨Bw,he,Y⟩:=KO h.1 q A9 Z;refine⟨Bw,?_,Y⟩;have Bx:e.key∈m.map (·.key):=by
    obtain⟨AI,AQ⟩:=Mem.get_mem J;rw[Z];exact adD AI
   rw[<-Z,Mem.pO Bx,he]
  ·exact⟨cs,by rw[Mem.pP Z];exact J,M⟩
theorem Bp{b:Bool}{k v j:Nat}{x:AV}:∀{A0:List Cl},tM b k v j A0=some x->∃q∈A0,q.vv=b/\q.k=k/\q.v=v/\q.j=j/\q.x=x
 |[],h=>by simp[tM]at h
 |q::r,h=>by
  unfold tM at h;split at h
  ·rename_i A';simp only[Ds,aa8]at A';cases h;exact⟨q,by simp,A'.1.1.1.symm,A'.1.1.2.symm,A'.1.2.symm,A'.2.symm,rfl⟩
  ·obtain⟨BK,J,M⟩:=Bp h;exact⟨BK,by simp[J],M⟩
theorem zj{b:Bool}{k v:Nat}:∀{A0:List Cl},wZ b k v A0=true->∃q∈A0,q.vv=b/\q.k=k/\q.v=v
 |[],h=>by simp[wZ]at h
 |q::r,h=>by
  unfold wZ at h;split at h
  ·rename_i A';simp only[Ds,aa8]at A';exact⟨q,by simp,A'.1.1.symm,A'.1.2.symm,A'.2.symm⟩
  ·obtain⟨BK,J,M⟩:=zj h;exact⟨BK,by simp[J],M⟩
theorem GW{A0:List Cl}{m:Mem}(hm:sZ A0 m){q:Cl}(A9:q∈A0)(AM:q.vv=false):∃cs,Mem.get m q.k=some ⟨q.k,q.v,.box cs⟩/\cs[q.j]?=some q.x:=by
 obtain⟨c,J,M⟩:=hm q A9;rw[AM]at M;obtain⟨cs,rfl,AI⟩:=Ss M;exact⟨cs,J,AI⟩
theorem VM{A0:List Cl}{m:Mem}(hm:sZ A0 m){q:Cl}(A9:q∈A0)(AM:q.vv=true):∃aj,Mem.get m q.k=some ⟨q.k,q.v,.vv aj (some q.x)⟩/\aj.length=q.j:=by
 obtain⟨c,J,M⟩:=hm q A9;rw[AM]at M;obtain⟨cs,rfl,AI⟩:=VK M;exact⟨cs,J,AI⟩
theorem Y5{P:Program}{A0:List Cl}{S:St}{x:AV}(h:tN P A0 S o.op=some x)(hm:sZ A0 S.mem):∃c,du P S o=.val c x/\(gR S o&&c)=true:=by
 unfold tN at h;split at h
 ·rename_i t y V;unfold Fj at h;split at h
  ·rename_i k v off heq;split at h
   ·rename_i BL B';obtain⟨q,A9,Ac,rfl,rfl,rfl,rfl⟩:=Bp h;obtain⟨cs,J,M⟩:=GW hm A9 Ac;have B2:q.j<cs.length:=(aa1.1 M).1;refine⟨true,?_,by simp[gR,V,jh,Op.operands,heq]⟩;unfold du;rw[V];simp only[heq,mR,J,BL,M,afU];simp only[afM]at B';simp[B',B2]
   ·cases h
  ·rename_i k v i j heq;split at h
   ·rename_i BL B' AL;obtain⟨q,A9,Ac,rfl,rfl,rfl,rfl⟩:=Bp h;obtain⟨aj,J,M⟩:=VM hm A9 Ac;simp only[aa8]at AL;subst AL;refine⟨true,?_,by simp[gR,V,jh,Op.operands,heq]⟩;unfold du;rw[V];simp only[heq,mR,J,BL];simp only[afM]at B';simp[B',M]
   ·cases h
  ·cases h
 ·rename_i s y f V;unfold Fk at h;split at h
  ·rename_i n k v off A5 heq;split at h
   ·rename_i A7;cases h;obtain⟨q,A9,Ac,rfl,rfl⟩:=zj A7;obtain⟨cs,J,M⟩:=GW hm A9 Ac;refine⟨true,?_,by simp[gR,V,jh,Op.operands,heq]⟩;unfold du;rw[V];simp[heq,pv,A5,J]
   ·cases h
  ·cases h
 ·rename_i y V;unfold Fl at h;split at h
  ·rename_i k v off heq;split at h
   ·rename_i A7;cases h;obtain⟨q,A9,Ac,rfl,rfl⟩:=zj A7;obtain⟨cs,J,M⟩:=GW hm A9 Ac;refine⟨true,?_,by simp[gR,V,jh,Op.operands,heq]⟩;unfold du;rw[V];simp[heq,jG,J]
   ·cases h
  ·cases h
 ·rename_i t y z V;unfold Fm at h;split at h
  ·rename_i e k v off len CC n By heq BU;split at h
   ·rename_i BV A7 BW BX;cases h;simp only[aa8]at BV BW BX;obtain⟨q,A9,Ac,rfl,rfl⟩:=zj A7;obtain⟨aj,J,M⟩:=VM hm A9 Ac;refine⟨true,?_,by simp[gR,V,jh,Op.operands,heq,BU]⟩;unfold du;rw[V];simp[heq,BU,nb,By,BV,J,BW,BX]
   ·cases h
  ·cases h
 ·cases h
theorem VN{P:Program}{A0:List Cl}{E S:St}(h:∀x∈o.op.operands.toList,E.aq x=S.aq x):tN P A0 E o.op=tN P A0 S o.op:=by
 unfold tN;split
 ·rename_i t y V;rw[h y (by simp[V,Op.operands])]
 ·rename_i s y f V;rw[h y (by simp[V,Op.operands])]
 ·rename_i y V;rw[h y (by simp[V,Op.operands])]
 ·rename_i t y z V;rw[h y (by simp[V,Op.operands]),h z (by simp[V,Op.operands])]
 ·rfl
theorem Su{all:List Oper}{A0:List Cl}{x:AV}(I:∀t,o.dst=some t->t<S.n)(h:p7 X.P A0 S o=some x):tL X.P (sZ A0) all S o ⟨[],[],true,x⟩:=by
 intro E O Aq φ G a w H next R A5
 unfold p7 at h;split at h
 ·rename_i U;rw[abf (by simp[Region.wanted,U])];have Y:∀x∈o.op.operands.toList,E.aq x=S.aq x:=λx Y=>sG O Y;obtain⟨c,Aw,A8⟩:=Y5 (by rw[VN Y];exact h) Aq;obtain⟨_,_,_,AQ⟩:=Ch (gb:=true) Aw A8 (λt AE=>by rw[O.n];exact I t AE);exact AQ φ G a w H next R (λ_ φ' AC w' AG AH=>A5 φ' AC w' AG AH) (λt x he=>by cases he)
 ·cases h
theorem NA{l:List Nat}{r:List Oper}(h:nq l r=true):l=[]/\r=[]:=by
 cases l<;>cases r<;>simp_all [nq]
theorem Y6{all:List Oper}{AK:List (List Nat)}{ps:List bf}(AA:DJ all AK=true)(AS:ps.length+1=all.length)(A5:AK.getD (all.length-1) []=[])(I:oe AK ps=true):nK all (ps++[Dd])=true:=by
 have Bz:=Dc AA A5;unfold nK;refine adA.2 λj AL=>?_;have J:=adA.1 AA j AL;have C':j<all.length:=adG.1 AL;unfold A4 at J;unfold Ja;have C0:(ps++[Dd])[j]?=some ((ps++[Dd])[j]'(by simp;omega)):=by simp[AS,C']
 rw[C0];cases V:all[j]? with
 |none=>rw[V]at J;cases J
 |some o=>
  rw[V]at J;simp only[Ds,adA,aa8,agr,adG]at J⊢;refine⟨J.1,λi hi=>?_⟩;by_cases B7:j+1=all.length
  ·left;have:=Bz i (by omega);rw[<-B7]at this;simpa using this
  ·rcases J.2 i hi with M|M
   ·exact .inl M
   ·right;have B5:j<ps.length:=by omega
    have C1:(ps++[Dd])[i]?=some (ps[i]'(by omega)):=by rw[abl (by omega)];simp[show i<ps.length by omega]
    have C2:(ps++[Dd])[j]'(by simp;omega)=ps[j]'B5:=List.getElem_append_left B5
    rw[C2];cases BY:all[i]? with
    |none=>rw[BY]at M;cases M
    |some BR=>
     rw[BY]at M;rw[C1];simp only[Ds]at M;simp only[AY];have Af:=yW (rf I i _ (adv (show i<ps.length by omega))) j (by simpa using M.2.1) _ (adv B5);have Al:=yW (rf I j _ (adv B5)) i (by simpa using M.2.2) _ (adv (show i<ps.length by omega));have BZ:=M.1;simp only[DI,Ds]at BZ;simp only[Ds];exact⟨⟨BZ,Af⟩,Al⟩
def VO(P:Program)(Ae:Mem->Prop)(AK:List (List Nat))(all ops:List Oper)(S:St)(A1:List bf)(e:XE)(S1:St):Prop:=
 (e=.normal/\∃ps AN,Cert P Ae all ops S ps AN/\ia S1 AN/\oe AK (A1.reverse++ps)=true)\/
  (∃init ol ps AN,ops=init++[ol]/\Cert P Ae all init S ps AN/\AK.getD (all.length-1) []=[]/\oe AK (A1.reverse++ps)=true/\Bk P all AN ol e S1)
theorem Bk.eqv{P:Program}{all:List Oper}{S S0 S1:St}{e:XE}(h:Bk P all S o e S1)(he:ia S S0):Bk P all S0 o e S1:=by
 obtain⟨J,M,AI,AQ⟩:=h;refine⟨J.trans he.n,M.trans he.gl,AI,λφ G a w H next R A5 AO=>?_⟩;have:=AQ φ G a w (H.eqv he.symm) next R
 rw[he.mem]at this;exact this A5 AO
theorem H8{md:Bool}{AK:List (List Nat)}{A0:List Cl}{all:List Oper}(AD:jR X A3):∀(ops:List Oper)(S:St)(A1:List bf)(e:XE)(S1:St),A1.length+ops.length=all.length->om X A3 md AK A0 all ops S A1=some (e,S1)->S.gl=X.gl->ki S.n ops=true->
 VO X.P (sZ A0) AK all ops S A1 e S1
 |[],S,A1,e,S1,_,h,A2,I=>by
  simp only[om]at h;split at h
  ·rename_i AR;cases h;exact .inl ⟨rfl,[],S,.nil S,ia.refl _,by simpa using AR⟩
  ·cases h
 |o::rest,S,A1,e,S1,B_,h,A2,I=>by
  have Br:=I;simp only[ki,aiP,Ds]at I;obtain⟨AX,I⟩:=I;have AZ:∀t,o.dst=some t->t<S.n:=λt AE=>by rw[AE]at AX;simpa using AX
  simp only[abb]at B_;simp only[om]at h;cases BM:nq (AK.getD A1.length []) rest with
  |true=>
   rw[BM]at h;simp only[Kr]at h;obtain⟨C3,rfl⟩:=NA BM;split at h
   ·rename_i AR;right;refine⟨[],o,[],S,rfl,.nil S,?_,by simpa using AR,?_⟩
    ·have:all.length-1=A1.length:=by simp at B_;omega
     rw[this];exact C3
    ·simp only[fZ]at h;rcases ic h with ⟨BI,J,M⟩|⟨J,M⟩
     ·cases M;exact uU AD A2 AZ J
     ·exact uU AD A2 AZ J
   ·cases h
  |false=>
  rw[BM]at h;simp only at h;have glue:∀(p:bf)(E:St),(∀e∈p.es,e.key∈p.ks)->(∀m,sZ A0 m->sZ A0 (bH m p.es))->tL X.P (sZ A0) all S o p->ia E (p.app o S)->om X A3 md AK A0 all rest E (p::A1)=some (e,S1)->VO X.P (sZ A0) AK all (o::rest) S A1 e S1:=by
   intro p E Z Aq Ab heq B8;rcases H8 AD rest E (p::A1) e S1 (by simp;omega) B8 (by rw[heq.gl,sx];exact A2) (by rw[heq.n,vQ];exact I)with ⟨he,ps,BI,A7,BJ,AR⟩|⟨init,ol,ps,BI,H,A7,A5,AR,C4⟩
   ·obtain⟨Ah,Ay,Az⟩:=DV A7 heq;exact .inl ⟨he,p::ps,Ah,.cons o rest S p ps Ah Z Aq Ab Ay,BJ.trans Az,by simpa using AR⟩
   ·obtain⟨Ah,Ay,Az⟩:=DV A7 heq;exact .inr ⟨o::init,ol,p::ps,Ah,by rw[H];rfl,.cons o init S p ps Ah Z Aq Ab Ay,A5,by simpa using AR,C4.eqv Az⟩
  cases AS:p7 X.P A0 S o with
  |some x=>
   rw[AS]at h;simp only[oW,za]at h;exact glue ⟨[],[],true,x⟩ _ (by simp) (λ_ h=>h) (Su (X:=X) (all:=all) AZ AS) (ia.refl _) h
  |none=>
   rw[AS]at h;simp only[oW]at h;cases U:eE X A3 md all S o with
   |none=>rw[U]at h;cases h
   |some q=>
    obtain⟨AN,p⟩:=q;rw[U]at h;simp only[GR]at h;split at h
    ·rename_i hinv;simp only[za]at h;obtain⟨heq,As,Ab⟩:=Bn AD A2 AZ U;exact glue p AN As (H7 hinv) Ab.toI heq h
    ·cases h
end
theorem bx.Za{φ:bW}{G:Fr}{m:Mem}{w:World}(h:bx φ G m w){H I e1' e2':cJ}(A6:H∈m)(A7:I∈m)(AN:H.key≠I.key){Z A' L1' L2':Loc}(A8:φ H.key=some Z)(A9:φ I.key=some A')
 (A2:e1'.key=H.key) (A3:e2'.key=I.key) (AO:Z.ak<=L1'.ak) (AP:A'.ak<=L2'.ak) (AQ:L1'.ak=Z.ak->L1'={Z with db:=L1'.db}) (AR:L2'.ak=A'.ak->L2'={A' with db:=L2'.db})
 (AS:L1'.ak=e1'.ak) (AT:L2'.ak=e2'.ak) (AA:∀b,e1'.cont.dc L1' b->H.cont.dc Z b\/I.cont.dc A' b) (AB:∀b,e2'.cont.dc L2' b->H.cont.dc Z b\/I.cont.dc A' b)
 (AI:∀b,e1'.cont.dc L1' b->e2'.cont.dc L2' b->False)
 (AU:∀(φ':bW)(F':Nat->Prop),φ.le φ'->φ' H.key=some L1'->φ' I.key=some L2'->(∀b,F' b->Fo G φ m b)->eA φ' w F' L1' e1'.cont/\eA φ' w F' L2' e2'.cont):
 ∃φ',bx φ' G (Mem.set (Mem.set m e1') e2') w/\aX φ m w φ' (Mem.set (Mem.set m e1') e2') w:=by
 obtain⟨m',AC⟩:∃m',m'=Mem.set (Mem.set m e1') e2':=⟨_,rfl⟩;rw[<-AC];have AV:((Mem.set m e1').map (·.key)).Nodup:=by rw[Mem.gX];exact h.nodup
 have AJ:m'.map (·.key)=m.map (·.key):=by rw[AC,Mem.gX,Mem.gX]
 have A4:∀y,y∈m'->y=e2'\/y=e1'\/(y∈m/\y.key≠H.key/\y.key≠I.key):=by
  intro y V;rw[AC]at V;rcases (Mem.mem_set AV).1 V with ⟨D,_⟩|⟨D,J⟩
  ·exact .inl D
  ·rcases (Mem.mem_set h.nodup).1 D with ⟨D,_⟩|⟨D,Y⟩
   ·exact .inr (.inl D)
   ·exact .inr (.inr ⟨D,by rw[<-A2];exact Y,by rw[<-A3];exact J⟩)
 obtain⟨φ',AD⟩:∃φ':bW,φ'=λj=>if j=H.key then some L1' else if j=I.key then some L2' else φ j:=⟨_,rfl⟩
 have f1:φ' H.key=some L1':=by simp[AD]
 have f2:φ' I.key=some L2':=by simp[AD,show ¬I.key=H.key from λh=>AN h.symm]
 have f3:∀j,j≠H.key->j≠I.key->φ' j=φ j:=λj D J=>by simp[AD,D,J]
 have hle:φ.le φ':=by
  intro j AE A0;by_cases D:j=H.key
  ·subst D;rw[A8]at A0;cases A0;exact⟨_,f1,AO,AQ⟩
  ·by_cases J:j=I.key
   ·subst J;rw[A9]at A0;cases A0;exact⟨_,f2,AP,AR⟩
   ·exact⟨AE,by rw[f3 j D J];exact A0,aa7 _,λ_=>rfl⟩
 have AK:∀b,H.cont.dc Z b\/I.cont.dc A' b->jc φ m b:=λb M=>M.elim (λM=>⟨H,A6,Z,A8,M⟩) (λM=>⟨I,A7,A',A9,M⟩);have AF:∀b,jc φ' m' b->jc φ m b:=by
  rintro b ⟨y,V,U,E,O⟩;rcases A4 y V with rfl|rfl|⟨D,J,Y⟩
  ·rw[A3,f2]at E;cases E;exact AK b (AB b O)
  ·rw[A2,f1]at E;cases E;exact AK b (AA b O)
  ·rw[f3 _ J Y]at E;exact⟨y,D,U,E,O⟩
 have AL:∀b,Fo G φ' m' b->Fo G φ m b:=λb=>Or.imp id (AF b);have AM:=AU φ' (Fo G φ' m') hle f1 f2 AL;have A5:∀y∈m,y.key≠H.key->y.key≠I.key->∀U,φ y.key=some U->∀b,y.cont.dc U b->H.cont.dc Z b\/I.cont.dc A' b->False:=by
  intro y V J Y U E b O M;rcases M with M|M
  ·exact J (h.apart y V H A6 U Z E A8 ⟨b,O,M⟩)
  ·exact Y (h.apart y V I A7 U A' E A9 ⟨b,O,M⟩)
 refine⟨φ',⟨by rw[AJ];exact h.nodup,?_,?_,?_,λb M=>h.lf b (AF b M),h.bound⟩,⟨hle,λ_ _ _=>rfl,λb _ M=>AF b M,aa7 _,rfl,rfl,rfl⟩⟩
 ·intro j AE A0;rw[AJ];by_cases D:j=H.key
  ·subst D;exact adD A6
  ·by_cases J:j=I.key
   ·subst J;exact adD A7
   ·rw[f3 j D J]at A0;exact h.qz j AE A0
 ·intro y V;rcases A4 y V with rfl|rfl|⟨D,J,Y⟩
  ·exact⟨L2',by rw[A3];exact f2,AT,AM.2⟩
  ·exact⟨L1',by rw[A2];exact f1,AS,AM.1⟩
  ·obtain⟨U,E,AW,AX⟩:=h.fK y D;exact⟨U,by rw[f3 _ J Y];exact E,AW,AX.mono hle (λ_ _ _=>rfl) (aa7 _) (λb _=>AL b) (λ_ _=>rfl)⟩
 ·rintro y V z AG U AH E T ⟨b,O,A1⟩;rcases A4 y V with rfl|rfl|⟨D,J,Y⟩
  ·rw[A3,f2]at E;cases E;rcases A4 z AG with rfl|rfl|⟨g1,g2,g3⟩
   ·rfl
   ·rw[A2,f1]at T;cases T;exact (AI b A1 O).elim
   ·rw[f3 _ g2 g3]at T;exact (A5 z g1 g2 g3 AH T b A1 (AB b O)).elim
  ·rw[A2,f1]at E;cases E;rcases A4 z AG with rfl|rfl|⟨g1,g2,g3⟩
   ·rw[A3,f2]at T;cases T;exact (AI b O A1).elim
   ·rfl
   ·rw[f3 _ g2 g3]at T;exact (A5 z g1 g2 g3 AH T b A1 (AA b O)).elim
  ·rw[f3 _ J Y]at E;rcases A4 z AG with rfl|rfl|⟨g1,g2,g3⟩
   ·rw[A3,f2]at T;cases T;exact (A5 y D J Y U E b O (AB b A1)).elim
   ·rw[A2,f1]at T;cases T;exact (A5 y D J Y U E b O (AA b A1)).elim
   ·rw[f3 _ g2 g3]at T;exact h.apart y D z g1 U AH E T ⟨b,O,A1⟩
theorem Sv(S:St)(Ao j k sz:Nat):eo S (S.jZ Ao j k sz):=by
 unfold St.jZ;split
 ·rename_i key BI cs U v cont Bg A';split
  ·rename_i A7;split
   ·exact eo.refl S
   ·rename_i AP;refine⟨rfl,rfl,λφ G a w I=>?_⟩;obtain⟨hm,A0,L,AB,AL,Ad⟩:=I.mem.get A';simp only at A0 AL;subst A0;obtain⟨Bh,AZ,Ci,Cj,De⟩:=I.mem.dp (e':=⟨U,v+1,.vec sz []⟩) hm AB rfl (L':=⟨v+1,0,sz,0,0,[]⟩) (by simp only;omega) (λhh=>by simp only at hh;omega) rfl
     (w':=w) (λ_ _ _=>rfl) (aa7 _) (λ_ A3=>absurd A3.1 (by simp)) rfl rfl rfl (λφ' AU Bi=>⟨rfl,by simp,by simp,λM=>by simp at M⟩)
    have Ck:Mem.get (Mem.set S.mem ⟨U,v+1,.vec sz []⟩) Ao=some ⟨key,BI,.box cs⟩:=by
     rw[Mem.pP (by simpa using λh=>AP h.symm)];exact Bg
    obtain⟨BX,BJ,BK,BY,BL,Bj⟩:=AZ.get Ck;simp only at BJ BL;subst BJ;obtain⟨AO,Ap,AH,Df,Dg⟩:=AZ.dp (e':=⟨key,BI,.box (cs.set j (.vec U (v+1) 0 0))⟩) BX BY rfl (L':=BK) (aa7 _) (λ_=>rfl) BL
     (w':=w) (λ_ _ _=>rfl) (aa7 _) (λ_ A3=>.inl A3) rfl rfl rfl (λφ' AU Bi=>by
      obtain⟨g0,arr,elem,g1,g2,g3,g4⟩:=Bj;have Cl:∀b,Fo G φ' (Mem.set (Mem.set S.mem ⟨U,v+1,.vec sz []⟩) ⟨key,BI,.box (cs.set j (.vec U (v+1) 0 0))⟩) b->Fo G Bh (Mem.set S.mem ⟨U,v+1,.vec sz []⟩) b:=by
       rintro b (h|⟨x,AC,Bk,Ae,BM⟩)
       ·exact .inl h
       ·right;rcases (Mem.mem_set AZ.nodup).1 AC with ⟨rfl,_⟩|⟨Bl,Bn⟩
        ·simp only[AU,afz]at Ae;cases Ae;exact⟨_,BX,BK,BY,BM⟩
        ·simp only[AU,Bn,adW]at Ae;exact⟨x,Bl,Bk,Ae,BM⟩
      refine⟨by simpa using g0,arr,elem,g1,by simp[g2],g3,λi c u M hu=>?_⟩;rw[List.getElem?_set]at M;split at M
      ·rename_i Aq;subst Aq;split at M
       ·cases M;have:=g4 j _ u A7 hu;cases this;refine .vec U (v+1) 0 0 _ ⟨v+1,0,sz,0,0,[]⟩ ?_ (aa7 _) (λ_=>⟨_,_,rfl,by simp,λh=>by omega⟩) rfl;rw[AU];simp only
        rw[aa4 (λh=>AP h.symm)];exact Cj
       ·cases M
      ·exact (g4 i c u M hu).mono Bi (λ_ _ _=>rfl) (aa7 _) (λb _=>Cl b))
    have CG:=Ci.trans AH;exact⟨AO,I.Av Ap CG,CG⟩
  ·exact eo.refl S
 ·exact eo.refl S
theorem Bq(AR:AV->AV):∀m:Mem,(uQ AR m).map (·.key)=m.map (·.key)
 |[]=>rfl
 |e::r=>by simp[uQ,Bq AR r]
theorem KP{AR:AV->AV}:∀{m:Mem}{x:cJ},x∈uQ AR m↔∃e∈m,x=⟨e.key,e.ak,qY AR e.cont⟩
 |[],x=>by simp[uQ]
 |e::r,x=>by simp[uQ,KP (m:=r)]
theorem Sw(S:St)(k AW:Nat):eo S (S.yX k AW):=by
 unfold St.yX;split
 ·rename_i key v sz aj U v2 cont A' Af;split
  ·exact eo.refl S
  ·rename_i AP;refine⟨rfl,rfl,λφ G a w I=>?_⟩;obtain⟨hm,A0,L,AB,AL,Ad⟩:=I.mem.get A';obtain⟨Ap,AH,A_,B0,B8,_⟩:=I.mem.get Af;simp only at A0 AL AH B8;subst A0;subst AH;have Cm:¬U=key:=λh=>AP h.symm;obtain⟨AR,CH⟩:∃AR,AR=GS key v U (v2+1):=⟨_,rfl⟩;rw[<-CH];obtain⟨BZ,AZ⟩:∃BZ,BZ=Mem.set (uQ AR S.mem) ⟨key,v+1,.dead⟩:=⟨_,rfl⟩;have CI:((uQ AR S.mem).map (·.key)).Nodup:=by rw[Bq];exact I.mem.nodup
   have AM:(BZ.map (·.key)).Nodup:=by rw[AZ,Mem.gX];exact CI
   obtain⟨m',AY⟩:∃m',m'=Mem.set BZ ⟨U,v2+1,.vec sz aj⟩:=⟨_,rfl⟩;rw[<-AZ,<-AY];have BN:m'.map (·.key)=S.mem.map (·.key):=by rw[AY,Mem.gX,AZ,Mem.gX,Bq]
   have BO:∀y,y∈m'->y=⟨U,v2+1,.vec sz aj⟩\/y=⟨key,v+1,.dead⟩\/(∃z∈S.mem,y=⟨z.key,z.ak,qY AR z.cont⟩/\z.key≠key/\z.key≠U):=by
    intro y AI;rw[AY]at AI;rcases (Mem.mem_set AM).1 AI with ⟨h,_⟩|⟨h,J⟩
    ·exact .inl h
    ·rw[AZ]at h;rcases (Mem.mem_set CI).1 h with ⟨h,_⟩|⟨h,T⟩
     ·exact .inr (.inl h)
     ·obtain⟨z,B_,rfl⟩:=KP.1 h;exact .inr (.inr ⟨z,B_,rfl,T,J⟩)
   obtain⟨φ',AU⟩:∃φ':bW,φ'=λj=>if j=key then some {L with ak:=v+1} else if j=U then some {L with ak:=v2+1} else φ j:=⟨_,rfl⟩
   have f1:φ' key=some {L with ak:=v+1}:=by simp[AU]
   have f2:φ' U=some {L with ak:=v2+1}:=by simp[AU,Cm]
   have f3:∀j,j≠key->j≠U->φ' j=φ j:=λj H J=>by simp[AU,H,J]
   have hle:φ.le φ':=by
    intro j Bo AD;by_cases H:j=key
    ·subst H;rw[AB]at AD;cases AD;exact⟨_,f1,by simp only;omega,λhh=>by simp only at hh;omega⟩
    ·by_cases J:j=U
     ·subst J;rw[B0]at AD;cases AD;exact⟨_,f2,by simp only;omega,λhh=>by simp only at hh;omega⟩
     ·exact⟨Bo,by rw[f3 j H J];exact AD,aa7 _,λ_=>rfl⟩
   have Bp:∀b,jc φ' m' b->jc φ S.mem b:=by
    rintro b ⟨y,AI,B9,AJ,Ar⟩;rcases BO y AI with rfl|rfl|⟨B1,H,rfl,J,T⟩
    ·simp only at AJ;rw[f2]at AJ;cases AJ;exact⟨_,hm,L,AB,Ar⟩
    ·exact Ar.elim
    ·simp only at AJ;rw[f3 _ J T]at AJ;exact⟨B1,H,B9,AJ,lQ.1 Ar⟩
   have A1:∀b,Fo G φ' m' b->Fo G φ S.mem b:=λb=>Or.imp id (Bp b);have B2:∀x u,aF φ w (Fo G φ S.mem) x u->aF φ' w (Fo G φ' m') (AR x) u:=by
    intro y u AD;have CJ:=AD.mono (φ':=φ') (F':=Fo G φ' m') hle (λ_ _ _=>rfl) (aa7 _) (λb _=>A1 b);rw[CH];unfold GS;split
    ·rename_i Di v0 o l;split
     ·rename_i hh;obtain⟨rfl,rfl⟩:=hh;cases AD with
      |vec _ _ _ _ _ L' Au _ h H=>
       rw[AB]at Au;cases Au;exact .vec U (v2+1) o l _ _ f2 (aa7 _) (λ_=>h AL.symm) H
     ·exact CJ
    ·exact CJ
   refine⟨φ',⟨I.size,I.defers,?_,⟨?_,?_,?_,?_,?_,?_⟩,I.lg.mono (λ_ _ _=>rfl) (aa7 _) (λb _=>A1 b)⟩,J8 Bp hle⟩
   ·intro t x AC;obtain⟨y,AI,rfl⟩:=AS _ S.env t true x AC;exact B2 _ _ (I.env t y AI)
   ·show (m'.map (·.key)).Nodup;rw[BN];exact I.mem.nodup
   ·intro j Bo AD;show j∈m'.map (·.key);rw[BN];by_cases H:j=key
    ·subst H;exact adD hm
    ·by_cases J:j=U
     ·subst J;exact adD Ap
     ·rw[f3 j H J]at AD;exact I.mem.qz j Bo AD
   ·intro y AI;rcases BO y AI with rfl|rfl|⟨B1,H,rfl,J,T⟩
    ·refine⟨_,f2,rfl,?_⟩;have:=Ad.mono (φ':=φ') (F':=Fo G φ' m') hle (λ_ _ _=>rfl) (aa7 _) (λb _=>A1 b) (λ_ _=>rfl);exact this
    ·exact⟨_,f1,rfl,trivial⟩
    ·obtain⟨B9,AJ,Cn,BA⟩:=I.mem.fK B1 H;refine⟨B9,by simp only;rw[f3 _ J T];exact AJ,Cn,?_⟩;cases Bs:B1.cont with
     |dead=>trivial
     |box cs=>
      rw[Bs]at BA;obtain⟨g0,arr,elem,g1,g2,g3,g4⟩:=BA;refine⟨by simpa using g0,arr,elem,g1,by simp[g2],g3,λi c u CK hu=>?_⟩;rw[adz]at CK;obtain⟨x,AC,rfl⟩:=aba.1 CK;exact B2 x u (g4 i x u AC hu)
     |vec Dj Co=>
      rw[Bs]at BA;exact BA.mono hle (λ_ _ _=>rfl) (aa7 _) (λb _=>A1 b) (λ_ _=>rfl)
     |vv Co Dk=>
      rw[Bs]at BA;exact ld.mono AR BA (λ_ _ _ _ u hu=>hu.mono (λ_ _ _=>rfl) (aa7 _) (λb _=>A1 b)) (λx _ v AC=>B2 x v AC) (λ_ _=>rfl)
   ·rintro y AI z B_ B9 CL AJ Ag ⟨b,Ar,BP⟩;rcases BO y AI with rfl|rfl|⟨B1,H,rfl,J,T⟩
    ·rcases BO z B_ with rfl|rfl|⟨z0,g1,rfl,g2,g3⟩
     ·rfl
     ·exact BP.elim
     ·simp only at AJ;rw[f2]at AJ;cases AJ;simp only at Ag;rw[f3 _ g2 g3]at Ag;exact absurd (I.mem.apart _ hm z0 g1 L CL AB Ag ⟨b,Ar,lQ.1 BP⟩).symm g2
    ·exact Ar.elim
    ·rcases BO z B_ with rfl|rfl|⟨z0,g1,rfl,g2,g3⟩
     ·simp only at Ag;rw[f2]at Ag;cases Ag;simp only at AJ;rw[f3 _ J T]at AJ;exact absurd (I.mem.apart B1 H _ hm B9 L AJ AB ⟨b,lQ.1 Ar,BP⟩) J
     ·exact BP.elim
     ·simp only at AJ Ag;rw[f3 _ J T]at AJ;rw[f3 _ g2 g3]at Ag;exact I.mem.apart B1 H z0 g1 B9 CL AJ Ag ⟨b,lQ.1 Ar,lQ.1 BP⟩
   ·intro b E;exact I.mem.lf b (Bp b E)
   ·exact I.mem.bound
 ·exact eo.refl S
theorem VQ{α:Type}{l:List α}{n:Nat}(h:l.length=n+1):∃(r:List α)(o:α),l=r++[o]/\r.length=n:=by
 refine⟨l.dropLast,l.getLast (by intro hh;simp[hh]at h),(List.dropLast_concat_getLast _).symm,by simp[h]⟩
theorem Zc(S:St)(k AW:Nat):eo S (S.eL k AW):=by
 unfold St.eL;split
 ·rename_i key v aj U v2 cont A' Af;split
  ·rename_i xs BQ;split
   ·exact eo.refl S
   ·rename_i AP;refine⟨rfl,rfl,λφ G a w I=>?_⟩;obtain⟨hm,A0,L,AB,AL,Ad⟩:=I.mem.get A';obtain⟨Ap,AH,A_,B0,B8,_⟩:=I.mem.get Af;simp only at A0 AL AH B8;subst A0;subst AH;have CM:aj=aj.dropLast++[xs]:=by
     rcases ajk aj with rfl|⟨r,x,rfl⟩
     ·simp at BQ
     ·simp at BQ;subst BQ;simp
    obtain⟨r,Cp⟩:∃r,r=aj.dropLast:=⟨_,rfl⟩;rw[<-Cp]at CM⊢;subst CM;obtain⟨⟨AD,H,J⟩,T,AK,Ai⟩:ld φ w (Fo G φ S.mem) L (r++[xs]) none:=Ad;simp only[aa9,afZ,Option.toList_none,abn,af5]at H J;obtain⟨arr,elem,g1,g2,g3,g4,_⟩:=Ai (by omega);obtain⟨db,o,BB,Bt⟩:=VQ J;have CN:=g4 r.length xs o (by simp) (by rw[BB,<-Bt];simp);have BC:∀b,some b∈db->some b∈L.db:=λb E=>by rw[BB];simp[E]
    have Aa:∀(i:Nat)(x:Option Nat),db[i]?=some x->L.db[i]?=some x:=λi x AC=>by
     rw[BB,abl (aa1.1 AC).1];exact AC
    have Cq:∀b,o=some b->some b∉db:=λb E hm=>by
     obtain⟨i,hi⟩:=an5 hm;have B3:=(aa1.1 hi).1;have:=T i r.length b (Aa i _ hi) (by rw[BB,<-Bt,<-E];simp);omega
    have base:∀(L2':Loc)(x:Value),(L2'.ak=v2+1/\L2'.sz=1)->arr[L.base+r.length]?=some x->(∀(φ':bW)(F':Nat->Prop),φ' U=some L2'->aF φ' w F' (.vec U (v2+1) 0 xs.length) x)->
     (∀b,0<L2'.cap->L2'.dO=b->o=some b)->
     (∀(φ':bW)(F':Nat->Prop),φ.le φ'->(∀b,F' b->Fo G φ S.mem b)->eA φ' w F' L2' (.vec 1 xs))->
     ∃φ',Rel φ' G {S with mem:=Mem.set (Mem.set S.mem ⟨key,v,.vv r (some (.vec U (v2+1) 0 xs.length))⟩) ⟨U,v2+1,.vec 1 xs⟩} a w/\aX φ S.mem w φ' (Mem.set (Mem.set S.mem ⟨key,v,.vv r (some (.vec U (v2+1) 0 xs.length))⟩) ⟨U,v2+1,.vec 1 xs⟩) w:=by
     intro L2' x Bu AC B2 CO Cr;have BD:∀(φ':bW)(F':Nat->Prop),φ.le φ'->φ' U=some L2'->(∀b,F' b->Fo G φ S.mem b)->eA φ' w F' {L with db:=db} (.vv r (some (.vec U (v2+1) 0 xs.length))):=by
      intro φ' F' hle f2 A1;refine⟨⟨AD,by simp;omega,Bt⟩,λi j b hi A7=>T i j b (Aa _ _ hi) (Aa _ _ A7),λb E=>AK b (BC b E),λ_=>⟨arr,elem,g1,g2,g3,λi Bv Bw hi A3=>?_,λy AI=>?_⟩⟩
      ·have B4:=(aa1.1 hi).1;exact (g4 i Bv Bw (by rw[abl B4];exact hi) (Aa _ _ A3)).mono (λd u _ hu=>hu.mono (λ_ _ _=>rfl) (aa7 _) (λb _=>A1 b)) (λ_ _=>rfl)
      ·cases AI;exact⟨x,AC,B2 φ' F' f2⟩
     obtain⟨φ',AY,Z⟩:=I.mem.Za (e1':=⟨key,v,.vv r (some (.vec U (v2+1) 0 xs.length))⟩) (e2':=⟨U,v2+1,.vec 1 xs⟩) hm Ap AP AB B0 (L1':={L with db:=db}) (L2':=L2') rfl rfl (aa7 _) (by rw[Bu.1];omega)
      (λ_=>rfl) (λhh=>by rw[Bu.1]at hh;omega) AL Bu.1 (λb E=>.inl (by
       rcases E with E|E
       ·exact .inl E
       ·exact .inr (BC b E))) (λb E=>.inl (.inr (by rw[BB,CO b E.1 E.2];simp))) (λb BR Ba=>by
       have CP:=CO b Ba.1 Ba.2;rcases BR with ⟨_,BR⟩|BR
       ·exact (AK b (by rw[BB,CP];simp)).2 BR.symm
       ·exact Cq b CP BR) (λφ' F' hle f1 f2 A1=>⟨BD φ' F' hle f2 A1,Cr φ' F' hle A1⟩)
     exact⟨φ',I.Av AY Z,Z⟩
    cases o with
    |none=>
     obtain⟨rfl,b,AF⟩:=CN;exact base ⟨v2+1,0,1,0,0,[]⟩ _ ⟨rfl,rfl⟩ AF (λφ' F' Ab=>.vec U _ 0 0 _ _ Ab (aa7 _) (λ_=>⟨_,_,rfl,by simp,λh=>by omega⟩) rfl) (λb E=>by simp at E) (λφ' F' hle A1=>⟨rfl,by simp,by simp,λM=>by simp at M⟩)
    |some b=>
     obtain⟨row,Cs,off,cap,q1,q2,q3,Dl,Ct,Cu,CQ⟩:=CN;refine base ⟨v2+1,b,1,row.size-off,off,[]⟩ _ ⟨rfl,rfl⟩ q1 (λφ' F' Ab=>.vec U _ 0 _ _ _ Ab (aa7 _) (λ_=>⟨_,cap,rfl,q3,λh=>⟨by simp,by simp only;omega⟩⟩) rfl) (λDm _ E=>by simp only at E;rw[E]) (λφ' F' hle A1=>?_);refine⟨rfl,by simp only;omega,λd V=>?_,λM=>⟨row,Cs,Ct,by simp only;omega,Cu,λi d hi=>?_⟩⟩
     ·obtain⟨i,hi⟩:=an5 V;exact (CQ i d hi).1
     ·obtain⟨_,u,hu,A7⟩:=CQ i d hi;exact⟨u,hu.mono (λ_ _ _=>rfl) (aa7 _) (λb _=>A1 b),A7⟩
  ·exact eo.refl S
 ·exact eo.refl S
theorem Zd(S:St)(k AW:Nat):eo S (S.cls k AW):=by
 unfold St.cls;split
 ·rename_i key v aj Dn v3 len U v2 xs A' Af;split
  ·exact eo.refl S
  ·rename_i AP;split
   ·rename_i Cv;obtain⟨rfl,rfl,rfl⟩:=Cv;refine⟨rfl,rfl,λφ G a w I=>?_⟩;obtain⟨hm,A0,L,AB,AL,Ad⟩:=I.mem.get A';obtain⟨Ap,AH,A_,B0,B8,Cw⟩:=I.mem.get Af;simp only at A0 AL AH B8;subst A0;subst AH;obtain⟨⟨AD,H,J⟩,T,AK,Ai⟩:ld φ w (Fo G φ S.mem) L aj (some (.vec U v3 0 xs.length)):=Ad;simp only[Option.toList_some,afZ]at H;obtain⟨arr,elem,g1,g2,g3,g4,g5⟩:=Ai (by omega);obtain⟨y,Cx,Cy⟩:=g5 _ rfl;obtain⟨z0,Do,z2,z3⟩:=Cw;have Bx:∀b,0<A_.cap->A_.dO=b->(L.dO=b\/some b∈L.db)->False:=by
     intro b M E hh;refine AP (I.mem.apart _ hm _ Ap L A_ AB B0 ⟨b,?_,⟨M,E⟩⟩);rcases hh with hh|hh
     ·exact .inl ⟨by omega,hh⟩
     ·exact .inr hh
    have base:∀(o:Option Nat),(∀b,o=some b->0<A_.cap/\A_.dO=b)->(∀F':Nat->Prop,(∀b,F' b->Fo G φ S.mem b)->As w F' (some y) xs o)->
     ∃φ',Rel φ' G {S with mem:=Mem.set (Mem.set S.mem ⟨key,v,.vv (aj++[xs]) none⟩) ⟨U,v3+1,.dead⟩} a w/\aX φ S.mem w φ' (Mem.set (Mem.set S.mem ⟨key,v,.vv (aj++[xs]) none⟩) ⟨U,v3+1,.dead⟩) w:=by
     intro o A3 Cz;have CS:∀(i b:Nat),(L.db++[o])[i]?=some (some b)->(L.db[i]?=some (some b)/\i<L.db.length)\/(i=L.db.length/\o=some b):=by
      intro i b hi;rcases Nat.lt_trichotomy i L.db.length with B3|heq|Dp
      ·rw[abl B3]at hi;exact .inl ⟨hi,B3⟩
      ·subst heq;simp at hi;exact .inr ⟨rfl,hi⟩
      ·rw[abq (by omega)]at hi;have:i-L.db.length=(i-L.db.length-1)+1:=by omega
       rw[this]at hi;simp at hi
     have BD:∀(φ':bW)(F':Nat->Prop),(∀b,F' b->Fo G φ S.mem b)->eA φ' w F' {L with db:=L.db++[o]} (.vv (aj++[xs]) none):=by
      intro φ' F' A1;refine⟨⟨AD,by simp;omega,by simp[J]⟩,λi j b hi A7=>?_,λb E=>?_,λ_=>⟨arr,elem,g1,g2,g3,λi Bv Bw hi BS=>?_,λy AI=>by cases AI⟩⟩
      ·rcases CS i b hi with ⟨Aa,B4⟩|⟨D',Aa⟩<;>rcases CS j b A7 with ⟨BE,Aw⟩|⟨D0,BE⟩
       ·exact T i j b Aa BE
       ·exact (Bx b (A3 b BE).1 (A3 b BE).2 (.inr (abk Aa))).elim
       ·exact (Bx b (A3 b Aa).1 (A3 b Aa).2 (.inr (abk BE))).elim
       ·rw[D',D0]
      ·simp only[abo,List.mem_singleton]at E;refine⟨by simp only;omega,?_⟩;rcases E with E|E
       ·exact (AK b E).2
       ·exact λhh=>Bx b (A3 b E.symm).1 (A3 b E.symm).2 (.inl hh.symm)
      ·rcases Nat.lt_or_ge i aj.length with B3|Dq
       ·rw[abl B3]at hi;rw[abl (by omega)]at BS;exact (g4 i Bv Bw hi BS).mono (λd u _ hu=>hu.mono (λ_ _ _=>rfl) (aa7 _) (λb _=>A1 b)) (λ_ _=>rfl)
       ·have D1:i=aj.length:=by have:=(aa1.1 hi).1;simp at this;omega
        subst D1;simp at hi;subst hi;rw[<-J]at BS;simp at BS;subst BS;simp only
        rw[Cx];exact Cz F' A1
     obtain⟨φ',AY,Z⟩:=I.mem.Za (e1':=⟨key,v,.vv (aj++[xs]) none⟩) (e2':=⟨U,v3+1,.dead⟩) hm Ap AP AB B0 (L1':={L with db:=L.db++[o]}) (L2':={A_ with ak:=v3+1}) rfl rfl (aa7 _) (by simp only;omega)
      (λ_=>rfl) (λhh=>by simp only at hh;omega) AL rfl (λb E=>by
       rcases E with E|E
       ·exact .inl (.inl E)
       ·simp only[abo,List.mem_singleton]at E;rcases E with E|E
        ·exact .inl (.inr E)
        ·exact .inr (A3 b E.symm)) (λb E=>E.elim) (λb _ Ba=>Ba) (λφ' F' hle f1 f2 A1=>⟨BD φ' F' A1,trivial⟩)
     exact⟨φ',I.Av AY Z,Z⟩
    cases Cy with
    |vec _ _ _ _ _ L' Au Dr AN BD=>
     rw[B0]at Au;cases Au;obtain⟨D2,cap,rfl,D3,D4⟩:=AN B8.symm;by_cases CT:0<cap
     ·obtain⟨rfl,BF⟩:=D4 CT;obtain⟨D5,D6,t1,t2,t3,t4⟩:=z3 (by omega);refine base (some A_.dO) (λb E=>by cases E;exact⟨by omega,rfl⟩) (λF' A1=>⟨D5,D6,A_.base,cap,by simp,CT,D3,by rw[t2,z0];omega,t1,t3,λi d V=>?_⟩);obtain⟨u,hu,A7⟩:=t4 i d V;rw[z0]at A7;exact⟨by rw[z2 d (abk V),z0],u,hu.mono (λ_ _ _=>rfl) (aa7 _) (λb _=>A1 b),A7⟩
     ·have CU:xs=[]:=List.length_eq_zero_iff.1 (by omega);have D7:cap=0:=by omega
      subst D7;refine base none (λb E=>by cases E) (λF' A1=>⟨CU,D2,by rw[CU];rfl⟩)
   ·exact eo.refl S
 ·exact eo.refl S
theorem VR(S:St)(k:Nat):eo S (S.shut k):=by
 unfold St.shut;split
 ·rename_i key v aj y A';refine⟨rfl,rfl,λφ G a w I=>?_⟩;obtain⟨hm,A0,L,AB,AL,Ad⟩:=I.mem.get A';simp only at A0 AL;subst A0;obtain⟨φ',AY,Z,_,_⟩:=I.mem.dp (e':=⟨key,v,.vv aj none⟩) hm AB rfl (L':=L) (aa7 _) (λ_=>rfl) AL
   (w':=w) (λ_ _ _=>rfl) (aa7 _) (λ_ A3=>.inl A3) rfl rfl rfl (λφ' AU Bi=>by
    obtain⟨⟨AD,H,J⟩,T,AK,Ai⟩:ld φ w (Fo G φ S.mem) L aj (some y):=Ad;refine⟨⟨AD,by simp at H⊢;omega,J⟩,T,AK,λM=>?_⟩;obtain⟨arr,elem,g1,g2,g3,g4,g5⟩:=Ai M;refine⟨arr,elem,g1,g2,g3,λi xs o hi A3=>(g4 i xs o hi A3).mono (λd u _ hu=>hu.mono (λ_ _ _=>rfl) (aa7 _) (λb _ E=>?_)) (λ_ _=>rfl),λy AI=>by cases AI⟩;rcases E with E|⟨x,AC,Bk,Ae,BM⟩
    ·exact .inl E
    ·right;rcases (Mem.mem_set I.mem.nodup).1 AC with ⟨rfl,_⟩|⟨Bl,Bn⟩
     ·simp only[AU,afz]at Ae;cases Ae;exact⟨_,hm,L,AB,BM⟩
     ·simp only[AU,Bn,adW]at Ae;exact⟨x,Bl,Bk,Ae,BM⟩)
  exact⟨φ',I.Av AY Z,Z⟩
 ·exact eo.refl S
theorem NB(S:St)(Ao j k:Nat):eo S (S.sC Ao j k):=by
 unfold St.sC;split
 ·rename_i key BI cs U v cont Bg A';split
  ·rename_i A7;split
   ·exact eo.refl S
   ·rename_i AP;refine⟨rfl,rfl,λφ G a w I=>?_⟩;obtain⟨BX,BJ,BK,BY,BL,Bj⟩:=I.mem.get Bg;obtain⟨hm,A0,L,AB,AL,Ad⟩:=I.mem.get A';simp only at BJ BL A0 AL;subst BJ;subst A0;have BD:∀(φ':bW)(F':Nat->Prop),φ.le φ'->φ' U=some ⟨v+1,0,1,0,0,[]⟩->(∀b,F' b->Fo G φ S.mem b)->eA φ' w F' BK (.box (cs.set j (.vec U (v+1) 0 0))):=by
     intro φ' F' hle f2 A1;obtain⟨g0,arr,elem,g1,g2,g3,g4⟩:=Bj;refine⟨by simpa using g0,arr,elem,g1,by simp[g2],g3,λi c u M hu=>?_⟩;rw[List.getElem?_set]at M;split at M
     ·rename_i Aq;subst Aq;split at M
      ·cases M;have:=g4 j _ u A7 hu;cases this;exact .vec U (v+1) 0 0 _ _ f2 (aa7 _) (λ_=>⟨_,_,rfl,by simp,λh=>by omega⟩) rfl
      ·cases M
     ·exact (g4 i c u M hu).mono hle (λ_ _ _=>rfl) (aa7 _) (λb _=>A1 b)
    obtain⟨φ',AY,Z⟩:=I.mem.Za (e1':=⟨key,BI,.box (cs.set j (.vec U (v+1) 0 0))⟩) (e2':=⟨U,v+1,.vv [] none⟩) BX hm AP BY AB (L1':=BK) (L2':=⟨v+1,0,1,0,0,[]⟩) rfl rfl (aa7 _) (by simp only;omega)
     (λ_=>rfl) (λhh=>by simp only at hh;omega) BL rfl (λb E=>.inl E) (λb E=>by
      rcases E with ⟨E,_⟩|E
      ·simp at E
      ·simp at E) (λb _ E=>by
      rcases E with ⟨E,_⟩|E
      ·simp at E
      ·simp at E) (λφ' F' hle f1 f2 A1=>⟨BD φ' F' hle f2 A1,⟨⟨rfl,by simp,rfl⟩,λi j b hi=>by simp at hi,λb E=>by simp at E,λM=>by simp at M⟩⟩)
    exact⟨φ',I.Av AY Z,Z⟩
  ·exact eo.refl S
 ·exact eo.refl S
theorem aeb(S:St)(g:Gh):eo S (g.go S):=by
 cases g with
 |trim k=>exact E3 S k
 |freeze k=>exact Nt S k
 |jZ Ao j k sz=>exact Sv S Ao j k sz
 |yX k AW=>exact Sw S k AW
 |eL k AW=>exact Zc S k AW
 |cls k AW=>exact Zd S k AW
 |shut k=>exact VR S k
 |sC Ao j k=>exact NB S Ao j k
theorem zn:∀(l:List Gh)(S:St),eo S (Fp S l)
 |[],S=>eo.refl S
 |g::r,S=>(aeb S g).trans (zn r _)
theorem tQ(X:Ctx)(f:FuncId)(id:Nat)(S:St):eo S (S.leave X f id):=(R0 S _).trans (zn _ _)
def eU(X:Ctx)(f:FuncId)(n:Nat):Code->Bool
 | .region id ops draw=>ki n ops.toList&&(!draw||DJ ops.toList (X.od f id))
 | .seq a b=>eU X f n a&&eU X f n b
 | .cond _ a b=>eU X f n a&&eU X f n b
 | .block _ c=>eU X f n c
 | .loop c=>eU X f n c
 |_=>true
structure kr(X:Ctx):Prop where
 ov:X.ov=none
 names:∀(g:FuncId)(fn:Func),X.P.funcs[g]?=some fn->fn.name≠ "runtime.NumGoroutine"
 Ze:∀(g:FuncId)(fn:Func)(c:Code),X.P.funcs[g]?=some fn->fn.body=some c->eU X g fn.ntmps c=true
 mixed:X.P.follows .mixedOrders=true
 Ah:∀(g:FuncId)(h:List AV->Option AV),X.Ah g=some h->ib X.P g=true/\∀(By:List AV)(a:AV),h By=some a->∀(φ:bW)(F:Nat->Prop)(w:World)(vs:Array Value),fg w F X.gl->(∀b,F b->b<w.heap.size)->By.length=vs.size->
  (∀(i:Nat) x v,By[i]?=some x->vs[i]?=some v->aF φ w F x v)->Calls X.P g vs w λe w'=>∃v,e=.returned v/\Go.RowKit.Below w.heap.size w w'/\aF φ w' F a v
theorem oc.is{n:Nat}{φ:bW}{G:Fr}{m:Mem}{w:World}{e:XE}{O:St}{e':Exit}{Y:Act}{w':World}(h:oc n φ G m w (Is e O) e' Y w'):
 ∃φ',O.n=n/\Rel φ' G O Y w'/\aX φ m w φ' O.mem w'/\(match e' with
  | .normal=>e=.normal
  | .exit id=>e=.exit id
  | .ret=>e=.ret
  | .panic chain=>∃t x v,e=.panic t x/\chain=[{v:=.iface t v,recovered:=false}]/\aQ w' (Fo G φ' O.mem) x v
  |_=>False):=by
 cases e' with
 |normal=>obtain⟨φ',A5,A2,⟨H,rfl⟩,J,T⟩:=h;exact⟨φ',A2,J,T,H.symm⟩
 |exit id=>obtain⟨φ',A5,A2,⟨H,rfl⟩,J,T⟩:=h;exact⟨φ',A2,J,T,H.symm⟩
 |ret=>obtain⟨φ',A5,A2,⟨H,rfl⟩,J,T⟩:=h;exact⟨φ',A2,J,T,H.symm⟩
 |panic chain=>obtain⟨φ',A5,t,x,v,M,V,A2,⟨H,rfl⟩,J,T⟩:=h;exact⟨φ',A2,J,T,t,x,v,H.symm,M,V⟩
 |_=>exact h.elim
section
variable {X:Ctx} {Ax:bE} {f:FuncId} {n:Nat}
theorem aec{P:Program}{c:Code}{S S1:St}{Q:XE->St->Prop}(t:eo S S1)(h:ng P c S1 Q):ng P c S Q:=λφ G a w I=>by
 obtain⟨Bh,D8,A0⟩:=t.2.2 φ G a w I;exact wp_mono (h Bh G a w D8) λe a2 BT AG=>by rw[t.1]at AG;exact AG.weaken A0
theorem KQ{P:Program}{S:St}{e:XE}{c:Code}{k:St->St}(A0:∀S,eo S (k S)){r:Option (XE×St)}{O:St}(h:xc k r=some (e,O))
 (I:∀A8 S1,r=some (A8,S1)->S1.n=S.n/\S1.gl=S.gl/\ng P c S (Is A8 S1)):O.n=S.n/\O.gl=S.gl/\ng P c S (Is e O):=by
 unfold xc at h;split at h
 ·rename_i S1;cases h;obtain⟨H,J,T⟩:=I _ _ rfl;obtain⟨t1,t2,t3⟩:=A0 S1;refine⟨t1.trans H,t2.trans J,λφ G a w Bz=>wp_mono (T φ G a w Bz) λe' Y w' AG=>?_⟩;obtain⟨φ',A2,A9,Z,he⟩:=AG.is;cases e' with
  |normal=>
   obtain⟨AO,B5,AH⟩:=t3 φ' G Y w' A9;exact⟨AO,k S1,t1.trans A2,⟨rfl,rfl⟩,B5,Z.trans AH⟩
  |exit id=>cases he
  |ret=>cases he
  |panic chain=>obtain⟨t,x,v,AK,_⟩:=he;cases AK
  |_=>exact he.elim
 ·exact I _ _ h
theorem aed{P:Program}{B6:Mem->Prop}{all:List Oper}{ops:List Oper}{S:St}{ps:List bf}{S1:St}(h:Cert P B6 all ops S ps S1):S1.n=S.n/\S1.gl=S.gl:=by
 induction h with
 |nil S=>exact⟨rfl,rfl⟩
 |cons o rest S p ps S1 _ _ _ _ ih=>exact⟨ih.1.trans (vQ ..),ih.2.trans (sx ..)⟩
theorem KR{P:Program}{B6:Mem->Prop}{all:List Oper}:∀{ops:List Oper}{S:St}{ps:List bf}{S1:St},Cert P B6 all ops S ps S1->ps.length=ops.length:=by
 intro ops S ps S1 h;induction h with
 |nil S=>rfl
 |cons o rest S p ps S1 _ _ _ _ ih=>simp[ih]
theorem H9:∀{es:List cJ},GO es=true->∀e∈es,100<=e.key
 |_::r,h,e,he=>by
  simp only[GO,Ds,aa8]at h;rcases abd.1 he with rfl|he
  ·exact h.1
  ·exact H9 h.2 e he
theorem Ia{ps:List bf}:∀{CV:List Nat},A6 ps CV=true->∀i∈CV,∀p,ps[i]?=some p->∀e∈p.es,100<=e.key
 |k::r,h,i,hi,p,AG,e,he=>by
  simp only[A6,Ds]at h;rcases abd.1 hi with rfl|hi
  ·have:=h.1;rw[AG]at this;exact H9 this e he
  ·exact Ia h.2 i hi p AG e he
theorem Br{all:List Oper}{Aj:List (List Nat)}(h:DJ all Aj=true){i j:Nat}(Aq:i<j)(A7:j<all.length)(A2:i∉(hZ all []).getD j []):(Aj.getD i []).contains j=true/\(Aj.getD j []).contains i=true:=by
 have H:=adA.1 h j (adG.2 A7);unfold A4 at H;rw[adv A7]at H;simp only[Ds,adA,agr,adG]at H;rcases H.2 i Aq with J|J
 ·exact absurd (by simpa using J) A2
 ·rw[adv (by omega)]at J;simp only[Ds]at J;exact J.2
theorem Sx{P:Program}{S S1:St}{id:Nat}{ops:List Oper}{Aj:List (List Nat)}{ps:List bf}{j N:Nat}{t:TypeId}{x:D}(hm:P.follows .mixedOrders=true)(Ak:DJ ops Aj=true)
 (M:kq (TT P ops j (Aj.getD j []) t x N S1) 0 ops S ps) (D9:oe Aj ps=true) (C':A6 ps (Aj.getD j [])=true) (C0:S1.env=[]) (Aw:j<ops.length) (DA:N=gD S.mem+gB ps+1):
 S1.n=S.n/\S1.gl=S.gl/\∀{φ:bW}{G:Fr}{a:Act}{w:World},Rel φ G S a w->∀{Q:Exit->Act->World->Prop},
 (∀φ' Y w' v,Rel φ' G S1 Y w'->aX φ S.mem w φ' S1.mem w'->aQ w' (Fo G φ' S1.mem) x v->Q (.panic [{v:=.iface t v,recovered:=false}]) Y w')->(Code.region id ops.toArray true).wp P Q a w:=by
 have Bb:=M.len;have C1:=kq.at (ps:=ps) (S0:=S) M [] [] rfl rfl rfl rfl rfl;have AT:=Vv Ak D9 Bb;obtain⟨C2,CW⟩:∃C2,ops[j]?=some C2:=⟨ops[j],by simp[Aw]⟩;obtain⟨C3,CX⟩:∃C3,ps[j]?=some C3:=⟨ps[j]'(by omega),by simp[show j<ps.length by omega]⟩
 obtain⟨DB,AM,AA,AZ⟩:=(C1 j C2 C3 (by simp) CW CX).2.2 rfl;rw[pb]at AM;rw[nj]at AA;refine⟨AM,AA,λ{φ G a w} I {Q} C4=>wp_region_any hm ?_⟩;have DC:∀(i:Nat)(p:bf),ps[i]?=some p->∀e∈p.es,e.key∈p.ks:=λi p AG=>by
  have B4:i<ps.length:=(aa1.1 AG).1;exact (C1 i (ops[i]'(by omega)) p (by simp) (by simp[show i<ops.length by omega]) AG).1
 have DD:Rel φ G S a {w with drawn:=w.drawn+1}:=I.grow (λ_ _=>rfl) (aa7 _);have CY:(iI ops.length λi=>(Array.replicate ops.length false).getD i false)=[]:=by
  rw[iI,agP];intro i hi;simp[abr,adG.1 hi]
 refine Vx (S0:=S) (S1:=S1) (φ0:=φ) (w0:=w) (G:=G) (j:=j) Bb AT I.mem.nodup DC ?_ CW CX DB ?_ AM AA C0 (by rw[AZ,DA];rfl) (λφ' Y w' v A9 Z AF=>C4 φ' Y w' v A9 Z AF) _ _ φ a _ (by simp) ?_ ?_ ?_ ?_ ?_
 ·intro i o p A3 AG Aq C5;have B4:i<ops.length:=(aa1.1 A3).1;refine (C1 i o p (by simp) A3 AG).2.1 Aq ?_;rcases Nat.lt_or_ge i j with h|h
  ·exact .inl h
  ·exact .inr (Br Ak (by omega) B4 C5).1
 ·intro i p AG Aq hi C5 e he;have B4:i<ops.length:=by have:=(aa1.1 AG).1;omega
  have BC:(Aj.getD j []).contains i=true:=by
   rcases Nat.lt_or_ge i j with h|h
   ·exact (Br Ak h Aw hi).2
   ·exact (Br Ak (by omega) B4 C5).1
  exact Ia C' i (by simpa using BC) p AG e he
 ·intro j o _ A7;exfalso;simp only[abr]at A7;by_cases h:j<ops.length
  ·simp[h]at A7
  ·simp[h]at A7
 ·simp only[abr];simp[Aw]
 ·simp only[afN];rw[CY];exact DD
 ·simp only[afN];rw[CY];exact aX.grow (λ_ _=>rfl) (aa7 _) rfl rfl rfl
 ·simp only[afN];exact ajn (List.length_filter_le _ _) (by simp)
theorem KT(Ay:kr X)(BF:jR X Ax):∀(c:Code)(S:St)(e:XE)(O:St),den X f Ax n c S=some (e,O)->S.gl=X.gl->eU X f S.n c=true->
 O.n=S.n/\O.gl=S.gl/\ng X.P c S (Is e O):=by
 intro c;induction c with
 |skip=>
  intro S e O h AE V;simp only[den,abp,adI]at h;obtain⟨rfl,rfl⟩:=h;exact⟨rfl,rfl,YP ⟨rfl,rfl⟩⟩
 |region id ops draw=>
  intro S e O h AE V;simp only[den]at h;simp only[eU,Ds]at V;cases draw with
  |false=>
   refine KQ (tQ X f id) h (λA8 S1 H=>?_);obtain⟨J,T,AK⟩:=Bm BF ops.toList S A8 S1 H AE V.1;exact⟨J,T,λφ G a w I=>wp_region_lit (AK φ G a w I _ (λ_ _ _ h=>h))⟩
  |true=>
   refine KQ (tQ X f id) h (λA8 S1 H=>?_);have Ak:DJ ops.toList (X.od f id)=true:=by simpa using V.2
   have key:(∃B6:Mem->Prop,B6 S.mem/\A8=.normal/\∃ps A5,Cert X.P B6 ops.toList ops.toList S ps A5/\ia S1 A5/\oe (X.od f id) ps=true)\/
    (S1.n=S.n/\S1.gl=S.gl/\∀φ G a w,Rel φ G S a w->∀Q:Exit->Act->World->Prop,(A8=.normal->∀φ' Y w',Rel φ' G S1 Y w'->aX φ S.mem w φ' S1.mem w'->Q .normal Y w')->
     (∀t x,A8=.panic t x->∀φ' Y w' v,Rel φ' G S1 Y w'->aX φ S.mem w φ' S1.mem w'->aQ w' (Fo G φ' S1.mem) x v->Q (.panic [{v:=.iface t v,recovered:=false}]) Y w')->(Code.region id ops true).wp X.P Q a w)/\(A8=.normal\/∃t x,A8=.panic t x):=by
    cases CZ:X.fl f id with
    |nil=>
     rw[CZ]at H;simp only[uP]at H;rcases Dh BF ops.toList S [] A8 S1 H AE V.1 with ⟨he,ps,A5,M,heq,AT⟩|⟨t,x,j,ps,he,BE,DE,M,AT,C',C0⟩
     ·exact .inl ⟨_,trivial,he,ps,A5,M,heq,by simpa using AT⟩
     ·right;obtain⟨J,T,AK⟩:=Sx (id:=id) Ay.mixed Ak M (by simpa using AT) (by simpa using C') C0 (by simpa using DE) rfl;exact⟨⟨J,T,λφ G a w I Q _ C4=>AK I (λφ' Y w' v Ai DF DG=>C4 t x he φ' Y w' v Ai DF DG)⟩,.inr ⟨t,x,he⟩⟩
    |cons q r=>
     rw[CZ]at H;simp only[uP]at H;cases Bc:fK S.mem (q::r)with
     |none=>rw[Bc]at H;cases H
     |some Dt=>
      rw[Bc]at H;simp only[Sn]at H;rcases H8 BF ops.toList S [] A8 S1 (by simp) H AE V.1 with ⟨he,ps,A5,M,heq,AT⟩|⟨init,ol,ps,A5,C_,M,A2,AT,J,T,AK,Ai⟩
      ·exact .inl ⟨_,zi Bc,he,ps,A5,M,heq,by simpa using AT⟩
      ·obtain⟨C6,Af⟩:=aed M;refine .inr ⟨⟨J.trans C6,T.trans Af,λφ G a w I Q DH DI=>?_⟩,AK⟩;have Bb:ps.length+1=ops.toList.length:=by
        have:=KR M;rw[C_];simp[this]
       refine Nx (ops:=ops.toList) C_ (Dc Ak A2) (zi Bc) Ay.mixed M (Y6 Ak Bb A2 (by simpa using AT)) I (λφ' Y w' A9 Z next DK=>?_);exact Ai φ' G Y w' A9 next Q (λhe AO a2 BT B5 AH=>DK a2 BT (DH he AO a2 BT B5 (Z.trans AH))) (λt x he AO a2 BT v B5 AH AF=>DI t x he AO a2 BT v B5 (Z.trans AH) AF)
   rcases key with ⟨B6,DL,rfl,ps,A5,M,heq,AT⟩|⟨⟨AM,AA,DM⟩,_⟩;rotate_left
   ·exact⟨AM,AA,λφ G a w I=>DM φ G a w I _ (λhe φ' Y w' A9 Z=>⟨φ',S1,AM,⟨he.symm,rfl⟩,A9,Z⟩) (λt x he φ' Y w' v A9 Z AF=>⟨φ',S1,t,x,v,rfl,AF,AM,⟨he.symm,rfl⟩,A9,Z⟩)⟩
   obtain⟨AM,AA⟩:=af9 M;have AT:=Vv Ak AT (KR M);refine⟨heq.n.trans AM,heq.gl.trans AA,λφ G a w I=>?_⟩;exact Nw (ops:=ops.toList) DL Ay.mixed M AT I (λφ' Y w' A9 Z=>⟨φ',S1,heq.n.trans AM,⟨rfl,rfl⟩,A9.eqv heq.symm,by rw[heq.mem];exact Z⟩)
 |seq a b Bd C7=>
  intro S e O h AE V;simp only[eU,Ds]at V;simp only[den]at h;rcases ic h with ⟨S1,H,J⟩|⟨H,J⟩
  ·obtain⟨AM,AA,C8⟩:=Bd S _ S1 H AE V.1;obtain⟨C6,Af,DN⟩:=C7 S1 e O J (AA.trans AE) (by rw[AM];exact V.2);refine⟨C6.trans AM,Af.trans AA,N8 (C8.mono λA8 A5 AN=>?_)⟩;obtain⟨rfl,rfl⟩:=AN;exact DN
  ·obtain⟨AM,AA,C8⟩:=Bd S _ O H AE V.1;refine⟨AM,AA,N8 (C8.mono λA8 A5 AN=>?_)⟩;obtain⟨rfl,rfl⟩:=AN;cases A8 with
   |normal=>exact absurd rfl J
   |_=>exact⟨rfl,rfl⟩
 |cond c a b Bd C7=>
  intro S e O h AE V;simp only[eU,Ds]at V;simp only[den]at h;cases M:S.aq c with
  |mk g y=>
   rw[M]at h;unfold Ft at h;split at h
   ·rename_i t heq;cases heq;cases t with
    |true=>
     obtain⟨H,J,T⟩:=Bd S e O (by simpa using h) AE V.1;exact⟨H,J,J4 M (λ_=>T) (λAb=>by cases Ab)⟩
    |false=>
     obtain⟨H,J,T⟩:=C7 S e O (by simpa using h) AE V.2;exact⟨H,J,J4 M (λAb=>by cases Ab) (λ_=>T)⟩
   ·cases h
 |block id c ih=>
  intro S e O h AE V;simp only[den]at h;have BU:=zn (X.gh f (id+2000000)) S;have ih:∀e O,den X f Ax n c (S.enter X f id)=some (e,O)->O.n=S.n/\O.gl=S.gl/\ng X.P c S (Is e O):=λe O h=>by
   obtain⟨Al,a2,a3⟩:=ih (S.enter X f id) e O h (BU.2.1.trans AE) (by simp only[St.enter];rw[BU.1];exact V);exact⟨Al.trans BU.1,a2.trans BU.2.1,aec BU a3⟩
  unfold Fq at h;split at h
  ·rename_i C9 S1 H;obtain⟨A2,A',Ac⟩:=ih _ S1 H;split at h
   ·rename_i hid;cases h;refine⟨A2,A',AQ (Ac.mono λA8 A5 AN=>?_)⟩;obtain⟨rfl,rfl⟩:=AN;simp only[hid,afz];exact⟨rfl,rfl⟩
   ·rename_i hid;cases h;refine⟨A2,A',AQ (Ac.mono λA8 A5 AN=>?_)⟩;obtain⟨rfl,rfl⟩:=AN;simp only[hid,adW];exact⟨rfl,rfl⟩
  ·rename_i AP;obtain⟨A2,A',Ac⟩:=ih _ O h;refine⟨A2,A',AQ (Ac.mono λA8 A5 AN=>?_)⟩;obtain⟨rfl,rfl⟩:=AN;cases A8 with
   |exit C9=>exact absurd h (AP C9 A5)
   |_=>exact⟨rfl,rfl⟩
 |loop c ih=>
  intro S e O h AE V;simp only[den]at h;simp only[eU]at V;have BC:∀(k:Nat)(S1:St),iter (den X f Ax n c) k S1=some (e,O)->S1.gl=X.gl->eU X f S1.n c=true->O.n=S1.n/\O.gl=S1.gl:=by
   intro k;induction k with
   |zero=>intro S1 H;cases H
   |succ k DO=>
    intro S1 H AA Az;simp only[iter]at H;rcases ic H with ⟨A5,J,T⟩|⟨J,T⟩
    ·obtain⟨Al,a2,_⟩:=ih S1 _ A5 J AA Az;obtain⟨DP,DQ⟩:=DO A5 T (a2.trans AA) (by rw[Al];exact Az);exact⟨DP.trans Al,DQ.trans a2⟩
    ·obtain⟨Al,a2,_⟩:=ih S1 _ O J AA Az;exact⟨Al,a2⟩
  obtain⟨A2,A'⟩:=BC n S h AE V;refine⟨A2,A',?_⟩;refine YR (α:=Nat×St) (λx=>x.2) (λx=>iter (den X f Ax n c) x.1 x.2=some (e,O)/\x.2.gl=X.gl/\eU X f x.2.n c=true) (λx=>x.1) (n,S) rfl ⟨h,AE,V⟩ ?_;rintro ⟨k,S1⟩ ⟨H,AA,Az⟩;simp only at H AA Az⊢;cases k with
  |zero=>cases H
  |succ k=>
   simp only[iter]at H;rcases ic H with ⟨A5,J,T⟩|⟨J,T⟩
   ·obtain⟨Al,a2,Ac⟩:=ih S1 _ A5 J AA Az;refine Ac.mono λA8 Ca AN=>?_;obtain⟨rfl,rfl⟩:=AN;exact⟨(k,Ca),rfl,⟨T,a2.trans AA,by rw[Al];exact Az⟩,Nat.lt_succ_self k⟩
   ·obtain⟨Al,a2,Ac⟩:=ih S1 _ O J AA Az;refine Ac.mono λA8 Ca AN=>?_;obtain⟨rfl,rfl⟩:=AN;cases A8 with
    |normal=>exact absurd rfl T
    |_=>exact⟨rfl,rfl⟩
 |exit id=>
  intro S e O h AE V;simp only[den,abp,adI]at h;obtain⟨rfl,rfl⟩:=h;obtain⟨t1,t2,t3⟩:=zn (X.gh f (id+1000000)) S;refine⟨t1,t2,λφ G a w Bz=>wp_mono ((YQ (Q:=Is (.exit id) S) ⟨rfl,rfl⟩:ng X.P (.exit id) S (Is (.exit id) S)) φ G a w Bz) λe' Y w' AG=>?_⟩;obtain⟨φ',A2,A9,Z,he⟩:=AG.is;cases e' with
  |exit C9=>
   cases he;obtain⟨AO,B5,AH⟩:=t3 φ' G Y w' A9;exact⟨AO,_,t1.trans A2,⟨rfl,rfl⟩,B5,Z.trans AH⟩
  |normal=>cases he
  |ret=>cases he
  |panic chain=>obtain⟨t,x,v,AK,_⟩:=he;cases AK
  |_=>exact he.elim
 |ret=>
  intro S e O h AE V;simp only[den,abp,adI]at h;obtain⟨rfl,rfl⟩:=h;exact⟨rfl,rfl,ad6 ⟨rfl,rfl⟩⟩
 |rangeFunc _ _ _ _=>intro S e O h;simp[den]at h
 |scope _ _=>intro S e O h;simp[den]at h
 |label _=>intro S e O h;simp[den]at h
 |goto _=>intro S e O h;simp[den]at h
 |refuse _=>intro S e O h;simp[den]at h
theorem DW:∀(cs:List aH)(i:Nat),(ee i cs).map (·.key)=List.range' i cs.length
 |[],i=>rfl
 |c::r,i=>by simp[ee,DW r,aiU]
theorem GX:∀(cs:List aH)(i:Nat)(e:cJ),e∈ee i cs->e.ak=0
 |[],i,e,he=>by simp[ee]at he
 |c::r,i,e,he=>by
  simp only[ee,abd]at he;rcases he with rfl|he
  ·rfl
  ·exact GX r (i+1) e he
theorem bx.dv{φ:bW}{G:Fr}{m:Mem}{w:World}(h:bx φ G m w)(dv:List Deferred):bx φ ⟨G.g,dv⟩ m w:=
 ⟨h.nodup,h.qz,h.fK,h.apart,h.lf,h.bound⟩
theorem Ev.dv{P:Program}{gl f args m K}(h:∀φ G w (vs:Array Value),G.dv=[]->bx φ G m w->fg w (Fo G φ m) gl->args.length=vs.size->(∀(i:Nat) x v,args[i]?=some x->vs[i]?=some v->aF φ w (Fo G φ m) x v)->
 Calls P f vs w λe w'=>∃φ' m' out,K out m'/\bx φ' G m' w'/\aX φ m w φ' m' w'/\oC φ' w' (Fo G φ' m') out e):Ev P gl f args m K:=by
 intro φ G w vs hm A' B' BG;refine (h φ ⟨G.g,[]⟩ w vs rfl (hm.dv []) A' B' BG).mono ?_;rintro e w' ⟨φ',m',out,H,J,T,AK⟩;exact⟨φ',m',out,H,J.dv G.dv,T,AK⟩
theorem zp(Ay:kr X)(BF:jR X Ax){fn:Func}{c:Code}{args:List AV}{cs:List aH}{out:Out}{l:List (Nat×aH)}(Ab:X.P.funcs[f]?=some fn)(E:fn.body=some c)
 (h:rT X f Ax n fn c args cs=some (out,l)):Ev X.P X.gl f args (ee 0 cs) λo m=>o=out/\m=dL 0 l:=by
 unfold rT at h;split at h
 ·rename_i M;simp only[Ds,aa8,adA]at M;obtain⟨⟨⟨Du,Dv⟩,DR⟩,DS⟩:=M;refine Ev.dv ?_;intro φ G w vs BV hm DT DU B2;have BN:∀k,k∈(ee 0 cs).map (·.key)↔k<cs.length:=λk=>by rw[DW];simp
  have CA:∀k∈(X.fp f).sites,k∉(ee 0 cs).map (·.key):=by
   intro k A0 DV;have H:=DR k A0;have J:=(BN k).1 DV;omega
  have Cc:∀k L,φ k=some L->k<cs.length/\L.ak=0:=λk L AB=>by
   have A0:=hm.qz k L AB;obtain⟨e,he,rfl⟩:=abz.1 A0;obtain⟨L',Au,AL,_⟩:=hm.fK e he;rw[AB]at Au;cases Au;exact⟨(BN _).1 A0,by rw[AL];exact GX cs 0 e he⟩
  have DX:=hm.add DS CA;have CB:aX φ (ee 0 cs) w (φ.add (X.fp f).sites) (ee 0 cs++(X.fp f).sites.map dead) w:=⟨Ka hm CA,λ_ _ _=>rfl,λb _ A3=>(Cb CA b).1 A3,aa7 _,rfl,rfl,rfl⟩;refine calls_of_wp Ab E ?_;obtain⟨S0,BW⟩:∃S0,S0=entry fn.ntmps X.gl args cs (X.fp f).sites:=⟨_,rfl⟩;have I:Rel (φ.add (X.fp f).sites) G S0 {tmps:=vs++Array.replicate (fn.ntmps-vs.size) undef,defers:=[]} w:=by
   rw[BW];refine⟨by simp[entry];omega,BV.symm,λt x AC=>?_,DX,?_⟩
   ·obtain⟨j,rfl,A7⟩:=yS 0 args t _ AC;have Aw:j<vs.size:=by rw[<-DU];exact (aa1.1 A7).1
    have e:(vs++Array.replicate (fn.ntmps-vs.size) undef).getD (0+j) undef=vs[j]:=by
     simp only[afO,abr];rw[agp Aw];simp[Aw]
    rw[e];exact CB.av (B2 j x _ A7 (by simp[Aw]))
   ·exact CB.lg DT
  rw[<-BW]at h;cases CC:den X f Ax n c S0 with
  |none=>rw[CC]at h;cases h
  |some q=>
   obtain⟨e,O⟩:=q;rw[CC]at h;obtain⟨Dw,Dx,Ac⟩:=KT Ay BF c S0 e O CC (by rw[BW];rfl) (by rw[BW];exact Ay.Ze f fn c Ab E);refine wp_mono (Ac _ G _ w I) λe' Y w' AG=>?_;obtain⟨φ',_,A9,Z,he⟩:=AG.is;have Cd:aX φ (ee 0 cs) w φ' O.mem w':=by
    have:S0.mem=ee 0 cs++(X.fp f).sites.map dead:=by rw[BW];rfl
    rw[this]at Z;exact CB.trans Z
   have Ce:finish X.P (X.fp f) cs.length fn.results.toList O=some (out,l)->
    Y.defers=[]/\∃v,(results fn Y.tmps).run X.P w'=.ok v w'/\∃Be m' Cf,(Cf=out/\m'=dL 0 l)/\bx Be G m' w'/\aX φ (ee 0 cs) w Be m' w'/\oC Be w' (Fo G Be m') Cf (.returned v):=by
    intro BH;unfold finish at BH;split at BH
    ·rename_i DY xs BQ;split at BH
     ·rename_i DZ;obtain⟨B7,H,J,T⟩:=yP A9 fn.results.toList DY xs BQ DZ;obtain⟨AO,An,rfl,g1,g2,g3,g4,_⟩:=tK BH A9.mem A9.lg J T Cd Cc;have D_:(results fn Y.tmps).run X.P w'=.ok (if h:B7.toArray.size=1 then B7.toArray[0]else .tuple B7.toArray) w':=by
       have e:results fn Y.tmps=(do let vs <-fn.results.mapM (AX Y.tmps);pure (if h:vs.size=1 then vs[0]else .tuple vs)):=by
        unfold results;congr 1
       rw[e,Array.mapM_eq_mapM_toList];simp only[Sem.run_bind,Sem.run_map,H,Result.andThen_ok,Sem.run_pure]
      refine⟨A9.defers.trans BV,_,D_,AO,_,_,⟨rfl,rfl⟩,g1,g2,?_⟩;show aF AO w' _ (oneOf An) _;by_cases CD:B7.length=1
      ·obtain⟨v,rfl⟩:∃v,B7=[v]:=by
        cases B7 with
        |nil=>simp at CD
        |cons v r=>exact⟨v,by cases r with|nil=>rfl|cons _ _=>simp at CD⟩
       obtain⟨y,rfl⟩:∃y,An=[y]:=by
        cases An with
        |nil=>simp at g3
        |cons v r=>exact⟨v,by cases r with|nil=>rfl|cons _ _=>simp at g3⟩
       simpa [oneOf]using g4 0 y v (by simp) (by simp)
      ·have e:oneOf An=.bg An:=by
        cases An with
        |nil=>rfl
        |cons y r=>cases r with|nil=>simp at g3;omega|cons _ _=>rfl
       rw[e,dif_neg (by simpa using CD)];exact .bg An B7.toArray (by simpa using g3) (λi y v h CE=>g4 i y v h (by simpa using CE))
     ·cases BH
    ·cases BH
   cases e' with
   |normal=>cases he;exact Ce h
   |ret=>cases he;exact Ce h
   |exit id=>cases he;cases h
   |panic chain=>
    obtain⟨t,x,v,rfl,rfl,V⟩:=he;have CE:q0 (X.fp f) cs.length O [] (λ_=>.panic t x)=some (out,l):=h;obtain⟨AO,An,rfl,g1,g2,_,_,g5⟩:=tK (vs:=[]) CE A9.mem A9.lg rfl (by simp) Cd Cc;exact⟨A9.defers.trans BV,AO,_,_,⟨rfl,rfl⟩,g1,g2,v,rfl,V.mono (λ_ _ _=>rfl) (aa7 _) (λb _=>g5 b)⟩
   |_=>exact he.elim
 ·cases h
theorem Ev.split{P:Program}{gl f r m K}(H:Ev P gl f (.lit (.slice none 0 0)::r) m K)(J:Ev P gl f (.nn::r) m K):Ev P gl f (.d (.list [])::r) m K:=by
 intro φ G w vs hm A' B' BG;have go:∀y,(∀v,vs[0]?=some v->aF φ w (Fo G φ m) y v)->∀(i:Nat) x v,(y::r)[i]?=some x->vs[i]?=some v->aF φ w (Fo G φ m) x v:=by
  intro y AI i x v AC AF;cases i with
  |zero=>simp at AC;subst AC;exact AI v AF
  |succ i=>exact BG (i+1) x v (by simpa using AC) AF
 have Cg:0<vs.size:=by rw[<-B'];simp
 have AD:=BG 0 (.d (.list [])) vs[0] (by simp) (by simp[Cg]);generalize Da:vs[0]=v0 at AD;have CF:vs[0]?=some v0:=by rw[<-Da];simp[Cg]
 cases AD with
 |d _ _ V=>
  cases V with
  |nil a cap A2=>
   cases a with
   |none=>
    have:=A2 rfl;subst this;exact H φ G w vs hm A' (by simpa using B') (go _ (λv AF=>by rw[CF]at AF;cases AF;exact .lit _ rfl))
   |some a=>exact J φ G w vs hm A' (by simpa using B') (go _ (λv AF=>by rw[CF]at AF;cases AF;exact .nn a cap))
  |list _ b off cap sz Dy=>exact J φ G w vs hm A' (by simpa using B') (go _ (λv AF=>by rw[CF]at AF;cases AF;exact .nn _ cap))
theorem gd{r:Option (Out×List (Nat×aH))}{sz:Nat}(h:pc r=some sz):r=some (.ret (.vec 0 0 0 0),[(0,.vec sz [])]):=by
 unfold pc at h;split at h
 ·cases h;rfl
 ·cases h
theorem NC{h:List AV->Option AV}{args:List AV}{cs:List aH}{r:Out×List (Nat×aH)}(I:nr h args cs=some r):cs=[]/\∃d,h args=some d/\r=(.ret d,[]):=by
 unfold nr at I;split at I
 ·split at I
  ·rename_i d V;cases I;exact⟨rfl,d,V,rfl⟩
  ·cases I
 ·cases I
theorem toDs_eq:∀{args:List AV}{Bf:List D},toDs args=some Bf->args=Bf.map .d
 |[],Bf,h=>by
  simp only[toDs,abp]at h;subst h;rfl
 |y::r,Bf,h=>by
  cases I:toDs r with
  |none=>unfold toDs at h;rw[I]at h;cases y<;>cases h
  |some An=>
   unfold toDs at h;rw[I]at h;cases y<;>cases h;rw[toDs_eq I];rfl
theorem agu(Ay:kr X){g:FuncId}{h:List AV->Option AV}(A':X.Ah g=some h){args:List AV}{cs:List aH}{out:Out}{l:List (Nat×aH)}(I:nr h args cs=some (out,l)):
 ib X.P g=true/\Ev X.P X.gl g args (ee 0 cs) λo m=>o=out/\m=dL 0 l:=by
 obtain⟨M,Db⟩:=Ay.Ah g h A';refine⟨M,?_⟩;obtain⟨rfl,d,V,he⟩:=NC I;cases he;intro φ G w vs hm AE B' BG;have Ch:∀b,jc φ (ee 0 []) b->False:=by
  rintro b ⟨e,he,_⟩;simp[ee]at he
 refine (Db args d V φ (Fo G φ (ee 0 [])) w vs AE (λb E=>E.elim (hm.bound b) λh=>(Ch b h).elim) B' BG).mono ?_;rintro e w' ⟨v,rfl,E,BV⟩;refine⟨φ,ee 0 [],.ret d,⟨rfl,rfl⟩,⟨hm.nodup,hm.qz,λe he=>by simp[ee]at he,λe he=>by simp[ee]at he,λb E=>(Ch b E).elim,λb Dd=>agV (hm.bound b Dd) E.size⟩,⟨bW.le_refl _,λb B3 _=>E.block b B3,λb _ A3=>A3,E.size,E.os,E.tape,E.output⟩,?_⟩;exact BV
end
def akU(φ:bW)(w:World)(F:Nat->Prop)(x:DF)(d:Deferred):Prop:=
 ∃A0:Array Value,d.target=.fn (.func x.1) A0/\x.2.length=(d.args++A0).size/\∀(i:Nat) y v,x.2[i]?=some y->(d.args++A0)[i]?=some v->aF φ w F y v
def oH(φ:bW)(w:World)(F:Nat->Prop):List DF->List Deferred->Prop
 |[],[]=>True
 |x::xs,d::E=>akU φ w F x d/\oH φ w F xs E
 |_,_=>False
theorem oH.keeps{φ m w φ' m' w'}{G:Fr}(h:aX φ m w φ' m' w'):∀{xs:List DF}{E:List Deferred},oH φ w (Fo G φ m) xs E->oH φ' w' (Fo G φ' m') xs E
 |[],[],_=>trivial
 |x::xs,d::E,⟨⟨A0,A8,A5,A6⟩,AA⟩=>⟨⟨A0,A8,A5,λi y v AB A2=>h.av (A6 i y v AB A2)⟩,oH.keeps h AA⟩
 |[],_::_,AP=>AP.elim
 |_::_,[],AP=>AP.elim
def zq(n:Nat)(φ:bW)(g:Nat->Prop)(m:Mem)(w:World)(e:XE)(D:St)(H:List DF)(e':Exit)(M:Act)(w':World):Prop:=
 ∃φ' A1,D.n=n/\Rel φ' ⟨g,A1⟩ D M w'/\aX φ m w φ' D.mem w'/\oH φ' w' (Fo ⟨g,A1⟩ φ' D.mem) H A1/\(match e' with
  | .normal=>e=.normal
  | .exit id=>e=.exit id
  | .ret=>e=.ret
  | .panic chain=>∃t x v,e=.panic t x/\chain=[{v:=.iface t v,recovered:=false}]/\aQ w' (Fo ⟨g,A1⟩ φ' D.mem) x v
  |_=>False)
theorem zq.weaken{n:Nat}{φ AY:bW}{g:Nat->Prop}{m AZ:Mem}{w A_:World}{e D H e' M w'}(h:zq n AY g AZ A_ e D H e' M w')(Al:aX φ m w AY AZ A_):zq n φ g m w e D H e' M w':=by
 obtain⟨φ',A1,A8,A5,A6,AA,V⟩:=h;exact⟨φ',A1,A8,A5,Al.trans A6,AA,V⟩
theorem KW{S:St}{o:Oper}{d:DF}(h:nP S o=some d):o.guard=none/\∃c AC args AK g AF,o.op=.defer c/\c={callee:=.value AC,args,argTypes:=AK}/\S.aq AC=(true,.fn g AF)/\g<ta/\jh S args.toList=true/\d=(g,dA S args.toList++AF):=by
 unfold nP at h;split at h
 ·rename_i AC args AK AQ AR;unfold dfv at h;split at h
  ·rename_i g AF AL;split at h
   ·rename_i AG;cases h;simp only[Ds,aa8]at AG;exact⟨AQ,_,AC,args,AK,g,AF,AR,rfl,AL,AG.2,AG.1,rfl⟩
   ·cases h
  ·cases h
 ·cases h
section
variable {X:Ctx} {A3:bE} {f:FuncId} {n:Nat}
theorem zr{md:Bool}{all:List Oper}(A7:jR X A3):∀(ops:List Oper)(S:St)(E:List DF)(e:XE)(D:St)(H:List DF),gj X A3 md all ops S E=some (e,D,H)->S.gl=X.gl->ki S.n ops=true->
 D.n=S.n/\D.gl=S.gl/\∀φ g dv a w,Rel φ ⟨g,dv⟩ S a w->oH φ w (Fo ⟨g,dv⟩ φ S.mem) E dv->∀Q:Exit->Act->World->Prop,(∀e' M w',zq S.n φ g S.mem w e D H e' M w'->Q e' M w')->wpList X.P all.toArray Q ops a w
 |[],S,E,e,D,H,h,T,J=>by
  simp only[gj,abp,adI]at h;obtain⟨rfl,rfl,rfl⟩:=h;exact⟨rfl,rfl,λφ g dv a w I O Q AD=>AD .normal _ _ ⟨φ,dv,rfl,I,aX.refl ..,O,rfl⟩⟩
 |o::rest,S,E,e,D,H,h,T,J=>by
  simp only[ki,aiP,Ds]at J;obtain⟨Aa,J⟩:=J;have Ab:∀t,o.dst=some t->t<S.n:=λt An=>by rw[An]at Aa;simpa using Aa
  simp only[gj]at h;cases AS:nP S o with
  |some d=>
   rw[AS]at h;simp only at h;obtain⟨AQ,c,AC,args,AK,g0,AF,AR,Ao,AL,Ap,AG,rfl⟩:=KW AS;obtain⟨AH,AI,AT⟩:=zr A7 rest (S.put o.dst true .bm) _ e D H h ((mu ..).trans T) (by rw[mW];exact J);refine⟨AH.trans (mW ..),AI.trans (mu ..),λφ g dv a w I O Q AD=>?_⟩;have AU:=I.aq AC (by rw[AL]);rw[AL]at AU;generalize Aq:a.eval AC=B0 at AU;cases AU with
   |tc _ _ A0 Ac Ad=>exact absurd Ap (Nat.not_lt.2 (ajN _ _))
   |fn _ _ A0 B1 Ac Ad=>
    have Ar:(execOp a.eval o).run X.P w=.ok (.defer {target:=.fn (.func g0) A0,args:=args.map a.eval}) w:=by
     simp[execOp,AR,Ao,resolve,Aq,Deferred.ofValue]
    have hw:Region.wanted o (yielded all.toArray a.tmps)=true:=by simp[Region.wanted,AQ]
    unfold wpList;rw[abf hw];left;unfold Oper.wp;rw[Ar,Oper.upon_defer];have As:Rel φ ⟨g,{target:=.fn (.func g0) A0,args:=args.map a.eval}::dv⟩ S {a with defers:={target:=.fn (.func g0) A0,args:=args.map a.eval}::a.defers} w:=
     ⟨I.size,by rw[I.defers],I.env,I.mem.dv _,I.lg⟩
    have AV:=As.put o.dst Ab true .bm undef (λ_=>.bm _);refine AT φ g _ _ w AV ⟨⟨A0,rfl,?_,?_⟩,?_⟩ Q (λe' a2 AM Y=>AD e' a2 AM ?_)
    ·rw[aa9,jJ];simp[Ac]
    ·intro i y v AB A2;rw[fQ];by_cases hi:i<args.size
     ·rw[abl (by rw[jJ];simpa using hi),xh]at AB;rw[agp (by simpa using hi)]at A2;simp only[Array.getElem?_map,aba]at A2;obtain⟨z,Ae,rfl⟩:=A2;obtain⟨B2,Af,rfl⟩:=aba.1 AB;rw[agh,Ae]at Af;cases Af;exact I.aq z (vH AG z (by simpa using Array.mem_of_getElem? Ae))
     ·rw[abq (by rw[jJ];simpa using hi),jJ]at AB;rw[Array.getElem?_append_right (by simpa using hi)]at A2;simp only[Array.size_map,adF]at AB A2;exact Ad _ _ v AB A2
    ·rw[fQ];exact O
    ·rw[mW,fQ]at Y;exact Y
  |none=>
   rw[AS]at h;simp only at h;cases AW:nO X A3 md all S o with
   |none=>rw[AW]at h;cases h
   |some p=>
    obtain⟨U,S1⟩:=p;rw[AW]at h;obtain⟨Z,A4,Au,Ag⟩:=uU A7 T Ab AW;rcases Au with rfl|⟨t0,B3,rfl⟩
    ·simp only[Jc]at h;obtain⟨AH,AI,AT⟩:=zr A7 rest S1 E e D H h (A4.trans T) (by rw[Z];exact J);refine⟨AH.trans Z,AI.trans A4,λφ g dv a w I O Q AD=>?_⟩;have:=Ag φ ⟨g,dv⟩ a w I (wpList X.P all.toArray Q rest) Q
      (λ_ φ' M w' AJ A9=>AT φ' g dv M w' AJ (O.keeps A9) Q (λe' a2 AM Y=>AD e' a2 AM (by rw[<-Z];exact Y.weaken A9))) (λt x he=>by cases he)
     unfold wpList;split
     ·rename_i hw;rw[abf hw]at this;exact .inl this
     ·rename_i hw;rw[aa4 hw]at this;exact this
    ·simp only[Jc,abp,adI]at h;obtain⟨rfl,rfl,rfl⟩:=h;refine⟨Z,A4,λφ g dv a w I O Q AD=>?_⟩;have:=Ag φ ⟨g,dv⟩ a w I (wpList X.P all.toArray Q rest) Q
      (λhe=>by cases he) (λt x he φ' M w' v AJ A9 A2=>AD (.panic _) M w' ⟨φ',dv,Z,AJ,A9,O.keeps A9,t,x,v,he,rfl,A2⟩)
     unfold wpList;split
     ·rename_i hw;rw[abf hw]at this;exact .inl this
     ·rename_i hw;rw[aa4 hw]at this;exact this
theorem Ok(AN:kr X)(A7:jR X A3){c:Code}{S:St}{E:List DF}{e:XE}{D:St}{H:List DF}(h:zb E (den X f A3 n c S)=some (e,D,H))(T:S.gl=X.gl)(J:eU X f S.n c=true):
 D.n=S.n/\D.gl=S.gl/\∀φ g dv a w,Rel φ ⟨g,dv⟩ S a w->oH φ w (Fo ⟨g,dv⟩ φ S.mem) E dv->c.wp X.P (zq S.n φ g S.mem w e D H) a w:=by
 cases A':den X f A3 n c S with
 |none=>rw[A']at h;cases h
 |some p=>
  obtain⟨U,S1⟩:=p;rw[A']at h;simp only[zb,abp,adI]at h;obtain⟨rfl,rfl,rfl⟩:=h;obtain⟨A8,A5,A6⟩:=KT AN A7 c S U S1 A' T J;refine⟨A8,A5,λφ g dv a w I O=>wp_mono (A6 φ ⟨g,dv⟩ a w I) λe' M w' Y=>?_⟩;obtain⟨φ',Av,AJ,A9,he⟩:=Y.is;exact⟨φ',dv,Av,AJ,A9,O.keeps A9,by cases e'<;>exact he⟩
theorem aee(AN:kr X)(A7:jR X A3)(c:Code):∀(S:St)(E:List DF)(e:XE)(D:St)(H:List DF),jo X f A3 n c S E=some (e,D,H)->S.gl=X.gl->eU X f S.n c=true->
 D.n=S.n/\D.gl=S.gl/\∀φ g dv a w,Rel φ ⟨g,dv⟩ S a w->oH φ w (Fo ⟨g,dv⟩ φ S.mem) E dv->c.wp X.P (zq S.n φ g S.mem w e D H) a w:=by
 induction c with
 |seq a b Aw Ax=>
  intro S E e D H h T J;simp only[eU,Ds]at J;simp only[jo]at h;cases A':jo X f A3 n a S E with
  |none=>rw[A']at h;cases h
  |some p=>
   obtain⟨U,S1,AE⟩:=p;obtain⟨Z,A4,AO⟩:=Aw S E U S1 AE A' T J.1;have stop:U≠.normal->e=U/\D=S1/\H=AE:=λhe=>by
    rw[A']at h;cases U with
    |normal=>exact absurd rfl he
    |_=>simp only[Ks,abp,adI]at h;exact⟨h.1.symm,h.2.1.symm,h.2.2.symm⟩
   by_cases he:U=.normal
   ·subst he;rw[A']at h;simp only[Ks]at h;obtain⟨AH,AI,Ay⟩:=Ax S1 AE e D H h (A4.trans T) (by rw[Z];exact J.2);refine⟨AH.trans Z,AI.trans A4,λφ g dv ac w I O=>wp_seq (wp_mono (AO φ g dv ac w I O) λe' M w' Y=>?_)⟩;obtain⟨φ',A1,A8,A5,A6,AA,V⟩:=Y;cases e' with
    |normal=>exact wp_mono (Ay φ' g A1 M w' A5 AA) λB4 a2 AM Ah=>by rw[Z]at Ah;exact Ah.weaken A6
    |exit id=>cases V
    |ret=>cases V
    |panic chain=>obtain⟨t,x,v,AX,_⟩:=V;cases AX
    |_=>exact V.elim
   ·obtain⟨rfl,rfl,rfl⟩:=stop he;refine⟨Z,A4,λφ g dv ac w I O=>wp_seq (wp_mono (AO φ g dv ac w I O) λe' M w' Y=>?_)⟩;cases e' with
    |normal=>obtain⟨_,_,_,_,_,_,V⟩:=Y;exact absurd V he
    |_=>exact Y
 |region id ops draw=>
  intro S E e D H h T J;simp only[jo]at h;split at h
  ·rename_i Ai;simp only[Ds,ago]at Ai;obtain⟨rfl,_⟩:=Ai;simp only[eU,Ds]at J;have Az:ki S.n ops.toList=true:=J.1;cases A':gj X A3 (X.md f id) ops.toList ops.toList S E with
   |none=>rw[A']at h;cases h
   |some p=>
    obtain⟨U,S1,AE⟩:=p;rw[A']at h;obtain⟨Z,A4,AO⟩:=zr A7 ops.toList S E U S1 AE A' T Az;have Aj:∀φ g dv a w,Rel φ ⟨g,dv⟩ S a w->oH φ w (Fo ⟨g,dv⟩ φ S.mem) E dv->(Code.region id ops false).wp X.P (zq S.n φ g S.mem w U S1 AE) a w:=
     λφ g dv a w I O=>wp_region_lit (AO φ g dv a w I O _ (λ_ _ _ h=>h))
    by_cases he:U=.normal
    ·subst he;simp only[Bg,abp,adI]at h;obtain⟨rfl,rfl,rfl⟩:=h;obtain⟨t1,t2,t3⟩:=tQ X f id S1;refine⟨t1.trans Z,t2.trans A4,λφ g dv a w I O=>wp_mono (Aj φ g dv a w I O) λe' M w' Y=>?_⟩;obtain⟨φ',A1,A8,A5,A6,AA,V⟩:=Y;cases e' with
     |normal=>
      obtain⟨B',AV,Ak⟩:=t3 φ' ⟨g,A1⟩ M w' A5;exact⟨B',A1,t1.trans A8,AV,A6.trans Ak,AA.keeps Ak,rfl⟩
     |exit id=>cases V
     |ret=>cases V
     |panic chain=>obtain⟨t,x,v,AX,_⟩:=V;cases AX
     |_=>exact V.elim
    ·have:e=U/\D=S1/\H=AE:=by
      cases U with
      |normal=>exact absurd rfl he
      |_=>simp only[Bg,abp,adI]at h;exact⟨h.1.symm,h.2.1.symm,h.2.2.symm⟩
     obtain⟨rfl,rfl,rfl⟩:=this;exact⟨Z,A4,Aj⟩
  ·exact Ok AN A7 h T J
 |_=>intro S E e D H h T J;exact Ok AN A7 (by simpa only[jo]using h) T J
end
abbrev Ru:=FuncId->Array Value->World->(Ending->World->Prop)->Prop
def KX(C:Ru):Prop:=∀f vs w R A4,C f vs w R->(∀e w',R e w'->A4 e w')->C f vs w A4
def KY(C:Ru)(gl:List (Nat×D))(f:FuncId)(args:List AV)(m:Mem)(K:Out->Mem->Prop):Prop:=
 ∀φ G w (vs:Array Value),bx φ G m w->fg w (Fo G φ m) gl->args.length=vs.size->(∀(i:Nat) x v,args[i]?=some x->vs[i]?=some v->aF φ w (Fo G φ m) x v)->
  C f vs w λe w'=>∃φ' m' out,K out m'/\bx φ' G m' w'/\aX φ m w φ' m' w'/\oC φ' w' (Fo G φ' m') out e
theorem KY.frz{C:Ru}(V:KX C){gl f args}{cs:List aH}{out:Out}{E:List (Nat×aH)}(h:KY C gl f args (ee 0 cs) λo m=>o=out/\m=dL 0 E)(A5:cs.length<=E.length):
 KY C gl f args (ee 0 cs) λo m=>o=GP cs.length E out/\m=dL 0 (eP (dL 0 E) (List.range cs.length) (λ_=>true) (λ_ v=>v) 0 (List.range cs.length)):=by
 intro φ G w vs hm Y AG AH;refine V _ _ _ _ _ (h φ G w vs hm Y AG AH) ?_;rintro e w' ⟨φ',m',Z,⟨rfl,rfl⟩,O,H,I⟩;obtain⟨s1,s2,AI⟩:=Ca (G1:=G) (ρ:=List.range cs.length) (bor:=λ_=>true) (nv:=λ_ v=>v) O List.nodup_range (λk T=>xQ E 0 k (an3 _) (by simp at T;omega)) (λb h=>.inl h) (λb h=>O.lf b h.own)
  (λk e L b Y _ _ A' A1=>O.lf _ ⟨e,(Mem.get_mem Y).1,L,by rw[(Mem.get_mem Y).2];exact A',A1⟩)
 refine⟨_,_,_,⟨rfl,rfl⟩,s1,⟨?_,H.At,?_,H.size,H.os,H.tape,H.output⟩,?_⟩
 ·intro k L A';have T:k<cs.length:=by
   have:=hm.qz k L A';rw[Kb,qW]at this;simpa using this
  obtain⟨L',A2,AJ,AK⟩:=H.le k L A';exact⟨L',by simp[bW.iG,T,A2],AJ,AK⟩
 ·intro b AL A1;exact H.own b AL ((xI (φ:=φ') (nv:=λ_ v=>v) (bor:=λ_=>true) (λk T=>xQ E 0 k (an3 _) (by simp at T;omega)) b).1 A1).own
 ·cases Z with
  |ret x=>
   cases e with
   |returned v=>exact (s2 x v I).norm
   |_=>exact I.elim
  |panic t x=>
   cases e with
   |panicked chain=>
    obtain⟨v,A0,M⟩:=I;exact⟨v,A0,M.mono (λ_ _ _=>rfl) (aa7 _) (λb _=>AI b)⟩
   |_=>exact I.elim
theorem ND{C:Ru}(V:KX C){gl:List (Nat×D)}{A6:bE}(AM:∀g args cs out l,A6 g args cs=some (out,l)->KY C gl g args (ee 0 cs) λo m=>o=out/\m=dL 0 l)
 {m:Mem} {A7:Nat} {g:FuncId} {J:List AV} {mt:List Nat} {res:fM} (h:ef A6 m A7 g J mt=some res) {φ:bW} {G:Fr} {w:World} (hm:bx φ G m w) (AN:fg w (Fo G φ m) gl)
 {vs:Array Value} (A5:J.length=vs.size) (AO:∀(i:Nat) x v,J[i]?=some x->vs[i]?=some v->aF φ w (Fo G φ m) x v):
 C g vs w λe w'=>∃φ',bx φ' G (bH m res.es) w'/\aX φ m w φ' (bH m res.es) w'/\oC φ' w' (Fo G φ' (bH m res.es)) res.out e:=by
 unfold ef mE mD at h;obtain⟨ρ,A8⟩:∃ρ,ρ=collect m 64 (lG mt 0 J) []:=⟨_,rfl⟩;have A9:=pW m 64 (lG mt 0 J) [] List.nodup_nil (by simp);rw[<-A8]at h A9;generalize (uO mt 0 J).filter (λk=>!ρ.contains k)=B at h;clear A8;obtain⟨AA,AB⟩:=A9;unfold fY at h;split at h
 ·rename_i out E AP;split at h
  ·rename_i A0;cases h;have AC:KY C gl g (iz (mt.contains 1000) m ρ B J) (ee 0 (oV (eP m ρ (λk=>B.contains k) iy 0 ρ))) λo m=>o=out/\m=dL 0 E:=by
    obtain⟨Aa,Ab,AQ,A2⟩:=Bi AP;have AD:=AM _ _ _ _ _ AQ;rcases A2 with ⟨rfl,rfl⟩|⟨Ac,rfl,rfl⟩
    ·exact AD
    ·have AE:(oV (eP m ρ (λk=>B.contains k) iy 0 ρ)).length=ρ.length:=by rw[uT,rO]
     have:=AD.frz V (by rw[AE];omega);rw[AE]at this;exact this
   simp only[Ds,agr,aa8]at A0;obtain⟨⟨Ad,AR⟩,AS⟩:=A0;rw[Bh]at AC;obtain⟨v1,v2,v3⟩:=HO (B:=B) hm AA AB;have AT:∀(i:Nat) x v,(iz (mt.contains 1000) m ρ B J)[i]?=some x->vs[i]?=some v->aF (φ.iG ρ iy) w (Fo (lZ φ G m ρ B) (φ.iG ρ iy) (dL 0 (eP m ρ (λk=>B.contains k) iy 0 ρ))) x v:=by
    intro i x v M AU;rw[ze]at M;obtain⟨y,AW,rfl⟩:=aba.1 M;exact (v2 y v (AO i y v AW AU)).C7
   have AX:fg w (Fo (lZ φ G m ρ B) (φ.iG ρ iy) (dL 0 (eP m ρ (λk=>B.contains k) iy 0 ρ))) gl:=
    AN.mono (λ_ _ _=>rfl) (aa7 _) (λb _=>v3 b)
   refine V _ _ _ _ _ (AC (φ.iG ρ iy) (lZ φ G m ρ B) w _ v1 AX (by rw[sY];exact A5) AT) ?_;rintro e w' ⟨Ae,Af,Z,⟨rfl,rfl⟩,AY,AZ,I⟩;have A3:B=[]\/(Bb Z=true/\oG E=true):=AS.imp (by simp) id;obtain⟨φ',O,H,AF⟩:=HP (B:=B) hm AA AB (fr:=List.range' (A7+1) (E.length-ρ.length)) List.nodup_range' (DR AR) AY AZ (by simp;omega) (A3.imp id λU=>zh U.2);refine⟨φ',O,H,?_⟩;cases Z with
   |ret x=>
    cases e with
    |returned v=>exact AF x v (A3.imp id λU=>U.1) I
    |_=>exact I.elim
   |panic t x=>
    cases e with
    |panicked chain=>
     obtain⟨v,rfl,M⟩:=I;have:=AF (.d x) v (A3.imp id λU=>U.1) (.d _ _ M);cases this with
     |d _ _ A_=>exact⟨v,rfl,A_⟩
    |_=>exact I.elim
  ·cases h
 ·cases h
theorem Ib{P:Program}{ops:Array Oper}{Q:Exit->Act->List Frame->World->Prop}{cs:List Frame}(AD:∀a w,¬Q .outgrown a cs w):∀(l:List Nat)(a:Act)(w:World),
 wpOps P ops (λe a w=>Q e a cs w) l a w->wpOpsS P ops Q l a cs w
 |[],a,w,h=>h
 |i::rest,a,w,h=>by
  have ih:=Ib (P:=P) (ops:=ops) AD rest;unfold wpOps at h;unfold wpOpsS;split at h
  ·rename_i y;simp only[y];exact ih a w h
  ·rename_i o y;simp only[y];split at h
   ·rename_i hw;rw[abf hw];rcases h with h|⟨_,a0,w0,h⟩
    ·have Y:=Oper.wp_mono (K':=λI w'=>wpOpsS P ops Q rest I cs w') ih h;unfold Oper.wp at Y;split
     ·rename_i w' J;rw[J]at Y;exact Y.elim
     ·exact Y
    ·exact absurd h (AD a0 w0)
   ·rename_i hw;rw[aa4 hw];exact ih _ w h
def Sy(D:Frame)(E:List Frame)(v:Value)(H:FrameMode):Prop:=
 recoverD (D::E)=some (v,{D with mode:=H}::E)\/(recoverD (D::E)=none/\v=.nilIface/\H=D.mode)
theorem GY{o:Oper}(h:vU o=true):o.guard=none/\∃A6,o.op=.call {callee:=.builtin .recover,args:=#[],argTypes:=A6}:=by
 unfold vU at h;split at h
 ·rename_i args A6 A8 y;refine⟨A8,A6,?_⟩;rw[y];have:args=#[]:=by
   cases args with
   |mk l=>cases l with
    |nil=>rfl
    |cons a r=>simp at h
  rw[this]
 ·cases h
abbrev Jd(D:Frame)(E:List Frame)(H:FrameMode)(n:Nat)(φ:bW)(G:Fr)(m:Mem)(w:World)(e:XE)(M:St):Exit->Act->List Frame->World->Prop:=
 λe' I A2 w'=>A2={D with mode:=H}::E/\oc n φ G m w (Is e M) e' I w'
theorem zt{P:Program}{c:Code}{Q AE:Exit->Act->List Frame->World->Prop}{a:Act}{cs:List Frame}{w:World}(h:c.wpS P Q a cs w)(AN:∀e a cs w,Q e a cs w->AE e a cs w):c.wpS P AE a cs w:=
 λb k AO J=>let ⟨e,I,A2,w',q,r⟩:=h b k AO J;⟨e,I,A2,w',AN _ _ _ _ q,r⟩
section
variable {X:Ctx} {A9:bE} {f:FuncId} {n:Nat}
theorem aef(AP:kr X)(AF:jR X A9)(A3:AV)(c:Code):∀(S:St)(e:XE)(M:St),oo X f A9 n A3 c S=some (e,M)->S.gl=X.gl->eU X f S.n c=true->
 M.n=S.n/\M.gl=S.gl/\∀φ G a w D E v H,Sy D E v H->aF φ w (Fo G φ S.mem) A3 v->Rel φ G S a w->c.wpS X.P (Jd D E H S.n φ G S.mem w e M) a (D::E) w:=by
 induction c with
 |seq a b AG Ag=>
  intro S e M h A5 A';simp only[eU,Ds]at A';simp only[oo]at h;rcases ic h with ⟨S1,A0,Y⟩|⟨A0,Y⟩
  ·obtain⟨T,U,V⟩:=AG S .normal S1 A0 A5 A'.1;obtain⟨AQ,AR,AS⟩:=KT AP AF b S1 e M Y (U.trans A5) (by rw[T];exact A'.2);refine⟨AQ.trans T,AR.trans U,λφ G ac w D E v H O A1 J=>wpS_seq (zt (V φ G ac w D E v H O A1 J) ?_)⟩;rintro e' I A2 w' ⟨rfl,Z⟩;obtain⟨φ',AH,AA,AB,he⟩:=Z.is;cases e' with
   |normal=>
    refine wpS_of_wp (wp_mono (AS φ' G I w' AA) λAh a2 Ai AI=>⟨rfl,?_⟩);rw[T]at AI;exact AI.weaken AB
   |exit id=>cases he
   |ret=>cases he
   |panic chain=>obtain⟨t,x,v,AT,_⟩:=he;cases AT
   |_=>exact he.elim
  ·obtain⟨T,U,V⟩:=AG S e M A0 A5 A'.1;refine⟨T,U,λφ G ac w D E v H O A1 J=>wpS_seq (zt (V φ G ac w D E v H O A1 J) ?_)⟩;rintro e' I A2 w' ⟨rfl,Z⟩;cases e' with
   |normal=>obtain⟨φ',_,_,_,he⟩:=Z.is;exact absurd he Y
   |_=>exact⟨rfl,Z⟩
 |region id ops draw=>
  intro S e M h A5 A';simp only[oo]at h;split at h
  ·rename_i o r AJ;split at h
   ·rename_i AU;obtain⟨A8,A6,y⟩:=GY AU;simp only[eU,Ds]at A';have AC:ki S.n ops.toList=true:=A'.1;rw[AJ]at AC;simp only[ki,aiP,Ds]at AC;obtain⟨AK,AW⟩:=AC;have AX:∀t,o.dst=some t->t<S.n:=λt AY=>by rw[AY]at AK;simpa using AK
    have A7:(o::r).toArray=ops:=by rw[<-AJ]
    have key:∀A4 S1,fZ X A9 (X.md f id) (o::r) r (S.put o.dst true A3)=some (A4,S1)->S1.n=S.n/\S1.gl=S.gl/\∀φ G a w D E v H,Sy D E v H->aF φ w (Fo G φ S.mem) A3 v->Rel φ G S a w->
     (Code.region id ops false).wpS X.P (Jd D E H S.n φ G S.mem w A4 S1) a (D::E) w:=by
     intro A4 S1 A0;obtain⟨T,U,V⟩:=Bm AF r (S.put o.dst true A3) A4 S1 A0 ((mu ..).trans A5) (by rw[mW];exact AW);rw[mW]at T V;rw[mu]at U;rw[fQ]at V;refine⟨T,U,λφ G a w D E v H O A1 J=>wpS_region ?_⟩;have AZ:List.range ops.size=0::List.range' 1 r.length:=by
      rw[<-A7];simp[List.range_eq_range',aiU]
     have A_:ops[0]?=some o:=by rw[<-A7];simp
     have Aa:(execOp a.eval o).run X.P w=.ok .recover w:=by
      simp[execOp,y,resolve,Deferred.ofValue,invoke,builtin]
     have Ab:=J.put o.dst AX true A3 v (λ_=>A1);have AL:=V φ G _ w Ab (λe a w'=>Jd D E H S.n φ G S.mem w A4 S1 e a ({D with mode:=H}::E) w') (λe' I w' Z=>⟨rfl,Z⟩);rw[A7,<-wpOps_eq_wpList r 1 (λj=>by rw[<-A7];simp[Nat.add_comm])]at AL;have AM:=Ib (Q:=Jd D E H S.n φ G S.mem w A4 S1) (cs:={D with mode:=H}::E) (λ_ _ hh=>hh.2) _ _ _ AL;rw[AZ];unfold wpOpsS;simp only[A_];rw[abf (by simp[Region.wanted,A8])];simp only[Aa];rcases O with O|⟨O,rfl,rfl⟩
     ·rw[O];exact AM
     ·rw[O];exact AM
    unfold xc at h;split at h
    ·rename_i S1 A0;cases h;obtain⟨T,U,V⟩:=key _ _ A0;obtain⟨t1,t2,t3⟩:=tQ X f id S1;refine⟨t1.trans T,t2.trans U,λφ G a w D E v H O A1 J=>zt (V φ G a w D E v H O A1 J) ?_⟩;rintro e' I A2 w' ⟨rfl,Z⟩;refine⟨rfl,?_⟩;obtain⟨φ',AH,AA,AB,he⟩:=Z.is;cases e' with
     |normal=>
      obtain⟨Ac,Ad,Ae⟩:=t3 φ' G I w' AA;exact⟨Ac,_,t1.trans AH,⟨rfl,rfl⟩,Ad,AB.trans Ae⟩
     |exit id=>cases he
     |ret=>cases he
     |panic chain=>obtain⟨t,x,v,Af,_⟩:=he;cases Af
     |_=>exact he.elim
    ·exact key _ _ h
   ·cases h
  ·cases h
 |_=>intro S e M h;simp[oo]at h
end
section
variable {X:Ctx} {A8:bE} {f:FuncId} {n:Nat}
theorem KZ{fn:Func}{args:List AV}{cs:List aH}(AN:args.length<=fn.ntmps)(AO:cs.length<=100)(A9:∀k∈(X.fp f).sites,100<=k)(AA:(X.fp f).sites.Nodup)
 {φ:bW} {G:Fr} {w:World} {vs:Array Value} (AB:G.dv=[]) (hm:bx φ G (ee 0 cs) w) (AC:fg w (Fo G φ (ee 0 cs)) X.gl) (AD:args.length=vs.size)
 (AE:∀(i:Nat) x v,args[i]?=some x->vs[i]?=some v->aF φ w (Fo G φ (ee 0 cs)) x v):
 Rel (φ.add (X.fp f).sites) G (entry fn.ntmps X.gl args cs (X.fp f).sites) {tmps:=vs++Array.replicate (fn.ntmps-vs.size) undef,defers:=[]} w/\
  aX φ (ee 0 cs) w (φ.add (X.fp f).sites) (entry fn.ntmps X.gl args cs (X.fp f).sites).mem w/\(∀k L,φ k=some L->k<cs.length/\L.ak=0):=by
 have AP:∀k,k∈(ee 0 cs).map (·.key)↔k<cs.length:=λk=>by rw[DW];simp
 have AF:∀k∈(X.fp f).sites,k∉(ee 0 cs).map (·.key):=by
  intro k A0 Ad;have A1:=A9 k A0;have A2:=(AP k).1 Ad;omega
 have V:∀k L,φ k=some L->k<cs.length/\L.ak=0:=λk L AQ=>by
  have A0:=hm.qz k L AQ;obtain⟨e,he,rfl⟩:=abz.1 A0;obtain⟨L',AR,Ae,_⟩:=hm.fK e he;rw[AQ]at AR;cases AR;exact⟨(AP _).1 A0,by rw[Ae];exact GX cs 0 e he⟩
 have AG:=hm.add AA AF;have AH:aX φ (ee 0 cs) w (φ.add (X.fp f).sites) (ee 0 cs++(X.fp f).sites.map dead) w:=⟨Ka hm AF,λ_ _ _=>rfl,λb _ Af=>(Cb AF b).1 Af,aa7 _,rfl,rfl,rfl⟩;refine⟨⟨by simp[entry];omega,AB.symm,λt x Y=>?_,AG,AH.lg AC⟩,AH,V⟩;obtain⟨j,rfl,AS⟩:=yS 0 args t _ Y;have AI:j<vs.size:=by rw[<-AD];exact (aa1.1 AS).1
 have e:(vs++Array.replicate (fn.ntmps-vs.size) undef).getD (0+j) undef=vs[j]:=by
  simp only[afO,abr];rw[agp AI];simp[AI]
 rw[e];exact AH.av (AE j x _ AS (by simp[AI]))
theorem Ic{fn:Func}{cs:List aH}{out:Out}{l:List (Nat×aH)}{φ φ':bW}{G:Fr}{T:St}{H:Act}{w w':World}(U:Rel φ' G T H w')(AJ:aX φ (ee 0 cs) w φ' T.mem w')
 (V:∀k L,φ k=some L->k<cs.length/\L.ak=0) (I:finish X.P (X.fp f) cs.length fn.results.toList T=some (out,l)):
 ∃v,(results fn H.tmps).run X.P w'=.ok v w'/\∃D m' Z,(Z=out/\m'=dL 0 l)/\bx D G m' w'/\aX φ (ee 0 cs) w D m' w'/\oC D w' (Fo G D m') Z (.returned v):=by
 unfold finish at I;split at I
 ·rename_i Ag xs Ah;split at I
  ·rename_i Ai;obtain⟨M,A1,A2,AK⟩:=yP U fn.results.toList Ag xs Ah Ai;obtain⟨A3,O,rfl,g1,g2,g3,g4,_⟩:=tK I U.mem U.lg A2 AK AJ V;have Aj:(results fn H.tmps).run X.P w'=.ok (if h:M.toArray.size=1 then M.toArray[0]else .tuple M.toArray) w':=by
    have e:results fn H.tmps=(do let vs <-fn.results.mapM (AX H.tmps);pure (if h:vs.size=1 then vs[0]else .tuple vs)):=by
     unfold results;congr 1
    rw[e,Array.mapM_eq_mapM_toList];simp only[Sem.run_bind,Sem.run_map,A1,Result.andThen_ok,Sem.run_pure]
   refine⟨_,Aj,A3,_,_,⟨rfl,rfl⟩,g1,g2,?_⟩;show aF A3 w' _ (oneOf O) _;by_cases AL:M.length=1
   ·obtain⟨v,rfl⟩:∃v,M=[v]:=by
     cases M with
     |nil=>simp at AL
     |cons v r=>exact⟨v,by cases r with|nil=>rfl|cons _ _=>simp at AL⟩
    obtain⟨y,rfl⟩:∃y,O=[y]:=by
     cases O with
     |nil=>simp at g3
     |cons v r=>exact⟨v,by cases r with|nil=>rfl|cons _ _=>simp at g3⟩
    simpa [oneOf]using g4 0 y v (by simp) (by simp)
   ·have e:oneOf O=.bg O:=by
     cases O with
     |nil=>rfl
     |cons y r=>cases r with|nil=>simp at g3;omega|cons _ _=>rfl
    rw[e,dif_neg (by simpa using AL)];exact .bg O M.toArray (by simpa using g3) (λi y v h Ak=>g4 i y v h (by simpa using Ak))
  ·cases I
 ·cases I
def VV(u:FrameMode)(v:Value):Prop:=(v=.nilIface/\u=.returning)\/∃t x,v=.iface t x/\u=.panicking [{v:=.iface t x,recovered:=false}]
def RuR(P:Program):Ru:=λf vs w R=>∀u v,vs.back?=some v->VV u v->CallsD P f vs.pop u w λe E w'=>settle E=.returning/\R e w'
theorem Zg(P:Program):KX (RuR P):=λf vs w R B3 h Al u v J hm=>(h u v J hm).mono λe E w' hh=>⟨hh.1,Al e w' hh.2⟩
theorem VW(AT:kr X)(An:jR X A8){fn:Func}{c:Code}{args:List AV}{cs:List aH}{out:Out}{l:List (Nat×aH)}(AU:X.P.funcs[f]?=some fn)(AW:fn.body=some c)
 (h:xM X f A8 n fn c args cs=some (out,l)):KY (RuR X.P) X.gl f args (ee 0 cs) λo m=>o=out/\m=dL 0 l:=by
 unfold xM at h;split at h
 ·rename_i A4 AY;split at h
  ·rename_i AZ;simp only[Ds,aa8,adA]at AZ;obtain⟨⟨⟨AN,AO⟩,A9⟩,AA⟩:=AZ;intro φ A5 w vs AG AC AD AE u v J Ao;obtain⟨G,A'⟩:∃G:Fr,G=⟨A5.g,[]⟩:=⟨_,rfl⟩;have AB:G.dv=[]:=by rw[A']
   have hm:bx φ G (ee 0 cs) w:=by rw[A'];exact AG.dv []
   have Ap:fg w (Fo G φ (ee 0 cs)) X.gl:=by rw[A'];exact AC
   have A_:∀(i:Nat) x v,args[i]?=some x->vs[i]?=some v->aF φ w (Fo G φ (ee 0 cs)) x v:=by rw[A'];exact AE
   have Aq:args≠[]:=by rintro rfl;cases AY
   have B4:0<args.length:=List.length_pos_iff.2 Aq;have Ar:args.dropLast.length=vs.pop.size:=by simp;omega
   obtain⟨As,Aa,V⟩:=KZ (fn:=fn) AN AO A9 AA AB hm Ap Ar (λi x v Y J=>by
    have hi:i<args.length-1:=by have:=(aa1.1 Y).1;simpa using this
    refine A_ i x v ?_ ?_
    ·rw[List.dropLast_eq_take,List.getElem?_take_of_lt (by omega)]at Y;exact Y
    ·rw[Array.getElem?_pop]at J;rw[abf (by omega)]at J;exact J)
   have Au:aF (φ.add (X.fp f).sites) w (Fo G (φ.add (X.fp f).sites) (entry fn.ntmps X.gl args.dropLast cs (X.fp f).sites).mem) A4 v:=by
    refine Aa.av (A_ (args.length-1) A4 v ?_ ?_)
    ·rw[<-anQ];exact AY
    ·rw[Array.back?]at J;rw[AD];exact J
   cases AM:oo X f A8 n A4 c (entry fn.ntmps X.gl args.dropLast cs (X.fp f).sites)with
   |none=>rw[AM]at h;cases h
   |some p=>
    obtain⟨e,T⟩:=p;rw[AM]at h;obtain⟨B5,B6,Av⟩:=aef AT An A4 c _ e T AM rfl (AT.Ze f fn c AU AW);refine callsD_of_wpS AU AW λA6 A7 hu=>?_;obtain⟨E,Aw,Ax⟩:∃E,Sy A6 A7 v E/\settle E=.returning:=by
     rcases Ao with ⟨rfl,rfl⟩|⟨t,x,rfl,rfl⟩
     ·exact⟨.returning,.inr ⟨by simp[recoverD,hu],rfl,hu.symm⟩,rfl⟩
     ·exact⟨.panicking [{v:=.iface t x,recovered:=true}],.inl (by simp[recoverD,hu]),by simp[settle]⟩
    refine zt (Av _ G _ w A6 A7 v E Aw Au As) ?_;rintro e' H B7 w' ⟨rfl,Ay⟩;obtain⟨φ',_,U,Az,he⟩:=Ay.is;have AJ:=Aa.trans Az;have Ab:finish X.P (X.fp f) cs.length fn.results.toList T=some (out,l)->H.defers=[]/\∃Ac,({A6 with mode:=E}::A7)={A6 with mode:=Ac}::A7/\∃v,(results fn H.tmps).run X.P w'=.ok v w'/\(settle Ac=.returning/\
     ∃D m' Z,(Z=out/\m'=dL 0 l)/\bx D A5 m' w'/\aX φ (ee 0 cs) w D m' w'/\oC D w' (Fo A5 D m') Z (.returned v)):=by
     intro I;obtain⟨v,A1,A3,B',B0,A2,AK,B1,B2⟩:=Ic U AJ V I;subst A';exact⟨U.defers,E,rfl,v,A1,Ax,A3,B',B0,A2,AK.dv A5.dv,B1,B2⟩
    cases e' with
    |normal=>cases he;exact Ab h
    |ret=>cases he;exact Ab h
    |exit id=>cases he;cases h
    |panic chain=>obtain⟨t,x,v,rfl,_⟩:=he;cases h
    |_=>exact he.elim
  ·cases h
 ·cases h
end
def abu(X:Ctx)(y:bE):Prop:=∀g args cs out l,y g args cs=some (out,l)->ib X.P g=true/\KY (RuR X.P) X.gl g args (ee 0 cs) λo m=>o=out/\m=dL 0 l
theorem I4{O:bE}{m:Mem}{AQ:Nat}{g:FuncId}{AG:List AV}{mt:List Nat}{res:fM}(h:ef O m AQ g AG mt=some res):∃args cs out l,O g args cs=some (out,l):=by
 unfold ef mE mD fY at h;split at h
 ·rename_i out B6 T;obtain⟨B7,B8,AH,_⟩:=Bi T;exact⟨_,_,_,_,AH⟩
 ·cases h
section
variable {X:Ctx} {O y:bE} {f:FuncId} {n:Nat}
theorem VX(D:kr X)(AB:jR X O)(AI:abu X y){fn:Func}{c:Code}{args:List AV}{cs:List aH}{out:Out}{l:List (Nat×aH)}(E:X.P.funcs[f]?=some fn)(H:fn.body=some c)
 (h:xN X f O y n fn c args cs=some (out,l)):Ev X.P X.gl f args (ee 0 cs) λo m=>o=out/\m=dL 0 l:=by
 unfold xN at h;split at h
 ·rename_i AJ;simp only[Ds,aa8,adA]at AJ;obtain⟨⟨⟨AR,AS⟩,AT⟩,AU⟩:=AJ;refine Ev.dv ?_;intro φ G w vs AC hm AW AX AY;obtain⟨A3,A',AK⟩:=KZ (fn:=fn) AR AS AT AU AC hm AW AX AY;obtain⟨g,B9⟩:=G;simp only at AC;subst AC;cases AD:jo X f O n c (entry fn.ntmps X.gl args cs (X.fp f).sites) []with
  |none=>rw[AD]at h;cases h
  |some p=>
   obtain⟨e,A0,AL⟩:=p;rw[AD]at h;obtain⟨BA,AZ,A_⟩:=aee D AB c _ _ e A0 AL AD rfl (D.Ze f fn c E H);refine calls_of_wp_defers E H (wp_mono (A_ _ g [] _ w A3 trivial) λe' I w' Aa=>?_);obtain⟨φ',AM,_,M,Ab,A4,he⟩:=Aa;have A5:=A'.trans Ab;have Ac:A0.gl=X.gl:=AZ;have back:∀{V:bW}{A6:St}{J:World},Rel V ⟨g,AM⟩ A6 I J->aX φ (ee 0 cs) w V A6.mem J->finish X.P (X.fp f) cs.length fn.results.toList A6=some (out,l)->
    ∃v,(results fn I.tmps).run X.P J=.ok v J/\∃A7 m' A1,(A1=out/\m'=dL 0 l)/\bx A7 ⟨g,[]⟩ m' J/\aX φ (ee 0 cs) w A7 m' J/\oC A7 J (Fo ⟨g,[]⟩ A7 m') A1 (.returned v):=by
    intro V A6 J Ad A8 Ae;obtain⟨v,Af,Ag,Ah,Ai,Aj,Ak,Al,An⟩:=Ic Ad A8 AK Ae;exact⟨v,Af,Ag,Ah,Ai,Aj,Ak.dv [],Al,An⟩
   match AL,AM,A4 with
   |[],[],_=>
    have U:I.defers=[]:=M.defers;simp only[xd]at h;cases e' with
    |normal=>cases he;show Leaves _ _ _ _ I.defers _ _;rw[U];exact back M A5 h
    |ret=>cases he;show Leaves _ _ _ _ I.defers _ _;rw[U];exact back M A5 h
    |exit id=>cases he;cases h
    |panic chain=>
     obtain⟨t,x,v,rfl,rfl,AE⟩:=he;have Ao:q0 (X.fp f) cs.length A0 [] (λ_=>.panic t x)=some (out,l):=h;obtain⟨V,AG,rfl,g1,g2,_,_,g5⟩:=tK (vs:=[]) Ao M.mem M.lg rfl (by simp) A5 AK;show Leaves _ _ _ _ I.defers _ _;rw[U];exact⟨V,_,_,⟨rfl,rfl⟩,g1,g2,v,rfl,AE.mono (λ_ _ _=>rfl) (aa7 _) (λb _=>g5 b)⟩
    |_=>exact he.elim
   |[d],[Y],⟨Ap,_⟩=>
    have U:I.defers=[Y]:=M.defers;simp only[xd]at h;have one:∀u A9 A2,u≠FrameMode.run->VV u A2->aF φ' w' (Fo ⟨g,[Y]⟩ φ' A0.mem) A9 A2->DO e=some A9->
     Leaves X.P fn I.tmps (λe w'=>∃φ' m' A1,(A1=out/\m'=dL 0 l)/\bx φ' ⟨g,[]⟩ m' w'/\aX φ (ee 0 cs) w φ' m' w'/\oC φ' w' (Fo ⟨g,[]⟩ φ' m') A1 e) [Y] u w':=by
     intro u A9 A2 hu Aq Ar As;rw[As]at h;simp only[tO]at h;cases T:ef y A0.mem 0 d.1 (d.2++[A9]) (X.fp d.1).wW with
     |none=>rw[T]at h;cases h
     |some res=>
      rw[T]at h;obtain⟨AF,AN,AO,Au⟩:=Ap;obtain⟨_,_,_,_,Aw⟩:=I4 T;have Ax:=(AI _ _ _ _ _ Aw).1;have Ay:=ND (Zg X.P) (gl:=X.gl) (λg args cs out l hh=>(AI g args cs out l hh).2) T (φ:=φ') (G:=⟨g,[Y]⟩) (w:=w') (vs:=(Y.args++AF).push A2) M.mem (by rw[<-Ac];exact M.lg)
       (by simp[AO];omega) (λi x v Z AA=>by
        by_cases hi:i<d.2.length
        ·rw[abl hi]at Z;rw[Array.getElem?_push,aa4 (by omega)]at AA;exact Au i x v Z AA
        ·have:i=d.2.length:=by
          have:=(aa1.1 Z).1;simp at this;omega
         subst this;rw[abq (aa7 _)]at Z;simp at Z;subst Z;rw[Array.getElem?_push,abf AO]at AA;cases AA;exact Ar)
      have AP:=Ay u A2 (by simp) Aq;rw[Array.pop_push]at AP;refine⟨hu,.func d.1,AF,d.1,Y.args++AF,AN,by rw[AN];simp[invoke,uS Ax],AP.mono ?_⟩;rintro A' Az J ⟨B',V,B0,A8,B1⟩;unfold uR at h;split at h
      ·rename_i x es ks heq;cases heq;cases A' with
       |returned v2=>
        show Leaves _ _ _ _ [] (settle Az) J;rw[B'];exact back (M.Av B0 A8) (A5.trans A8) h
       |_=>exact B1.elim
      ·cases h
    cases e' with
    |normal=>cases he;show Leaves _ _ _ _ I.defers _ _;rw[U];exact one .returning _ .nilIface (by simp) (.inl ⟨rfl,rfl⟩) (.lit _ rfl) rfl
    |ret=>cases he;show Leaves _ _ _ _ I.defers _ _;rw[U];exact one .returning _ .nilIface (by simp) (.inl ⟨rfl,rfl⟩) (.lit _ rfl) rfl
    |exit id=>cases he;cases h
    |panic chain=>
     obtain⟨t,x,v,rfl,rfl,AE⟩:=he;show Leaves _ _ _ _ I.defers _ _;rw[U];exact one (.panicking [{v:=.iface t v,recovered:=false}]) _ (.iface t v) (by simp) (.inr ⟨t,v,rfl,rfl⟩) (.im _ _ _ AE) rfl
    |_=>exact he.elim
   |_::_::_,_,_=>cases h
 ·cases h
theorem Zh(D:kr X)(AB:jR X O):abu X (nQ X n O):=by
 intro g args cs out l h;unfold nQ at h;split at h
 ·rename_i fn E;split at h
  ·rename_i c H;refine⟨?_,VW D AB E H h⟩;unfold ib;rw[E];simp[H,D.names g fn E]
  ·cases h
 ·cases h
theorem K0(D:kr X):∀n,jR X (aZ X n)
 |0=>λg args cs out l h=>by cases h
 |n+1=>λg args cs out l h=>by
  have ih:=K0 D n;simp only[aZ,D.ov]at h;split at h
  ·rename_i AH B2;exact agu D B2 h
  split at h
  ·rename_i fn E;split at h
   ·rename_i c H;have T:ib X.P g=true:=by
     unfold ib;rw[E];simp[H,D.names g fn E]
    refine⟨T,?_⟩;cases A4:zc c with
    |true=>
     rw[A4]at h;exact VX D ih (Zh D ih) E H h
    |false=>
    rw[A4]at h;simp only[xO]at h;unfold jQ at h;split at h
    ·split at h
     ·rename_i r;unfold kM at h;split at h
      ·rename_i a b B3 B4;split at h
       ·rename_i B5;subst B5;have A3:=gd B3;have A':=gd B4;rw[A3]at h;cases h;exact Ev.split (zp D ih E H A3) (zp D ih E H A')
       ·cases h
      ·cases h
     ·exact zp D ih E H h
    ·exact zp D ih E H h
   ·cases h
  ·cases h
end
def aP{α:Type}(f:Nat->Option α):Prop:=∀n r,f n=some r->f (n+1)=some r
theorem aP.le{α:Type}{f:Nat->Option α}(h:aP f){n m:Nat}(A_:n<=m){r:α}(Z:f n=some r):f m=some r:=by
 induction A_ with
 |refl=>exact Z
 |step _ ih=>exact h _ _ ih
theorem aP.const{α:Type}(x:Option α):aP λ_=>x:=λ_ _ h=>h
theorem aP.bind{α β:Type}{f:Nat->Option α}{g:α->Nat->Option β}(V:aP f)(A':∀x,aP (g x)):aP λn=>(f n).bind λx=>g x n:=by
 intro n r h;obtain⟨x,AG,Z⟩:=ajs.1 h;simp only[V n x AG,adV];exact A' x n r Z
open Classical in
noncomputable def gW{α:Type}(f:Nat->Option α):Option α:=if h:∃n,(f n).isSome=true then f (Classical.choose h)else none
theorem dQ{α:Type}{f:Nat->Option α}(V:aP f){r:α}:gW f=some r↔∃n,f n=some r:=by
 unfold gW;constructor
 ·intro h;split at h
  ·exact⟨_,h⟩
  ·cases h
 ·rintro ⟨n,Y⟩;have hex:∃n,(f n).isSome=true:=⟨n,by rw[Y];rfl⟩;rw[dif_pos hex];have AL:=akt hex;obtain⟨Aq,AM⟩:=ajr.1 AL;rw[AM];rcases Nat.le_total n (Classical.choose hex)with J|J
  ·rw[<-AM];exact V.le J Y
  ·have:=V.le J AM;rw[this]at Y;exact Y
theorem aW{α:Type}(x:Option α):gW (λ_=>x)=x:=by
 cases x with
 |some r=>exact (dQ (aP.const _)).2 ⟨0,rfl⟩
 |none=>unfold gW;rw[dif_neg];rintro ⟨_,h⟩;cases h
theorem ep{α β:Type}{f:Nat->Option α}{g:α->Nat->Option β}(V:aP f)(A':∀x,aP (g x)):gW (λn=>(f n).bind λx=>g x n)=(gW f).bind λx=>gW (g x):=by
 apply Option.ext;intro r;rw[dQ (V.bind A'),ajs];constructor
 ·rintro ⟨n,Y⟩;obtain⟨x,AG,Z⟩:=ajs.1 Y;exact⟨x,(dQ V).2 ⟨n,AG⟩,(dQ (A' x)).2 ⟨n,Z⟩⟩
 ·rintro ⟨x,AG,Z⟩;obtain⟨n,Y⟩:=(dQ V).1 AG;obtain⟨m,hm⟩:=(dQ (A' x)).1 Z;exact⟨max n m,by rw[V.le (Nat.le_max_left n m) Y];exact (A' x).le (Nat.le_max_right n m) hm⟩
theorem v8{α:Type}{f:Nat->Option α}(V:aP f):gW (λn=>f (n+1))=gW f:=by
 have Aa:aP λn=>f (n+1):=λn r h=>V (n+1) r h;apply Option.ext;intro r;rw[dQ Aa,dQ V];exact⟨λ⟨n,h⟩=>⟨n+1,h⟩,λ⟨n,h⟩=>⟨n,V n r h⟩⟩
def aT(k:St->Option (XE×St)):XE×St->Option (XE×St)
 |(.normal,S)=>k S
 |r=>some r
theorem zu(r:Option (XE×St))(k:St->Option (XE×St)):andThen r k=r.bind (aT k):=by
 rcases r with _|⟨e,S⟩
 ·rfl
 ·cases e<;>rfl
def mT(k:St->St):XE×St->Option (XE×St)
 |(.normal,S)=>some (.normal,k S)
 |r=>some r
theorem rl(k:St->St)(r:Option (XE×St)):xc k r=r.bind (mT k):=by
 rcases r with _|⟨e,S⟩
 ·rfl
 ·cases e<;>rfl
def bT(id:Nat):XE×St->Option (XE×St)
 |(.exit AW,S)=>if AW=id then some (.normal,S)else some (.exit AW,S)
 |r=>some r
theorem K1(id:Nat)(r:Option (XE×St)):Fq id r=r.bind (bT id):=by
 rcases r with _|⟨e,S⟩
 ·rfl
 ·cases e<;>rfl
def cT(m:Mem)(A2:Nat)(ρ B:List Nat)(U:Nat)(b:Bool)(p:Out×List (Nat×aH)):Option fM:=fY m A2 ρ B (ri U b (some p))
theorem xk(m:Mem)(A2:Nat)(ρ B:List Nat)(U:Nat)(b:Bool)(r:Option (Out×List (Nat×aH))):fY m A2 ρ B (ri U b r)=r.bind (cT m A2 ρ B U b):=by cases r<;>rfl
theorem GZ(S:St)(d:Option Nat)(r:Option fM):dC S d r=r.bind λc=>dC S d (some c):=by cases r<;>rfl
theorem K2(b:Bool)(m:Mem)(r:Option fM):y9 b m r=r.bind λc=>y9 b m (some c):=by cases r<;>cases b<;>rfl
theorem DY(S:St)(o:Oper)(r:Option fM):rS S o r=r.bind λc=>rS S o (some c):=by cases r<;>rfl
theorem nu(E:List bf)(r:Option (St×bf))(k:St->List bf->Option (XE×St)):za E r k=r.bind λp=>k p.1 (p.2::E):=by cases r<;>rfl
theorem K3(P:Program)(p:aE)(U:Nat)(rs:List ResultVar)(r:Option (XE×St)):fin P p U rs r=r.bind λq=>fin P p U rs (some q):=by cases r<;>rfl
def fa(C:Nat->bE):Prop:=∀g a c,aP λk=>C k g a c
section
variable {X:Ctx} {C:Nat->bE} {S:St} {o:Oper} {md:Bool}
theorem oI(D:fa C)(m:Mem)(A2:Nat)(g:FuncId)(AJ:List AV)(mt:List Nat):aP (λk=>ef (C k) m A2 g AJ mt):=by
 unfold ef mE mD;simp only[xk];exact (D _ _ _).bind λ_=>aP.const _
theorem lJ(D:fa C)(args:List Operand)(M:Bool×AV):aP (λk=>cN X (C k) S o args M):=by
 unfold cN;split
 ·split
  ·simp only[K2 _ _ (ef _ _ _ _ _ _)];exact (oI D _ _ _ _ _).bind λ_=>aP.const _
  ·exact aP.const _
 ·exact aP.const _
theorem NF(D:fa C):aP (λk=>sD X (C k) S o):=by
 unfold sD;split
 ·rename_i M args AA A7;have J:(λk=>dC S o.dst (cN X (C k) S o args.toList (S.aq M)))=λk=>(cN X (C k) S o args.toList (S.aq M)).bind λc=>dC S o.dst (some c):=by
   funext k;exact GZ ..
  rw[J];exact (lJ D args.toList (S.aq M)).bind (λ_=>aP.const _)
 ·exact aP.const _
 ·exact aP.const _
theorem xl(D:fa C)(r:dF):aP (λk=>iA X (C k) S o r):=by
 cases r with
 |no=>exact NF D
 |val c x=>exact aP.const _
 |dp c x e=>exact aP.const _
theorem K4(D:fa C)(b:Bool)(r:dF):aP (λk=>pF X (C k) S o b r):=by
 have other:∀r,aP (λk=>if b=true then iA X (C k) S o r else some (.normal,S.put o.dst true .bm)):=by
  intro r;split
  ·exact xl D r
  ·exact aP.const _
 cases r with
 |no=>exact other .no
 |val c x=>exact aP.const _
 |dp c x e=>exact other (.dp c x e)
theorem tS(D:fa C)(all:List Oper):aP (λk=>nO X (C k) md all S o):=by
 unfold nO;split
 ·exact xl D _
 ·split
  ·split
   ·exact K4 D _ _
   ·split
    ·exact xl D _
    ·exact aP.const _
  ·exact aP.const _
  ·exact aP.const _
theorem p9{F:Nat->Option (XE×St)}{K:St->Nat->Option (XE×St)}(A4:aP F)(AH:∀S,aP (K S)):aP (λn=>andThen (F n) (λS=>K S n)):=by
 simp only[zu];refine A4.bind (g:=λx n=>aT (λS=>K S n) x) λx=>?_;obtain⟨e,S⟩:=x;cases e with
 |normal=>exact AH S
 |_=>exact aP.const _
theorem kN(D:fa C)(all:List Oper):∀(ops:List Oper)(S:St),aP (λk=>fZ X (C k) md all ops S)
 |[],S=>aP.const _
 |o::r,S=>p9 (tS D all) (λA0=>kN D all r A0)
theorem SA(D:fa C):aP (λk=>mf X (C k) S o):=by
 unfold mf;split
 ·rename_i M args AA A7;have J:(λk=>rS S o (cN X (C k) S o args.toList (S.aq M)))=λk=>(cN X (C k) S o args.toList (S.aq M)).bind λc=>rS S o (some c):=by
   funext k;exact DY ..
  rw[J];exact (lJ D args.toList (S.aq M)).bind (λ_=>aP.const _)
 ·exact aP.const _
theorem zv(D:fa C)(r:dF):aP (λk=>fi X (C k) S o r):=by
 cases r with
 |no=>exact SA D
 |val c x=>exact aP.const _
 |dp c x e=>exact aP.const _
theorem NG(D:fa C)(b:Bool)(r:dF):aP (λk=>sE X (C k) S o b r):=by
 have other:∀r,aP (λk=>if b=true then fi X (C k) S o r else some (S.put o.dst true .bm,⟨[],[],true,.bm⟩)):=by
  intro r;split
  ·exact zv D r
  ·exact aP.const _
 cases r with
 |no=>exact other .no
 |val c x=>exact aP.const _
 |dp c x e=>exact other (.dp c x e)
theorem mF(D:fa C)(all:List Oper):aP (λk=>eE X (C k) md all S o):=by
 unfold eE;split
 ·exact zv D _
 ·split
  ·split
   ·exact NG D _ _
   ·split
    ·exact zv D _
    ·exact aP.const _
  ·exact aP.const _
  ·exact aP.const _
theorem G2(S:St)(r:Option fM):wY S r=r.bind λc=>wY S (some c):=by cases r<;>rfl
theorem Ie(D:fa C):aP (λk=>lH X (C k) S o):=by
 unfold lH;split
 ·unfold DM;split
  ·unfold Ko;split
   ·rename_i M args AA A7;have J:(λk=>wY S (cN X (C k) S o args.toList (S.aq M)))=λk=>(cN X (C k) S o args.toList (S.aq M)).bind λc=>wY S (some c):=by
     funext k;exact G2 ..
    rw[J];exact (lJ D args.toList (S.aq M)).bind (λ_=>aP.const _)
   ·exact aP.const _
  ·exact aP.const _
 ·exact aP.const _
theorem DZ{AN:bE}{all:List Oper}{q:St×bf}(h:eE X AN md all S o=some q):lH X AN S o=none:=by
 cases A5:lH X AN S o with
 |none=>rfl
 |some p=>
  obtain⟨A',Ab,M,args,AA,A7,AL,_⟩:=H5 A5;unfold eE at h;rw[A']at h;simp only[fi,mf,Ab,A7,AL]at h;cases h
theorem VZ(D:fa C)(H:Nat×List (List Nat))(all r:List Oper)(E:List bf){K:Nat->St->List bf->Option (XE×St)}(AH:∀S E,aP λk=>K k S E):aP (λk=>oh X (C k) md H all r S o E (K k) (lH X (C k) S o)):=by
 intro n y h;simp only at h⊢;cases A5:lH X (C n) S o with
 |some q=>
  rw[A5]at h;have Ac:lH X (C (n+1)) S o=some q:=Ie D n q A5;rw[Ac];exact h
 |none=>
  rw[A5]at h;simp only[oh,nu]at h;cases A':eE X (C n) md all S o with
  |none=>rw[A']at h;cases h
  |some p=>
   have AX:eE X (C (n+1)) md all S o=some p:=mF D all n p A';rw[DZ AX];simp only[oh,nu];rw[A']at h;rw[AX];exact AH _ _ n y h
theorem oJ(D:fa C)(H:Nat×List (List Nat))(all:List Oper):∀(ops:List Oper)(S:St)(E:List bf),aP (λk=>iU X (C k) md H all ops S E)
 |[],S,E=>aP.const _
 |o::r,S,E=>VZ D H all r E λS E=>oJ D H all r S E
def SB(T:List Cl)(p:St×bf):Option (St×bf):=if vT T p.2.es=true then some p else none
theorem Ol(T:List Cl)(r:Option (St×bf)):GR T r=r.bind (SB T):=by
 rcases r with _|⟨S,p⟩<;>rfl
theorem wa(D:fa C)(H:List (List Nat))(T:List Cl)(all:List Oper):∀(ops:List Oper)(S:St)(E:List bf),aP (λk=>om X (C k) md H T all ops S E)
 |[],S,E=>aP.const _
 |o::r,S,E=>by
  simp only[om,nu];cases nq (H.getD E.length []) r with
  |true=>
   simp only[Kr];split
   ·exact kN D all [o] S
   ·exact aP.const _
  |false=>
  simp only
  cases p7 X.P T S o with
  |some x=>
   simp only[oW,adV];exact wa D H T all r _ _
  |none=>
   simp only[oW,Ol];exact ((mF D all).bind (g:=λp _=>SB T p) λp=>aP.const _).bind (g:=λp n=>om X (C n) md H T all r p.1 (p.2::E)) λp=>wa D H T all r p.1 (p.2::E)
theorem Ig(D:fa C)(H:List (List Nat))(all:List Oper)(S:St)(fl:List (Nat×Nat)):aP (λk=>uP X (C k) md H all S fl):=by
 cases fl with
 |nil=>exact oJ D _ all all S []
 |cons q r=>
  simp only[uP];cases fK S.mem (q::r)with
  |none=>exact aP.const _
  |some T=>exact wa D H T all all S []
theorem Ih(f:St->Option (XE×St)):∀(j:Nat)(S:St)(r:XE×St),iter f j S=some r->iter f (j+1) S=some r
 |0,S,r,h=>by cases h
 |j+1,S,r,h=>by
  simp only[iter]at h;rw[iter];rcases ic h with ⟨S1,J,A1⟩|⟨J,A1⟩
  ·rw[J];exact Ih f j S1 r A1
  ·rw[J];obtain⟨e,S1⟩:=r;cases e with
   |normal=>exact absurd rfl A1
   |_=>rfl
theorem uX(f:St->Option (XE×St)){j k:Nat}(h:j<=k){S:St}{r:XE×St}(Z:iter f j S=some r):iter f k S=some r:=by
 induction h with
 |refl=>exact Z
 |step _ ih=>exact Ih f _ S r ih
theorem wb{F:Nat->St->Option (XE×St)}(A4:∀S,aP (λk=>F k S)):∀(j:Nat)(S:St),aP (λk=>iter (F k) j S)
 |0,S=>aP.const _
 |j+1,S=>p9 (A4 S) (λA0=>wb A4 j A0)
theorem zw(D:fa C)(f:FuncId){m:Nat->Nat}(hm:∀k,m k<=m (k+1)):∀(c:Code)(S:St),aP (λk=>den X f (C k) (m k) c S):=by
 intro c;induction c with
 |region id ops draw=>
  intro S;cases draw with
  |false=>
   simp only[den,rl];exact (kN D _ _ _).bind λ_=>aP.const _
  |true=>
   simp only[den,rl];exact (Ig D _ _ _ _).bind λ_=>aP.const _
 |seq a b A8 AB=>intro S;exact p9 (A8 S) (λA0=>AB A0)
 |cond c a b A8 AB=>
  intro S;simp only[den];unfold Ft;split
  ·split
   ·exact A8 S
   ·exact AB S
  ·exact aP.const _
 |block id c ih=>
  intro S;simp only[den,K1];exact (ih _).bind λ_=>aP.const _
 |loop c ih=>
  intro S n r h;simp only[den]at h⊢;have J:=wb (F:=λk=>den X f (C k) (m k) c) ih (m n) S n r h;exact uX _ (hm n) J
 |skip=>intro S;exact aP.const _
 |exit id=>intro S;exact aP.const _
 |ret=>intro S;exact aP.const _
 |rangeFunc _ _ _ _=>intro S;exact aP.const _
 |scope _ _=>intro S;exact aP.const _
 |label _=>intro S;exact aP.const _
 |goto _=>intro S;exact aP.const _
 |refuse _=>intro S;exact aP.const _
theorem FG(D:fa C)(f:FuncId){m:Nat->Nat}(hm:∀k,m k<=m (k+1))(fn:Func)(c:Code)(args:List AV)(cs:List aH):aP (λk=>rT X f (C k) (m k) fn c args cs):=by
 unfold rT;split
 ·simp only[K3 X.P (X.fp f) cs.length fn.results.toList (den _ _ _ _ _ _)];exact (zw D f hm c _).bind λ_=>aP.const _
 ·exact aP.const _
theorem Aj{F G:Nat->Option (Out×List (Nat×aH))}(A4:aP F)(Ad:aP G):aP (λn=>kM (F n) (G n)):=by
 intro n r h;replace h:kM (F n) (G n)=some r:=h;show kM (F (n+1)) (G (n+1))=some r;unfold kM at h;split at h
 ·rename_i a b A9 AC;have AD:=gd A9;have Ae:=gd AC;have f1:=A4 n _ AD;have f2:=Ad n _ Ae;rw[AD]at h;rw[f1,f2];simp only[kM,pc];exact h
 ·cases h
theorem I5{R:Nat->List AV->Option (Out×List (Nat×aH))}(AE:∀a,aP (λn=>R n a))(args:List AV)(b:Bool):aP (λn=>jQ (R n) args b):=by
 unfold jQ;split
 ·split
  ·exact Aj (AE _) (AE _)
  ·exact AE _
 ·exact AE _
def nT(k:St->XD)(I:List DF):XE×St->XD
 |(.normal,S)=>k S
 |(e,S)=>some (e,S,I)
theorem D0(k:St->XD)(I:List DF)(r:Option (XE×St)):Jc k I r=r.bind (nT k I):=by
 rcases r with _|⟨e,S⟩
 ·rfl
 ·cases e<;>rfl
def lT(k:St->St):XE×St×List DF->XD
 |(.normal,S,I)=>some (.normal,k S,I)
 |r=>some r
theorem Bs(k:St->St)(r:XD):Bg k r=r.bind (lT k):=by
 rcases r with _|⟨e,S,I⟩
 ·rfl
 ·cases e<;>rfl
def dT(I:List DF)(p:XE×St):XD:=some (p.1,p.2,I)
theorem G3(I:List DF)(r:Option (XE×St)):zb I r=r.bind (dT I):=by
 rcases r with _|⟨e,S⟩<;>rfl
def sT(k:St->List DF->XD):XE×St×List DF->XD
 |(.normal,S,I)=>k S I
 |r=>some r
theorem Om(k:St->List DF->XD)(r:XD):Ks k r=r.bind (sT k):=by
 rcases r with _|⟨e,S,I⟩
 ·rfl
 ·cases e<;>rfl
theorem nw(D:fa C)(all:List Oper):∀(ops:List Oper)(S:St)(I:List DF),aP (λk=>gj X (C k) md all ops S I)
 |[],S,I=>aP.const _
 |o::r,S,I=>by
  simp only[gj];cases nP S o with
  |some d=>exact nw D all r _ _
  |none=>
   simp only[D0];refine (tS D all).bind (g:=λx n=>nT (λS1=>gj X (C n) md all r S1 I) I x) λx=>?_;obtain⟨e,S1⟩:=x;cases e with
   |normal=>exact nw D all r S1 I
   |_=>exact aP.const _
theorem Ii(D:fa C)(f:FuncId){m:Nat->Nat}(hm:∀k,m k<=m (k+1)):∀(c:Code)(S:St)(I:List DF),aP (λk=>jo X f (C k) (m k) c S I):=by
 have add:∀(c:Code)(S:St)(I:List DF),aP (λk=>zb I (den X f (C k) (m k) c S)):=λc S I=>by
  simp only[G3];exact (zw D f hm c S).bind λ_=>aP.const _
 intro c;induction c with
 |seq a b A8 AB=>
  intro S I;simp only[jo,Om];refine (A8 S I).bind (g:=λx n=>sT (jo X f (C n) (m n) b) x) λx=>?_;obtain⟨e,S1,Af⟩:=x;cases e with
  |normal=>exact AB S1 Af
  |_=>exact aP.const _
 |region id ops draw=>
  intro S I;simp only[jo];split
  ·simp only[Bs];exact (nw D _ _ _ _).bind λ_=>aP.const _
  ·exact add _ _ _
 |_=>intro S I;simp only[jo];exact add _ _ _
theorem Bt(D:fa C)(f:FuncId){m:Nat->Nat}(hm:∀k,m k<=m (k+1))(AI:AV):∀(c:Code)(S:St),aP (λk=>oo X f (C k) (m k) AI c S):=by
 intro c;induction c with
 |seq a b A8 AB=>intro S;exact p9 (A8 S) (λA0=>zw D f hm b A0)
 |region id ops draw=>
  intro S;simp only[oo];split
  ·split
   ·simp only[rl];exact (kN D _ _ _).bind λ_=>aP.const _
   ·exact aP.const _
  ·exact aP.const _
 |_=>intro S;simp only[oo];exact aP.const _
theorem On(P:Program)(p:aE)(U:Nat)(rs:List ResultVar)(r:Option (XE×St)):So P p U rs r=r.bind λq=>So P p U rs (some q):=by cases r<;>rfl
theorem NH(D:fa C)(f:FuncId){m:Nat->Nat}(hm:∀k,m k<=m (k+1))(fn:Func)(c:Code)(args:List AV)(cs:List aH):aP (λk=>xM X f (C k) (m k) fn c args cs):=by
 unfold xM;split
 ·split
  ·simp only[On X.P (X.fp f) cs.length fn.results.toList (oo _ _ _ _ _ _ _)];exact (Bt D f hm _ c _).bind λ_=>aP.const _
  ·exact aP.const _
 ·exact aP.const _
theorem FH(D:fa C){m:Nat->Nat}(hm:∀k,m k<=m (k+1)):fa (λk=>nQ X (m k) (C k)):=by
 intro g args cs;simp only[nQ];split
 ·split
  ·exact NH D g hm _ _ _ _
  ·exact aP.const _
 ·exact aP.const _
theorem Oo(S:St)(r:Option fM):uR S r=r.bind λc=>uR S (some c):=by cases r<;>rfl
theorem Oq(X:Ctx)(p:aE)(U:Nat)(rs:List ResultVar)(r:Option St):DP X p U rs r=r.bind λS=>finish X.P p U rs S:=by cases r<;>rfl
theorem Ot(X:Ctx)(p:aE)(U:Nat)(rs:List ResultVar)(AY:bE)(r:XD):xd X p U rs AY r=r.bind λq=>xd X p U rs AY (some q):=by cases r<;>rfl
theorem SC{CR:Nat->bE}(D:fa CR)(p:aE)(U:Nat)(rs:List ResultVar)(S:St)(d:DF)(AI:Option AV):aP (λk=>tO X p U rs (CR k) S d AI):=by
 cases AI with
 |none=>exact aP.const _
 |some AI=>
  simp only[tO,Oq,Oo S (ef _ _ _ _ _ _)];exact ((oI D _ _ _ _ _).bind (g:=λc _=>uR S (some c)) λ_=>aP.const _).bind (g:=λS _=>finish X.P p U rs S) λ_=>aP.const _
theorem FI{CR:Nat->bE}(D:fa CR)(p:aE)(U:Nat)(rs:List ResultVar)(q:XE×St×List DF):aP (λk=>xd X p U rs (CR k) (some q)):=by
 obtain⟨e,S,I⟩:=q;match I with
 |[]=>exact aP.const _
 |[d]=>exact SC D p U rs S d (DO e)
 |_::_::_=>exact aP.const _
theorem NI(D:fa C){CR:Nat->bE}(AE:fa CR)(f:FuncId){m:Nat->Nat}(hm:∀k,m k<=m (k+1))(fn:Func)(c:Code)(args:List AV)(cs:List aH):aP (λk=>xN X f (C k) (CR k) (m k) fn c args cs):=by
 unfold xN;split
 ·simp only[Ot X (X.fp f) cs.length fn.results.toList _ (jo _ _ _ _ _ _ _)];exact (Ii D f hm c _ _).bind (g:=λq n=>xd X (X.fp f) cs.length fn.results.toList (CR n) (some q)) λq=>FI AE _ _ _ q
 ·exact aP.const _
theorem FJ(X:Ctx):∀n g a c r,aZ X n g a c=some r->aZ X (n+1) g a c=some r
 |0,g,a,c,r,h=>by cases h
 |n+1,g,a,c,r,h=>by
  have ih:=FJ X n;have D:fa λk=>if k=0 then aZ X n else aZ X (n+1):=by
   intro g a c k r h;by_cases O:k=0
   ·subst O;exact ih g a c r h
   ·simp only[O,adW]at h;simpa using h
  have hm:∀k,(if k=0 then n else n+1)<=(if k+1=0 then n else n+1):=by
   intro k;by_cases O:k=0<;>simp[O]
  cases A3:X.ov with
  |some Ar=>simp only[aZ,A3]at h⊢;exact h
  |none=>
  cases A6:X.Ah g with
  |some As=>simp only[aZ,A3,A6]at h⊢;exact h
  |none=>
  cases V:X.P.funcs[g]? with
  |none=>simp only[aZ,A3,A6,V]at h;cases h
  |some fn=>
   cases AC:fn.body with
   |none=>simp only[aZ,A3,A6,V,AC]at h;cases h
   |some code=>
    have AD:∀k,aZ X (k+1) g a c=xO X g (aZ X k) k fn code a c (zc code):=by
     intro k;simp only[aZ,A3,A6,V,AC]
    rw[AD]at h⊢;cases AK:zc code with
    |true=>
     rw[AK]at h;exact NI (X:=X) (C:=λk=>if k=0 then aZ X n else aZ X (n+1)) (CR:=λk=>nQ X (if k=0 then n else n+1) (if k=0 then aZ X n else aZ X (n+1))) D (FH D hm) g hm fn code a c 0 r h
    |false=>
    rw[AK]at h;exact I5 (R:=λk args=>rT X g ((λk=>if k=0 then aZ X n else aZ X (n+1)) k) ((λk=>if k=0 then n else n+1) k) fn code args c) (λargs=>FG D g hm fn code args c) a _ 0 r h
theorem bG(X:Ctx):fa (aZ X):=λg a c n r h=>FJ X n g a c r h
end
noncomputable def ai(X:Ctx):bE:=λg a c=>gW λk=>aZ X k g a c
noncomputable def gE(X:Ctx)(f:FuncId)(c:Code)(S:St):Option (XE×St):=gW λk=>den X f (aZ X k) k c S
theorem bI{X:Ctx}{g a c r}(n:Nat)(h:aZ X n g a c=some r):ai X g a c=some r:=(dQ (bG X g a c)).2 ⟨n,h⟩
theorem Zi{X:Ctx}(Ag:kr X):jR X (ai X):=λg args cs out l h=>by
 obtain⟨n,Y⟩:=(dQ (bG X g args cs)).1 h;exact K0 Ag n g args cs out l Y
section
variable {X:Ctx} {S:St} {o:Oper} {f:FuncId} {md:Bool}
theorem dm(c:Code)(S:St):aP (λk=>den X f (aZ X k) k c S):=zw (bG X) f (m:=λk=>k) (λk=>ajz k) c S
theorem SD(m:Mem)(A2:Nat)(g:FuncId)(AJ:List AV)(mt:List Nat):gW (λk=>ef (aZ X k) m A2 g AJ mt)=ef (ai X) m A2 g AJ mt:=by
 unfold ef mE mD;simp only[xk];rw[ep (bG X _ _ _) (λ_=>aP.const _)];simp only[aW];rfl
theorem xn(args:List Operand)(M:Bool×AV):gW (λk=>cN X (aZ X k) S o args M)=cN X (ai X) S o args M:=by
 unfold cN;split
 ·split
  ·simp only[K2 _ _ (ef _ _ _ _ _ _)];rw[ep (oI (bG X) _ _ _ _ _) (λ_=>aP.const _),SD];simp only[aW]
  ·exact aW _
 ·exact aW _
theorem SF:gW (λk=>sD X (aZ X k) S o)=sD X (ai X) S o:=by
 unfold sD;split
 ·rename_i M args AA A7;have J:(λk=>dC S o.dst (cN X (aZ X k) S o args.toList (S.aq M)))=λk=>(cN X (aZ X k) S o args.toList (S.aq M)).bind λc=>dC S o.dst (some c):=by
   funext k;exact GZ ..
  rw[J,ep (lJ (bG X) _ _) (λ_=>aP.const _),xn,GZ];simp only[aW]
 ·exact aW _
 ·exact aW _
theorem zx(r:dF):gW (λk=>iA X (aZ X k) S o r)=iA X (ai X) S o r:=by
 cases r with
 |no=>exact SF
 |val c x=>exact aW _
 |dp c x e=>exact aW _
theorem NJ(b:Bool)(r:dF):gW (λk=>pF X (aZ X k) S o b r)=pF X (ai X) S o b r:=by
 have other:∀r,gW (λk=>if b=true then iA X (aZ X k) S o r else some (.normal,S.put o.dst true .bm))=if b=true then iA X (ai X) S o r else some (.normal,S.put o.dst true .bm):=by
  intro r;split
  ·exact zx r
  ·exact aW _
 cases r with
 |no=>exact other .no
 |val c x=>exact aW _
 |dp c x e=>exact other (.dp c x e)
theorem Ij(all:List Oper):gW (λk=>nO X (aZ X k) md all S o)=nO X (ai X) md all S o:=by
 unfold nO;split
 ·exact zx _
 ·split
  ·split
   ·exact NJ _ _
   ·split
    ·exact zx _
    ·exact aW _
  ·exact aW _
  ·exact aW _
theorem xo{F:Nat->Option (XE×St)}{K:St->Nat->Option (XE×St)}(A4:aP F)(AH:∀S,aP (K S)):gW (λn=>andThen (F n) (λS=>K S n))=andThen (gW F) (λS=>gW (K S)):=by
 simp only[zu];rw[ep (g:=λx n=>aT (λS=>K S n) x) A4 (λx=>by
  obtain⟨e,S⟩:=x;cases e with
  |normal=>exact AH S
  |_=>exact aP.const _)]
 congr 1;funext x;obtain⟨e,S⟩:=x;cases e<;>first|rfl|exact aW _
theorem tT(all:List Oper):∀(ops:List Oper)(S:St),gW (λk=>fZ X (aZ X k) md all ops S)=fZ X (ai X) md all ops S
 |[],S=>aW _
 |o::r,S=>by
  simp only[fZ];have:=xo (F:=λk=>nO X (aZ X k) md all S o) (K:=λA0 k=>fZ X (aZ X k) md all r A0) (tS (bG X) all) (λA0=>kN (bG X) all r A0);rw[Ij]at this;simp only[tT all r]at this;exact this
theorem V0:gW (λk=>mf X (aZ X k) S o)=mf X (ai X) S o:=by
 unfold mf;split
 ·rename_i M args AA A7;have J:(λk=>rS S o (cN X (aZ X k) S o args.toList (S.aq M)))=λk=>(cN X (aZ X k) S o args.toList (S.aq M)).bind λc=>rS S o (some c):=by
   funext k;exact DY ..
  rw[J,ep (lJ (bG X) _ _) (λ_=>aP.const _),xn,DY];simp only[aW]
 ·exact aW _
theorem Bu(r:dF):gW (λk=>fi X (aZ X k) S o r)=fi X (ai X) S o r:=by
 cases r with
 |no=>exact V0
 |val c x=>exact aW _
 |dp c x e=>exact aW _
theorem SG(b:Bool)(r:dF):gW (λk=>sE X (aZ X k) S o b r)=sE X (ai X) S o b r:=by
 have other:∀r,gW (λk=>if b=true then fi X (aZ X k) S o r else some (S.put o.dst true .bm,(⟨[],[],true,.bm⟩:bf)))=if b=true then fi X (ai X) S o r else some (S.put o.dst true .bm,⟨[],[],true,.bm⟩):=by
  intro r;split
  ·exact Bu r
  ·exact aW _
 cases r with
 |no=>exact other .no
 |val c x=>exact aW _
 |dp c x e=>exact other (.dp c x e)
theorem FK(all:List Oper):gW (λk=>eE X (aZ X k) md all S o)=eE X (ai X) md all S o:=by
 unfold eE;split
 ·exact Bu _
 ·split
  ·split
   ·exact SG _ _
   ·split
    ·exact Bu _
    ·exact aW _
  ·exact aW _
  ·exact aW _
theorem Zj:gW (λk=>lH X (aZ X k) S o)=lH X (ai X) S o:=by
 unfold lH;split
 ·unfold DM;split
  ·unfold Ko;split
   ·rename_i M args AA A7;have J:(λk=>wY S (cN X (aZ X k) S o args.toList (S.aq M)))=λk=>(cN X (aZ X k) S o args.toList (S.aq M)).bind λc=>wY S (some c):=by
     funext k;exact G2 ..
    rw[J,ep (lJ (bG X) _ _) (λ_=>aP.const _),xn,G2];simp only[aW]
   ·exact aW _
  ·exact aW _
 ·exact aW _
theorem FL(H:Nat×List (List Nat))(all:List Oper):∀(ops:List Oper)(S:St)(E:List bf),gW (λk=>iU X (aZ X k) md H all ops S E)=iU X (ai X) md H all ops S E
 |[],S,E=>aW _
 |o::r,S,E=>by
  have A5:∀q,lH X (ai X) S o=some q↔∃k,lH X (aZ X k) S o=some q:=λq=>by rw[<-Zj];exact dQ (Ie (bG X))
  have A':∀q,eE X (ai X) md all S o=some q↔∃k,eE X (aZ X k) md all S o=some q:=λq=>by rw[<-FK];exact dQ (mF (bG X) all)
  have Z:∀S E y,iU X (ai X) md H all r S E=some y↔∃k,iU X (aZ X k) md H all r S E=some y:=λS E y=>by rw[<-FL H all r S E];exact dQ (oJ (bG X) H all r S E)
  apply Option.ext;intro y;rw[dQ (oJ (bG X) H all (o::r) S E)];simp only[iU];constructor
  ·rintro ⟨k,O⟩;cases AO:lH X (aZ X k) S o with
   |some q=>
    rw[AO]at O;rw[(A5 q).2 ⟨k,AO⟩];exact O
   |none=>
    rw[AO]at O;simp only[oh,nu]at O;cases AP:eE X (aZ X k) md all S o with
    |none=>rw[AP]at O;cases O
    |some p=>
     rw[AP]at O;have AF:=(A' p).2 ⟨k,AP⟩;rw[DZ AF];simp only[oh,nu,AF,adV]at O⊢;exact (Z _ _ y).2 ⟨k,O⟩
  ·intro h;cases AQ:lH X (ai X) S o with
   |some q=>
    rw[AQ]at h;obtain⟨k,O⟩:=(A5 q).1 AQ;exact⟨k,by rw[O];exact h⟩
   |none=>
    rw[AQ]at h;simp only[oh,nu]at h;cases AF:eE X (ai X) md all S o with
    |none=>rw[AF]at h;cases h
    |some p=>
     rw[AF]at h;simp only[adV]at h;obtain⟨AR,Ai⟩:=(A' p).1 AF;obtain⟨AS,Ak⟩:=(Z _ _ y).1 h;refine⟨max AR AS,?_⟩;have AZ:=(mF (X:=X) (S:=S) (o:=o) (md:=md) (bG X) all).le (Nat.le_max_left AR AS) Ai;have Al:=(oJ (X:=X) (md:=md) (bG X) H all r p.1 (p.2::E)).le (Nat.le_max_right AR AS) Ak;rw[DZ AZ];simp only[oh,nu,AZ,adV];exact Al
theorem D3(H:List (List Nat))(T:List Cl)(all:List Oper):∀(ops:List Oper)(S:St)(E:List bf),gW (λk=>om X (aZ X k) md H T all ops S E)=om X (ai X) md H T all ops S E
 |[],S,E=>aW _
 |o::r,S,E=>by
  simp only[om,nu];cases nq (H.getD E.length []) r with
  |true=>
   simp only[Kr];split
   ·exact tT all [o] S
   ·exact aW _
  |false=>
  simp only
  cases p7 X.P T S o with
  |some x=>
   simp only[oW,adV];exact D3 H T all r _ _
  |none=>
   simp only[oW,Ol];rw[ep (g:=λp n=>om X (aZ X n) md H T all r p.1 (p.2::E)) ((mF (bG X) all).bind (g:=λp _=>SB T p) λp=>aP.const _) (λp=>wa (bG X) H T all r p.1 (p.2::E)),
    ep (g:=λp _=>SB T p) (mF (bG X) all) (λp=>aP.const _),FK]
   simp only[D3 H T all r,aW]
theorem Zk(H:List (List Nat))(all:List Oper)(S:St)(fl:List (Nat×Nat)):gW (λk=>uP X (aZ X k) md H all S fl)=uP X (ai X) md H all S fl:=by
 cases fl with
 |nil=>exact FL _ all all S []
 |cons q r=>
  simp only[uP];cases fK S.mem (q::r)with
  |none=>exact aW _
  |some T=>exact D3 H T all all S []
theorem V1:gE X f .skip S=some (.normal,S):=aW _
theorem V2{id:Nat}:gE X f (.exit id) S=some (.exit id,Fp S (X.gh f (id+1000000))):=aW _
theorem Zl:gE X f .ret S=some (.ret,S):=aW _
theorem Zm{a b:Code}:gE X f (.seq a b) S=andThen (gE X f a S) (gE X f b):=xo (dm a S) (λA0=>dm b A0)
theorem V3{c:Operand}{a b:Code}:gE X f (.cond c a b) S=Ft (gE X f a S) (gE X f b S) (S.aq c):=by
 unfold gE;simp only[den];unfold Ft;split
 ·split<;>rfl
 ·exact aW _
theorem SH{id:Nat}{c:Code}:gE X f (.block id c) S=Fq id (gE X f c (S.enter X f id)):=by
 unfold gE;simp only[den,K1];rw[ep (dm c _) (λ_=>aP.const _)];simp only[aW]
theorem NK{id:Nat}{ops:Array Oper}:gE X f (.region id ops false) S=xc (St.leave X f id) (fZ X (ai X) (X.md f id) ops.toList ops.toList S):=by
 unfold gE;simp only[den,rl];rw[ep (kN (bG X) _ _ _) (λ_=>aP.const _),tT];simp only[aW]
theorem V4{id:Nat}{ops:Array Oper}:gE X f (.region id ops true) S=xc (St.leave X f id) (uP X (ai X) (X.md f id) (X.od f id) ops.toList S (X.fl f id)):=by
 unfold gE;simp only[den,rl];rw[ep (Ig (bG X) _ _ _ _) (λ_=>aP.const _),Zk];simp only[aW]
theorem V5{c:Code}:gE X f (.loop c) S=andThen (gE X f c S) (gE X f (.loop c)):=by
 apply Option.ext;intro r;have AT:∀S r,gE X f (.loop c) S=some r↔∃k,iter (den X f (aZ X k) k c) k S=some r:=λS r=>dQ (dm (.loop c) S);have hi:∀{k j i:Nat}{S r},k<=j->i<=j->iter (den X f (aZ X k) k c) i S=some r->iter (den X f (aZ X j) j c) j S=some r:=by
  intro k j i S r O An h;exact uX _ An ((wb (F:=λk=>den X f (aZ X k) k c) (λS=>dm c S) i S).le O h)
 rw[AT];constructor
 ·rintro ⟨k,O⟩;cases k with
  |zero=>cases O
  |succ k=>
   simp only[iter]at O;rcases ic O with ⟨S1,J,A1⟩|⟨J,A1⟩
   ·have:gE X f c S=some (.normal,S1):=(dQ (dm c S)).2 ⟨k+1,J⟩;rw[this];exact (AT S1 r).2 ⟨k+1,hi (aa7 _) (ajz k) A1⟩
   ·have:gE X f c S=some r:=(dQ (dm c S)).2 ⟨k+1,J⟩;rw[this];obtain⟨e,S1⟩:=r;cases e with
    |normal=>exact absurd rfl A1
    |_=>rfl
 ·intro h;rcases ic h with ⟨S1,J,A1⟩|⟨J,A1⟩
  ·obtain⟨k,O⟩:=(dQ (dm c S)).1 J;obtain⟨j,Ao⟩:=(AT S1 r).1 A1;refine⟨max k j+1,?_⟩;rw[iter,(dm c S).le (show k<=max k j+1 by omega) O];have:=(wb (F:=λk=>den X f (aZ X k) k c) (λS=>dm c S) j S1).le (show j<=max k j+1 by omega) Ao;exact uX _ (show j<=max k j by omega) this
  ·obtain⟨k,O⟩:=(dQ (dm c S)).1 J;refine⟨k+1,?_⟩;rw[iter,(dm c S).le (ajz k) O];obtain⟨e,S1⟩:=r;cases e with
   |normal=>exact absurd rfl A1
   |_=>rfl
noncomputable def FM(X:Ctx)(f:FuncId)(fn:Func)(c:Code)(cs:List aH)(args:List AV):Option (Out×List (Nat×aH)):=
 if (decide (args.length<=fn.ntmps)&&decide (cs.length<=100)&&(X.fp f).sites.all (λk=>decide (100<=k))&&decide (X.fp f).sites.Nodup)=true then
  fin X.P (X.fp f) cs.length fn.results.toList (gE X f c (entry fn.ntmps X.gl args cs (X.fp f).sites))
 else none
theorem Bv{h:List AV->Option AV}{args:List AV}{cs:List aH}(A3:X.ov=none)(A6:X.Ah f=some h):ai X f args cs=nr h args cs:=by
 unfold ai;rw[<-v8 (bG X f args cs)];have:(λn=>aZ X (n+1) f args cs)=λ_=>nr h args cs:=by funext n;simp only[aZ,A3,A6]
 rw[this,aW]
theorem Zn{fn:Func}{c:Code}{args:List AV}{cs:List aH}(A3:X.ov=none)(A6:X.Ah f=none)(V:X.P.funcs[f]?=some fn)(AC:fn.body=some c)(AK:zc c=false):
 ai X f args cs=jQ (FM X f fn c cs) args (X.fp f).split:=by
 have hm:∀args,aP (λk=>rT X f (aZ X k) k fn c args cs):=λargs=>FG (bG X) f (m:=λk=>k) (λk=>ajz k) fn c args cs;have Z:∀args,gW (λk=>rT X f (aZ X k) k fn c args cs)=FM X f fn c cs args:=by
  intro args;unfold rT FM;split
  ·rename_i h;have J:(λk=>fin X.P (X.fp f) cs.length fn.results.toList (den X f (aZ X k) k c (entry fn.ntmps X.gl args cs (X.fp f).sites)))=λk=>(den X f (aZ X k) k c (entry fn.ntmps X.gl args cs (X.fp f).sites)).bind λq=>fin X.P (X.fp f) cs.length fn.results.toList (some q):=by
    funext k;exact K3 ..
   rw[J,ep (dm c _) (λ_=>aP.const _),K3];simp only[aW];rfl
  ·exact aW _
 have AD:ai X f args cs=gW (λk=>jQ (λargs=>rT X f (aZ X k) k fn c args cs) args (X.fp f).split):=by
  unfold ai;rw[<-v8 (bG X f args cs)];congr 1;funext k;rw[aZ,A3,A6,V];simp only[AC,AK,xO]
 rw[AD];unfold jQ;split
 ·split
  ·rename_i r;apply Option.ext;intro y;rw[dQ (Aj (hm _) (hm _)),<-Z,<-Z];constructor
   ·rintro ⟨n,Y⟩;unfold kM at Y⊢;split at Y
    ·rename_i a b A9 AU;have f1:=(dQ (hm _)).2 ⟨n,gd A9⟩;have f2:=(dQ (hm _)).2 ⟨n,gd AU⟩;rw[f1,f2];rw[gd A9]at Y;exact Y
    ·cases Y
   ·intro h;unfold kM at h;split at h
    ·rename_i a b A9 AU;obtain⟨n,Y⟩:=(dQ (hm _)).1 (gd A9);obtain⟨m,Ap⟩:=(dQ (hm _)).1 (gd AU);refine⟨max n m,?_⟩;rw[(hm _).le (Nat.le_max_left n m) Y,(hm _).le (Nat.le_max_right n m) Ap];rw[gd A9]at h;exact h
    ·cases h
  ·exact Z _
 ·exact Z _
end
abbrev bZ:=Option (Out×List (Nat×aH))
abbrev Kt:=XE->St->bZ
noncomputable def aO(X:Ctx)(f:FuncId)(c:Code)(S:St)(k:Kt):bZ:=(gE X f c S).bind λp=>k p.1 p.2
noncomputable def runK(X:Ctx)(md:Bool)(all ops:List Oper)(S:St)(k:Kt):bZ:=(fZ X (ai X) md all ops S).bind λp=>k p.1 p.2
noncomputable def lK(X:Ctx)(md:Bool)(E:Nat×List (List Nat))(all ops:List Oper)(S:St)(H:List bf)(k:Kt):bZ:=(iU X (ai X) md E all ops S H).bind λp=>k p.1 p.2
noncomputable def Bw(X:Ctx)(f:FuncId)(b:Code)(k:Kt):Kt
 | .normal,S=>aO X f b S k
 |e,S=>k e S
def D4(id:Nat)(k:Kt):Kt
 | .exit U,S=>if U=id then k .normal S else k (.exit U) S
 |e,S=>k e S
noncomputable def FN(X:Ctx)(f:FuncId)(c:Code)(k:Kt):Kt
 | .normal,S=>aO X f (.loop c) S k
 |e,S=>k e S
def Bx(X:Ctx)(f:FuncId)(id:Nat)(k:Kt):Kt
 | .normal,S=>k .normal (S.leave X f id)
 |e,S=>k e S
def D5(P:Program)(p:aE)(O:Nat)(rs:List ResultVar):Kt
 | .normal,S=>finish P p O rs S
 | .ret,S=>finish P p O rs S
 | .panic t x,S=>yT p O t x S
 | .exit _,_=>none
def V6:Bool×AV->Bool
 |(true,.d (.bool _))=>true
 |_=>false
def By:Bool×AV->Bool
 |(_,.d (.bool b))=>b
 |_=>false
def Env.kn:Env->Nat->Bool->Env
 |[],_,_=>[]
 |(t,x)::r,c,b=>if t=c then (t,true,.d (.bool b))::r else (t,x)::Env.kn r c b
def St.kn(S:St)(c:Nat)(b:Bool):St:={S with env:=Env.kn S.env c b}
section
variable {X:Ctx} {f:FuncId} {S:St} {k:Kt}
theorem uY(r:Option (XE×St))(g:St->Option (XE×St)):(andThen r g).bind (λp=>k p.1 p.2)=r.bind λp=>match p with
 |(.normal,S)=>(g S).bind λp=>k p.1 p.2
 |(e,S)=>k e S:=by
 rcases r with _|⟨e,S⟩
 ·rfl
 ·cases e<;>rfl
theorem V7:aO X f .skip S k=k .normal S:=by simp only[aO,V1,adV]
theorem V8{id:Nat}:aO X f (.exit id) S k=k (.exit id) (Fp S (X.gh f (id+1000000))):=by simp only[aO,V2,adV]
theorem Zo:aO X f .ret S k=k .ret S:=by simp only[aO,Zl,adV]
theorem gJ{a b:Code}:aO X f (.seq a b) S k=aO X f a S (Bw X f b k):=by
 simp only[aO,Zm,uY];congr 1;funext p;obtain⟨e,S⟩:=p;cases e<;>rfl
theorem ah{c:Code}:aO X f (.loop c) S k=aO X f c S (FN X f c k):=by
 rw[aO,V5,uY,aO];congr 1;funext p;obtain⟨e,S⟩:=p;cases e<;>rfl
theorem SI{id:Nat}{c:Code}:aO X f (.block id c) S k=aO X f c (S.enter X f id) (D4 id k):=by
 simp only[aO,SH];rcases gE X f c (S.enter X f id)with _|⟨e,S⟩
 ·rfl
 ·cases e with
  |exit U=>
   simp only[Fq,adV,D4];split<;>rfl
  |_=>rfl
theorem Ik{c:Operand}{a b:Code}:aO X f (.cond c a b) S k=if V6 (S.aq c)=true then (if By (S.aq c)=true then aO X f a S k else aO X f b S k)else none:=by
 simp only[aO,V3];generalize S.aq c=v;obtain⟨g,x⟩:=v;cases g with
 |false=>rfl
 |true=>
  cases x with
  |d x=>
   cases x with
   |bool t=>cases t<;>rfl
   |_=>rfl
  |_=>rfl
theorem abw{b:Bool}:∀{env:Env}{c:Nat},Env.lk env c=some (true,.d (.bool b))->Env.kn env c b=env
 |[],c,h=>by cases h
 |(t,x)::r,c,h=>by
  simp only[Env.lk]at h;simp only[Env.kn];split
  ·rename_i A0;rw[abf A0]at h;cases h;rfl
  ·rename_i A0;rw[aa4 A0]at h;rw[abw h]
theorem agD{c:Tmp}{b:Bool}(h:S.aq (.tmp c)=(true,.d (.bool b))):Env.lk S.env c=some (true,.d (.bool b)):=by
 simp only[St.aq]at h;cases A3:Env.lk S.env c with
 |none=>rw[A3]at h;simp at h
 |some x=>rw[A3]at h;simp only[afU]at h;rw[h]
theorem SJ{c:Tmp}{a b:Code}:aO X f (.cond (.tmp c) a b) S k=if V6 (S.aq (.tmp c))=true then (if By (S.aq (.tmp c))=true then aO X f a (S.kn c true) k else aO X f b (S.kn c false) k)else none:=by
 rw[Ik];generalize A6:S.aq (.tmp c)=v;obtain⟨g,x⟩:=v;cases g with
 |false=>rfl
 |true=>
  cases x with
  |d x=>
   cases x with
   |bool t=>
    have:S.kn c t=S:=by
     unfold St.kn;rw[abw (agD A6)]
    cases t with
    |true=>rw[this];rfl
    |false=>rw[this];rfl
   |_=>rfl
  |_=>rfl
theorem SK{v:Value}{a b:Code}:aO X f (.cond (.const v) a b) S k=if V6 (S.aq (.const v))=true then (if By (S.aq (.const v))=true then aO X f a S k else aO X f b S k)else none:=Ik
theorem NL{id:Nat}{l:List Oper}:aO X f (.region id ⟨l⟩ false) S k=runK X (X.md f id) l l S (Bx X f id k):=by
 simp only[aO,NK,runK];rcases fZ X (ai X) (X.md f id) l l S with _|⟨e,S⟩
 ·rfl
 ·cases e<;>rfl
noncomputable def Cn(X:Ctx)(md:Bool)(E:List (List Nat))(l:List Oper)(S:St)(k:Kt):List (Nat×Nat)->bZ
 |[]=>lK X md (gD S.mem,E) l l S [] k
 |q::r=>(Sn X (ai X) md E l S (fK S.mem (q::r))).bind λp=>k p.1 p.2
theorem V9{id:Nat}{l:List Oper}:aO X f (.region id ⟨l⟩ true) S k=Cn X (X.md f id) (X.od f id) l S (Bx X f id k) (X.fl f id):=by
 simp only[aO,V4];cases X.fl f id with
 |nil=>
  simp only[uP,Cn,lK];rcases iU X (ai X) (X.md f id) (gD S.mem,X.od f id) l l S []with _|⟨e,S⟩
  ·rfl
  ·cases e<;>rfl
 |cons q r=>
  simp only[uP,Cn];rcases Sn X (ai X) (X.md f id) (X.od f id) l S (fK S.mem (q::r))with _|⟨e,S⟩
  ·rfl
  ·cases e<;>rfl
noncomputable def Co(X:Ctx)(md:Bool)(E:List (List Nat))(I:List Cl)(all ops:List Oper)(S:St)(H:List bf)(k:Kt):bZ:=(om X (ai X) md E I all ops S H).bind λp=>k p.1 p.2
noncomputable def Jg(X:Ctx)(md:Bool)(E:List (List Nat))(I:List Cl)(all r:List Oper)(H:List bf)(k:Kt):Option (St×bf)->bZ
 |some (S,p)=>Co X md E I all r S (p::H) k
 |none=>none
theorem aeg{md:Bool}{E:List (List Nat)}{l:List Oper}:Cn X md E l S k []=lK X md (gD S.mem,E) l l S [] k:=rfl
noncomputable def Jh(X:Ctx)(md:Bool)(E:List (List Nat))(l:List Oper)(S:St)(k:Kt):Option (List Cl)->bZ
 |some I=>Co X md E I l l S [] k
 |none=>none
theorem G4{md:Bool}{E:List (List Nat)}{l:List Oper}{q:Nat×Nat}{r:List (Nat×Nat)}:Cn X md E l S k (q::r)=Jh X md E l S k (fK S.mem (q::r)):=by
 simp only[Cn];cases fK S.mem (q::r)<;>rfl
noncomputable def Cp(X:Ctx)(md:Bool)(E:List (List Nat))(I:List Cl)(all r:List Oper)(S:St)(o:Oper)(H:List bf)(k:Kt):Bool->bZ
 |true=>if oe E H.reverse=true then runK X md all [o] S k else none
 |false=>Jg X md E I all r H k (oW X (ai X) md I all S o (p7 X.P I S o))
theorem zy{md:Bool}{E:List (List Nat)}{I:List Cl}{all r:List Oper}{o:Oper}{H:List bf}:Co X md E I all (o::r) S H k=Cp X md E I all r S o H k (nq (E.getD H.length []) r):=by
 simp only[Co,om];cases nq (E.getD H.length []) r with
 |true=>
  simp only[Kr,Cp];split
  ·rfl
  ·rfl
 |false=>
  simp only[Cp];rcases oW X (ai X) md I all S o (p7 X.P I S o)with _|⟨S1,p⟩<;>rfl
theorem jT{b:Code}:Bw X f b k .normal S=aO X f b S k:=rfl
theorem agE{b:Code}{id:Nat}:Bw X f b k (.exit id) S=k (.exit id) S:=rfl
theorem agF{b:Code}:Bw X f b k .ret S=k .ret S:=rfl
theorem agG{b:Code}{t:TypeId}{x:D}:Bw X f b k (.panic t x) S=k (.panic t x) S:=rfl
theorem agH{id:Nat}:D4 id k .normal S=k .normal S:=rfl
theorem agI{id U:Nat}:D4 id k (.exit U) S=if U=id then k .normal S else k (.exit U) S:=rfl
theorem agJ{id:Nat}:D4 id k .ret S=k .ret S:=rfl
theorem agK{id:Nat}{t:TypeId}{x:D}:D4 id k (.panic t x) S=k (.panic t x) S:=rfl
theorem aeh{c:Code}:FN X f c k .normal S=aO X f (.loop c) S k:=rfl
theorem aei{c:Code}{id:Nat}:FN X f c k (.exit id) S=k (.exit id) S:=rfl
theorem aej{c:Code}:FN X f c k .ret S=k .ret S:=rfl
theorem aek{c:Code}{t:TypeId}{x:D}:FN X f c k (.panic t x) S=k (.panic t x) S:=rfl
theorem Zp{id:Nat}:Bx X f id k .normal S=k .normal (S.leave X f id):=rfl
theorem Zq{id:Nat}{t:TypeId}{x:D}:Bx X f id k (.panic t x) S=k (.panic t x) S:=rfl
theorem agL{P:Program}{p:aE}{O:Nat}{rs:List ResultVar}:D5 P p O rs .normal S=finish P p O rs S:=rfl
theorem agM{P:Program}{p:aE}{O:Nat}{rs:List ResultVar}:D5 P p O rs .ret S=finish P p O rs S:=rfl
theorem agN{P:Program}{p:aE}{O:Nat}{rs:List ResultVar}{t:TypeId}{x:D}:D5 P p O rs (.panic t x) S=yT p O t x S:=rfl
end
def zz(all:List Oper)(o:Oper):Option Nat:=
 match o.guard with
 |some (j,_)=>me all j
 |none=>none
noncomputable def rU(X:Ctx)(md:Bool)(S:St)(d:Option Nat)(all r:List Oper)(k:Kt):Option fM->bZ
 |some ⟨.ret x,es,_⟩=>runK X md all r (({S with mem:=bH S.mem es}:St).put d true x) k
 |some ⟨.panic t x,es,_⟩=>k (.panic t x) {S with mem:=bH S.mem es}
 |none=>none
def K5(S:St)(k:Kt):Bool×AV->bZ
 |(true,.im t d)=>k (.panic t d) S
 |_=>none
noncomputable def wc(X:Ctx)(md:Bool)(S:St)(o:Oper)(all r:List Oper)(k:Kt):Op->bZ
 | .call {callee:=.value T,args,..}=>rU X md S o.dst all r k (cN X (ai X) S o args.toList (S.aq T))
 | .panic x=>K5 S k (S.aq x)
 |_=>none
noncomputable def rV(X:Ctx)(md:Bool)(S:St)(o:Oper)(all r:List Oper)(k:Kt):dF->bZ
 | .val c x=>if (gR S o&&c)=true then runK X md all r (S.put o.dst true x) k else none
 | .dp c x e=>if (gR S o&&c)=true then runK X md all r (({S with mem:=Mem.set S.mem e}:St).put o.dst true x) k else none
 | .no=>wc X md S o all r k o.op
noncomputable def uZ(X:Ctx)(md:Bool)(S:St)(o:Oper)(all r:List Oper)(k:Kt)(b:Bool):dF->bZ
 | .val c x=>if b=true->(gR S o&&c)=true then runK X md all r (S.put o.dst b x) k else none
 | .dp c x e=>if b=true then rV X md S o all r k (.dp c x e)else runK X md all r (S.put o.dst true .bm) k
 | .no=>if b=true then wc X md S o all r k o.op else runK X md all r (S.put o.dst true .bm) k
noncomputable def FO(X:Ctx)(S:St)(o:Oper)(all r:List Oper)(k:Kt)(J t:Bool):Bool->bZ
 |false=>uZ X false S o all r k (t == J) (du X.P S o)
 |true=>if (t == J)=true then rV X true (S.cz (zz all o) J) o all r k (du X.P (S.cz (zz all o) J) o)else runK X true all r ((S.cz (zz all o) (!J)).put o.dst true (.bg [])) k
noncomputable def K6(X:Ctx)(md:Bool)(S:St)(o:Oper)(all r:List Oper)(k:Kt)(J:Bool):GV->bZ
 | .tt t=>FO X S o all r k J t md
 | .skip=>runK X md all r (S.put o.dst true (.bg [])) k
 | .bad=>none
section
variable {X:Ctx} {f:FuncId} {S:St} {k:Kt} {all r:List Oper} {md:Bool}
theorem zA(o:Oper)(res:dF):(andThen (iA X (ai X) S o res) (fZ X (ai X) md all r)).bind (λp=>k p.1 p.2)=rV X md S o all r k res:=by
 cases res with
 |val c x=>simp only[iA,rV];split<;>rfl
 |dp c x e=>simp only[iA,rV];split<;>rfl
 |no=>
  simp only[iA,rV,sD];split
  ·rename_i T args A4 V;rw[V];simp only[wc];rcases cN X (ai X) S o args.toList (S.aq T)with _|⟨out,es,ks⟩
   ·rfl
   ·cases out<;>rfl
  ·rename_i x V;rw[V];simp only[wc];generalize S.aq x=v;obtain⟨g,y⟩:=v;cases g<;>cases y<;>rfl
  ·rename_i Z A7;unfold wc;split
   ·rename_i heq;exact absurd heq (Z _ _ _)
   ·rename_i heq;exact absurd heq (A7 _)
   ·rfl
theorem Zr:runK X md all [] S k=k .normal S:=rfl
theorem Wa{d:Option Tmp}{op:Op}{ty:TypeId}{pos:String}{M:Array Edge}:runK X md all (⟨d,op,ty,pos,M,none⟩::r) S k=rV X md S ⟨d,op,ty,pos,M,none⟩ all r k (du X.P S ⟨d,op,ty,pos,M,none⟩):=
 zA _ _
theorem SL{d:Option Tmp}{op:Op}{ty:TypeId}{pos:String}{M:Array Edge}{j:Nat}{w:Bool}:runK X md all (⟨d,op,ty,pos,M,some (j,w)⟩::r) S k=K6 X md S ⟨d,op,ty,pos,M,some (j,w)⟩ all r k w (p6 (pT all S j)):=by
 simp only[runK,fZ,nO];generalize p6 (pT all S j)=g;cases g with
 |skip=>rfl
 |bad=>rfl
 |tt t=>
  simp only[K6];cases md with
  |true=>
   simp only[FO,zz];split
   ·exact zA _ _
   ·rfl
  |false=>
  simp only[FO];generalize A':du X.P S _=res;cases res with
  |val c x=>simp only[pF,uZ];split<;>rfl
  |dp c x e=>
   simp only[pF,uZ];split
   ·exact zA _ (.dp c x e)
   ·rfl
  |no=>
   simp only[pF,uZ];split
   ·exact zA _ .no
   ·rfl
theorem Wb{d:Option Nat}{c:Prop}[Decidable c]{a b:Option fM}:rU X md S d all r k (if c then a else b)=if c then rU X md S d all r k a else rU X md S d all r k b:=by split<;>rfl
end
theorem K7{m:Mem}{A1:Nat}{ρ B:List Nat}{c:Prop}[Decidable c]{a b:Option (Out×List (Nat×aH))}:fY m A1 ρ B (if c then a else b)=if c then fY m A1 ρ B a else fY m A1 ρ B b:=by split<;>rfl
noncomputable def mw(X:Ctx)(md:Bool)(E:Nat×List (List Nat))(S:St)(d:Option Nat)(all r:List Oper)(H:List bf)(k:Kt):Option fM->bZ
 |some ⟨.ret x,es,ks⟩=>lK X md E all r (({S with mem:=bH S.mem es}:St).put d true x) (⟨ks,es,true,x⟩::H) k
 |some ⟨.panic t x,es,ks⟩=>(Sl X md E all r d H ⟨{S with mem:=bH S.mem es},t,x,es,ks⟩).bind λp=>k p.1 p.2
 |none=>none
noncomputable def Bz(X:Ctx)(md:Bool)(E:Nat×List (List Nat))(S:St)(o:Oper)(all r:List Oper)(H:List bf)(k:Kt):Op->bZ
 | .call {callee:=.value T,args,..}=>mw X md E S o.dst all r H k (cN X (ai X) S o args.toList (S.aq T))
 |_=>none
noncomputable def u0(X:Ctx)(md:Bool)(E:Nat×List (List Nat))(S:St)(o:Oper)(all r:List Oper)(H:List bf)(k:Kt):dF->bZ
 | .val c x=>if (gR S o&&c)=true then lK X md E all r (S.put o.dst true x) (⟨jB S o,[],true,x⟩::H) k else none
 | .dp c x e=>if (gR S o&&c&&(jB S o).contains e.key)=true then lK X md E all r (({S with mem:=Mem.set S.mem e}:St).put o.dst true x) (⟨jB S o,[e],true,x⟩::H) k else none
 | .no=>Bz X md E S o all r H k o.op
noncomputable def qa(X:Ctx)(md:Bool)(E:Nat×List (List Nat))(S:St)(d:Option Nat)(all r:List Oper)(H:List bf)(k:Kt):Option fM->bZ
 |some ⟨.ret x,es,ks⟩=>lK X md E all r (({S with mem:=bH S.mem es}:St).put d true x) (⟨ks,es,true,x⟩::H) k
 |_=>none
noncomputable def xT(X:Ctx)(md:Bool)(E:Nat×List (List Nat))(S:St)(o:Oper)(all r:List Oper)(H:List bf)(k:Kt):Op->bZ
 | .call {callee:=.value T,args,..}=>qa X md E S o.dst all r H k (cN X (ai X) S o args.toList (S.aq T))
 |_=>none
noncomputable def qb(X:Ctx)(md:Bool)(E:Nat×List (List Nat))(S:St)(o:Oper)(all r:List Oper)(H:List bf)(k:Kt):dF->bZ
 | .val c x=>if (gR S o&&c)=true then lK X md E all r (S.put o.dst true x) (⟨jB S o,[],true,x⟩::H) k else none
 | .dp c x e=>if (gR S o&&c&&(jB S o).contains e.key)=true then lK X md E all r (({S with mem:=Mem.set S.mem e}:St).put o.dst true x) (⟨jB S o,[e],true,x⟩::H) k else none
 | .no=>xT X md E S o all r H k o.op
noncomputable def rm(X:Ctx)(md:Bool)(E:Nat×List (List Nat))(S:St)(o:Oper)(all r:List Oper)(H:List bf)(k:Kt)(b:Bool):dF->bZ
 | .val c x=>if b=true->(gR S o&&c)=true then lK X md E all r (S.put o.dst b x) (⟨jB S o,[],b,x⟩::H) k else none
 | .dp c x e=>if b=true then qb X md E S o all r H k (.dp c x e)else lK X md E all r (S.put o.dst true .bm) (⟨[],[],true,.bm⟩::H) k
 | .no=>if b=true then xT X md E S o all r H k o.op else lK X md E all r (S.put o.dst true .bm) (⟨[],[],true,.bm⟩::H) k
noncomputable def BA(X:Ctx)(E:Nat×List (List Nat))(S:St)(o:Oper)(all r:List Oper)(H:List bf)(k:Kt)(J t:Bool):Bool->bZ
 |false=>rm X false E S o all r H k (t == J) (du X.P S o)
 |true=>if (t == J)=true then qb X true E (S.cz (zz all o) J) o all r H k (du X.P (S.cz (zz all o) J) o)else lK X true E all r ((S.cz (zz all o) (!J)).put o.dst true (.bg [])) (⟨[],[],true,.bg []⟩::H) k
noncomputable def FP(X:Ctx)(md:Bool)(E:Nat×List (List Nat))(S:St)(o:Oper)(all r:List Oper)(H:List bf)(k:Kt)(J:Bool):GV->bZ
 | .tt t=>BA X E S o all r H k J t md
 | .skip=>lK X md E all r (S.put o.dst true (.bg [])) (⟨[],[],true,.bg []⟩::H) k
 | .bad=>none
section
variable {X:Ctx} {f:FuncId} {S:St} {k:Kt} {all r:List Oper} {md:Bool} {E:Nat×List (List Nat)} {H:List bf}
theorem sJ(o:Oper)(res:dF):(za H (fi X (ai X) S o res) (iU X (ai X) md E all r)).bind (λp=>k p.1 p.2)=qb X md E S o all r H k res:=by
 cases res with
 |val c x=>simp only[fi,qb];split<;>rfl
 |dp c x e=>simp only[fi,qb];split<;>rfl
 |no=>
  simp only[fi,qb,mf];split
  ·rename_i T args A4 V;rw[V];simp only[xT];rcases cN X (ai X) S o args.toList (S.aq T)with _|⟨out,es,ks⟩
   ·rfl
   ·cases out<;>rfl
  ·rename_i Z;unfold xT;split
   ·rename_i heq;exact absurd heq (Z _ _ _)
   ·rfl
def BB:List bf->List bf->List bf
 |[],r=>r
 |x::l,r=>BB l (x::r)
theorem Cq:∀(l r:List bf),BB l r=l.reverse++r
 |[],_=>rfl
 |x::l,r=>by rw[BB,Cq l];simp
theorem BC{E:List (List Nat)}{I:List Cl}:Co X md E I all [] S H k=if oe E (BB H [])=true then k .normal S else none:=by
 simp only[Co,om];rw[Cq,afy];split<;>rfl
theorem aw:lK X md E all [] S H k=if oe E.2 (BB H [])=true then k .normal S else none:=by
 rw[Cq,afy];simp only[lK,iU];split<;>rfl
theorem Wc{d:Option Tmp}{op:Op}{ty:TypeId}{pos:String}{M:Array Edge}:lK X md E all (⟨d,op,ty,pos,M,none⟩::r) S H k=u0 X md E S ⟨d,op,ty,pos,M,none⟩ all r H k (du X.P S ⟨d,op,ty,pos,M,none⟩):=by
 simp only[lK,iU,lH];generalize V:(⟨d,op,ty,pos,M,none⟩:Oper)=o;have A8:o.guard=none:=by subst V;rfl
 have Y:eE X (ai X) md all S o=fi X (ai X) S o (du X.P S o):=by unfold eE;rw[A8]
 generalize A':du X.P S o=res;rw[A']at Y;cases res with
 |val c x=>simp only[DM,oh,Y,u0];exact sJ _ (.val c x)
 |dp c x e=>simp only[DM,oh,Y,u0];exact sJ _ (.dp c x e)
 |no=>
  simp only[DM,Ko,u0];split
  ·rename_i T args A4 A2;rw[A2];simp only[Bz];cases A5:cN X (ai X) S o args.toList (S.aq T)with
   |none=>
    simp only[wY,oh,Y,fi,mf,A2,A5,mw];rfl
   |some res=>
    obtain⟨out,es,ks⟩:=res;cases out with
    |ret x=>
     simp only[wY,oh,Y,fi,mf,A2,A5,mw];rfl
    |panic t x=>rfl
  ·rename_i Z;simp only[oh,Y,fi,mf];unfold Bz;split
   ·rename_i heq;exact absurd heq (Z _ _ _)
   ·rfl
theorem SM{d:Option Tmp}{op:Op}{ty:TypeId}{pos:String}{M:Array Edge}{j:Nat}{w:Bool}:lK X md E all (⟨d,op,ty,pos,M,some (j,w)⟩::r) S H k=FP X md E S ⟨d,op,ty,pos,M,some (j,w)⟩ all r H k w (p6 (pT all S j)):=by
 simp only[lK,iU,lH,oh,eE];generalize p6 (pT all S j)=g;cases g with
 |skip=>rfl
 |bad=>rfl
 |tt t=>
  simp only[FP];cases md with
  |true=>
   simp only[BA,zz];split
   ·exact sJ _ _
   ·rfl
  |false=>
  simp only[BA];generalize A':du X.P S _=res;cases res with
  |val c x=>simp only[sE,rm];split<;>rfl
  |dp c x e=>
   simp only[sE,rm];split
   ·exact sJ _ (.dp c x e)
   ·rfl
  |no=>
   simp only[sE,rm];split
   ·exact sJ _ .no
   ·rfl
theorem SN{d:Option Nat}{c:Prop}[Decidable c]{a b:Option fM}:mw X md E S d all r H k (if c then a else b)=if c then mw X md E S d all r H k a else mw X md E S d all r H k b:=by split<;>rfl
theorem SO{d:Option Nat}{c:Prop}[Decidable c]{a b:Option fM}:qa X md E S d all r H k (if c then a else b)=if c then qa X md E S d all r H k a else qa X md E S d all r H k b:=by split<;>rfl
end
def oK(n:Nat)(p:aE)(args:List AV)(cs:List aH):Bool:=
 decide (args.length<=n)&&decide (cs.length<=100)&&p.sites.all (λk=>decide (100<=k))&&decide p.sites.Nodup
theorem aB{X:Ctx}{f:FuncId}{fn:Func}{c:Code}{args:List AV}{cs:List aH}{n:Nat}{rs:List ResultVar}{p:aE}(A9:X.ov=none)(AA:X.Ah f=none)(AB:X.P.funcs[f]?=some fn)(AC:fn.body=some c)(AD:zc c=false)(AE:fn.ntmps=n)(AF:fn.results.toList=rs)
 (AG:X.fp f=p) (A':p.split=false) (AH:oK n p args cs=true):ai X f args cs=aO X f c (entry n X.gl args cs p.sites) (D5 X.P p cs.length rs):=by
 subst AG;rw[Zn A9 AA AB AC AD,A'];simp only[jQ,FM];subst AE;subst AF;rw[abf (by simpa only[oK]using AH)];simp only[aO];rcases gE X f c _ with _|⟨e,S⟩
 ·rfl
 ·cases e<;>rfl
attribute [simp] du.eq_1
attribute [simp] gR.eq_1
attribute [simp] jh.eq_1 jh.eq_2
attribute [simp] Go.Op.operands.eq_1 Go.Op.operands.eq_2 Go.Op.operands.eq_3 Go.Op.operands.eq_4 Go.Op.operands.eq_5 Go.Op.operands.eq_6 Go.Op.operands.eq_7 Go.Op.operands.eq_8 Go.Op.operands.eq_9 Go.Op.operands.eq_10 Go.Op.operands.eq_11 Go.Op.operands.eq_12 Go.Op.operands.eq_13 Go.Op.operands.eq_14 Go.Op.operands.eq_15 Go.Op.operands.eq_16 Go.Op.operands.eq_17 Go.Op.operands.eq_18 Go.Op.operands.eq_19 Go.Op.operands.eq_20 Go.Op.operands.eq_21 Go.Op.operands.eq_22 Go.Op.operands.eq_23 Go.Op.operands.eq_24 Go.Op.operands.eq_25 Go.Op.operands.eq_26 Go.Op.operands.eq_27 Go.Op.operands.eq_28 Go.Op.operands.eq_29 Go.Op.operands.eq_30 Go.Op.operands.eq_31 Go.Op.operands.eq_32 Go.Op.operands.eq_33 Go.Op.operands.eq_34 Go.Op.operands.eq_35 Go.Op.operands.eq_36 Go.Op.operands.eq_37 Go.Op.operands.eq_38 Go.Op.operands.eq_39 Go.Op.operands.eq_40 Go.Op.operands.eq_41 Go.Op.operands.eq_42 Go.Op.operands.eq_43
attribute [simp] St.aq.eq_1 St.aq.eq_2 St.aq.eq_3 St.aq.eq_4
attribute [simp] Env.lk.eq_1 Env.lk.eq_2
attribute [simp] St.put.eq_1 St.put.eq_2
attribute [simp] Mem.get.eq_1 Mem.get.eq_2
attribute [simp] Mem.set.eq_1 Mem.set.eq_2
attribute [simp] AV.lV.eq_1 AV.lV.eq_2 AV.lV.eq_3
attribute [simp] nH.eq_1 nH.eq_2 nH.eq_3 nH.eq_4 nH.eq_5 nH.eq_6
attribute [simp] AV.cells.eq_1 AV.cells.eq_2 AV.cells.eq_3
attribute [simp] mR.eq_1 mR.eq_2 mR.eq_3 mR.eq_4 mR.eq_5
attribute [simp] pR.eq_1 pR.eq_2 pR.eq_3
attribute [simp] pv.eq_1 jG.eq_1 jG.eq_2 jG.eq_3
attribute [simp] nb.eq_1 nb.eq_2
attribute [simp] sn.eq_1 sn.eq_2 sn.eq_3 sn.eq_4
attribute [simp] AP.eq_1 AP.eq_2 AP.eq_3 AP.eq_4
attribute [simp] qT.eq_1 qT.eq_2 qT.eq_3 qT.eq_4 qT.eq_5 qT.eq_6 qT.eq_7 qT.eq_8 qT.eq_9
attribute [simp] fG.eq_1 fG.eq_2 fG.eq_3 fG.eq_4 fG.eq_5 fG.eq_6 fG.eq_7 fG.eq_8 fG.eq_9 fG.eq_10 fG.eq_11 fG.eq_12 fG.eq_13 fG.eq_14 fG.eq_15 fG.eq_16
attribute [simp] nf.eq_1 nf.eq_2 nf.eq_3 nf.eq_4 nf.eq_5 nf.eq_6 nf.eq_7 nf.eq_8
attribute [simp] I9.eq_1
attribute [simp] uC.eq_1 uC.eq_2
attribute [simp] EO.eq_1 EO.eq_2
attribute [simp] pT.eq_1
attribute [simp] B8.eq_1
def SP{α:Type}(y:α):Option (List α)->Option (List α)
 |some H=>some (y::H)
 |none=>none
@[simp] theorem akY{α:Type}(y:α)(H:List α):SP y (some H)=some (y::H):=rfl
@[simp] theorem akZ{α:Type}(y:α):SP y none=none:=rfl
@[simp] theorem toDs_nil:toDs []=some []:=rfl
@[simp] theorem toDs_d(y r):toDs (.d y::r)=SP y (toDs r):=by
 cases h:toDs r with
 |none=>exact toDs.eq_3 _ _ (λ_ _ _ I=>by rw[h]at I;cases I)
 |some H=>exact toDs.eq_2 _ _ _ h
@[simp] theorem toDs_vec(a b c d r):toDs (.vec a b c d::r)=none:=by rw[toDs.eq_def]
@[simp] theorem toDs_ptr(a b c r):toDs (.ptr a b c::r)=none:=by rw[toDs.eq_def]
@[simp] theorem toDs_lit(a r):toDs (.lit a::r)=none:=by rw[toDs.eq_def]
@[simp] theorem toDs_fn(a b r):toDs (.fn a b::r)=none:=by rw[toDs.eq_def]
@[simp] theorem toDs_nn(r):toDs (.nn::r)=none:=by rw[toDs.eq_def]
@[simp] theorem toDs_junk(r):toDs (.bm::r)=none:=by rw[toDs.eq_def]
attribute [simp] tH.eq_1 tH.eq_2
attribute [simp] JS.eq_1 JS.eq_2 JS.eq_3 JS.eq_4
attribute [simp] lW.eq_1 lW.eq_2 lW.eq_3 lW.eq_4 lW.eq_5 lW.eq_6 RX.eq_1
attribute [simp] oR.eq_1 oR.eq_2 oR.eq_3 oR.eq_4 oR.eq_5
attribute [simp] sW.eq_1
attribute [simp] AB.eq_1 RG.eq_1 RG.eq_2 YD.eq_1 YD.eq_2
attribute [simp] vI.eq_1 vI.eq_2
attribute [simp] il.eq_1 il.eq_2 il.eq_3 il.eq_4 il.eq_5
attribute [simp] yK.eq_1
attribute [simp] yL.eq_1
attribute [simp] GI.eq_1 GI.eq_2
attribute [simp] nI.eq_1 nI.eq_2 nI.eq_3 nI.eq_4
attribute [simp] EP.eq_1
attribute [simp] rM.eq_1 rM.eq_2
attribute [simp] kH.eq_1
attribute [simp] sl.eq_1 sl.eq_2
attribute [simp] tI.eq_1 tI.eq_2
attribute [simp] mV.eq_1 mV.eq_2 mV.eq_3 mV.eq_4 mV.eq_5 mV.eq_6
attribute [simp] tG.eq_1
attribute [simp] py.eq_1 py.eq_2 py.eq_3
attribute [simp] uD.eq_1 uD.eq_2 xH.eq_1 xH.eq_2 B9.eq_1
attribute [simp] qU.eq_1 qU.eq_2 qU.eq_3 qU.eq_4
attribute [simp] ly.eq_1 ly.eq_2 ly.eq_3 ly.eq_4 ly.eq_5
attribute [simp] bound.eq_1 bound.eq_2 bound.eq_3
attribute [simp] bB.eq_1 bB.eq_2
attribute [simp] j7.eq_1 j7.eq_2 j7.eq_3 j7.eq_4 j7.eq_5 j7.eq_6 j7.eq_7 j7.eq_8 j7.eq_9 j7.eq_10 j7.eq_11 j7.eq_12
attribute [simp] D.cells.eq_1 D.cells.eq_2
attribute [simp] D.size.eq_1 D.size.eq_2
attribute [simp] D.flat.eq_1 D.flat.eq_2
mutual
@[simp] theorem Zs:∀x:D,Bc x x=true
 | .int ..=>by simp[Bc]
 | .bool _=>by simp[Bc]
 | .str _=>by simp[Bc]
 | .list xs=>by simp[Bc,BD xs]
 | .agg xs=>by simp[Bc,BD xs]
 | .z6=>by simp[Bc]
@[simp] theorem BD:∀x:List D,yZ x x=true
 |[]=>by simp[yZ]
 |x::r=>by simp[yZ,Zs x,BD r]
end
attribute [simp] GQ.eq_1 GQ.eq_2 GQ.eq_3 Cg.eq_1 Cg.eq_2 Be.eq_1 Be.eq_2 Jb.eq_1 Jb.eq_2 rj.eq_1 rj.eq_2 Sj.eq_1 Sj.eq_2 y9.eq_1 y9.eq_2 y9.eq_3
attribute [simp] cN.eq_1 cN.eq_2
attribute [simp] dA.eq_1 dA.eq_2 og.eq_1 iT.eq_1 Cf.eq_1 ue.eq_1 ta.eq_1
attribute [simp] collect.eq_1 collect.eq_2 collect.eq_3
attribute [simp] lG.eq_1 lG.eq_2
attribute [simp] uO.eq_1 uO.eq_2
attribute [simp] jw.eq_1 jw.eq_2 jw.eq_3 jw.eq_4 jw.eq_5 jw.eq_6 jw.eq_7 jw.eq_8 jw.eq_9 jw.eq_10 jw.eq_11 jw.eq_12
attribute [simp] nN.eq_1 nN.eq_2 nN.eq_3 nN.eq_4 nN.eq_5 nN.eq_6 nN.eq_7
attribute [simp] ud.eq_1 ud.eq_2 ud.eq_3 ud.eq_4
attribute [simp] mb.eq_1 mb.eq_2
attribute [simp] iz.eq_1 iz.eq_2 C7.eq_1 C7.eq_2
attribute [simp] oV.eq_1 oV.eq_2
attribute [simp] wU.eq_1 wU.eq_2 wU.eq_3
attribute [simp] wV.eq_1 wV.eq_2
attribute [simp] kW.eq_1 kW.eq_2
attribute [simp] fY.eq_1 fY.eq_2
attribute [simp] yY.eq_1 yY.eq_2
attribute [simp] Bb.eq_1 Bb.eq_2
attribute [simp] oG.eq_1 oG.eq_2 oG.eq_1 oG.eq_2
attribute [simp] mr.eq_1 mr.eq_2 mr.eq_3
attribute [simp] dW.eq_1 dW.eq_2 dW.eq_3 dW.eq_4 dW.eq_5 dW.eq_6 dW.eq_7 dW.eq_8 dW.eq_9 dW.eq_10 dW.eq_11 dW.eq_12
attribute [simp] ju.eq_1 ju.eq_2 ju.eq_3 ju.eq_4 ju.eq_5 ju.eq_6
attribute [simp] upO.eq_1 upO.eq_2
attribute [simp] up.eq_1 up.eq_2 up.eq_3 up.eq_4 up.eq_5 up.eq_6 up.eq_7 up.eq_8 up.eq_9 up.eq_10 up.eq_11 up.eq_12
attribute [simp] EY.eq_1 EY.eq_2 EY.eq_3
attribute [simp] ji.eq_1 ji.eq_2
attribute [simp] base.eq_1 base.eq_2
attribute [simp] bH.eq_1 bH.eq_2
attribute [simp] Fp.eq_1 Fp.eq_2
attribute [simp] Gh.go.eq_1 Gh.go.eq_2 Gh.go.eq_3 Gh.go.eq_4
attribute [simp] St.yX.eq_1 GS.eq_1 GS.eq_2 uQ.eq_1 uQ.eq_2 YS.eq_1 YS.eq_2 vK.eq_1 vK.eq_2
attribute [simp] finish.eq_1
attribute [simp] uJ.eq_1 uJ.eq_2
attribute [simp] AW.eq_1 AW.eq_2
attribute [simp] qZ.eq_1
attribute [simp] St.yQ.eq_1
attribute [simp] xJ.eq_1 xJ.eq_2 xJ.eq_3
attribute [simp] E2.eq_1 E2.eq_2
attribute [simp] mX.eq_1 mX.eq_2 mX.eq_3 mX.eq_4 mX.eq_5 mX.eq_6 mX.eq_7 mX.eq_8 mX.eq_9 mX.eq_10 mX.eq_11 mX.eq_12
attribute [simp] St.trim.eq_1
attribute [simp] oE.eq_1 oE.eq_2
attribute [simp] mapM.eq_1 mapM.eq_2
attribute [simp] qY.eq_1 qY.eq_2 qY.eq_3
attribute [simp] ma.eq_1 ma.eq_2 ma.eq_3 ma.eq_4 ma.eq_5 ma.eq_6 ma.eq_7 ma.eq_8 ma.eq_9 ma.eq_10 ma.eq_11 ma.eq_12
attribute [simp] mC.eq_1 mC.eq_2
attribute [simp] oneOf.eq_1 oneOf.eq_2
attribute [simp] AV.norm.eq_1 AV.norm.eq_2 AV.norm.eq_3 AV.norm.eq_4
attribute [simp] toD1.eq_1 toD1.eq_2 toD1.eq_3 toD1.eq_4
attribute [simp] toDsN.eq_1 toDsN.eq_2
attribute [simp] vw.eq_1 vw.eq_2 vw.eq_3 vw.eq_4 vw.eq_5 vw.eq_6 vw.eq_7 vw.eq_8 vw.eq_9 vw.eq_10 vw.eq_11 vw.eq_12
attribute [simp] eP.eq_1 eP.eq_2
attribute [simp] TK.agg.eq_1 TK.agg.eq_2 TK.agg.eq_3
attribute [simp] rV.eq_1 rV.eq_2 rV.eq_3
attribute [simp] uZ.eq_1 uZ.eq_2 uZ.eq_3
attribute [simp] K6.eq_1 K6.eq_2 K6.eq_3
attribute [simp] wc.eq_1 wc.eq_2 wc.eq_3
attribute [simp] rU.eq_1 rU.eq_2 rU.eq_3
attribute [simp] K5.eq_1 K5.eq_2
attribute [simp] V6.eq_1 V6.eq_2
attribute [simp] By.eq_1 By.eq_2
attribute [simp] sU.eq_1
attribute [simp] uF.eq_1 J1.eq_1 U9.eq_1 U9.eq_2 zeroOf.eq_1 zeroOf.eq_2 zeroOf.eq_3
attribute [simp] St.yR.eq_1 St.yR.eq_2
attribute [simp] sq.eq_1 sq.eq_2
attribute [simp] kK.eq_1 kK.eq_2
attribute [simp] mB.eq_1 mB.eq_2
attribute [simp] vN.eq_1 vN.eq_2
attribute [simp] su.eq_1 su.eq_2
attribute [simp] nJ.eq_1 nJ.eq_2
attribute [simp] lD.eq_1 lD.eq_2
attribute [simp] uM.eq_1 uM.eq_2
attribute [simp] uN.eq_1 uN.eq_2
attribute [simp] iC.eq_1 iC.eq_2
attribute [simp] ee.eq_1 ee.eq_2
attribute [simp] jQ.eq_1 jQ.eq_2 jQ.eq_3
attribute [simp] pc.eq_1 pc.eq_2
attribute [simp] kM.eq_1
attribute [simp] jB.eq_1 E9.eq_1 E9.eq_2 E9.eq_3
attribute [simp] uc.eq_1 uc.eq_2
attribute [simp] cj.eq_1 cj.eq_2 cj.eq_3 cj.eq_4
attribute [simp] u0.eq_1 u0.eq_2 u0.eq_3
attribute [simp] rm.eq_1 rm.eq_2 rm.eq_3
attribute [simp] FP.eq_1 FP.eq_2 FP.eq_3
attribute [simp] Bz.eq_1 Bz.eq_2 qb.eq_1 qb.eq_2 qb.eq_3 xT.eq_1 xT.eq_2 qa.eq_1 qa.eq_2
attribute [simp] mw.eq_1 mw.eq_2 mw.eq_3
attribute [simp] lC.eq_1 lC.eq_2 lC.eq_3 lC.eq_4 lC.eq_5 lC.eq_6 lC.eq_7 lC.eq_8 lC.eq_9 lC.eq_10 lC.eq_11 lC.eq_12
attribute [simp] oS.eq_1 oS.eq_2
attribute [simp] St.freeze.eq_1
attribute [simp] St.jZ.eq_1
attribute [simp] Go.Call.operands.eq_1
attribute [simp] D.isByte.eq_1 D.isByte.eq_2
attribute [simp] uA.eq_1 uA.eq_2 uA.eq_3 uA.eq_4
attribute [simp] eI.eq_1 eI.eq_2 eI.eq_3
attribute [simp] Hy.eq_1 Hy.eq_2
attribute [simp] V7 V8 Zo gJ SI SJ SK NL V9 aeg jT agE agF agG agH agI agJ agK aeh aei aej aek Zp Zq agL agM agN Zr Wa SL Wb K7 Wc SM SN SO
attribute [simp] GP.eq_1 GP.eq_2 ri.eq_1 ri.eq_2 dL.eq_1 dL.eq_2
attribute [simp] FO.eq_1 FO.eq_2
attribute [simp] BA.eq_1 BA.eq_2
attribute [simp] zz.eq_1
attribute [simp] Env.kn.eq_1 Env.kn.eq_2 St.kn.eq_1
attribute [simp] oe.eq_1 yV.eq_1 yV.eq_2 yV.eq_3 GN.eq_1 GN.eq_2 GM.eq_1 GM.eq_2 BB.eq_1 BB.eq_2 q9.eq_1
attribute [simp] nr.eq_1 nr.eq_2 oX.eq_1
@[simp] theorem axa(t:Bool):p6 (some (true,.d (.bool t)))=.tt t:=rfl
@[simp] theorem axb:p6 (some (true,.bg []))=.skip:=rfl
attribute [simp] me.eq_1
attribute [simp] St.cz St.prune keyOf St.leave St.enter q0 Cc Kc St.AU E5 iy oK entry dead ef mE mD D.at D.cell D.setCells yT
@[simp] theorem ak0(m ρ bor nv):∀E:List D,sq m ρ bor nv (E.map .d)=E.map .d
 |[]=>rfl
 |d::r=>by simp[ak0 m ρ bor nv r]
@[simp] theorem ak1(ρ bs):∀E:List D,vN ρ bs (E.map .d)=E.map .d
 |[]=>rfl
 |d::r=>by simp[ak1 ρ bs r]
@[simp] theorem Wd:∀E:List D,lD (E.map .d)=[]
 |[]=>rfl
 |d::r=>by simp[Wd r]
@[simp] theorem Zt(k v):∀E:List D,su k v (E.map .d)=none
 |[]=>rfl
 |d::r=>by simp[Zt k v r]
@[simp] theorem ael(k v o l):∀E:List D,nJ k v o l (E.map .d)=E.map .d
 |[]=>rfl
 |d::r=>by simp[ael k v o l r]
@[simp] theorem SQ:∀E:List D,kK (E.map .d)=mB E
 |[]=>rfl
 |d::r=>by simp[SQ r]
attribute [simp] List.take_of_length_le
@[simp] def Code.at:Code->List Nat->Code
 |c,[]=>c
 | .seq a b,i::p=>if i=0 then Code.at a p else Code.at b p
 | .cond _ a b,i::p=>if i=0 then Code.at a p else Code.at b p
 | .block _ c,_::p=>Code.at c p
 | .loop c,_::p=>Code.at c p
 |c,_=>c
@[simp] theorem auy:List.range 2=[0,1]:=rfl
@[simp] theorem auz:List.range 3=[0,1,2]:=rfl
@[simp] theorem auA:List.range 4=[0,1,2,3]:=rfl
@[simp] theorem auB:List.range 5=[0,1,2,3,4]:=rfl
@[simp] theorem auC:List.range 6=[0,1,2,3,4,5]:=rfl
@[simp] theorem auD(a b:Int):(a == b)=decide (a=b):=by by_cases h:a=b<;>simp[h]
def bj(n:Int):Prop:= -9223372036854775808<=n/\n<=9223372036854775807
theorem az{n:Int}(h:bj n):IntKind.i64.wrap n=n:=IntWalk.i64_in _ (by unfold bj at h;omega)
def q1(m:Nat):Nat:=m/4294967296%4294967296
def q2(m:Nat):Nat:=m/18446744073709551616%4294967296
def q3(m:Nat):Nat:=m/79228162514264337593543950336%4294967296
def mg(z:Int):Int×Bool:=if-9223372036854775808<=z/\z<=9223372036854775807 then (z,true)else (0,false)
def BE(a b:Int):Int×Int:=if b=0 then (0,3)else if a= -9223372036854775808/\b= -1 then (0,2)else (a.tdiv b,0)
def D6(a b:Int):Int×Int:=if b=0 then (0,3)else (a.tmod b,0)
theorem K8(a b:Int):a.tdiv b=(if decide (a<0)=decide (b<0)then ((a.natAbs/b.natAbs:Nat):Int)else-((a.natAbs/b.natAbs:Nat):Int)):=by
 rcases Int.lt_or_le a 0 with D|D<;>rcases Int.lt_or_le b 0 with E|E
 ·rw[abf (by simp[D,E])];obtain⟨m,rfl⟩:∃m:Nat,a= -(m:Int):=⟨a.natAbs,by omega⟩;obtain⟨n,rfl⟩:∃n:Nat,b= -(n:Int):=⟨b.natAbs,by omega⟩;simp[Int.neg_tdiv,Int.tdiv_neg]
 ·rw[aa4 (by simp[D];omega)];obtain⟨m,rfl⟩:∃m:Nat,a= -(m:Int):=⟨a.natAbs,by omega⟩;obtain⟨n,rfl⟩:∃n:Nat,b=(n:Int):=⟨b.natAbs,by omega⟩;simp[Int.neg_tdiv]
 ·rw[aa4 (by simp[E];omega)];obtain⟨m,rfl⟩:∃m:Nat,a=(m:Int):=⟨a.natAbs,by omega⟩;obtain⟨n,rfl⟩:∃n:Nat,b= -(n:Int):=⟨b.natAbs,by omega⟩;simp[Int.tdiv_neg]
 ·rw[abf (by simp;omega)];obtain⟨m,rfl⟩:∃m:Nat,a=(m:Int):=⟨a.natAbs,by omega⟩;obtain⟨n,rfl⟩:∃n:Nat,b=(n:Int):=⟨b.natAbs,by omega⟩;simp
theorem aem(a b:Int):a*b=(if decide (a<0)=decide (b<0)then ((a.natAbs*b.natAbs:Nat):Int)else-((a.natAbs*b.natAbs:Nat):Int)):=by
 rcases Int.lt_or_le a 0 with D|D<;>rcases Int.lt_or_le b 0 with E|E
 ·rw[abf (by simp[D,E])];obtain⟨m,rfl⟩:∃m:Nat,a= -(m:Int):=⟨a.natAbs,by omega⟩;obtain⟨n,rfl⟩:∃n:Nat,b= -(n:Int):=⟨b.natAbs,by omega⟩;simp[Int.neg_mul,Int.mul_neg]
 ·rw[aa4 (by simp[D];omega)];obtain⟨m,rfl⟩:∃m:Nat,a= -(m:Int):=⟨a.natAbs,by omega⟩;obtain⟨n,rfl⟩:∃n:Nat,b=(n:Int):=⟨b.natAbs,by omega⟩;simp[Int.neg_mul]
 ·rw[aa4 (by simp[E];omega)];obtain⟨m,rfl⟩:∃m:Nat,a=(m:Int):=⟨a.natAbs,by omega⟩;obtain⟨n,rfl⟩:∃n:Nat,b= -(n:Int):=⟨b.natAbs,by omega⟩;simp[Int.mul_neg]
 ·rw[abf (by simp;omega)];obtain⟨m,rfl⟩:∃m:Nat,a=(m:Int):=⟨a.natAbs,by omega⟩;obtain⟨n,rfl⟩:∃n:Nat,b=(n:Int):=⟨b.natAbs,by omega⟩;simp
def ei(b:Bool):Int:=if b=true then 1 else 0
@[simp] def Ov(p:Int×Bool×Int):AV:=.bg [.d (.int .i64 p.1),.d (.bool p.2.1),.d (.int .i64 p.2.2)]
def mK:Int×Bool×Int:=(0,false, -1)
def xp(p:Int×Bool):Int×Bool×Int:=if p.2=true then (p.1,false,0)else (0,false,2)
def rn(p:Int×Int):Int×Bool×Int:=if p.2=3 then (0,false,1)else if p.2=0 then (p.1,false,0)else (0,false,2)
def tv(op a:Int)(t:Bool):Int×Bool×Int:=
 if t=true then (if a≠0/\a≠1 then mK else if op=7 then (ei (decide (a=0)),true,0)else mK)
 else if op=6 then xp (mg (0-a))else mK
def K9(op a b:Int):Int×Bool×Int:=
 if op=13 then (ei (decide (a=b)),true,0)else if op=14\/op=20 then (ei (decide (a≠b)),true,0)
 else if op=19 then (ei (decide (a=1/\b=1)),true,0)else if op=21 then (ei (decide (a=1\/b=1)),true,0)else mK
def FQ(op a b:Int):Int×Bool×Int:=
 if op=8 then xp (mg (a+b))else if op=9 then xp (mg (a-b))else if op=10 then xp (mg (a*b))else if op=11 then rn (BE a b)else if op=12 then rn (D6 a b)
 else if op=13 then (ei (decide (a=b)),true,0)else if op=14 then (ei (decide (a≠b)),true,0)else if op=15 then (ei (decide (a<b)),true,0)
 else if op=16 then (ei (decide (b<a)),true,0)else if op=17 then (ei (decide (a<=b)),true,0)else if op=18 then (ei (decide (b<=a)),true,0)else mK
def xU(op a b:Int)(t:Bool):Int×Bool×Int:=
 if t=true then (if (a≠0/\a≠1)\/(b≠0/\b≠1)then mK else K9 op a b)else FQ op a b
def We(e b:Int):Int:=if e<b then e+1 else e
def ak2(k a b q e:Int):List Int:=
 if k=10 then (if a=0 then [a,b,0,0]else [a,b,ei (decide (b<=We e b)),We e b])
 else if k=11 then (if a=0 then (if q=0 then [a,b,q,e]else [a,b,ei (decide (We e b<b)),We e b])else [a,b,1,0])
 else [a,b,q,e]
def tpS(a b q e p r:Int):List Int:=
 let H:=if a≠0/\p=0/\r=0 then 1 else r
 let E:=if a≠0/\p=0/\r=0 then 0 else e
 if H=0 then [a,b,q,E,ei (decide (a≠0)),H]else [a,b,ei (decide (E<b)),We E b,ei (decide (a≠0)),ei (decide (E<b))]
def cuS(a s v q c p:Int):List Int:=
 let D:=if s≠0 then 0 else if a≠0/\p=0/\c<9223372036854775807 then c+1 else c
 [a,s,v,ei (decide (v<=D)),D,ei (decide (a≠0))]
def cdS(a s v q c p:Int):List Int:=
 let D:=if s≠0 then v else if a≠0/\p=0/\ -9223372036854775808<c then c-1 else c
 [a,s,v,ei (decide (D<=0)),D,ei (decide (a≠0))]
def ak3(k a b q e p r:Int):List Int:=
 if k=12 then tpS a b q e p r else if k=13 then cuS a b q e p r else if k=14 then cdS a b q e p r else [a,b,q,e,p,r]
def ak4(k a b q:Int):List Int:=
 if k=15 then [a,ei (decide (a≠0/\q=0)),ei (decide (a≠0))]else if k=16 then [a,ei (decide (a=0/\q≠0)),ei (decide (a≠0))]
 else if k=17 then [a,b,ei (decide (a≠0\/(q≠0/\b=0)))]else if k=18 then [a,b,ei (decide (b=0/\(q≠0\/a≠0)))]else [a,b,q]
def ak5(k:Int):List Int->List Int
 |[a,b,q]=>ak4 k a b q
 |[a,b,q,e]=>ak2 k a b q e
 |[a,b,q,e,p,r]=>ak3 k a b q e p r
 |c=>c
end Go.Am
end
section
namespace Go.Am
inductive Ends(succ:Nat->List Nat):Nat->Prop
 |mk (i:Nat) (h:∀j∈succ i,Ends succ j):Ends succ i
inductive Way(succ:Nat->List Nat):Nat->Nat->Prop
 |one {i j} (h:j∈succ i):Way succ i j
 |more {i j k} (h:Way succ i j) (H:k∈succ j):Way succ i k
theorem Way.trans{succ:Nat->List Nat}{i j k:Nat}(h:Way succ i j)(H:Way succ j k):Way succ i k:=by
 induction H with
 |one J=>exact .more h J
 |more _ J ih=>exact .more ih J
theorem Ends.way{succ:Nat->List Nat}{i j:Nat}(h:Ends succ i)(w:Way succ i j):Ends succ j:=by
 induction w with
 |one H=>cases h with|mk _ h=>exact h _ H
 |more _ H ih=>cases ih with|mk _ h=>exact h _ H
theorem Ends.Zu{succ:Nat->List Nat}{i:Nat}(h:Ends succ i):¬Way succ i i:=by
 induction h with
 |mk i h ih=>
  intro w
  --AE first step of AE way
  have first:∀{a b},Way succ a b->∃c∈succ a,c=b\/Way succ c b:=by
   intro a b w;induction w with
   |one h=>exact⟨_,h,.inl rfl⟩
   |more _ H ih=>
    obtain⟨c,V,J⟩:=ih;rcases J with rfl|J
    ·exact⟨_,V,.inr (.one H)⟩
    ·exact⟨_,V,.inr (.more J H)⟩
  obtain⟨c,V,J⟩:=first w
  rcases J with rfl|J
  ·exact ih _ V w
  ·exact ih c V (J.trans (.one V))
mutual
def xV(succ:Nat->List Nat):Nat->Nat->List Nat->Bool×List Nat
 |0,_,D=>(true,D)
 |f+1,at_,D=>if D.getD at_ 0≠0 then (D.getD at_ 0 == 1,D)else
  match zB succ f (succ at_) (D.set at_ 1)with
  |(true,s)=>(true,s)
  |(false,s)=>(false,s.set at_ 2)
def zB(succ:Nat->List Nat):Nat->List Nat->List Nat->Bool×List Nat
 |_,[],D=>(false,D)
 |f,n::r,D=>match xV succ f n D with
  |(true,s)=>(true,s)
  |(false,s)=>zB succ f r s
end
def fresh(D:List Nat):Nat:=D.countP (·== 0)
structure qc(succ:Nat->List Nat)(D Y:List Nat):Prop where
 len:Y.length=D.length
 G5:∀i,Y.getD i 0=1↔D.getD i 0=1
 black:∀i,D.getD i 0=2->Y.getD i 0=2
 La:(∀i,D.getD i 0<=2)->∀i,Y.getD i 0<=2
 ends:(∀i,D.getD i 0=2->Ends succ i)->∀i,Y.getD i 0=2->Ends succ i
 fresh:fresh Y<=fresh D
theorem qc.refl(succ:Nat->List Nat)(s:List Nat):qc succ s s:=⟨rfl,λ_=>an1,λ_ h=>h,λh=>h,λh=>h,aa7 _⟩
theorem qc.trans{succ:Nat->List Nat}{a b c:List Nat}(h:qc succ a b)(k:qc succ b c):qc succ a c:=
 ⟨by rw[k.len,h.len],λi=>(k.G5 i).trans (h.G5 i),λi hi=>k.black i (h.black i hi),λI=>k.La (h.La I),λhe=>k.ends (h.ends he),ajn k.fresh h.fresh⟩
theorem jq(l:List Nat)(i j v:Nat):(l.set i v).getD j 0=if i=j/\i<l.length then v else l.getD j 0:=by
 simp only[adN,List.getElem?_set];by_cases h:i=j
 ·subst h;by_cases H:i<l.length
  ·simp[H]
  ·simp[H]
 ·simp[h]
theorem Wf{l:List Nat}{i v:Nat}(h:l.getD i 0=0)(hi:i<l.length)(I:v≠0):fresh (l.set i v)+1=fresh l:=by
 induction l generalizing i with
 |nil=>simp at hi
 |cons x r ih=>
  cases i with
  |zero=>
   simp at h;subst h;simp[fresh,I]
  |succ i=>
   have E:=ih (i:=i) (by simpa using h) (by simpa using hi);unfold fresh at E⊢;simp only[List.set_cons_succ,List.countP_cons];omega
theorem Lc{l:List Nat}{i v:Nat}(I:v≠0):fresh (l.set i v)<=fresh l:=by
 induction l generalizing i with
 |nil=>simp
 |cons x r ih=>
  cases i with
  |zero=>
   simp only[fresh,List.set_cons_zero,List.countP_cons];simp[I]
  |succ i=>
   have E:=ih (i:=i);unfold fresh at E⊢;simp only[List.set_cons_succ,List.countP_cons];omega
def agO(succ:Nat->List Nat)(D:List Nat)(at_:Nat):Prop:=∀i,D.getD i 0=1->Way succ i at_
theorem Ow(succ:Nat->List Nat):∀f:Nat,
 (∀at_ D,fresh D<f->at_<D.length->(∀i<D.length,∀j∈succ i,j<D.length)->(∀i,D.getD i 0<=2)->agO succ D at_->
  ((xV succ f at_ D).1=true->∃i,i<D.length/\Way succ i i)/\((xV succ f at_ D).1=false->qc succ D (xV succ f at_ D).2/\(xV succ f at_ D).2.getD at_ 0=2))/\
 (∀l at_ D,fresh D<f->(∀n∈l,n∈succ at_)->(∀n∈l,n<D.length)->D.getD at_ 0=1->(∀i<D.length,∀j∈succ i,j<D.length)->(∀i,D.getD i 0<=2)->(∀i,D.getD i 0=1->i=at_\/Way succ i at_)->
  ((zB succ f l D).1=true->∃i,i<D.length/\Way succ i i)/\((zB succ f l D).1=false->qc succ D (zB succ f l D).2/\∀n∈l,(zB succ f l D).2.getD n 0=2))
 |0=>⟨λ_ _ h=>by omega,λ_ _ _ h=>by omega⟩
 |f+1=>by
  have A2:∀at_ D,fresh D<f+1->at_<D.length->(∀i<D.length,∀j∈succ i,j<D.length)->(∀i,D.getD i 0<=2)->agO succ D at_->
   ((xV succ (f+1) at_ D).1=true->∃i,i<D.length/\Way succ i i)/\((xV succ (f+1) at_ D).1=false->qc succ D (xV succ (f+1) at_ D).2/\(xV succ (f+1) at_ D).2.getD at_ 0=2):=by
   intro at_ D A3 M U I Z;have AF:=(Ow succ f).2 (succ at_) at_ (D.set at_ 1);unfold xV;by_cases A8:D.getD at_ 0≠0
   ·rw[abf A8];refine⟨λh=>⟨at_,M,Z at_ (by simpa using h)⟩,λh=>⟨qc.refl _ _,?_⟩⟩;have:=I at_;simp only[beq_eq_false_iff_ne]at h;simp only
    omega
   ·rw[aa4 A8];have A5:D.getD at_ 0=0:=by omega
    have AG:=Wf (v:=1) A5 M (by decide);have A6:=AF (by omega) (λn h=>h) (λn h=>by simpa using U at_ M n h) (by rw[jq];simp[M]) (by simpa using U)
     (λi=>by rw[jq];split;omega;exact I i)
     (λi hi=>by
      rw[jq]at hi;split at hi
      ·rename_i h;exact .inl h.1.symm
      ·exact .inr (Z i hi))
    obtain⟨s,b,he⟩:∃s b,zB succ f (succ at_) (D.set at_ 1)=(b,s):=⟨_,_,rfl⟩;rw[he]at A6⊢;cases b with
    |true=>exact⟨λ_=>by simpa using A6.1 rfl,λh=>by simp at h⟩
    |false=>
     refine⟨λh=>by simp at h,λ_=>?_⟩;obtain⟨ok,O⟩:=A6.2 rfl;simp only at ok O⊢;have A7:s.length=D.length:=by rw[ok.len];simp
     refine⟨⟨by simp[A7],λi=>?_,λi hi=>?_,λ_ i=>?_,λAH i hi=>?_,?_⟩,by rw[jq];simp[A7,M]⟩
     ·rw[jq];by_cases hi:at_=i
      ·subst hi;simp only[A7,M,and_self,afz,A5];omega
      ·simp only[hi,false_and,adW];rw[ok.G5 i,jq];simp[hi]
     ·rw[jq];split
      ·rfl
      ·refine ok.black i ?_;rw[jq];split
       ·rename_i h;rw[<-h.1,A5]at hi;omega
       ·exact hi
     ·rw[jq];split
      ·omega
      ·refine ok.La (λi=>?_) i;rw[jq];split;omega;exact I i
     ·have A9:∀i,s.getD i 0=2->Ends succ i:=ok.ends (λi hi=>by
       rw[jq]at hi;split at hi
       ·omega
       ·exact AH i hi)
      rw[jq]at hi;split at hi
      ·rename_i h;rw[<-h.1];exact .mk _ (λj y=>A9 j (O j y))
      ·exact A9 i hi
     ·have E:=Lc (l:=s) (i:=at_) (v:=2) (by decide);have H:=ok.fresh;omega
  refine⟨A2,?_⟩;intro l;induction l with
  |nil=>
   intro at_ D _ _ _ _ _ _ _;unfold zB;exact⟨λh=>by simp at h,λ_=>⟨qc.refl _ _,λn h=>by simp at h⟩⟩
  |cons n r ih=>
   intro at_ D A3 AA A' AI U I Z;have E:=A2 n D A3 (A' n (by simp)) U I (λi hi=>by
    have A4:=AA n (by simp);rcases Z i hi with rfl|h
    ·exact .one A4
    ·exact .more h A4)
   unfold zB;obtain⟨s,b,he⟩:∃s b,xV succ (f+1) n D=(b,s):=⟨_,_,rfl⟩;rw[he]at E⊢;cases b with
   |true=>exact⟨λ_=>E.1 rfl,λh=>by simp at h⟩
   |false=>
    obtain⟨ok,A0⟩:=E.2 rfl;simp only at ok A0⊢;have H:=ih at_ s (Nat.lt_of_le_of_lt ok.fresh A3) (λm hm=>AA m (by simp[hm])) (λm hm=>by rw[ok.len];exact A' m (by simp[hm])) ((ok.G5 at_).2 AI)
     (by rw[ok.len];exact U) (ok.La I) (λi hi=>Z i ((ok.G5 i).1 hi))
    refine⟨λh=>by have:=H.1 h;rwa [ok.len]at this,λh=>?_⟩;obtain⟨AB,O⟩:=H.2 h;refine⟨ok.trans AB,λm hm=>?_⟩;rcases abd.1 hm with rfl|hm
    ·exact AB.black _ A0
    ·exact O m hm
def rounds(succ:Nat->List Nat)(f:Nat):List Nat->List Nat->Bool
 |[],_=>false
 |n::r,D=>match xV succ f n D with
  |(true,_)=>true
  |(false,s)=>rounds succ f r s
theorem SU(succ:Nat->List Nat)(N f:Nat)(A3:N<f)(U:∀i<N,∀j∈succ i,j<N):
 rounds succ f (List.range N) (List.replicate N 0)=true↔∃i<N,¬Ends succ i:=by
 have key:∀(l:List Nat)(D:List Nat),D.length=N->(∀n∈l,n<N)->(∀i,D.getD i 0≠1)->(∀i,D.getD i 0<=2)->(∀i,D.getD i 0=2->Ends succ i)->(∀i<N,i∈l\/D.getD i 0=2)->
  (rounds succ f l D=true↔∃i<N,¬Ends succ i):=by
  intro l;induction l with
  |nil=>
   intro D _ _ _ _ he O;unfold rounds;refine⟨λh=>by simp at h,?_⟩;rintro ⟨i,hi,A4⟩;rcases O i hi with h|h
   ·simp at h
   ·exact absurd (he i h) A4
  |cons n r ih=>
   intro D M A' AC I he O;have AG:fresh D<=D.length:=List.countP_le_length;have E:=(Ow succ f).1 n D (by omega) (by rw[M];exact A' n (by simp)) (by rw[M];exact U) I (λi hi=>absurd hi (AC i));unfold rounds;obtain⟨s,b,A2⟩:∃s b,xV succ f n D=(b,s):=⟨_,_,rfl⟩;rw[A2]at E⊢;cases b with
   |true=>
    refine⟨λ_=>?_,λ_=>rfl⟩;obtain⟨i,hi,w⟩:=E.1 rfl;exact⟨i,by omega,λh=>h.Zu w⟩
   |false=>
    obtain⟨ok,A0⟩:=E.2 rfl;simp only at ok A0⊢;refine ih s (by rw[ok.len,M]) (λm hm=>A' m (by simp[hm])) (λi hi=>AC i ((ok.G5 i).1 hi)) (ok.La I) (ok.ends he) (λi hi=>?_);rcases O i hi with h|h
    ·rcases abd.1 h with rfl|h
     ·exact .inr A0
     ·exact .inl h
    ·exact .inr (ok.black i h)
 refine key _ _ (by simp) (by simp) (λi=>?_) (λi=>?_) (λi hi=>?_) (λi hi=>.inl (by simpa using hi))
 ·simp[adN,anX];split<;>simp
 ·simp[adN,anX];split<;>simp
 ·simp[adN,anX]at hi;split at hi<;>simp at hi
def left(g:List Bool):Nat:=g.countP (·== false)
structure zC(succ:Nat->List Nat)(s T:List Bool×Bool):Prop where
 len:T.1.length=s.1.length
 ends:(∀i<s.1.length,s.1.getD i true=true->Ends succ i)->∀i<s.1.length,T.1.getD i true=true->Ends succ i
 less:T.2=true->s.2=false->left T.1<left s.1
 le:left T.1<=left s.1
 more:s.2=true->T.2=true
 same:T.2=false->T=s
theorem zC.trans{succ:Nat->List Nat}{a b c:List Bool×Bool}(h:zC succ a b)(k:zC succ b c):zC succ a c:=
 ⟨by
  rw[k.len,h.len],λhe=>by have:=k.ends;rw[h.len]at this;exact this (h.ends he),λE H=>by
  cases A1:b.2 with
  |true=>exact Nat.lt_of_le_of_lt k.le (h.less A1 H)
  |false=>exact agV (k.less E A1) h.le,ajn k.le h.le,λE=>k.more (h.more E),λE=>by
  cases A1:b.2 with
  |true=>rw[k.more A1]at E;cases E
  |false=>rw[k.same E,h.same A1]⟩
theorem NM{succ:Nat->List Nat}{p:Nat->Bool}(AJ:∀j,p j=false->Ends succ j)(i:Nat):Ends (λi=>(succ i).filter p) i↔Ends succ i:=by
 constructor
 ·intro h;induction h with
  |mk i h ih=>
   refine .mk _ (λj y=>?_);cases AD:p j with
   |false=>exact AJ j AD
   |true=>exact ih j (by simp[y,AD])
 ·intro h;induction h with
  |mk i h ih=>exact .mk _ (λj y=>ih j ((afx.1 y).1))
structure au where
 op:Int
 a:Int
 b:Int
 n:Int
 m:Int
def gu(cells at_ n:Int):Bool:=decide (0<=at_)&&decide (0<=n)&&decide (n<=cells)&&decide (at_<=cells-n)
def zD(x:au):Bool:=
 if x.a=0 then decide (x.b=6)||decide (8<=x.b)&&decide (x.b<=18)
 else if x.a=1 then decide (x.b=7)||decide (x.b=13)||decide (x.b=14)||decide (19<=x.b)&&decide (x.b<=21)
 else false
def Ld(cells:Int)(x:au):Bool:=decide (0<=x.n)&&decide (x.n<=x.m)&&decide (x.m<=255)&&gu cells x.a (x.m-x.n+1)
def dx(D:Int->Nat)(cells last at_:Int)(x:au):Bool:=
 if x.op=1\/x.op=11 then true
 else if x.op=2\/x.op=3\/x.op=6\/x.op=14 then gu cells x.a 1
 else if x.op=13 then gu cells x.a 1&&gu cells x.b 2
 else if x.op=4\/x.op=5\/x.op=7 then Ld cells x
 else if x.op=8 then zD x
 else if x.op=9\/x.op=10 then decide (0<=x.a)&&decide (x.a<=last)
 else if x.op=12 then decide (0<D x.b)&&gu cells x.a (D x.b)
 else if x.op=15 then decide (at_=last)
 else false
def u4(D:Int->Nat)(cells last:Int):Nat->List au->Bool
 |_,[]=>true
 |i,x::r=>dx D cells last i x&&u4 D cells last (i+1) r
def oq(n:Nat)(t:Bool)(S:List Bool):Option (List Bool):=
 if S.length<n then none else if t&&(S.drop (S.length-n)).any (λb=>!b)then none else some (S.take (S.length-n))
def oY(t:Bool)(S:List Bool):Option (List Bool):=if S.length<64 then some (S++[t])else none
def ku(S:List Bool):Option (List Bool):=if S=[]then some []else none
def cK(x:au)(S:List Bool):Option (List Bool):=
 if x.op=1 then oY (decide (x.n=0)||decide (x.n=1)) S
 else if x.op=2 then oY false S
 else if x.op=3\/x.op=13\/x.op=14 then oY true S
 else if x.op=4 then (oq 1 false S).bind (oY false)
 else if x.op=5 then (oq 1 false S).bind (oY true)
 else if x.op=6 then oq 1 false S
 else if x.op=7 then oq 2 false S
 else if x.op=8 then (oq (if x.b=6\/x.b=7 then 1 else 2) (decide (x.a=1)) S).bind (oY (decide (x.b=7)||decide (13<=x.b)))
 else if x.op=10 then (oq 1 true S).bind ku
 else ku S
def u5(Ak:List Bool):Nat->List au->List Bool->Bool
 |_,[],_=>true
 |i,x::r,S=>if Ak.getD i false&&!S.isEmpty then false else match cK x S with
  |none=>false
  |some Y=>u5 Ak (i+1) r Y
def FR(ins:List au):List Bool:=ins.foldl (λl x=>if x.op=9\/x.op=10 then l.set x.a.toNat true else l) (List.replicate ins.length false)
def Cs(ins:List au)(i:Nat):List Nat:=
 match ins[i]? with
 |none=>[]
 |some x=>if x.op=9 then [x.a.toNat]else if x.op=10 then [i+1,x.a.toNat]else if x.op=15 then []else [i+1]
def xW(ins:List au)(i:Nat):Bool:=
 match ins[i]? with
 |none=>false
 |some x=>decide (x.op=11)
def rW(ins:List au)(i:Nat):List Nat:=if xW ins i=true then []else Cs ins i
def Ct(ins:List au)(i:Nat):List Nat:=(rW ins i).filter λj=>!xW ins j
theorem Wg(ins:List au)(i:Nat):Ends (Ct ins) i↔Ends (rW ins) i:=
 NM (p:=λj=>!xW ins j) (λj E=>.mk _ (λk Z=>by
  have:xW ins j=true:=by simpa using E
  simp[rW,this]at Z)) i
def Ji(n vars cells:Int)(xX:Int):Bool:=decide (1<=n)&&decide (n<=4096)&&decide (0<=cells)&&decide (cells<=8192)&&decide (0<=vars)&&decide (vars<=cells)&&decide (xX=15)
def xX(ins:List au):Int:=(ins.getLast?.map (·.op)).getD 0
def rp(D:Int->Nat)(ins:List au)(vars cells:Int):Bool:=Ji ins.length vars cells (xX ins)&&u4 D cells ((ins.length:Int)-1) 0 ins
def BF(D:Int->Nat)(ins:List au)(vars cells:Int):Bool:=
 rp D ins vars cells&&u5 (FR ins) 0 ins []&&!(rounds (Ct ins) (ins.length+1) (List.range ins.length) (List.replicate ins.length 0))
theorem sK{D:Int->Nat}{cells last:Int}:∀{ins:List au}{i0:Nat},u4 D cells last i0 ins=true->∀i x,ins[i]?=some x->dx D cells last ((i0+i:Nat):Int) x=true
 |y::r,i0,h,i,x,H=>by
  simp only[u4,Ds]at h;cases i with
  |zero=>simp at H;subst H;exact h.1
  |succ i=>
   have:=sK h.2 i x (by simpa using H);rw[show i0+(i+1)=i0+1+i by omega];exact this
theorem aen{D:Int->Nat}{ins:List au}{vars cells:Int}(h:rp D ins vars cells=true):∀i<ins.length,∀j∈rW ins i,j<ins.length:=by
 intro i hi j E;simp only[rp,Ds]at h;have H:ins[i]?=some ins[i]:=by simp[hi]
 have I:=sK h.2 i _ H;simp only[afO]at I;have O:i+1=ins.length->ins[i].op=15:=by
  intro A';have T:=h.1;simp only[Ji,Ds,aa8]at T;have J:=T.2;unfold xX at J;rw[anQ,show ins.length-1=i by omega,H]at J;simpa using J
 unfold rW at E;split at E
 ·simp at E
 ·unfold Cs at E;rw[H]at E;simp only at E;unfold dx at I;by_cases U:ins[i].op=9
  ·simp[U]at E I;omega
  ·by_cases V:ins[i].op=10
   ·simp[V]at E I;have:i+1≠ins.length:=λh=>by have:=O h;omega
    omega
   ·by_cases M:ins[i].op=15
    ·simp[M]at E
    ·simp[U,V,M]at E;have:i+1≠ins.length:=λh=>M (O h);omega
theorem Il{D:Int->Nat}{ins:List au}{vars cells:Int}(h:rp D ins vars cells=true):
 rounds (Ct ins) (ins.length+1) (List.range ins.length) (List.replicate ins.length 0)=true↔∃i<ins.length,¬Ends (rW ins) i:=by
 rw[SU (Ct ins) ins.length (ins.length+1) (by omega) (λi hi j E=>aen h i hi j (afx.1 E).1)];simp only[Wg]
end Go.Am
end
section
namespace Go.Am
open Go
noncomputable def qe(X:Ctx)(f:FuncId)(c:Code)(S:St)(D:List DF):XD:=gW λk=>jo X f (aZ X k) k c S D
noncomputable def FT(X:Ctx)(f:FuncId)(H:AV)(c:Code)(S:St):Option (XE×St):=gW λk=>oo X f (aZ X k) k H c S
noncomputable def G6(X:Ctx):bE:=λg args cs=>gW λk=>nQ X k (aZ X k) g args cs
abbrev BG:=XE->St->List DF->bZ
noncomputable def ky(X:Ctx)(f:FuncId)(c:Code)(S:St)(D:List DF)(k:BG):bZ:=(qe X f c S D).bind λp=>k p.1 p.2.1 p.2.2
noncomputable def zE(X:Ctx)(md:Bool)(all ops:List Oper)(S:St)(D:List DF)(k:BG):bZ:=(gj X (ai X) md all ops S D).bind λp=>k p.1 p.2.1 p.2.2
noncomputable def FU(X:Ctx)(f:FuncId)(b:Code)(k:BG):BG
 | .normal,S,D=>ky X f b S D k
 |e,S,D=>k e S D
def G7(X:Ctx)(f:FuncId)(id:Nat)(k:BG):BG
 | .normal,S,D=>k .normal (S.leave X f id) D
 |e,S,D=>k e S D
noncomputable def Lf(X:Ctx)(md:Bool)(all r:List Oper)(D:List DF)(k:BG):Kt
 | .normal,S=>zE X md all r S D k
 |e,S=>k e S D
noncomputable def Jj(X:Ctx)(md:Bool)(all r:List Oper)(o:Oper)(S:St)(D:List DF)(k:BG):Option DF->bZ
 |some d=>zE X md all r (S.put o.dst true .bm) (d::D) k
 |none=>runK X md all [o] S (Lf X md all r D k)
section
variable {X:Ctx} {f:FuncId} {S:St} {D:List DF} {md:Bool}
theorem xq(all:List Oper):∀(ops:List Oper)(S:St)(D:List DF),gW (λk=>gj X (aZ X k) md all ops S D)=gj X (ai X) md all ops S D
 |[],S,D=>aW _
 |o::r,S,D=>by
  simp only[gj];cases nP S o with
  |some d=>exact xq all r _ _
  |none=>
   simp only[D0];rw[ep (g:=λx n=>nT (λS1=>gj X (aZ X n) md all r S1 D) D x) (tS (bG X) all) (λx=>by
    obtain⟨e,S1⟩:=x;cases e with
    |normal=>exact nw (bG X) all r S1 D
    |_=>exact aP.const _),Ij]
   congr 1;funext x;obtain⟨e,S1⟩:=x;cases e with
   |normal=>exact xq all r S1 D
   |_=>exact aW _
theorem dmD(c:Code)(S:St)(D:List DF):aP (λk=>jo X f (aZ X k) k c S D):=Ii (bG X) f (m:=λk=>k) (λk=>ajz k) c S D
theorem Wh{a b:Code}:qe X f (.seq a b) S D=Ks (qe X f b) (qe X f a S D):=by
 unfold qe;simp only[jo,Om];rw[ep (g:=λx n=>sT (jo X f (aZ X n) n b) x) (dmD a S D) (λx=>by
  obtain⟨e,S1,E⟩:=x;cases e with
  |normal=>exact dmD b S1 E
  |_=>exact aP.const _)]
 congr 1;funext x;obtain⟨e,S1,E⟩:=x;cases e<;>first|rfl|exact aW _
theorem nx{c:Code}(h:∀k,jo X f (aZ X k) k c S D=zb D (den X f (aZ X k) k c S)):qe X f c S D=zb D (gE X f c S):=by
 unfold qe gE;have:(λk=>jo X f (aZ X k) k c S D)=λk=>(den X f (aZ X k) k c S).bind λq=>dT D q:=by
  funext k;rw[h,G3]
 rw[this,ep (dm c S) (λ_=>aP.const _),G3];simp only[aW]
theorem Wi{id:Nat}{ops:Array Oper}(h:Bf ops.toList=true):qe X f (.region id ops false) S D=Bg (St.leave X f id) (gj X (ai X) (X.md f id) ops.toList ops.toList S D):=by
 unfold qe;have:(λk=>jo X f (aZ X k) k (.region id ops false) S D)=λk=>(gj X (aZ X k) (X.md f id) ops.toList ops.toList S D).bind λq=>lT (St.leave X f id) q:=by
  funext k;simp only[jo,h,Bool.not_false,Bool.and_self,Bs]
 rw[this,ep (nw (bG X) _ _ _ _) (λ_=>aP.const _),xq,Bs];simp only[aW]
variable {k:BG}
theorem Wj{a b:Code}:ky X f (.seq a b) S D k=ky X f a S D (FU X f b k):=by
 simp only[ky,Wh];rcases qe X f a S D with _|⟨e,S1,E⟩
 ·rfl
 ·cases e<;>rfl
theorem ny{c:Code}(h:qe X f c S D=zb D (gE X f c S)):ky X f c S D k=aO X f c S λe S=>k e S D:=by
 simp only[ky,aO,h];rcases gE X f c S with _|⟨e,S1⟩<;>rfl
theorem SV{o:Operand}{a b:Code}:ky X f (.cond o a b) S D k=aO X f (.cond o a b) S λe S=>k e S D:=ny (nx λ_=>rfl)
theorem Wk:ky X f .ret S D k=aO X f .ret S λe S=>k e S D:=ny (nx λ_=>rfl)
theorem SW:ky X f .skip S D k=aO X f .skip S λe S=>k e S D:=ny (nx λ_=>rfl)
theorem SX{c:Code}:ky X f (.loop c) S D k=aO X f (.loop c) S λe S=>k e S D:=ny (nx λ_=>rfl)
theorem NN{id:Nat}{c:Code}:ky X f (.block id c) S D k=aO X f (.block id c) S λe S=>k e S D:=ny (nx λ_=>rfl)
theorem SY{id:Nat}{ops:Array Oper}:ky X f (.region id ops true) S D k=aO X f (.region id ops true) S λe S=>k e S D:=ny (nx λ_=>rfl)
theorem Wl{id:Nat}{l:List Oper}:ky X f (.region id ⟨l⟩ false) S D k=if Bf l=true then zE X (X.md f id) l l S D (G7 X f id k)else aO X f (.region id ⟨l⟩ false) S λe S=>k e S D:=by
 split
 ·rename_i h;simp only[ky,zE,Wi (ops:=⟨l⟩) h];rcases gj X (ai X) (X.md f id) l l S D with _|⟨e,S1,E⟩
  ·rfl
  ·cases e<;>rfl
 ·rename_i h;exact ny (nx λ_=>by simp[jo,h])
theorem Wm{all:List Oper}:zE X md all [] S D k=k .normal S D:=rfl
theorem SZ{all r:List Oper}{o:Oper}:zE X md all (o::r) S D k=Jj X md all r o S D k (nP S o):=by
 simp only[zE,gj];cases nP S o with
 |some d=>rfl
 |none=>
  simp only[Jj,runK,fZ,D0,zu];rcases nO X (ai X) md all S o with _|⟨e,S1⟩
  ·rfl
  ·cases e<;>rfl
end
noncomputable def FV(X:Ctx)(p:aE)(E:Nat)(rs:List ResultVar):BG
 |e,S,[]=>D5 X.P p E rs e S
 |e,S,[d]=>tO X p E rs (G6 X) S d (DO e)
 |_,_,_=>none
noncomputable def we(X:Ctx)(f:FuncId)(D:AV)(c:Code)(S:St)(k:Kt):bZ:=(FT X f D c S).bind λp=>k p.1 p.2
def Jk(P:Program)(p:aE)(E:Nat)(rs:List ResultVar):Kt
 | .normal,S=>finish P p E rs S
 | .ret,S=>finish P p E rs S
 |_,_=>none
section
variable {X:Ctx} {f:FuncId} {S:St}
theorem rX(X:Ctx):fa λk=>nQ X k (aZ X k):=FH (bG X) (m:=λk=>k) (λk=>ajz k)
theorem NO{C:Nat->bE}(y:fa C)(m:Mem)(Z:Nat)(g:FuncId)(H:List AV)(mt:List Nat):gW (λk=>ef (C k) m Z g H mt)=ef (λg a c=>gW λk=>C k g a c) m Z g H mt:=by
 unfold ef mE mD;simp only[xk];rw[ep (y _ _ _) (λ_=>aP.const _)];simp only[aW]
theorem Wn(p:aE)(E:Nat)(rs:List ResultVar)(d:DF)(D:Option AV):gW (λk=>tO X p E rs (nQ X k (aZ X k)) S d D)=tO X p E rs (G6 X) S d D:=by
 cases D with
 |none=>exact aW _
 |some D=>
  simp only[tO,Oq,Oo S (ef _ _ _ _ _ _)];rw[ep (g:=λS _=>finish X.P p E rs S) ((oI (rX X) _ _ _ _ _).bind (g:=λc _=>uR S (some c)) λ_=>aP.const _) (λ_=>aP.const _),
   ep (g:=λc _=>uR S (some c)) (oI (rX X) _ _ _ _ _) (λ_=>aP.const _),NO (rX X)]
  simp only[aW];rfl
theorem Wo{fn:Func}{c:Code}{args:List AV}{cs:List aH}{n:Nat}{rs:List ResultVar}{p:aE}(A':X.ov=none)(A0:X.Ah f=none)(I:X.P.funcs[f]?=some fn)(J:fn.body=some c)(A1:zc c=true)(M:fn.ntmps=n)(O:fn.results.toList=rs)
 (T:X.fp f=p) (U:oK n p args cs=true):ai X f args cs=ky X f c (entry n X.gl args cs p.sites) [] (FV X p cs.length rs):=by
 subst T;subst M;subst O;unfold ai;rw[<-v8 (bG X f args cs)];have V:(λk=>aZ X (k+1) f args cs)=λk=>(jo X f (aZ X k) k c (entry fn.ntmps X.gl args cs (X.fp f).sites) []).bind λq=>xd X (X.fp f) cs.length fn.results.toList (nQ X k (aZ X k)) (some q):=by
  funext k;rw[aZ,A',A0,I];simp only[J,A1,xO,xN];rw[abf (by simpa only[oK]using U),Ot]
 rw[V,ep (g:=λq k=>xd X (X.fp f) cs.length fn.results.toList (nQ X k (aZ X k)) (some q)) (dmD c _ _) (λq=>FI (rX X) _ _ _ q)];simp only[ky];congr 1;funext q;obtain⟨e,S1,A2⟩:=q;match A2 with
 |[]=>
  simp only[xd,FV,aW];cases e<;>rfl
 |[d]=>exact Wn _ _ _ _ _
 |_::_::_=>exact aW _
theorem aeo{fn:Func}{c:Code}{args H:List AV}{D:AV}{cs:List aH}{n:Nat}{rs:List ResultVar}{p:aE}(I:X.P.funcs[f]?=some fn)(J:fn.body=some c)(M:fn.ntmps=n)(O:fn.results.toList=rs)
 (T:X.fp f=p) (A3:args.getLast?=some D) (A4:args.dropLast=H) (U:oK n p H cs=true):G6 X f args cs=we X f D c (entry n X.gl H cs p.sites) (Jk X.P p cs.length rs):=by
 subst T;subst M;subst O;subst A4;unfold G6;have V:(λk=>nQ X k (aZ X k) f args cs)=λk=>(oo X f (aZ X k) k D c (entry fn.ntmps X.gl args.dropLast cs (X.fp f).sites)).bind λq=>So X.P (X.fp f) cs.length fn.results.toList (some q):=by
  funext k;simp only[nQ,I,J,xM,A3];rw[abf (by simpa only[oK]using U),On]
 rw[V,ep (Bt (bG X) f (m:=λk=>k) (λk=>ajz k) D c _) (λ_=>aP.const _)];simp only[we,aW];congr 1;funext q;obtain⟨e,S1⟩:=q;cases e<;>rfl
variable {k:Kt} {D:AV}
theorem Wp{a b:Code}:we X f D (.seq a b) S k=we X f D a S (Bw X f b k):=by
 have h:FT X f D (.seq a b) S=andThen (FT X f D a S) (gE X f b):=
  xo (F:=λn=>oo X f (aZ X n) n D a S) (K:=λY n=>den X f (aZ X n) n b Y) (Bt (bG X) f (m:=λk=>k) (λk=>ajz k) D a S) (λY=>dm b Y)
 simp only[we,h,uY];congr 1;funext q;obtain⟨e,S1⟩:=q;cases e<;>rfl
theorem Wq{id:Nat}{o:Oper}{r:List Oper}(h:vU o=true):we X f D (.region id ⟨o::r⟩ false) S k=runK X (X.md f id) (o::r) r (S.put o.dst true D) (Bx X f id k):=by
 have A5:FT X f D (.region id ⟨o::r⟩ false) S=xc (St.leave X f id) (fZ X (ai X) (X.md f id) (o::r) r (S.put o.dst true D)):=by
  unfold FT;have:(λk=>oo X f (aZ X k) k D (.region id ⟨o::r⟩ false) S)=λk=>(fZ X (aZ X k) (X.md f id) (o::r) r (S.put o.dst true D)).bind λq=>mT (St.leave X f id) q:=by
   funext k;simp only[oo,h,afz,rl]
  rw[this,ep (kN (bG X) _ _ _) (λ_=>aP.const _),tT,rl];simp only[aW]
 simp only[we,runK,A5];rcases fZ X (ai X) (X.md f id) (o::r) r (S.put o.dst true D)with _|⟨e,S1⟩
 ·rfl
 ·cases e<;>rfl
end
def Ctx.over(X:Ctx)(H:bE):Ctx:={X with ov:=some H}
section
variable {X:Ctx} {H C:bE} {f:FuncId}
@[simp] theorem axh:(X.over H).P=X.P:=rfl
@[simp] theorem auE:(X.over H).gl=X.gl:=rfl
@[simp] theorem aoa:(X.over H).qV=X.qV:=rfl
@[simp] theorem auF:(X.over H).gh=X.gh:=rfl
@[simp] theorem auG:(X.over H).md=X.md:=rfl
@[simp] theorem auH:(X.over H).fp=X.fp:=rfl
@[simp] theorem auI:(X.over H).od=X.od:=rfl
@[simp] theorem auJ:(X.over H).fl=X.fl:=rfl
@[simp] theorem ak6:ai (X.over H)=H:=by
 funext g a c;unfold ai;rw[<-v8 (bG (X.over H) g a c)];have:(λn=>aZ (X.over H) (n+1) g a c)=λ_=>H g a c:=rfl;rw[this,aW]
end
inductive PR(E D α:Type) where
 |ok (a:α) (s:D)
 |bad (e:E) (s:D)
 |out
section
variable {E D α β I:Type}
def PR.el(r:PR E D α)(f:α->D->Option β)(g:E->D->Option β):Option β:=
 match r with
 | .ok a s=>f a s
 | .bad e s=>g e s
 | .out=>none
@[simp] theorem azW{a:α}{s:D}{f:α->D->Option β}{g:E->D->Option β}:(PR.ok a s).el f g=f a s:=rfl
@[simp] theorem axi{e:E}{s:D}{f:α->D->Option β}{g:E->D->Option β}:(PR.bad e s).el f g=g e s:=rfl
@[simp] theorem axj{f:α->D->Option β}{g:E->D->Option β}:(PR.out:PR E D α).el f g=none:=rfl
@[simp] theorem axk{c:Prop}[Decidable c]{a b:PR E D α}{f:α->D->Option β}{g:E->D->Option β}:(if c then a else b).el f g=if c then a.el f g else b.el f g:=by split<;>rfl
def PR.bind(r:PR E D α)(k:α->D->PR E D I):PR E D I:=
 match r with
 | .ok a s=>k a s
 | .bad e s=>.bad e s
 | .out=>.out
@[simp] theorem auK{a:α}{s:D}{k:α->D->PR E D I}:(PR.ok a s).bind k=k a s:=rfl
@[simp] theorem apZ{e:E}{s:D}{k:α->D->PR E D I}:(PR.bad e s:PR E D α).bind k=.bad e s:=rfl
@[simp] theorem ap0{k:α->D->PR E D I}:(PR.out:PR E D α).bind k=.out:=rfl
@[simp] theorem auL{r:PR E D α}{k:α->D->PR E D I}{f:I->D->Option β}{g:E->D->Option β}:(r.bind k).el f g=r.el (λa s=>(k a s).el f g) g:=by cases r<;>rfl
@[simp] theorem azX{r:PR E D α}{f:α->D->Option β}{g:E->D->Option β}:r.el (λa s=>f a s) (λe s=>g e s)=r.el f g:=rfl
theorem agQ{J:Nat}{b:Bool}{r:PR E D α}{f:α->D->bZ}{g:E->D->bZ}:ri J b (r.el f g)=r.el (λa s=>ri J b (f a s)) (λe s=>ri J b (g e s)):=by cases r<;>rfl
theorem aep{m:Mem}{M:Nat}{ρ B:List Nat}{r:PR E D α}{f:α->D->bZ}{g:E->D->bZ}:fY m M ρ B (r.el f g)=r.el (λa s=>fY m M ρ B (f a s)) (λe s=>fY m M ρ B (g e s)):=by cases r<;>rfl
theorem Zv{X:Ctx}{md:Bool}{S:St}{d:Option Nat}{all q:List Oper}{k:Kt}{r:PR E D α}{f:α->D->Option fM}{g:E->D->Option fM}:rU X md S d all q k (r.el f g)=r.el (λa s=>rU X md S d all q k (f a s)) (λe s=>rU X md S d all q k (g e s)):=by cases r<;>rfl
theorem Wr{X:Ctx}{md:Bool}{O:Nat×List (List Nat)}{S:St}{d:Option Nat}{all q:List Oper}{T:List bf}{k:Kt}{r:PR E D α}{f:α->D->Option fM}{g:E->D->Option fM}:mw X md O S d all q T k (r.el f g)=r.el (λa s=>mw X md O S d all q T k (f a s)) (λe s=>mw X md O S d all q T k (g e s)):=by cases r<;>rfl
def Le(a b:Option β):Prop:=∀r,a=some r->b=some r
theorem Le.refl(a:Option β):Le a a:=λ_ h=>h
theorem Le.trans{a b c:Option β}(h:Le a b)(k:Le b c):Le a c:=λr Y=>k r (h r Y)
theorem Le.none{b:Option β}:Le none b:=λ_ h=>by cases h
theorem Le.el{r:PR E D α}{f U:α->D->Option β}{g V:E->D->Option β}(Z:∀a s,Le (f a s) (U a s))(y:∀e s,Le (g e s) (V e s)):Le (r.el f g) (r.el U V):=by
 cases r with
 |ok a s=>exact Z a s
 |bad e s=>exact y e s
 |out=>exact Le.none
end
end Go.Am
end
