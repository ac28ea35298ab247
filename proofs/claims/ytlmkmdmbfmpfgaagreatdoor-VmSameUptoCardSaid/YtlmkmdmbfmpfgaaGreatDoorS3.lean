/-
  Texts of one proof, one behind the other.
-/
import Derived.Test.YtlmkmdmbfmpfgaaGreatDoorS2
import Derived.Below
import Derived.Recover
import Derived.Orders
import Derived.Laws.BitsLemmas
import Derived.Laws.Bits64
import Derived.Lib.Mul64
import Derived.Lib.Bytealg
import Derived.Lib.Index
import Derived.Lib.Strings
set_option linter.all false
section
namespace Go.Am
open Go
set_option maxRecDepth 20000
set_option maxHeartbeats 4000000
abbrev Is(e:XE)(S':St):XE->St->Prop:=λe' Av=>e'=e/\Av=S'
def SH(P:Program)(S:St)(o:Oper)(e:XE)(S':St):Prop:=
 S'.n=S.n/\S'.gl=S.gl/\(e=.normal\/∃t x,e=.panic t x)/\∀φ G a w,Rel φ G S a w->∀(next:Act->World->Prop)(R:Exit->Act->World->Prop),
  (e=.normal->∀φ' A4 w',Rel φ' G S' A4 w'->bn φ S.mem w φ' S'.mem w'->next A4 w')->
  (∀t x,e=.panic t x->∀φ' A4 w' v,Rel φ' G S' A4 w'->bn φ S.mem w φ' S'.mem w'->aR w' (Fo G φ' S'.mem) x v->R (.panic [{v:=.iface t v,recovered:=false}]) A4 w')->o.wp P a w next R
def o7(S:St)(d g x):(S.put d g x).gl=S.gl:=by cases d<;>rfl
section
variable {X:Ctx} {A1:bP} {S S':St} {o:Oper} {e:XE}
theorem FO{c:Bool}{x:AV}{gb:Bool}(A7:ee X.P S o=.val c x)(AB:(jC S o&&c)=true)(I:∀t,o.dst=some t->t<S.n):SH X.P S o .normal (S.put o.dst gb x):=by
 simp at AB;have:=OC X.P S o AB.1;rw[A7]at this;refine⟨pL ..,o7 ..,.inl rfl,λφ G a w H next R A5 _=>?_⟩;exact aaJ this AB.2 H I (λA4 w' AD AK=>A5 rfl φ A4 w' AD (by rw[ib];grind))
theorem SI{c:Bool}{x:AV}{Ac:dn}(A7:ee X.P S o=.dU c x Ac)(AB:(jC S o&&c)=true)(I:∀t,o.dst=some t->t<S.n):SH X.P S o .normal (({S with mem:=Mem.set S.mem Ac}:St).put o.dst true x):=by
 simp at AB;have:=OC X.P S o AB.1;rw[A7]at this;refine⟨pL ..,o7 ..,.inl rfl,λφ G a w H next R A5 _=>?_⟩;exact aaK this AB.2 H I (λφ' A4 w' AD AK=>A5 rfl φ' A4 w' AD (by rw[ib];grind))
theorem RY{m:Mem}{BK:Nat}{g:FuncId}{BL:List AV}{mt:List Nat}{out:Out}{es:List dn}{ks:List Nat}(h:fi A1 m BK g BL mt=some ⟨out,es,ks⟩):∀e∈es,e.key∈ks:=by
 unfold fi po pn iq at h;split at h
 .split at h
  .obtain⟨_,rfl,rfl⟩:=h;intro e he;obtain⟨j,v,c,AN,rfl⟩:=zI.1 he;grind
  grind
 grind
mutual
theorem Xz:∀{x y:D},EA x y=true->x=y
 |x,y,h=>by
  unfold EA at h;split at h
  .simp only[Ds,ac2]at h;obtain⟨rfl,rfl⟩:=h;rfl
  .rw[adI h]
  .rw[adI h]
  .rw[FP h]
  .rw[FP h]
  .rfl
  .cases h
theorem FP:∀{x y:List D},CB x y=true->x=y
 |x,y,h=>by
  unfold CB at h;split at h
  .rfl
  .simp only[Ds]at h;rw[Xz h.1,FP h.2]
  .cases h
end
theorem aeG{x y:AV}(h:KB x y=true):x=y:=by
 unfold KB at h;split at h
 .rw[Xz h]
 .grind
 .grind
 grind
theorem O5:∀{x y:List AV},FM x y=true->x=y
 |[],[],_=>rfl
 |[],_::_,h=>by cases h
 |_::_,[],h=>by cases h
 |a::r,b::s,h=>by
  simp[FM]at h;rw[aeG h.1,O5 h.2]
theorem XA{x y:aF}(h:EB x y=true):x=y:=by
 unfold EB at h;split at h
 .rw[O5 h]
 .simp at h;rw[h.1,FP h.2]
 grind
theorem O6:∀{m:Mem}{e:dn},Mem.get m e.key=some e->Mem.set m e=m
 |[],_,_=>rfl
 |x::r,e,h=>by
  simp[Mem.get]at h;simp[Mem.set];split at h
  .grind
  .rename_i A';rw[aaf A',O6 h]
theorem GQ:∀{es:List dn}{m m':Mem}{ks:List Nat},uP m es=true->(∀e∈es,e.key∈ks)->(∀k∈ks,Mem.get m' k=Mem.get m k)->bV m' es=m'
 |[],_,_,_,_,_,_=>rfl
 |e::r,m,m',ks,h,A',hm=>by
  simp[uP]at h;have J:Mem.get m' e.key=some e:=by
   rw[hm _ (A' e (by simp))];obtain⟨h,_⟩:=h;cases O:Mem.get m e.key with
   |none=>rw[O]at h;cases h
   |some x=>
    rw[O]at h;simp[Nz,Ds]at h;have M:=(Mem.get_mem O).2;obtain⟨k,v,c⟩:=x;simp only at h M;rw[h.1,XA h.2,M]
  rw[bV,O6 J];exact GQ h.2 (λe he=>A' e (aep _ he)) hm
theorem qb{args:List Operand}{AA:Bool×AV}{out:Out}{es:List dn}{ks:List Nat}(h:dw X A1 S o args AA=some ⟨out,es,ks⟩):∃g AP AW,AA=(true,.fn g AP)/\kY S args=true/\
 fi A1 S.mem (keyOf o) (ri g) (kN g (ef S args) AP) (X.fp (ri g)).AF=some ⟨out,AW,ks⟩/\(∀e∈es,e.key∈ks)/\∀m',(∀k∈ks,Mem.get m' k=Mem.get S.mem k)->bV m' AW=bV m' es:=by
 unfold dw at h;split at h
 .rename_i g AP;split at h
  .rename_i AB;generalize (X.fp (ri g)).AF.contains 2000=b at h;cases A8:fi A1 S.mem (keyOf o) (ri g) (kN g (ef S args) AP) (X.fp (ri g)).AF with
   |none=>rw[A8]at h;cases b<;>cases h
   |some res=>
    obtain⟨Bk,AW,Bl⟩:=res;have A':=RY A8;rw[A8]at h;cases b with
    |false=>cases h;grind
    |true=>
     simp[CC]at h;cases A7:uP S.mem AW with
     |false=>rw[A7]at h;cases h;grind
     |true=>rw[A7]at h;cases h;exact⟨g,AP,AW,rfl,AB,A8,by simp,λm' hm=>GQ A7 A' hm⟩
  grind
 grind
theorem aa1(A6:mi X A1){AA:Operand}{args:Array Operand}{AX:Array TypeId}(Y:o.op=.call {callee:=.value AA,args,argTypes:=AX})(A2:S.gl=X.gl)(I:∀t,o.dst=some t->t<S.n)
 (h:eG S o.dst (dw X A1 S o args.toList (S.aw AA))=some (e,S')):SH X.P S o e S':=by
 cases AY:dw X A1 S o args.toList (S.aw AA)with
 |none=>rw[AY]at h;cases h
 |some res=>
  rw[AY]at h;obtain⟨out,es,ks⟩:=res;obtain⟨g,AP,AW,Aw,AB,Ai,_,AZ⟩:=qb AY;have AZ:=AZ S.mem (λ_ _=>rfl);cases out with
  |ret x=>
   obtain⟨rfl,rfl⟩:=h;refine⟨pL ..,o7 ..,.inl rfl,λφ G a w H next R A5 _=>?_⟩;refine zP A6 Y Aw rfl AB Ai A2 H (λAg M φ' w' v AD AK AL=>?_) (λt Ag M=>by cases M);cases M;rw[AZ]at AD AK AL;exact A5 rfl φ' _ w' (AD.put o.dst I true x v (λ_=>AL)) (by rw[ib];grind)
  |panic t x=>
   obtain⟨rfl,rfl⟩:=h;refine⟨rfl,rfl,.inr ⟨t,x,rfl⟩,λφ G a w H next R _ AT=>?_⟩;refine zP A6 Y Aw rfl AB Ai A2 H (λAg M=>by cases M) (λBM Ag M φ' w' v AD AK AL=>?_);grind
theorem XB{x:Operand}(Y:o.op=.panic x)(h:Hu S (S.aw x)=some (e,S')):SH X.P S o e S':=by
 cases M:S.aw x with
 |mk g y=>
  rw[M]at h;unfold Hu at h;split at h
  .rename_i t d heq;cases heq;obtain⟨rfl,rfl⟩:=h;refine⟨rfl,rfl,.inr ⟨t,d,rfl⟩,λφ G a w H next R _ AT=>?_⟩;have AL:=H.aw x (by rw[M]);rw[M]at AL;generalize BN:a.eval x=u at AL;cases AL with
   |jG _ _ v I=>
    have B0:(execOp a.eval o).run X.P w=.halt (.panic (.iface t v)) w:=by
     simp[execOp,Y,BN,Instr.panic]
    unfold Oper.wp;rw[B0];exact AT t d rfl φ a w v H (bn.refl ..) I
  grind
theorem EG(A6:mi X A1)(A2:S.gl=X.gl)(I:∀t,o.dst=some t->t<S.n)(h:kl X A1 S o (ee X.P S o)=some (e,S')):SH X.P S o e S':=by
 generalize A7:ee X.P S o=r at h;cases r with
 |val c x=>
  simp only[kl]at h;split at h
  .rename_i AB;cases h;exact FO A7 AB I
  grind
 |dU c x Ac=>
  simp only[kl]at h;split at h
  .rename_i AB;cases h;exact SI A7 AB I
  grind
 |no=>
  simp[kl,wc]at h;split at h
  .rename_i AA args AX Y;exact aa1 A6 Y A2 I h
  .rename_i x Y;exact XB Y h
  grind
def EH(P:Program)(all:List Oper)(S:St)(o:Oper)(e:XE)(S':St):Prop:=
 S'.n=S.n/\S'.gl=S.gl/\(e=.normal\/∃t x,e=.panic t x)/\∀φ G a w,Rel φ G S a w->∀(next:Act->World->Prop)(R:Exit->Act->World->Prop),
  (e=.normal->∀φ' A4 w',Rel φ' G S' A4 w'->bn φ S.mem w φ' S'.mem w'->next A4 w')->
  (∀t x,e=.panic t x->∀φ' A4 w' v,Rel φ' G S' A4 w'->bn φ S.mem w φ' S'.mem w'->aR w' (Fo G φ' S'.mem) x v->R (.panic [{v:=.iface t v,recovered:=false}]) A4 w')->
  if Region.wanted o (yielded all.toArray a.tmps)then o.wp P a w next R else next (a.put o.dst undef) w
theorem FQ{all:List Oper}(h:SH X.P S o e S')(hw:∀φ G a w,Rel φ G S a w->Region.wanted o (yielded all.toArray a.tmps)=true):EH X.P all S o e S':=by
 obtain⟨J,U,AG,AO⟩:=h;refine⟨J,U,AG,λφ G a w H next R A5 AT=>?_⟩;grind
theorem EI{φ:cC}{w:World}{F:Nat->Prop}{x:AV}(M:x=.bH\/x=.bq []):aG φ w F x undef:=by
 rcases M with rfl|rfl
 .exact .bH _
 .exact .bq [] #[] rfl (λi c v h=>by grind)
theorem Je{all:List Oper}{j:Nat}{φ G a w}(h:Rel φ G S a w)(O:s8 all S j=some (true,.bq [])):yielded all.toArray a.tmps j=none:=by
 unfold s8 at O;split at O
 .rename_i o Y;split at O
  .rename_i t AM;have J:=h.env t _ O;unfold yielded;simp[Y,AM];rw[aef]at J;cases A3:a.tmps[t]? with
   |none=>rfl
   |some v=>
    rw[A3]at J;cases J;rfl
  grind
 grind
theorem O7{all:List Oper}{gb:Bool}{x:AV}(M:gb=true->x=.bH\/x=.bq [])(I:∀t,o.dst=some t->t<S.n)(hw:∀φ G a w,Rel φ G S a w->Region.wanted o (yielded all.toArray a.tmps)=false):EH X.P all S o .normal (S.put o.dst gb x):=by
 refine⟨pL ..,o7 ..,.inl rfl,λφ G a w H next R A5 _=>?_⟩;rw[aaf (by grind)];exact A5 rfl φ _ w (H.put o.dst I gb x undef (λO=>EI (M O))) (by rw[ib];exact bn.refl ..)
theorem L4{all:List Oper}{j:Nat}{AE t:Bool}(O:o.guard=some (j,AE))(A9:s8 all S j=some (true,.d (.bool t))){φ G a w}(H:Rel φ G S a w):Region.wanted o (yielded all.toArray a.tmps)=(t == AE):=by
 have Ax:=Xb H A9;simp[Region.wanted];grind
theorem HE(S:St)(d b):(S.cz d b).n=S.n:=pL ..
theorem FR(S:St)(d b):(S.cz d b).gl=S.gl:=o7 ..
theorem Jg(S:St)(d b):(S.cz d b).mem=S.mem:=ib ..
theorem adm{all:List Oper}{S:St}{j:Nat}{t b:Bool}(A9:s8 all S j=some (true,.d (.bool t)))(AQ:t=b)(u:Nat):Env.lk (S.cz (oM all j) b).env u=Env.lk S.env u:=by
 unfold s8 at A9;unfold St.cz oM;split at A9
 .rename_i BO AN;split at A9
  .rename_i d I;simp[AN,I,St.put,Env.lk];grind
  grind
 grind
theorem ahF{all:List Oper}{S:St}{j:Nat}{t b:Bool}(A9:s8 all S j=some (true,.d (.bool t)))(AQ:t=b){φ G a w}(H:Rel φ G S a w):Rel φ G (S.cz (oM all j) b) a w:=
 Rel.eqv H ⟨(HE ..).symm,(FR ..).symm,(Jg ..).symm,λu=>(adm A9 AQ u).symm⟩
theorem yM{all:List Oper}(A6:mi X A1)(A2:S.gl=X.gl)(I:∀t,o.dst=some t->t<S.n){md:Bool}(h:qI X A1 md all S o=some (e,S')):EH X.P all S o e S':=by
 unfold qI at h;split at h
 .rename_i O;exact FQ (EG A6 A2 I h) (λ_ _ _ _ _=>by simp[Region.wanted,O])
 .rename_i j AE O;split at h
  .rename_i t A9;replace A9:=OS A9;have hw:∀φ G a w,Rel φ G S a w->Region.wanted o (yielded all.toArray a.tmps)=(t == AE):=λφ G a w H=>L4 O A9 H;have other:∀{r:ep},ee X.P S o=r->(if (t == AE)=true then kl X A1 S o r else some (.normal,S.put o.dst true .bH))=some (e,S')->EH X.P all S o e S':=by
    intro r A7 h;split at h
    .exact FQ (EG A6 A2 I (by grind)) (λφ G a w H=>by grind)
    .cases h;exact O7 (λ_=>.inl rfl) I (λφ G a w H=>by grind)
   cases md with
   |true=>
    simp only at h;have B9:∀b,t=b->∀φ G a w,Rel φ G S a w->Rel φ G (S.cz (oM all j) b) a w:=λb AQ φ G a w H=>ahF A9 AQ H;split at h
    .have Ah:t=AE:=by grind
     have:=EG (S:=S.cz (oM all j) AE) A6 (by rw[FR];grind) (λt AM=>by rw[HE];grind) h;obtain⟨J,U,AG,AO⟩:=this;refine FQ ⟨by rw[J,HE],by rw[U,FR],AG,λφ G a w H next R A5 AT=>?_⟩ (λφ G a w H=>by grind);have BP:=AO φ G a w (B9 AE Ah φ G a w H) next R
     rw[Jg]at BP;grind
    .have Ah:t=!AE:=by cases t<;>cases AE<;>simp_all
     cases h;refine⟨by rw[pL,HE],by rw[o7,FR],.inl rfl,λφ G a w H next R A5 _=>?_⟩;rw[aaf (by grind)];exact A5 rfl φ _ w ((B9 _ Ah φ G a w H).put o.dst (λt AM=>by rw[HE];grind) true (.bq []) undef (λ_=>EI (.inr rfl))) (by rw[ib,Jg];exact bn.refl ..)
   |false=>
   simp only at h;unfold sG at h;split at h
   .rename_i c x A7;split at h
    .rename_i A8;cases h;cases AQ:(t == AE)
     .exact O7 (by simp) I (λφ G a w H=>by grind)
     .exact FQ (FO A7 (A8 AQ) I) (λφ G a w H=>by grind)
    grind
   grind
  .rename_i A9;replace A9:=LY A9;cases h;exact O7 (λ_=>.inr rfl) I (λφ G a w H=>by
    simp only[Region.wanted,O,Je H A9];grind)
  grind
theorem jO{r:Option (XE×St)}{k:St->Option (XE×St)}{y:XE×St}(h:andThen r k=some y):(∃S1,r=some (.normal,S1)/\k S1=some y)\/(r=some y/\y.1≠.normal):=by
 unfold andThen at h;grind
theorem bn.post{n:Nat}{φ φ':cC}{G:Fr}{m:Mem}{w w':World}{e:XE}{S':St}{A4:Act}(A5:S'.n=n)(H:Rel φ' G S' A4 w')(A':bn φ m w φ' S'.mem w')(he:e=.normal):rf n φ G m w (Is e S') .normal A4 w':=
 ⟨φ',S',A5,⟨he.symm,rfl⟩,H,A'⟩
theorem EJ{md:Bool}{all:List Oper}(A6:mi X A1):∀(ops:List Oper)(S:St)(e:XE)(S':St),jw X A1 md all ops S=some (e,S')->S.gl=X.gl->mY S.n ops=true->
 S'.n=S.n/\S'.gl=S.gl/\∀φ G a w,Rel φ G S a w->∀Q:Exit->Act->World->Prop,(∀e' A4 w',rf S.n φ G S.mem w (Is e S') e' A4 w'->Q e' A4 w')->wpList X.P all.toArray Q ops a w
 |[],S,e,S',h,A2,I=>by
  obtain⟨rfl,rfl⟩:=h;exact⟨rfl,rfl,λφ G a w H Q Ao=>Ao _ _ _ (bn.post rfl H (bn.refl ..) rfl)⟩
 |o::rest,S,e,S',h,A2,I=>by
  simp only[mY,ah7,Ds]at I;obtain⟨B1,I⟩:=I;have AU:∀t,o.dst=some t->t<S.n:=λt AM=>by grind
  rcases jO h with ⟨S1,J,U⟩|⟨J,U⟩
  .obtain⟨Aj,Ay,_,B2⟩:=yM A6 A2 AU J;obtain⟨BQ,BR,BS⟩:=EJ A6 rest S1 e S' U (Ay.trans A2) (by rw[Aj];exact I);refine⟨BQ.trans Aj,BR.trans Ay,λφ G a w H Q Ao=>?_⟩;have:=B2 φ G a w H (wpList X.P all.toArray Q rest) Q
    (λ_ φ' A4 w' AD AK=>BS φ' G A4 w' AD Q (λe' a2 BT AT=>Ao e' a2 BT (by rw[<-Aj];exact AT.weaken AK))) (λt x he=>by cases he)
   unfold wpList;grind
  .obtain⟨Aj,Ay,Bm,B2⟩:=yM A6 A2 AU J;refine⟨Aj,Ay,λφ G a w H Q Ao=>?_⟩;have:=B2 φ G a w H (wpList X.P all.toArray Q rest) Q
    (λhe=>absurd he U) (λt x he φ' A4 w' v AD AK AL=>Ao _ _ _ ⟨φ',S',t,x,v,rfl,AL,Aj,⟨he.symm,rfl⟩,AD,AK⟩)
   unfold wpList;grind
theorem wg{all:List Oper}{ks:List Nat}{S' S:St}(h:nE all o ks S' S){x:Operand}(M:x∈o.op.operands.toList):S'.aw x=S.aw x:=by
 cases x with
 |tmp t=>
  simp[St.aw];rw[h.env t (by simp[looks];grind)]
 |global g=>simp[St.aw,h.gl]
 |_=>rfl
theorem L5{all:List Oper}{ks:List Nat}{S' S:St}(h:nE all o ks S' S){j AE}(O:o.guard=some (j,AE)):Am.s8 all S' j=Am.s8 all S j:=by
 unfold Am.s8;split
 .rename_i BO AN;split
  .rename_i t AM;exact h.env t (by simp[looks,adj];grind)
  .rfl
 .rfl
theorem zR{S' S:St}:∀{l:List Operand},(∀x∈l,S'.aw x=S.aw x)->kY S' l=kY S l
 |[],_=>rfl
 |x::r,h=>by simp[kY,h x (by simp),zR (l:=r) (λy Ax=>h y (aep _ Ax))]
theorem AR{S' S:St}:∀{l:List Operand},(∀x∈l,S'.aw x=S.aw x)->ef S' l=ef S l
 |[],_=>rfl
 |x::r,h=>by simp[ef,h x (by simp),AR (l:=r) (λy Ax=>h y (aep _ Ax))]
theorem O8{S' S:St}(h:∀x∈o.op.operands.toList,S'.aw x=S.aw x):jC S' o=jC S o:=by
 unfold jC;split
 .rfl
 .exact zR h
theorem L6{all:List Oper}{c:Bool}{x:AV}{gb:Bool}(I:∀t,o.dst=some t->t<S.n)(A7:ee X.P S o=.val c x)(AB:(jC S o&&c)=true)
 (hw:∀S',nE all o (lE S o) S' S->∀φ G a w,Rel φ G S' a w->Region.wanted o (yielded all.toArray a.tmps)=true):nF X.P all S o ⟨lE S o,[],gb,x⟩:=by
 intro S' V φ G a w H next R A5
 rw[ac1 (hw S' V φ G a w H)];have M:∀x∈o.op.operands.toList,S'.aw x=S.aw x:=λx M=>wg V M;have Ap:ee X.P S' o=.val c x:=by rw[LR M V.mem];exact A7
 obtain⟨_,_,_,AO⟩:=FO (gb:=gb) Ap (by rw[O8 M];grind) (λt AM=>by rw[V.n];grind);exact AO φ G a w H next R (λ_ φ' A4 w' AD AK=>A5 φ' A4 w' AD AK) (λt x he=>by cases he)
theorem XF{all:List Oper}{c:Bool}{x:AV}{Ac:dn}(I:∀t,o.dst=some t->t<S.n)(A7:ee X.P S o=.dU c x Ac)(AB:(jC S o&&c)=true)
 (hw:∀S',nE all o (lE S o) S' S->∀φ G a w,Rel φ G S' a w->Region.wanted o (yielded all.toArray a.tmps)=true):nF X.P all S o ⟨lE S o,[Ac],true,x⟩:=by
 intro S' V φ G a w H next R A5
 rw[ac1 (hw S' V φ G a w H)];have M:∀x∈o.op.operands.toList,S'.aw x=S.aw x:=λx M=>wg V M;have Ap:ee X.P S' o=.dU c x Ac:=by rw[LR M V.mem];exact A7
 obtain⟨_,_,_,AO⟩:=SI Ap (by rw[O8 M];grind) (λt AM=>by rw[V.n];grind);exact AO φ G a w H next R (λ_ φ' A4 w' AD AK=>A5 φ' A4 w' AD AK) (λt x he=>by cases he)
theorem xJ{all:List Oper}{ks:List Nat}{gb:Bool}{x:AV}(I:∀t,o.dst=some t->t<S.n)(M:gb=true->x=.bH\/x=.bq [])
 (hw:∀S',nE all o ks S' S->∀φ G a w,Rel φ G S' a w->Region.wanted o (yielded all.toArray a.tmps)=false):nF X.P all S o ⟨ks,[],gb,x⟩:=by
 intro S' V φ G a w H next R A5
 rw[aaf (by grind)];exact A5 φ _ w (H.put o.dst (λt AM=>by rw[V.n];grind) gb x undef (λO=>EI (M O))) (by simp[bC.app,ib];exact bn.refl ..)
theorem Vk{all:List Oper}(A6:mi X A1)(A2:S.gl=X.gl)(I:∀t,o.dst=some t->t<S.n){AA:Operand}{args:Array Operand}{AX:Array TypeId}(Y:o.op=.call {callee:=.value AA,args,argTypes:=AX})
 {x:AV} {es:List dn} {ks:List Nat} (h:dw X A1 S o args.toList (S.aw AA)=some ⟨.ret x,es,ks⟩)
 (hw:∀S',nE all o ks S' S->∀φ G a w,Rel φ G S' a w->Region.wanted o (yielded all.toArray a.tmps)=true):nF X.P all S o ⟨ks,es,true,x⟩:=by
 intro S' V φ G a w H next R A5
 rw[ac1 (hw S' V φ G a w H)];have M:∀x∈o.op.operands.toList,S'.aw x=S.aw x:=λx M=>wg V M;have Aq:∀x∈args.toList,S'.aw x=S.aw x:=λx BU=>M x (by simp[Op.operands,Call.operands];grind);obtain⟨g,AP,AW,Aw,AB,Ai,_,AZ⟩:=qb h;have AZ:=AZ S'.mem (λk A'=>V.mem k A');have B3:S'.aw AA=(true,.fn g AP):=by rw[M AA (by simp[Y,Op.operands,Call.operands])];grind
 have B4:fi A1 S'.mem (keyOf o) (ri g) (kN g (ef S' args.toList) AP) (X.fp (ri g)).AF=some ⟨.ret x,AW,ks⟩:=by
  rw[AR Aq];exact Jd V.keys Ai (λk A'=>V.mem k A')
 refine zP A6 Y B3 rfl (by rw[zR Aq];grind) B4 (V.gl.trans A2) H (λAg Az φ' w' v AD AK AL=>?_) (λt Ag Az=>by grind);cases Az;rw[AZ]at AD AK AL;exact A5 φ' _ w' (AD.put o.dst (λt AM=>by rw[V.n];grind) true x v (λ_=>AL)) (by simp[bC.app,ib];grind)
theorem Pa{all:List Oper}{S1:St}{p:bC}(A6:mi X A1)(A2:S.gl=X.gl)(I:∀t,o.dst=some t->t<S.n){r:ep}(A7:ee X.P S o=r)(h:gw X A1 S o r=some (S1,p))
 (hw:∀(ks:List Nat) S',nE all o ks S' S->∀φ G a w,Rel φ G S' a w->Region.wanted o (yielded all.toArray a.tmps)=true):S1=p.app o S/\(∀e∈p.es,e.key∈p.ks)/\nF X.P all S o p:=by
 cases r with
 |val c x=>
  simp only[gw]at h;split at h
  .rename_i AB;cases h;exact⟨rfl,by simp,L6 I A7 AB (hw _)⟩
  grind
 |dU c x Ac=>
  simp only[gw]at h;split at h
  .cases h;exact⟨rfl,by grind,XF I A7 (by grind) (hw _)⟩
  grind
 |no=>
  simp[gw,oN]at h;split at h
  .rename_i AA args AX Y;cases AY:dw X A1 S o args.toList (S.aw AA)with
   |none=>rw[AY]at h;cases h
   |some res=>
    rw[AY]at h;obtain⟨out,es,ks⟩:=res;cases out with
    |panic=>cases h
    |ret x=>
     cases h;refine⟨rfl,?_,Vk A6 A2 I Y AY (hw _)⟩;obtain⟨_,_,_,_,_,_,A',_⟩:=qb AY;exact A'
  grind
theorem jL.refl(S:St):jL S S:=⟨rfl,rfl,rfl,λ_=>rfl⟩
theorem jL.symm{S S':St}(h:jL S S'):jL S' S:=⟨h.n.symm,h.gl.symm,h.mem.symm,λt=>(h.env t).symm⟩
theorem jL.trans{S S' Av:St}(h:jL S S')(k:jL S' Av):jL S Av:=⟨h.n.trans k.n,h.gl.trans k.gl,h.mem.trans k.mem,λt=>(h.env t).trans (k.env t)⟩
theorem jL.app{S S':St}(h:jL S S')(p:bC)(o:Oper):jL (p.app o S) (p.app o S'):=
 ⟨by rw[zJ,zJ,h.n],by rw[vY,vY,h.gl],by simp[bC.app,ib,h.mem],λt=>by rw[yD,yD,h.env]⟩
theorem nE.eqv{all:List Oper}{ks:List Nat}{S' S S0:St}(h:nE all o ks S' S)(he:jL S S0):nE all o ks S' S0:=
 ⟨h.n.trans he.n,h.gl.trans he.gl,by rw[h.keys,he.mem],λt AM=>(h.env t AM).trans (he.env t),λk A'=>by rw[h.mem k A',he.mem]⟩
theorem nF.eqv{P:Program}{all:List Oper}{S S0:St}{p:bC}(h:nF P all S o p)(he:jL S S0):nF P all S0 o p:=λS' V=>h S' (V.eqv he.symm)
theorem xF.eqv{P:Program}{Ad:Mem->Prop}{all:List Oper}{S S0:St}{p:bC}(h:xF P Ad all S o p)(he:jL S S0):xF P Ad all S0 o p:=λS' V=>h S' (V.eqv he.symm)
theorem HG{P:Program}{Ad:Mem->Prop}{all ops:List Oper}{S S1:St}{ps:List bC}(h:Cert P Ad all ops S ps S1):∀{S0:St},jL S S0->∃AH,Cert P Ad all ops S0 ps AH/\jL S1 AH:=by
 induction h with
 |nil S=>exact λhe=>⟨_,.nil _,he⟩
 |cons o rest S p ps S1 A' Ak h H ih=>
  intro S0 he;obtain⟨AH,U,AG⟩:=ih (he.app p o);exact⟨AH,.cons o rest S0 p ps AH A' Ak (h.eqv he) U,AG⟩
theorem XH{all:List Oper}{S:St}{j:Nat}{t b:Bool}(A9:s8 all S j=some (true,.d (.bool t)))(AQ:t=b):jL (S.cz (oM all j) b) S:=
 ⟨HE ..,FR ..,Jg ..,λu=>adm A9 AQ u⟩
theorem EK{md:Bool}{all:List Oper}{S1:St}{p:bC}(A6:mi X A1)(A2:S.gl=X.gl)(I:∀t,o.dst=some t->t<S.n)(h:fF X A1 md all S o=some (S1,p)):jL S1 (p.app o S)/\(∀e∈p.es,e.key∈p.ks)/\nF X.P all S o p:=by
 have yes:∀{r:ep},ee X.P S o=r->gw X A1 S o r=some (S1,p)->(∀(ks:List Nat) S',nE all o ks S' S->∀φ G a w,Rel φ G S' a w->Region.wanted o (yielded all.toArray a.tmps)=true)->jL S1 (p.app o S)/\(∀e∈p.es,e.key∈p.ks)/\nF X.P all S o p:=by
  intro r A7 h hw;obtain⟨J,U,AG⟩:=Pa A6 A2 I A7 h hw;exact⟨by rw[J];exact jL.refl _,U,AG⟩
 unfold fF at h;split at h
 .rename_i O;exact yes rfl h (λ_ _ _ _ _ _ _ _=>by simp[Region.wanted,O])
 .rename_i j AE O;split at h
  .rename_i t A9;replace A9:=OS A9;have hw:∀(ks:List Nat) S',nE all o ks S' S->∀φ G a w,Rel φ G S' a w->Region.wanted o (yielded all.toArray a.tmps)=(t == AE):=
    λks S' V φ G a w H=>L4 O (by rw[L5 V O];grind) H
   have other:∀{r:ep},ee X.P S o=r->(if (t == AE)=true then gw X A1 S o r else some (S.put o.dst true .bH,⟨[],[],true,.bH⟩))=some (S1,p)->jL S1 (p.app o S)/\(∀e∈p.es,e.key∈p.ks)/\nF X.P all S o p:=by
    intro r A7 h;split at h
    .grind
    .cases h;exact⟨jL.refl _,by simp,xJ I (λ_=>.inl rfl) (λS' V φ G a w H=>by grind)⟩
   cases md with
   |true=>
    simp only at h;split at h
    .rename_i AQ;have Ah:t=AE:=by grind
     have he:=XH A9 Ah;obtain⟨J,U,AG⟩:=Pa (S:=S.cz (oM all j) AE) A6 (by rw[FR];grind) (λt AM=>by rw[HE];grind) rfl h
      (λks S' V φ G a w H=>by rw[hw ks S' (V.eqv he) φ G a w H];exact AQ)
     exact⟨by rw[J];exact he.app p o,U,AG.eqv he⟩
    .have Ah:t=!AE:=by cases t<;>cases AE<;>simp_all
     cases h;have he:=XH A9 Ah;exact⟨he.app ⟨[],[],true,.bq []⟩ o,by simp,xJ I (λ_=>.inr rfl) (λS' V φ G a w H=>by grind)⟩
   |false=>
   simp only at h;unfold we at h;split at h
   .rename_i c x A7;split at h
    .rename_i A8;cases h;refine⟨jL.refl _,by simp,?_⟩;cases AQ:(t == AE)
     .exact xJ I (by simp) (λS' V φ G a w H=>by grind)
     .exact L6 I A7 (A8 AQ) (λS' V φ G a w H=>by grind)
    grind
   grind
  .rename_i A9;replace A9:=LY A9;cases h;exact⟨jL.refl _,by simp,xJ I (λ_=>.inr rfl) (λS' V φ G a w H=>by
    have:=Je H (by rw[L5 V O];grind);simp[Region.wanted];grind)⟩
  grind
inductive m7(T:Nat->St->Oper->bC->Prop):Nat->List Oper->St->List bC->Prop
 |nil (i S):m7 T i [] S []
 |cons (i o rest S p ps) (h:T i S o p) (H:m7 T (i+1) rest (p.app o S) ps):m7 T i (o::rest) S (p::ps)
theorem m7.eqv{T:Nat->St->Oper->bC->Prop}(Ar:∀i S S0 o p,jL S S0->T i S o p->T i S0 o p){i:Nat}{ops:List Oper}{S:St}{ps:List bC}(h:m7 T i ops S ps):∀{S0:St},jL S S0->m7 T i ops S0 ps:=by
 induction h with
 |nil i S=>exact λ_=>.nil _ _
 |cons i o rest S p ps h H ih=>exact λhe=>.cons _ _ _ _ _ _ (Ar _ _ _ _ _ he h) (ih (he.app p o))
theorem m7.mono{T BA:Nat->St->Oper->bC->Prop}{i:Nat}{ops:List Oper}{S:St}{ps:List bC}(h:m7 T i ops S ps):(∀k S o p,i<=k->T k S o p->BA k S o p)->m7 BA i ops S ps:=by
 induction h with
 |nil i S=>exact λ_=>.nil _ _
 |cons i o rest S p ps h H ih=>exact λA'=>.cons _ _ _ _ _ _ (A' _ _ _ _ (aar _) h) (ih λk S o p hi=>A' k S o p (by omega))
theorem m7.len{T:Nat->St->Oper->bC->Prop}{i:Nat}{ops:List Oper}{S:St}{ps:List bC}(h:m7 T i ops S ps):ps.length=ops.length:=by
 induction h with
 |nil i S=>rfl
 |cons i o rest S p ps h H ih=>grind
theorem m7.at{T:Nat->St->Oper->bC->Prop}{all:List Oper}{ps:List bC}{i:Nat}{rest:List Oper}{S0 S:St}{AS:List bC}(h:m7 T i rest S AS):∀(pre:List Oper)(pp:List bC),pre.length=i->pre.length=pp.length->all=pre++rest->ps=pp++AS->aS all ps S0 (List.range pre.length)=S->
 ∀j o p,pre.length<=j->all[j]?=some o->ps[j]?=some p->T j (aS all ps S0 (List.range j)) o p:=by
 induction h with
 |nil i S=>
  grind
 |cons i o rest S p AS Ar H ih=>
  intro pre pp hi A_ V Bn BV j BB BW AN BX BY;have Al:all[pre.length]?=some o:=by grind
  have BC:ps[pre.length]?=some p:=by simp_all
  rcases Nat.eq_or_lt_of_le AN with rfl|AN
  .grind
  .exact ih (pre++[o]) (pp++[p]) (by simp[hi]) (by simp[A_]) (by grind) (by grind) (by
    rw[acY,ahz,List.range_succ,wT,BV];simp[aS,Al,BC]) j BB BW (by grind) BX BY
theorem FK.eqv{P:Program}{all:List Oper}{S S0:St}{p:bC}{t:TypeId}{x:D}(h:FK P all S o p t x)(he:jL S S0):FK P all S0 o p t x:=λS' V=>h S' (V.eqv he.symm)
def TT(P:Program)(all:List Oper)(j:Nat)(Ae:List Nat)(t:TypeId)(x:D)(N:Nat)(S1:St)(i:Nat)(S:St)(o:Oper)(p:bC):Prop:=
 (∀e∈p.es,e.key∈p.ks)/\(i≠j->(i<j\/Ae.contains i=true)->nF P all S o p)/\(i=j->FK P all S o p t x/\S1.n=S.n/\S1.gl=S.gl/\S1.mem=m6 N (bV S.mem p.es))
theorem TT.eqv{P:Program}{all:List Oper}{j:Nat}{Ae:List Nat}{t:TypeId}{x:D}{N:Nat}{S1:St}(i:Nat)(S S0:St)(o:Oper)(p:bC)(he:jL S S0)(h:TT P all j Ae t x N S1 i S o p):TT P all j Ae t x N S1 i S0 o p:=
 ⟨h.1,λa b=>(h.2.1 a b).eqv he,λa=>⟨(h.2.2 a).1.eqv he,(h.2.2 a).2.1.trans he.n,(h.2.2 a).2.2.1.trans he.gl,by rw[<-he.mem];exact (h.2.2 a).2.2.2⟩⟩
theorem ahG{X:Ctx}:mi X (λ_ _ _=>none):=λg args cs out l h=>by cases h
theorem EM{md:Bool}{all:List Oper}{Ae:List Nat}:∀(ops:List Oper)(i:Nat)(S:St)(A0 AS:List bC),wU X md all Ae i ops S A0=some AS->S.gl=X.gl->mY S.n ops=true->
 ∃ps,AS=A0.reverse++ps/\m7 (λi S o p=>(∀e∈p.es,e.key∈p.ks)/\(Ae.contains i=true->nF X.P all S o p)) i ops S ps
 |[],i,S,A0,AS,h,A2,I=>by
  simp[wU]at h;exact⟨[],by simp[h],.nil _ _⟩
 |o::rest,i,S,A0,AS,h,A2,I=>by
  simp only[mY,ah7,Ds]at I;obtain⟨B1,I⟩:=I;have AU:∀t,o.dst=some t->t<S.n:=λt AM=>by grind
  simp only[wU]at h;cases AN:Ae.contains i with
  |true=>
   rw[AN]at h;cases O:fF X (λ_ _ _=>none) md all S o with
   |none=>grind
   |some q=>
    obtain⟨AH,p⟩:=q;rw[O]at h;obtain⟨heq,An,Aa⟩:=EK ahG A2 AU O;obtain⟨ps,J,U⟩:=EM rest (i+1) AH (p::A0) AS h (by rw[heq.gl,vY];grind) (by rw[heq.n,zJ];exact I);exact⟨p::ps,by grind,.cons _ _ _ _ _ _ ⟨An,λ_=>Aa⟩ (U.eqv (λ_ _ _ _ _ he h=>⟨h.1,λa=>(h.2 a).eqv he⟩) heq)⟩
  |false=>
   rw[AN]at h;obtain⟨ps,J,U⟩:=EM rest (i+1) (S.put o.dst false .bH) _ AS h (by rw[o7];grind) (by rw[pL];exact I);exact⟨⟨[],[],false,.bH⟩::ps,by grind,.cons _ _ _ _ _ _ ⟨by simp,λhh=>by grind⟩ U⟩
theorem L7{q:OT}(h:nW X A1 S o=some q):o.guard=none/\ee X.P S o=.no/\∃AA args AX,o.op=.call {callee:=.value AA,args,argTypes:=AX}/\dw X A1 S o args.toList (S.aw AA)=some ⟨.panic q.t q.x,q.es,q.ks⟩/\q.S={S with mem:=bV S.mem q.es}:=by
 unfold nW at h;split at h
 .unfold Hv at h;split at h
  .unfold OU at h;split at h
   .unfold AI at h;grind
   grind
  grind
 grind
theorem Pb{args:List Operand}{AA:Bool×AV}{out:Out}{es:List dn}{ks:List Nat}(AY:dw X A1 S o args AA=some ⟨out,es,ks⟩):∀e∈es,e.key∈ks:=by
 obtain⟨_,_,_,_,_,_,A',_⟩:=qb AY;exact A'
theorem Vm{all:List Oper}(A6:mi X A1)(A2:S.gl=X.gl){AA:Operand}{args:Array Operand}{AX:Array TypeId}(O:o.guard=none)(Y:o.op=.call {callee:=.value AA,args,argTypes:=AX})
 {t:TypeId} {x:D} {es:List dn} {ks:List Nat} (h:dw X A1 S o args.toList (S.aw AA)=some ⟨.panic t x,es,ks⟩):FK X.P all S o ⟨ks,es,true,.bH⟩ t x:=by
 intro S' V φ G a w H next R A5
 rw[ac1 (by simp[Region.wanted,O])];have M:∀x∈o.op.operands.toList,S'.aw x=S.aw x:=λx M=>wg V M;have Aq:∀x∈args.toList,S'.aw x=S.aw x:=λx BU=>M x (by simp[Op.operands,Call.operands];grind);obtain⟨g,AP,AW,Aw,AB,Ai,_,AZ⟩:=qb h;have AZ:=AZ S'.mem (λk A'=>V.mem k A');have B3:S'.aw AA=(true,.fn g AP):=by rw[M AA (by simp[Y,Op.operands,Call.operands])];grind
 have B4:fi A1 S'.mem (keyOf o) (ri g) (kN g (ef S' args.toList) AP) (X.fp (ri g)).AF=some ⟨.panic t x,AW,ks⟩:=by
  rw[AR Aq];exact Jd V.keys Ai (λk A'=>V.mem k A')
 refine zP A6 Y B3 rfl (by rw[zR Aq];grind) B4 (V.gl.trans A2) H (λAg Az=>by grind) (λBM Ag Az φ' w' v AD AK AL=>?_);grind
theorem GS{md:Bool}{AC:Nat×List (List Nat)}{all:List Oper}(A6:mi X A1):∀(ops:List Oper)(S:St)(A0:List bC)(e:XE)(S1:St),km X A1 md AC all ops S A0=some (e,S1)->S.gl=X.gl->mY S.n ops=true->
 (e=.normal/\∃ps AH,Cert X.P (λ_=>True) all ops S ps AH/\jL S1 AH/\p9 AC.2 (A0.reverse++ps)=true)\/
 (∃t x j ps,e=.panic t x/\A0.length<=j/\j<A0.length+ops.length/\m7 (TT X.P all j (AC.2.getD j []) t x (AC.1+ja (A0.reverse++ps)+1) S1) A0.length ops S ps/\p9 AC.2 (A0.reverse++ps)=true/\Es (A0.reverse++ps) (AC.2.getD j [])=true/\S1.env=[])
 |[],S,A0,e,S1,h,A2,I=>by
  simp only[km]at h;split at h
  .cases h;exact .inl ⟨rfl,[],S,.nil S,jL.refl _,by grind⟩
  grind
 |o::rest,S,A0,e,S1,h,A2,I=>by
  simp only[mY,ah7,Ds]at I;obtain⟨B1,I⟩:=I;have AU:∀t,o.dst=some t->t<S.n:=λt AM=>by grind
  simp[km]at h;cases AT:nW X A1 S o with
  |some q=>
   right;rw[AT]at h;simp only[rj,Vg]at h;obtain⟨O,A7,AA,args,AX,Y,A8,BD⟩:=L7 AT;obtain⟨Bo,t,x,es,ks⟩:=q;simp only at A8 BD h;subst BD;cases B5:wU X md all (AC.2.getD A0.length []) (A0.length+1) rest (({S with mem:=bV S.mem es}:St).put o.dst true .bH) (⟨ks,es,true,.bH⟩::A0)with
   |none=>rw[B5]at h;cases h
   |some AS=>
    rw[B5]at h;simp only[Vf]at h;split at h
    .rename_i B';simp at B';obtain⟨rfl,rfl⟩:XE.panic t x=e/\St.kill {S with mem:=bV S.mem es} (AC.1+ja AS+1)=S1:=by grind
     obtain⟨ps,rfl,BZ⟩:=EM rest (A0.length+1) _ _ _ B5 (by rw[o7];grind) (by rw[pL];exact I);have Al:(⟨ks,es,true,.bH⟩::A0:List bC).reverse++ps=A0.reverse++(⟨ks,es,true,.bH⟩::ps):=by simp
     rw[Al]at B'⊢;refine⟨t,x,A0.length,⟨ks,es,true,.bH⟩::ps,rfl,aar _,by simp,.cons _ _ _ _ _ _ ⟨Pb A8,λhh=>absurd rfl hh,λ_=>⟨Vm A6 A2 O Y A8,rfl,rfl,rfl⟩⟩ (BZ.mono λk S o p A' Ar=>?_),B'.1,B'.2,rfl⟩;exact⟨Ar.1,λ_ hh=>Ar.2 (hh.resolve_left (by omega)),λhh=>by omega⟩
    grind
  |none=>
   rw[AT]at h;simp[rj]at h;cases O:fF X A1 md all S o with
   |none=>rw[O]at h;cases h
   |some q=>
    obtain⟨AH,p⟩:=q;rw[O]at h;obtain⟨heq,An,Aa⟩:=EK A6 A2 AU O;rcases GS A6 rest AH (p::A0) e S1 h (by rw[heq.gl,vY];grind) (by rw[heq.n,zJ];exact I)with ⟨he,ps,B6,A8,B7,As⟩|⟨t,x,j,ps,he,B_,Ba,A8,As,BE,Bb⟩
    .left;obtain⟨Af,At,Au⟩:=HG A8 heq;exact⟨he,p::ps,Af,.cons o rest S p ps Af An (λ_ _=>trivial) Aa.toI At,B7.trans Au,by grind⟩
    .right;have Al:(p::A0).reverse++ps=A0.reverse++(p::ps):=by simp
     rw[Al]at As BE A8;simp at B_ Ba A8;exact⟨t,x,j,p::ps,he,by omega,by grind,.cons _ _ _ _ _ _ ⟨An,λ_ _=>Aa,λhh=>by omega⟩ (A8.eqv TT.eqv heq),As,BE,Bb⟩
def cellOf:Bool->aF->Nat->Option AV
 |false,.box cs,j=>cs[j]?
 |true,.vv aq (some x),j=>if aq.length=j then some x else none
 |_,_,_=>none
def wW(Z:List Cl)(m:Mem):Prop:=∀q∈Z,∃c,Mem.get m q.k=some ⟨q.k,q.v,c⟩/\cellOf q.vv c q.j=some q.x
theorem Vn{c:aF}{j:Nat}{x:AV}(h:cellOf false c j=some x):∃cs,c=.box cs/\cs[j]?=some x:=by
 cases c with
 |box cs=>exact⟨cs,rfl,h⟩
 |dead=>cases h
 |vec _ _=>cases h
 |vv _ _=>cases h
theorem XK{c:aF}{j:Nat}{x:AV}(h:cellOf true c j=some x):∃aq,c=.vv aq (some x)/\aq.length=j:=by
 cases c with
 |box cs=>cases h
 |dead=>cases h
 |vec _ _=>cases h
 |vv aq y=>
  cases y with
  |none=>cases h
  |some y=>
   simp[cellOf]at h;grind
theorem XL:∀{x y:AV},OV x y=true->x=y:=by
 intro x y h;unfold OV at h;grind
theorem CH{m:Mem}:∀{fl:List (Nat×Nat)}{Z:List Cl},gZ m fl=some Z->wW Z m
 |[],Z,h=>by simp[gZ]at h;exact λq A3=>by grind
 |(k,j)::r,Z,h=>by
  unfold gZ at h;split at h
  .rename_i key v cs l O A_;split at h
   .rename_i x M;cases h;have A':key=k:=(Mem.get_mem O).2;subst A';intro q A3;rcases ac4.1 A3 with rfl|A3
    .exact⟨.box cs,O,M⟩
    .exact CH A_ q A3
   grind
  .rename_i key v aq x l O A_;cases h;have A':key=k:=(Mem.get_mem O).2;subst A';intro q A3;rcases ac4.1 A3 with rfl|A3
   .exact⟨.vv aq (some x),O,by simp[cellOf]⟩
   .exact CH A_ q A3
  grind
theorem aa2{q:Cl}{v:Nat}{c:aF}(h:SF q v c=true):v=q.v/\cellOf q.vv c q.j=some q.x:=by
 unfold SF at h;split at h
 .simp at h;obtain⟨⟨J,U⟩,AG⟩:=h;refine⟨U,?_⟩;rw[J];simp[cellOf];unfold Xw at AG;split at AG
  .rename_i x M;rw[M,XL AG]
  grind
 .simp at h;obtain⟨⟨⟨J,U⟩,AG⟩,AO⟩:=h;refine⟨U,?_⟩;rw[J];simp[cellOf,AG,XL AO]
 grind
theorem Pd{e:dn}:∀{Z:List Cl},Hx e Z=true->∀q∈Z,e.key=q.k->∃c,e=⟨q.k,q.v,c⟩/\cellOf q.vv c q.j=some q.x
 |[],_,q,A3,_=>by grind
 |p::r,h,q,A3,A'=>by
  simp[Hx]at h;rcases ac4.1 A3 with rfl|A3
  .have J:=h.1;simp[A']at J;obtain⟨key,au,cont⟩:=e;obtain⟨rfl,U⟩:=aa2 J;grind
  .exact Pd h.2 q A3 A'
theorem L8{Z:List Cl}:∀{es:List dn},zM Z es=true->∀m,wW Z m->wW Z (bV m es)
 |[],_,m,hm=>hm
 |e::r,h,m,hm=>by
  simp[zM]at h;refine L8 h.2 _ (λq A3=>?_);obtain⟨cs,J,U⟩:=hm q A3;by_cases A':e.key=q.k
  .obtain⟨Bc,he,M⟩:=Pd h.1 q A3 A';refine⟨Bc,?_,M⟩;have Bd:e.key∈m.map (·.key):=by
    obtain⟨AG,AO⟩:=Mem.get_mem J;grind
   rw[<-A',Mem.sV Bd,he]
  .exact⟨cs,by rw[Mem.sW A'];exact J,U⟩
theorem EN{b:Bool}{k v j:Nat}{x:AV}:∀{Z:List Cl},xG b k v j Z=some x->∃q∈Z,q.vv=b/\q.k=k/\q.v=v/\q.j=j/\q.x=x
 |[],h=>by simp[xG]at h
 |q::r,h=>by
  unfold xG at h;split at h
  .grind
  .obtain⟨Be,J,U⟩:=EN h;grind
theorem CI{b:Bool}{k v:Nat}:∀{Z:List Cl},AJ b k v Z=true->∃q∈Z,q.vv=b/\q.k=k/\q.v=v
 |[],h=>by simp[AJ]at h
 |q::r,h=>by
  unfold AJ at h;split at h
  .grind
  .obtain⟨Be,J,U⟩:=CI h;grind
theorem KJ{Z:List Cl}{m:Mem}(hm:wW Z m){q:Cl}(A3:q∈Z)(AL:q.vv=false):∃cs,Mem.get m q.k=some ⟨q.k,q.v,.box cs⟩/\cs[q.j]?=some q.x:=by
 obtain⟨c,J,U⟩:=hm q A3;rw[AL]at U;obtain⟨cs,rfl,AG⟩:=Vn U;grind
theorem XM{Z:List Cl}{m:Mem}(hm:wW Z m){q:Cl}(A3:q∈Z)(AL:q.vv=true):∃aq,Mem.get m q.k=some ⟨q.k,q.v,.vv aq (some q.x)⟩/\aq.length=q.j:=by
 obtain⟨c,J,U⟩:=hm q A3;rw[AL]at U;obtain⟨cs,rfl,AG⟩:=XK U;grind
theorem aa3{P:Program}{Z:List Cl}{S:St}{x:AV}(h:xH P Z S o.op=some x)(hm:wW Z S.mem):∃c,ee P S o=.val c x/\(jC S o&&c)=true:=by
 unfold xH at h;split at h
 .rename_i t y Y;unfold I5 at h;split at h
  .rename_i k v off heq;split at h
   .obtain⟨q,A3,Ab,rfl,rfl,rfl,rfl⟩:=EN h;obtain⟨cs,J,U⟩:=KJ hm A3 Ab;refine⟨true,?_,by simp[jC,Y,kY,Op.operands,heq]⟩;unfold ee;simp[pG];grind
   grind
  .rename_i k v i j heq;split at h
   .rename_i Bp Bq AN;obtain⟨q,A3,Ab,rfl,rfl,rfl,rfl⟩:=EN h;obtain⟨aq,J,U⟩:=XM hm A3 Ab;refine⟨true,?_,by simp[jC,Y,kY,Op.operands,heq]⟩;unfold ee;simp[pG];grind
   grind
  grind
 .rename_i s y f Y;unfold I6 at h;split at h
  .rename_i n k v off A5 heq;split at h
   .rename_i A8;cases h;obtain⟨q,A3,Ab,rfl,rfl⟩:=CI A8;obtain⟨cs,J,U⟩:=KJ hm A3 Ab;refine⟨true,?_,by simp[jC,Y,kY,Op.operands,heq]⟩;unfold ee;rw[Y];simp[heq,sy,A5,J]
   grind
  grind
 .rename_i y Y;unfold I7 at h;split at h
  .rename_i k v off heq;split at h
   .rename_i A8;cases h;obtain⟨q,A3,Ab,rfl,rfl⟩:=CI A8;obtain⟨cs,J,U⟩:=KJ hm A3 Ab;refine⟨true,?_,by simp[jC,Y,kY,Op.operands,heq]⟩;unfold ee;rw[Y];simp[heq,lN,J]
   grind
  grind
 .rename_i t y z Y;unfold I8 at h;split at h
  .rename_i e k v off len Br n Bf heq BF;split at h
   .rename_i BG A8 BH BI;cases h;simp at BG BH BI;obtain⟨q,A3,Ab,rfl,rfl⟩:=CI A8;obtain⟨aq,J,U⟩:=XM hm A3 Ab;refine⟨true,?_,by simp[jC,Y,kY,Op.operands,heq,BF]⟩;unfold ee;rw[Y];simp[heq,BF,pV,Bf,BG,J,BH,BI]
   grind
  grind
 grind
theorem XN{P:Program}{Z:List Cl}{S' S:St}(h:∀x∈o.op.operands.toList,S'.aw x=S.aw x):xH P Z S' o.op=xH P Z S o.op:=by
 unfold xH;split
 .rename_i t y Y;rw[h y (by simp[Y,Op.operands])]
 .rename_i s y f Y;rw[h y (by simp[Y,Op.operands])]
 .rename_i y Y;rw[h y (by simp[Y,Op.operands])]
 .rename_i t y z Y;rw[h y (by simp[Y,Op.operands]),h z (by simp[Y,Op.operands])]
 .rfl
theorem Vo{all:List Oper}{Z:List Cl}{x:AV}(I:∀t,o.dst=some t->t<S.n)(h:tB X.P Z S o=some x):xF X.P (wW Z) all S o ⟨[],[],true,x⟩:=by
 intro S' V Ak φ G a w H next R A5
 unfold tB at h;split at h
 .rename_i O;rw[ac1 (by simp[Region.wanted,O])];have M:∀x∈o.op.operands.toList,S'.aw x=S.aw x:=λx M=>wg V M;obtain⟨c,Ap,AB⟩:=aa3 (by rw[XN M];exact h) Ak;obtain⟨_,_,_,AO⟩:=FO (gb:=true) Ap AB (λt AM=>by rw[V.n];grind);exact AO φ G a w H next R (λ_ φ' A4 w' AD AK=>A5 φ' A4 w' AD AK) (λt x he=>by cases he)
 grind
theorem RZ{l:List Nat}{r:List Oper}(h:qa l r=true):l=[]/\r=[]:=by
 cases l<;>cases r<;>simp_all [qa]
theorem aa4{all:List Oper}{AC:List (List Nat)}{ps:List bC}(A7:Hs all AC=true)(A_:ps.length+1=all.length)(A5:AC.getD (all.length-1) []=[])(I:p9 AC ps=true):tf all (ps++[LW])=true:=by
 refine adp.2 λj AN=>?_;have J:=adp.1 A7 j AN;have Bs:j<all.length:=aej.1 AN;unfold Eo at J;unfold Ny;have Bg:(ps++[LW])[j]?=some ((ps++[LW])[j]'(by grind)):=by grind
 rw[Bg];cases Y:all[j]? with
 |none=>grind
 |some o=>
  rw[Y]at J;simp at J⊢;refine⟨J.1,λi hi=>?_⟩;by_cases Bt:j+1=all.length
  .grind
  .rcases J.2 i hi with U|U
   .grind
   .have BJ:j<ps.length:=by omega
    cases Bh:all[i]? with
    |none=>grind
    |some BB=>
     rw[Bh]at U;simp at U;simp[El];have Al:=Cy (uN I i _ (ado (show i<ps.length by omega))) j (by grind) _ (ado BJ);have BC:=Cy (uN I j _ (ado BJ)) i (by grind) _ (ado (show i<ps.length by omega));have Bi:=U.1;simp[Hr]at Bi;grind
def XO(P:Program)(Ad:Mem->Prop)(AC:List (List Nat))(all ops:List Oper)(S:St)(A0:List bC)(e:XE)(S1:St):Prop:=
 (e=.normal/\∃ps AH,Cert P Ad all ops S ps AH/\jL S1 AH/\p9 AC (A0.reverse++ps)=true)\/
  (∃init ol ps AH,ops=init++[ol]/\Cert P Ad all init S ps AH/\AC.getD (all.length-1) []=[]/\p9 AC (A0.reverse++ps)=true/\EH P all AH ol e S1)
theorem EH.eqv{P:Program}{all:List Oper}{S S0 S1:St}{e:XE}(h:EH P all S o e S1)(he:jL S S0):EH P all S0 o e S1:=by
 obtain⟨J,U,AG,AO⟩:=h;refine⟨J.trans he.n,U.trans he.gl,AG,λφ G a w H next R A5 AT=>?_⟩;have:=AO φ G a w (H.eqv he.symm) next R
 rw[he.mem]at this;grind
theorem L9{md:Bool}{AC:List (List Nat)}{Z:List Cl}{all:List Oper}(A6:mi X A1):∀(ops:List Oper)(S:St)(A0:List bC)(e:XE)(S1:St),A0.length+ops.length=all.length->rk X A1 md AC Z all ops S A0=some (e,S1)->S.gl=X.gl->mY S.n ops=true->
 XO X.P (wW Z) AC all ops S A0 e S1
 |[],S,A0,e,S1,_,h,A2,I=>by
  simp only[rk]at h;split at h
  .cases h;exact .inl ⟨rfl,[],S,.nil S,jL.refl _,by grind⟩
  grind
 |o::rest,S,A0,e,S1,Bu,h,A2,I=>by
  simp only[mY,ah7,Ds]at I;obtain⟨B1,I⟩:=I;have AU:∀t,o.dst=some t->t<S.n:=λt AM=>by grind
  simp only[rk]at h;cases B8:qa (AC.getD A0.length []) rest with
  |true=>
   rw[B8]at h;simp only[OW]at h;obtain⟨Bv,rfl⟩:=RZ B8;split at h
   .right;refine⟨[],o,[],S,rfl,.nil S,?_,by grind,?_⟩
    .grind
    .rcases jO h with ⟨B6,J,U⟩|⟨J,U⟩
     .cases U;exact yM A6 A2 AU J
     .exact yM A6 A2 AU J
   grind
  |false=>
  rw[B8]at h;have glue:∀(p:bC)(S':St),(∀e∈p.es,e.key∈p.ks)->(∀m,wW Z m->wW Z (bV m p.es))->xF X.P (wW Z) all S o p->jL S' (p.app o S)->rk X A1 md AC Z all rest S' (p::A0)=some (e,S1)->XO X.P (wW Z) AC all (o::rest) S A0 e S1:=by
   intro p S' A' Ak Aa heq B0;rcases L9 A6 rest S' (p::A0) e S1 (by grind) B0 (by rw[heq.gl,vY];grind) (by rw[heq.n,zJ];exact I)with ⟨he,ps,B6,A8,B7,As⟩|⟨init,ol,ps,B6,H,A8,A5,As,Bj⟩
   .obtain⟨Af,At,Au⟩:=HG A8 heq;exact .inl ⟨he,p::ps,Af,.cons o rest S p ps Af A' Ak Aa At,B7.trans Au,by grind⟩
   .obtain⟨Af,At,Au⟩:=HG A8 heq;exact .inr ⟨o::init,ol,p::ps,Af,by grind,.cons o init S p ps Af A' Ak Aa At,A5,by grind,Bj.eqv Au⟩
  cases A_:tB X.P Z S o with
  |some x=>
   rw[A_]at h;exact glue ⟨[],[],true,x⟩ _ (by simp) (λ_ h=>h) (Vo (X:=X) (all:=all) AU A_) (jL.refl _) h
  |none=>
   rw[A_]at h;simp[tC]at h;cases O:fF X A1 md all S o with
   |none=>rw[O]at h;cases h
   |some q=>
    obtain⟨AH,p⟩:=q;rw[O]at h;simp[KC]at h;split at h
    .rename_i hinv;obtain⟨heq,An,Aa⟩:=EK A6 A2 AU O;exact glue p AH An (L8 hinv) Aa.toI heq h
    .cases h
end
def bK.aa5{φ:cC}{G:Fr}{m:Mem}{w:World}(h:bK φ G m w){I J e1' e2':dn}(A7:I∈m)(A8:J∈m)(AO:I.key≠J.key){A' A0 L1' L2':Loc}(A9:φ I.key=some A')(AA:φ J.key=some A0)
 (A3:e1'.key=I.key) (A4:e2'.key=J.key) (AP:A'.au<=L1'.au) (AQ:A0.au<=L2'.au) (AR:L1'.au=A'.au->L1'={A' with eE:=L1'.eE}) (AS:L2'.au=A0.au->L2'={A0 with eE:=L2'.eE})
 (AT:L1'.au=e1'.au) (AU:L2'.au=e2'.au) (AB:∀b,e1'.cont.dN L1' b->I.cont.dN A' b\/J.cont.dN A0 b) (AC:∀b,e2'.cont.dN L2' b->I.cont.dN A' b\/J.cont.dN A0 b)
 (AJ:∀b,e1'.cont.dN L1' b->e2'.cont.dN L2' b->False)
 (AV:∀(φ':cC)(F':Nat->Prop),φ.le φ'->φ' I.key=some L1'->φ' J.key=some L2'->(∀b,F' b->Fo G φ m b)->fB φ' w F' L1' e1'.cont/\fB φ' w F' L2' e2'.cont):
 ∃φ',bK φ' G (Mem.set (Mem.set m e1') e2') w/\bn φ m w φ' (Mem.set (Mem.set m e1') e2') w:=by
 obtain⟨m',AD⟩:∃m',m'=Mem.set (Mem.set m e1') e2':=⟨_,rfl⟩;rw[<-AD];have AW:((Mem.set m e1').map (·.key)).Nodup:=by rw[Mem.jH];exact h.nodup
 have AK:m'.map (·.key)=m.map (·.key):=by rw[AD,Mem.jH,Mem.jH]
 have A5:∀y,y∈m'->y=e2'\/y=e1'\/(y∈m/\y.key≠I.key/\y.key≠J.key):=by
  intro y Y;rw[AD]at Y;rcases (Mem.mem_set AW).1 Y with ⟨D,_⟩|⟨D,M⟩
  .exact .inl D
  .rcases (Mem.mem_set h.nodup).1 D with ⟨D,_⟩|⟨D,Z⟩
   .exact .inr (.inl D)
   .exact .inr (.inr ⟨D,by rw[<-A3];exact Z,by rw[<-A4];exact M⟩)
 obtain⟨φ',AE⟩:∃φ':cC,φ'=λj=>if j=I.key then some L1' else if j=J.key then some L2' else φ j:=⟨_,rfl⟩
 have f1:φ' I.key=some L1':=by simp[AE]
 have f2:φ' J.key=some L2':=by simp[AE,show ¬J.key=I.key from λh=>AO h.symm]
 have f3:∀j,j≠I.key->j≠J.key->φ' j=φ j:=λj D M=>by simp[AE,D,M]
 have hle:φ.le φ':=by
  intro j AF A1;by_cases D:j=I.key
  .subst D;rw[A9]at A1;cases A1;exact⟨_,f1,AP,AR⟩
  .by_cases M:j=J.key
   .subst M;rw[AA]at A1;cases A1;exact⟨_,f2,AQ,AS⟩
   .exact⟨AF,by rw[f3 j D M];exact A1,aar _,λ_=>rfl⟩
 have AL:∀b,I.cont.dN A' b\/J.cont.dN A0 b->kV φ m b:=λb O=>O.elim (λO=>⟨I,A7,A',A9,O⟩) (λO=>⟨J,A8,A0,AA,O⟩);have AG:∀b,kV φ' m' b->kV φ m b:=by
  rintro b ⟨y,Y,V,H,T⟩;rcases A5 y Y with rfl|rfl|⟨D,M,Z⟩
  .rw[A4,f2]at H;cases H;exact AL b (AC b T)
  .rw[A3,f1]at H;cases H;exact AL b (AB b T)
  .rw[f3 _ M Z]at H;exact⟨y,D,V,H,T⟩
 have AM:∀b,Fo G φ' m' b->Fo G φ m b:=λb=>Or.imp id (AG b);have AN:=AV φ' (Fo G φ' m') hle f1 f2 AM;have A6:∀y∈m,y.key≠I.key->y.key≠J.key->∀V,φ y.key=some V->∀b,y.cont.dN V b->I.cont.dN A' b\/J.cont.dN A0 b->False:=by
  intro y Y M Z V H b T O;rcases O with O|O
  .exact M (h.apart y Y I A7 V A' H A9 ⟨b,T,O⟩)
  .exact Z (h.apart y Y J A8 V A0 H AA ⟨b,T,O⟩)
 refine⟨φ',⟨by rw[AK];exact h.nodup,?_,?_,?_,λb O=>h.nJ b (AG b O),h.bound⟩,⟨hle,λ_ _ _=>rfl,λb _ O=>AG b O,aar _,rfl,rfl,rfl⟩⟩
 .intro j AF A1;rw[AK];by_cases D:j=I.key
  .subst D;exact adP A7
  .by_cases M:j=J.key
   .subst M;exact adP A8
   .rw[f3 j D M]at A1;exact h.ud j AF A1
 .intro y Y;rcases A5 y Y with rfl|rfl|⟨D,M,Z⟩
  .exact⟨L2',by rw[A4];exact f2,AU,AN.2⟩
  .exact⟨L1',by rw[A3];exact f1,AT,AN.1⟩
  .obtain⟨V,H,AX,AY⟩:=h.gZ y D;exact⟨V,by rw[f3 _ M Z];exact H,AX,AY.mono hle (λ_ _ _=>rfl) (aar _) (λb _=>AM b) (λ_ _=>rfl)⟩
 .rintro y Y z AH V AI H U ⟨b,T,A2⟩;rcases A5 y Y with rfl|rfl|⟨D,M,Z⟩
  .rw[A4,f2]at H;cases H;rcases A5 z AH with rfl|rfl|⟨g1,g2,g3⟩
   .rfl
   .rw[A3,f1]at U;cases U;exact (AJ b A2 T).elim
   .rw[f3 _ g2 g3]at U;exact (A6 z g1 g2 g3 AI U b A2 (AC b T)).elim
  .rw[A3,f1]at H;cases H;rcases A5 z AH with rfl|rfl|⟨g1,g2,g3⟩
   .rw[A4,f2]at U;cases U;exact (AJ b T A2).elim
   .rfl
   .rw[f3 _ g2 g3]at U;exact (A6 z g1 g2 g3 AI U b A2 (AB b T)).elim
  .rw[f3 _ M Z]at H;rcases A5 z AH with rfl|rfl|⟨g1,g2,g3⟩
   .rw[A4,f2]at U;cases U;exact (A6 y D M Z V H b T (AC b A2)).elim
   .rw[A3,f1]at U;cases U;exact (A6 y D M Z V H b T (AB b A2)).elim
   .rw[f3 _ g2 g3]at U;exact h.apart y D z g1 V AI H U ⟨b,T,A2⟩
def Vp(S:St)(Ae j k sz:Nat):fE S (S.qG Ae j k sz):=by
 unfold St.qG;split
 .rename_i key Ay cs T v cont Bt A';split
  .rename_i AA;split
   .exact fE.refl S
   .refine⟨rfl,rfl,λφ G a w H=>?_⟩;obtain⟨hm,A7,L,A5,AN,AW⟩:=H.mem.get A';subst A7;obtain⟨BM,AX,CN,D9,DA⟩:=H.mem.dU (e':=⟨T,v+1,.vec sz []⟩) hm A5 rfl (L':=⟨v+1,0,sz,0,0,[]⟩) (by grind) (λhh=>by grind) rfl
     (w':=w) (λ_ _ _=>rfl) (aar _) (λ_ A8=>absurd A8.1 (by simp)) rfl rfl rfl (λφ' Aj BN=>⟨rfl,by simp,by simp,λO=>by grind⟩)
    have CO:Mem.get (Mem.set S.mem ⟨T,v+1,.vec sz []⟩) Ae=some ⟨key,Ay,.box cs⟩:=by
     rw[Mem.sW (by grind)];grind
    obtain⟨B9,BO,Az,BA,BP,BQ⟩:=AX.get CO;subst BO;obtain⟨AH,Ak,AE,DB,DC⟩:=AX.dU (e':=⟨key,Ay,.box (cs.set j (.vec T (v+1) 0 0))⟩) B9 BA rfl (L':=Az) (aar _) (λ_=>rfl) BP
     (w':=w) (λ_ _ _=>rfl) (aar _) (λ_ A8=>.inl A8) rfl rfl rfl (λφ' Aj BN=>by
      obtain⟨g0,arr,elem,g1,g2,g3,g4⟩:=BQ;have CP:∀b,Fo G φ' (Mem.set (Mem.set S.mem ⟨T,v+1,.vec sz []⟩) ⟨key,Ay,.box (cs.set j (.vec T (v+1) 0 0))⟩) b->Fo G BM (Mem.set S.mem ⟨T,v+1,.vec sz []⟩) b:=by
       rintro b (h|⟨x,AO,BR,AY,B'⟩)
       .exact .inl h
       .right;rcases (Mem.mem_set AX.nodup).1 AO with ⟨rfl,_⟩|⟨BS,BT⟩
        .simp[Aj]at AY;cases AY;exact⟨_,B9,Az,BA,B'⟩
        .simp[Aj,BT]at AY;exact⟨x,BS,BR,AY,B'⟩
      refine⟨by grind,arr,elem,g1,by grind,g3,λi c u O hu=>?_⟩;rw[ai9]at O;split at O
      .rename_i Al;subst Al;split at O
       .cases O;have:=g4 j _ u AA hu;cases this;refine .vec T (v+1) 0 0 _ ⟨v+1,0,sz,0,0,[]⟩ ?_ (aar _) (λ_=>⟨_,_,rfl,by simp,λh=>by omega⟩) rfl;grind
       grind
      .exact (g4 i c u O hu).mono BN (λ_ _ _=>rfl) (aar _) (λb _=>CP b))
    have Bw:=CN.trans AE;exact⟨AH,H.DW Ak Bw,Bw⟩
  .exact fE.refl S
 .exact fE.refl S
def EO(AI:AV->AV):∀m:Mem,(yI AI m).map (·.key)=m.map (·.key)
 |[]=>rfl
 |e::r=>by simp[yI,EO AI r]
def Pf{AI:AV->AV}:∀{m:Mem}{x:dn},x∈yI AI m↔∃e∈m,x=⟨e.key,e.au,uH AI e.cont⟩
 |[],x=>by simp[yI]
 |e::r,x=>by simp[yI,Pf (m:=r)]
def Vs(S:St)(k AP:Nat):fE S (S.Cz k AP):=by
 unfold St.Cz;split
 .rename_i key v sz aq T v2 cont A' AZ;split
  .exact fE.refl S
  .refine⟨rfl,rfl,λφ G a w H=>?_⟩;obtain⟨hm,A7,L,A5,AN,AW⟩:=H.mem.get A';obtain⟨Ak,AE,AR,Ar,BU,_⟩:=H.mem.get AZ;subst A7;subst AE;obtain⟨AI,Bx⟩:∃AI,AI=KD key v T (v2+1):=⟨_,rfl⟩;rw[<-Bx];obtain⟨BB,AX⟩:∃BB,BB=Mem.set (yI AI S.mem) ⟨key,v+1,.dead⟩:=⟨_,rfl⟩;have CQ:((yI AI S.mem).map (·.key)).Nodup:=by rw[EO];exact H.mem.nodup
   have AC:(BB.map (·.key)).Nodup:=by rw[AX,Mem.jH];grind
   obtain⟨m',AQ⟩:∃m',m'=Mem.set BB ⟨T,v2+1,.vec sz aq⟩:=⟨_,rfl⟩;rw[<-AX,<-AQ];have BC:m'.map (·.key)=S.mem.map (·.key):=by rw[AQ,Mem.jH,AX,Mem.jH,EO]
   have B0:∀y,y∈m'->y=⟨T,v2+1,.vec sz aq⟩\/y=⟨key,v+1,.dead⟩\/(∃z∈S.mem,y=⟨z.key,z.au,uH AI z.cont⟩/\z.key≠key/\z.key≠T):=by
    intro y AF;rw[AQ]at AF;rcases (Mem.mem_set AC).1 AF with ⟨h,_⟩|⟨h,M⟩
    .grind
    .rw[AX]at h;rcases (Mem.mem_set CQ).1 h with ⟨h,_⟩|⟨h,U⟩
     .grind
     .obtain⟨z,BV,rfl⟩:=Pf.1 h;grind
   obtain⟨φ',Aj⟩:∃φ':cC,φ'=λj=>if j=key then some {L with au:=v+1} else if j=T then some {L with au:=v2+1} else φ j:=⟨_,rfl⟩
   have f1:φ' key=some {L with au:=v+1}:=by grind
   have f2:φ' T=some {L with au:=v2+1}:=by grind
   have f3:∀j,j≠key->j≠T->φ' j=φ j:=λj J M=>by grind
   have hle:φ.le φ':=by
    intro j By AG;grind
   have BW:∀b,kV φ' m' b->kV φ S.mem b:=by
    rintro b ⟨y,AF,As,AJ,Af⟩;rcases B0 y AF with rfl|rfl|⟨An,J,rfl,M,U⟩
    .rw[f2]at AJ;cases AJ;exact⟨_,hm,L,A5,Af⟩
    .exact Af.elim
    .rw[f3 _ M U]at AJ;exact⟨An,J,As,AJ,oh.1 Af⟩
   have A0:∀b,Fo G φ' m' b->Fo G φ S.mem b:=λb=>Or.imp id (BW b);have B1:∀x u,aG φ w (Fo G φ S.mem) x u->aG φ' w (Fo G φ' m') (AI x) u:=by
    intro y u AG;have DD:=AG.mono (φ':=φ') (F':=Fo G φ' m') hle (λ_ _ _=>rfl) (aar _) (λb _=>A0 b);rw[Bx];unfold KD;split
    .rename_i DE v0 o l;split
     .rename_i hh;obtain⟨rfl,rfl⟩:=hh;cases AG with
      |vec _ _ _ _ _ L' Ag _ h J=>
       rw[A5]at Ag;cases Ag;exact .vec T (v2+1) o l _ _ f2 (aar _) (λ_=>h AN.symm) J
     grind
    grind
   refine⟨φ',⟨H.size,H.defers,?_,⟨?_,?_,?_,?_,?_,?_⟩,H.nK.mono (λ_ _ _=>rfl) (aar _) (λb _=>A0 b)⟩,OI BW hle⟩
   .intro t x AO;obtain⟨y,AF,rfl⟩:=Eg _ S.env t true x AO;exact B1 _ _ (H.env t y AF)
   .rw[BC];exact H.mem.nodup
   .intro j By AG;rw[BC];by_cases J:j=key
    .grind
    .by_cases M:j=T
     .grind
     .rw[f3 j J M]at AG;exact H.mem.ud j By AG
   .intro y AF;rcases B0 y AF with rfl|rfl|⟨An,J,rfl,M,U⟩
    .refine⟨_,f2,rfl,?_⟩;have:=AW.mono (φ':=φ') (F':=Fo G φ' m') hle (λ_ _ _=>rfl) (aar _) (λb _=>A0 b) (λ_ _=>rfl);exact this
    .exact⟨_,f1,rfl,trivial⟩
    .obtain⟨As,AJ,CS,At⟩:=H.mem.gZ An J;refine⟨As,by grind,CS,?_⟩;cases BX:An.cont with
     |dead=>trivial
     |box cs=>
      rw[BX]at At;obtain⟨g0,arr,elem,g1,g2,g3,g4⟩:=At;refine⟨by grind,arr,elem,g1,by grind,g3,λi c u DF hu=>?_⟩;grind
     |vec DG CT=>
      rw[BX]at At;exact At.mono hle (λ_ _ _=>rfl) (aar _) (λb _=>A0 b) (λ_ _=>rfl)
     |vv CT DH=>
      rw[BX]at At;exact nI.mono AI At (λ_ _ _ _ u hu=>hu.mono (λ_ _ _=>rfl) (aar _) (λb _=>A0 b)) (λx _ v AO=>B1 x v AO) (λ_ _=>rfl)
   .rintro y AF z BV As Bz AJ Au ⟨b,Af,B2⟩;rcases B0 y AF with rfl|rfl|⟨An,J,rfl,M,U⟩
    .rcases B0 z BV with rfl|rfl|⟨z0,g1,rfl,g2,g3⟩
     .rfl
     .exact B2.elim
     .rw[f2]at AJ;cases AJ;rw[f3 _ g2 g3]at Au;exact absurd (H.mem.apart _ hm z0 g1 L Bz A5 Au ⟨b,Af,oh.1 B2⟩).symm g2
    .exact Af.elim
    .rcases B0 z BV with rfl|rfl|⟨z0,g1,rfl,g2,g3⟩
     .rw[f2]at Au;cases Au;rw[f3 _ M U]at AJ;exact absurd (H.mem.apart An J _ hm As L AJ A5 ⟨b,oh.1 Af,B2⟩) M
     .exact B2.elim
     .rw[f3 _ M U]at AJ;rw[f3 _ g2 g3]at Au;exact H.mem.apart An J z0 g1 As Bz AJ Au ⟨b,oh.1 Af,oh.1 B2⟩
   .intro b I;exact H.mem.nJ b (BW b I)
   .exact H.mem.bound
 .exact fE.refl S
def XP{α:Type}{l:List α}{n:Nat}(h:l.length=n+1):∃(r:List α)(o:α),l=r++[o]/\r.length=n:=by
 refine⟨l.dropLast,l.getLast (by grind),(List.dropLast_concat_getLast _).symm,by simp[h]⟩
def aa7(S:St)(k AP:Nat):fE S (S.gg k AP):=by
 unfold St.gg;split
 .rename_i key v aq T v2 cont A' AZ;split
  .rename_i xs C';split
   .exact fE.refl S
   .rename_i Av;refine⟨rfl,rfl,λφ G a w H=>?_⟩;obtain⟨hm,A7,L,A5,AN,AW⟩:=H.mem.get A';obtain⟨Ak,AE,AR,Ar,BU,_⟩:=H.mem.get AZ;subst A7;subst AE;have C0:aq=aq.dropLast++[xs]:=by
     rcases aiB aq with rfl|⟨r,x,rfl⟩
     .grind
     grind
    obtain⟨r,CU⟩:∃r,r=aq.dropLast:=⟨_,rfl⟩;rw[<-CU]at C0⊢;subst C0;obtain⟨⟨AG,J,M⟩,U,AM,A_⟩:nI φ w (Fo G φ S.mem) L (r++[xs]) none:=AW;simp at J M;obtain⟨arr,elem,g1,g2,g3,g4,_⟩:=A_ (by omega);obtain⟨eE,o,CV,CW⟩:=XP M;have C1:=g4 r.length xs o (by simp) (by grind);have B3:∀b,some b∈eE->some b∈L.eE:=λb I=>by grind
    have BY:∀(i:Nat)(x:Option Nat),eE[i]?=some x->L.eE[i]?=some x:=λi x AO=>by
     grind
    have DI:∀b,o=some b->some b∉eE:=λb I hm=>by
     obtain⟨i,hi⟩:=apU hm;grind
    have base:∀(L2':Loc)(x:Value),(L2'.au=v2+1/\L2'.sz=1)->arr[L.base+r.length]?=some x->(∀(φ':cC)(F':Nat->Prop),φ' T=some L2'->aG φ' w F' (.vec T (v2+1) 0 xs.length) x)->
     (∀b,0<L2'.cap->L2'.eJ=b->o=some b)->
     (∀(φ':cC)(F':Nat->Prop),φ.le φ'->(∀b,F' b->Fo G φ S.mem b)->fB φ' w F' L2' (.vec 1 xs))->
     ∃φ',Rel φ' G {S with mem:=Mem.set (Mem.set S.mem ⟨key,v,.vv r (some (.vec T (v2+1) 0 xs.length))⟩) ⟨T,v2+1,.vec 1 xs⟩} a w/\bn φ S.mem w φ' (Mem.set (Mem.set S.mem ⟨key,v,.vv r (some (.vec T (v2+1) 0 xs.length))⟩) ⟨T,v2+1,.vec 1 xs⟩) w:=by
     intro L2' x CX AO B1 C2 CY;have Aw:∀(φ':cC)(F':Nat->Prop),φ.le φ'->φ' T=some L2'->(∀b,F' b->Fo G φ S.mem b)->fB φ' w F' {L with eE:=eE} (.vv r (some (.vec T (v2+1) 0 xs.length))):=by
      intro φ' F' hle f2 A0;refine⟨⟨AG,by grind,CW⟩,λi j b hi AA=>U i j b (BY _ _ hi) (BY _ _ AA),λb I=>AM b (B3 b I),λ_=>⟨arr,elem,g1,g2,g3,λi BZ B_ hi A8=>?_,λy AF=>?_⟩⟩
      .exact (g4 i BZ B_ (by grind) (BY _ _ A8)).mono (λd u _ hu=>hu.mono (λ_ _ _=>rfl) (aar _) (λb _=>A0 b)) (λ_ _=>rfl)
      grind
     obtain⟨φ',AQ,Z⟩:=H.mem.aa5 (e1':=⟨key,v,.vv r (some (.vec T (v2+1) 0 xs.length))⟩) (e2':=⟨T,v2+1,.vec 1 xs⟩) hm Ak Av A5 Ar (L1':={L with eE:=eE}) (L2':=L2') rfl rfl (aar _) (by grind)
      (λ_=>rfl) (λhh=>by grind) AN CX.1 (λb I=>.inl (by
       rcases I with I|I
       .exact .inl I
       .exact .inr (B3 b I))) (λb I=>.inl (.inr (by rw[CV,C2 b I.1 I.2];simp))) (λb Ba BD=>by
       have DJ:=C2 b BD.1 BD.2;rcases Ba with ⟨_,Ba⟩|Ba
       .grind
       grind) (λφ' F' hle f1 f2 A0=>⟨Aw φ' F' hle f2 A0,CY φ' F' hle A0⟩)
     exact⟨φ',H.DW AQ Z,Z⟩
    cases o with
    |none=>
     obtain⟨rfl,b,AD⟩:=C1;exact base ⟨v2+1,0,1,0,0,[]⟩ _ ⟨rfl,rfl⟩ AD (λφ' F' AS=>.vec T _ 0 0 _ _ AS (aar _) (λ_=>⟨_,_,rfl,by simp,λh=>by omega⟩) rfl) (λb I=>by simp at I) (λφ' F' hle A0=>⟨rfl,by simp,by simp,λO=>by simp at O⟩)
    |some b=>
     obtain⟨row,CZ,off,cap,q1,q2,q3,DK,C_,Ca,Cb⟩:=C1;refine base ⟨v2+1,b,1,row.size-off,off,[]⟩ _ ⟨rfl,rfl⟩ q1 (λφ' F' AS=>.vec T _ 0 _ _ _ AS (aar _) (λ_=>⟨_,cap,rfl,q3,λh=>⟨by simp,by grind⟩⟩) rfl) (λDL _ I=>by grind) (λφ' F' hle A0=>?_);refine⟨rfl,by simp only;omega,λd V=>?_,λO=>⟨row,CZ,C_,by simp only;omega,Ca,λi d hi=>?_⟩⟩
     .obtain⟨i,hi⟩:=apU V;grind
     .obtain⟨_,u,hu,AA⟩:=Cb i d hi;exact⟨u,hu.mono (λ_ _ _=>rfl) (aar _) (λb _=>A0 b),AA⟩
  .exact fE.refl S
 .exact fE.refl S
def aa8(S:St)(k AP:Nat):fE S (S.cls k AP):=by
 unfold St.cls;split
 .rename_i key v aq DM v3 len T v2 xs A' AZ;split
  .grind
  .rename_i Av;split
   .rename_i Cc;obtain⟨rfl,rfl,rfl⟩:=Cc;refine⟨rfl,rfl,λφ G a w H=>?_⟩;obtain⟨hm,A7,L,A5,AN,AW⟩:=H.mem.get A';obtain⟨Ak,AE,AR,Ar,BU,Cd⟩:=H.mem.get AZ;subst A7;subst AE;obtain⟨⟨AG,J,M⟩,U,AM,A_⟩:nI φ w (Fo G φ S.mem) L aq (some (.vec T v3 0 xs.length)):=AW;simp at J;obtain⟨arr,elem,g1,g2,g3,g4,g5⟩:=A_ (by omega);obtain⟨y,DN,Ce⟩:=g5 _ rfl;obtain⟨z0,DO,z2,z3⟩:=Cd;have DP:∀b,0<AR.cap->AR.eJ=b->(L.eJ=b\/some b∈L.eE)->False:=by
     intro b O I hh;refine Av (H.mem.apart _ hm _ Ak L AR A5 Ar ⟨b,?_,⟨O,I⟩⟩);rcases hh with hh|hh
     .exact .inl ⟨by omega,hh⟩
     .exact .inr hh
    have base:∀(o:Option Nat),(∀b,o=some b->0<AR.cap/\AR.eJ=b)->(∀F':Nat->Prop,(∀b,F' b->Fo G φ S.mem b)->DT w F' (some y) xs o)->
     ∃φ',Rel φ' G {S with mem:=Mem.set (Mem.set S.mem ⟨key,v,.vv (aq++[xs]) none⟩) ⟨T,v3+1,.dead⟩} a w/\bn φ S.mem w φ' (Mem.set (Mem.set S.mem ⟨key,v,.vv (aq++[xs]) none⟩) ⟨T,v3+1,.dead⟩) w:=by
     intro o A8 DQ;have Aw:∀(φ':cC)(F':Nat->Prop),(∀b,F' b->Fo G φ S.mem b)->fB φ' w F' {L with eE:=L.eE++[o]} (.vv (aq++[xs]) none):=by
      intro φ' F' A0;refine⟨⟨AG,by grind,by grind⟩,λi j b hi AA=>?_,λb I=>?_,λ_=>⟨arr,elem,g1,g2,g3,λi BZ B_ hi C3=>?_,λy AF=>by cases AF⟩⟩
      .grind
      .grind
      .rcases Nat.lt_or_ge i aq.length with Bb|DR
       .rw[ac9 Bb]at hi;rw[ac9 (by omega)]at C3;exact (g4 i BZ B_ hi C3).mono (λd u _ hu=>hu.mono (λ_ _ _=>rfl) (aar _) (λb _=>A0 b)) (λ_ _=>rfl)
       grind
     obtain⟨φ',AQ,Z⟩:=H.mem.aa5 (e1':=⟨key,v,.vv (aq++[xs]) none⟩) (e2':=⟨T,v3+1,.dead⟩) hm Ak Av A5 Ar (L1':={L with eE:=L.eE++[o]}) (L2':={AR with au:=v3+1}) rfl rfl (aar _) (by grind)
      (λ_=>rfl) (λhh=>by grind) AN rfl (λb I=>by
       rcases I with I|I
       .exact .inl (.inl I)
       .simp at I;rcases I with I|I
        .exact .inl (.inr I)
        .exact .inr (A8 b I.symm)) (λb I=>I.elim) (λb _ BD=>BD) (λφ' F' hle f1 f2 A0=>⟨Aw φ' F' A0,trivial⟩)
     exact⟨φ',H.DW AQ Z,Z⟩
    cases Ce with
    |vec _ _ _ _ _ L' Ag DS AT Aw=>
     rw[Ar]at Ag;cases Ag;obtain⟨Cf,cap,rfl,Cg,Ch⟩:=AT BU.symm;by_cases C4:0<cap
     .obtain⟨rfl,Ax⟩:=Ch C4;obtain⟨Ci,Cj,t1,t2,t3,t4⟩:=z3 (by omega);refine base (some AR.eJ) (λb I=>by grind) (λF' A0=>⟨Ci,Cj,AR.base,cap,by simp,C4,Cg,by grind,t1,t3,λi d V=>?_⟩);obtain⟨u,hu,AA⟩:=t4 i d V;rw[z0]at AA;exact⟨by grind,u,hu.mono (λ_ _ _=>rfl) (aar _) (λb _=>A0 b),AA⟩
     .have Ck:xs=[]:=List.length_eq_zero_iff.1 (by omega);refine base none (λb I=>by cases I) (λF' A0=>⟨Ck,Cf,by grind⟩)
   .exact fE.refl S
 .exact fE.refl S
def XQ(S:St)(k:Nat):fE S (S.shut k):=by
 unfold St.shut;split
 .rename_i key v aq y A';refine⟨rfl,rfl,λφ G a w H=>?_⟩;obtain⟨hm,A7,L,A5,AN,AW⟩:=H.mem.get A';subst A7;obtain⟨φ',AQ,Z,_,_⟩:=H.mem.dU (e':=⟨key,v,.vv aq none⟩) hm A5 rfl (L':=L) (aar _) (λ_=>rfl) AN
   (w':=w) (λ_ _ _=>rfl) (aar _) (λ_ A8=>.inl A8) rfl rfl rfl (λφ' Aj BN=>by
    obtain⟨⟨AG,J,M⟩,U,AM,A_⟩:nI φ w (Fo G φ S.mem) L aq (some y):=AW;refine⟨⟨AG,by grind,M⟩,U,AM,λO=>?_⟩;obtain⟨arr,elem,g1,g2,g3,g4,g5⟩:=A_ O;refine⟨arr,elem,g1,g2,g3,λi xs o hi A8=>(g4 i xs o hi A8).mono (λd u _ hu=>hu.mono (λ_ _ _=>rfl) (aar _) (λb _ I=>?_)) (λ_ _=>rfl),λy AF=>by cases AF⟩;rcases I with I|⟨x,AO,BR,AY,B'⟩
    .exact .inl I
    .right;rcases (Mem.mem_set H.mem.nodup).1 AO with ⟨rfl,_⟩|⟨BS,BT⟩
     .simp[Aj]at AY;cases AY;exact⟨_,hm,L,A5,B'⟩
     .simp[Aj,BT]at AY;exact⟨x,BS,BR,AY,B'⟩)
  exact⟨φ',H.DW AQ Z,Z⟩
 .exact fE.refl S
def R0(S:St)(Ae j k:Nat):fE S (S.wb Ae j k):=by
 unfold St.wb;split
 .rename_i key Ay cs T v cont Bt A';split
  .rename_i AA;split
   .exact fE.refl S
   .rename_i Av;refine⟨rfl,rfl,λφ G a w H=>?_⟩;obtain⟨B9,BO,Az,BA,BP,BQ⟩:=H.mem.get Bt;obtain⟨hm,A7,L,A5,AN,AW⟩:=H.mem.get A';subst BO;subst A7;have Aw:∀(φ':cC)(F':Nat->Prop),φ.le φ'->φ' T=some ⟨v+1,0,1,0,0,[]⟩->(∀b,F' b->Fo G φ S.mem b)->fB φ' w F' Az (.box (cs.set j (.vec T (v+1) 0 0))):=by
     intro φ' F' hle f2 A0;obtain⟨g0,arr,elem,g1,g2,g3,g4⟩:=BQ;refine⟨by grind,arr,elem,g1,by grind,g3,λi c u O hu=>?_⟩;rw[ai9]at O;split at O
     .rename_i Al;subst Al;split at O
      .cases O;have:=g4 j _ u AA hu;cases this;exact .vec T (v+1) 0 0 _ _ f2 (aar _) (λ_=>⟨_,_,rfl,by simp,λh=>by omega⟩) rfl
      grind
     .exact (g4 i c u O hu).mono hle (λ_ _ _=>rfl) (aar _) (λb _=>A0 b)
    obtain⟨φ',AQ,Z⟩:=H.mem.aa5 (e1':=⟨key,Ay,.box (cs.set j (.vec T (v+1) 0 0))⟩) (e2':=⟨T,v+1,.vv [] none⟩) B9 hm Av BA A5 (L1':=Az) (L2':=⟨v+1,0,1,0,0,[]⟩) rfl rfl (aar _) (by grind)
     (λ_=>rfl) (λhh=>by grind) BP rfl (λb I=>.inl I) (λb I=>by
      rcases I with ⟨I,_⟩|I
      .grind
      grind) (λb _ I=>by
      rcases I with ⟨I,_⟩|I
      .grind
      grind) (λφ' F' hle f1 f2 A0=>⟨Aw φ' F' hle f2 A0,⟨⟨rfl,by simp,rfl⟩,λi j b hi=>by grind,λb I=>by grind,λO=>by grind⟩⟩)
    exact⟨φ',H.DW AQ Z,Z⟩
  .exact fE.refl S
 .exact fE.refl S
def aeH(S:St)(g:Gh):fE S (g.go S):=by
 cases g with
 |trim k=>exact IP S k
 |freeze k=>exact RQ S k
 |qG Ae j k sz=>exact Vp S Ae j k sz
 |Cz k AP=>exact Vs S k AP
 |gg k AP=>exact aa7 S k AP
 |cls k AP=>exact aa8 S k AP
 |shut k=>exact XQ S k
 |wb Ae j k=>exact R0 S Ae j k
def CJ:∀(l:List Gh)(S:St),fE S (I9 S l)
 |[],S=>fE.refl S
 |g::r,S=>(aeH S g).trans (CJ r _)
def xK(X:Ctx)(f:FuncId)(id:Nat)(S:St):fE S (S.leave X f id):=(UY S _).trans (CJ _ _)
def gu(X:Ctx)(f:FuncId)(n:Nat):Code->Bool
 | .region id ops draw=>mY n ops.toList&&(!draw||Hs ops.toList (X.od f id))
 | .seq a b=>gu X f n a&&gu X f n b
 | .cond _ a b=>gu X f n a&&gu X f n b
 | .block _ c=>gu X f n c
 | .loop c=>gu X f n c
 |_=>true
structure m8(X:Ctx):Prop where
 ov:X.ov=none
 names:∀(g:FuncId)(fn:Func),X.P.funcs[g]?=some fn->fn.name≠ "runtime.NumGoroutine"
 aa9:∀(g:FuncId)(fn:Func)(c:Code),X.P.funcs[g]?=some fn->fn.body=some c->(∀k∈(X.fp g).sites,100<=k)->gu X g fn.ntmps c=true
 mixed:X.P.follows .mixedOrders=true
 Bu:∀(g:FuncId)(h:List AV->Option AV),X.Bu g=some h->jM X.P g=true/\∀(Bc:List AV)(a:AV),h Bc=some a->∀(φ:cC)(F:Nat->Prop)(w:World)(vs:Array Value),gr w F X.gl->(∀b,F b->b<w.heap.size)->Bc.length=vs.size->
  (∀(i:Nat) x v,Bc[i]?=some x->vs[i]?=some v->aG φ w F x v)->Calls X.P g vs w λe w'=>∃v,e=.returned v/\Go.RowKit.Below w.heap.size w w'/\aG φ w' F a v
def rf.is{n:Nat}{φ:cC}{G:Fr}{m:Mem}{w:World}{e:XE}{S':St}{e':Exit}{Y:Act}{w':World}(h:rf n φ G m w (Is e S') e' Y w'):
 ∃φ',S'.n=n/\Rel φ' G S' Y w'/\bn φ m w φ' S'.mem w'/\(match e' with
  | .normal=>e=.normal
  | .exit id=>e=.exit id
  | .ret=>e=.ret
  | .panic chain=>∃t x v,e=.panic t x/\chain=[{v:=.iface t v,recovered:=false}]/\aR w' (Fo G φ' S'.mem) x v
  |_=>False):=by
 cases e' with
 |normal=>obtain⟨φ',A6,A2,⟨J,rfl⟩,M,U⟩:=h;grind
 |exit id=>obtain⟨φ',A6,A2,⟨J,rfl⟩,M,U⟩:=h;grind
 |ret=>obtain⟨φ',A6,A2,⟨J,rfl⟩,M,U⟩:=h;grind
 |panic chain=>obtain⟨φ',A6,t,x,v,O,V,A2,⟨J,rfl⟩,M,U⟩:=h;grind
 |_=>exact h.elim
section
variable {X:Ctx} {Ah:bP} {f:FuncId} {n:Nat}
theorem aeI{P:Program}{c:Code}{S S1:St}{Q:XE->St->Prop}(t:fE S S1)(h:pZ P c S1 Q):pZ P c S Q:=λφ G a w H=>by
 obtain⟨BM,Cl,A7⟩:=t.2.2 φ G a w H;exact wp_mono (h BM G a w Cl) λe a2 B4 A9=>by rw[t.1]at A9;exact A9.weaken A7
theorem Ph{P:Program}{S:St}{e:XE}{c:Code}{k:St->St}(A7:∀S,fE S (k S)){r:Option (XE×St)}{S':St}(h:AL k r=some (e,S'))
 (H:∀A3 S1,r=some (A3,S1)->S1.n=S.n/\S1.gl=S.gl/\pZ P c S (Is A3 S1)):S'.n=S.n/\S'.gl=S.gl/\pZ P c S (Is e S'):=by
 unfold AL at h;split at h
 .rename_i S1;cases h;obtain⟨J,M,U⟩:=H _ _ rfl;obtain⟨t1,t2,t3⟩:=A7 S1;refine⟨t1.trans J,t2.trans M,λφ G a w Bd=>wp_mono (U φ G a w Bd) λe' Y w' A9=>?_⟩;obtain⟨φ',A2,A1,Z,he⟩:=A9.is;cases e' with
  |normal=>
   obtain⟨AH,Ao,AE⟩:=t3 φ' G Y w' A1;exact⟨AH,k S1,t1.trans A2,⟨rfl,rfl⟩,Ao,Z.trans AE⟩
  |exit id=>cases he
  |ret=>cases he
  |panic chain=>grind
  |_=>grind
 grind
theorem aeJ{P:Program}{Ap:Mem->Prop}{all:List Oper}{ops:List Oper}{S:St}{ps:List bC}{S1:St}(h:Cert P Ap all ops S ps S1):S1.n=S.n/\S1.gl=S.gl:=by
 induction h with
 |nil S=>grind
 |cons o rest S p ps S1 _ _ _ _ ih=>exact⟨ih.1.trans (zJ ..),ih.2.trans (vY ..)⟩
theorem Pj{P:Program}{Ap:Mem->Prop}{all:List Oper}:∀{ops:List Oper}{S:St}{ps:List bC}{S1:St},Cert P Ap all ops S ps S1->ps.length=ops.length:=by
 intro ops S ps S1 h;induction h with
 |nil S=>rfl
 |cons o rest S p ps S1 _ _ _ _ ih=>grind
theorem Ma:∀{es:List dn},Kz es=true->∀e∈es,100<=e.key
 |_::r,h,e,he=>by
  simp[Kz]at h;rcases ac4.1 he with rfl|he
  .grind
  .exact Ma h.2 e he
theorem Mb{ps:List bC}:∀{C5:List Nat},Es ps C5=true->∀i∈C5,∀p,ps[i]?=some p->∀e∈p.es,100<=e.key
 |k::r,h,i,hi,p,A9,e,he=>by
  simp[Es]at h;rcases ac4.1 hi with rfl|hi
  .have:=h.1;rw[A9]at this;exact Ma this e he
  .exact Mb h.2 i hi p A9 e he
theorem EP{all:List Oper}{Aa:List (List Nat)}(h:Hs all Aa=true){i j:Nat}(Al:i<j)(AA:j<all.length)(A2:i∉(j8 all []).getD j []):(Aa.getD i []).contains j=true/\(Aa.getD j []).contains i=true:=by
 have J:=adp.1 h j (aej.2 AA);unfold Eo at J;simp at J;grind
theorem Vu{P:Program}{S S1:St}{id:Nat}{ops:List Oper}{Aa:List (List Nat)}{ps:List bC}{j N:Nat}{t:TypeId}{x:D}(hm:P.follows .mixedOrders=true)(Ab:Hs ops Aa=true)
 (O:m7 (TT P ops j (Aa.getD j []) t x N S1) 0 ops S ps) (Cm:p9 Aa ps=true) (C6:Es ps (Aa.getD j [])=true) (Be:S1.env=[]) (C7:j<ops.length) (DV:N=jh S.mem+ja ps+1):
 S1.n=S.n/\S1.gl=S.gl/\∀{φ:cC}{G:Fr}{a:Act}{w:World},Rel φ G S a w->∀{Q:Exit->Act->World->Prop},
 (∀φ' Y w' v,Rel φ' G S1 Y w'->bn φ S.mem w φ' S1.mem w'->aR w' (Fo G φ' S1.mem) x v->Q (.panic [{v:=.iface t v,recovered:=false}]) Y w')->(Code.region id ops.toArray true).wp P Q a w:=by
 have BE:=O.len;have Bf:=m7.at (ps:=ps) (S0:=S) O [] [] rfl rfl rfl rfl rfl;have Ac:=Xt Ab Cm BE;obtain⟨Bg,C8⟩:∃Bg,ops[j]?=some Bg:=⟨ops[j],by grind⟩;obtain⟨Bh,C9⟩:∃Bh,ps[j]?=some Bh:=⟨ps[j]'(by omega),by grind⟩
 obtain⟨Cn,AC,AB,AX⟩:=(Bf j Bg Bh (by simp) C8 C9).2.2 rfl;rw[sk]at AC;rw[p7]at AB;refine⟨AC,AB,λ{φ G a w} H {Q} Bi=>wp_region_any hm ?_⟩;have Co:∀(i:Nat)(p:bC),ps[i]?=some p->∀e∈p.es,e.key∈p.ks:=λi p A9=>by
  have BF:i<ps.length:=(aap.1 A9).1;exact (Bf i (ops[i]'(by omega)) p (by simp) (by grind) A9).1
 have Cp:Rel φ G S a {w with drawn:=w.drawn+1}:=H.grow (λ_ _=>rfl) (aar _);have CA:(kC ops.length λi=>(Array.replicate ops.length false).getD i false)=[]:=by
  rw[kC,ahS];simp_all
 refine Xu (S0:=S) (S1:=S1) (φ0:=φ) (w0:=w) (G:=G) (j:=j) BE Ac H.mem.nodup Co ?_ C8 C9 Cn ?_ AC AB Be (by grind) (λφ' Y w' v A1 Z AD=>Bi φ' Y w' v A1 Z AD) _ _ φ a _ (by simp) ?_ ?_ ?_ ?_ ?_
 .intro i o p A8 A9 Al Bj;have BF:i<ops.length:=(aap.1 A8).1;refine (Bf i o p (by simp) A8 A9).2.1 Al ?_;rcases Nat.lt_or_ge i j with h|h
  .grind
  .exact .inr (EP Ab (by omega) BF Bj).1
 .intro i p A9 Al hi Bj e he;have BF:i<ops.length:=by grind
  have B3:(Aa.getD j []).contains i=true:=by
   rcases Nat.lt_or_ge i j with h|h
   .exact (EP Ab h C7 hi).2
   .exact (EP Ab (by omega) BF Bj).1
  exact Mb C6 i (by grind) p A9 e he
 .intro j o _ AA;simp at AA;grind
 .simp_all
 .simp only[ahr];rw[CA];exact Cp
 .simp only[ahr];rw[CA];exact bn.grow (λ_ _=>rfl) (aar _) rfl rfl rfl
 grind
theorem Pk(Ai:m8 X)(Ax:mi X Ah):∀(c:Code)(S:St)(e:XE)(S':St),den X f Ah n c S=some (e,S')->S.gl=X.gl->gu X f S.n c=true->
 S'.n=S.n/\S'.gl=S.gl/\pZ X.P c S (Is e S'):=by
 intro c;induction c with
 |skip=>
  intro S e S' h A4 V;obtain⟨rfl,rfl⟩:=h;exact⟨rfl,rfl,aaL ⟨rfl,rfl⟩⟩
 |region id ops draw=>
  intro S e S' h A4 V;simp[gu]at V;cases draw with
  |false=>
   refine Ph (xK X f id) h (λA3 S1 J=>?_);obtain⟨M,U,AM⟩:=EJ Ax ops.toList S A3 S1 J A4 V.1;exact⟨M,U,λφ G a w H=>wp_region_lit (AM φ G a w H _ (λ_ _ _ h=>h))⟩
  |true=>
   refine Ph (xK X f id) h (λA3 S1 J=>?_);have Ab:Hs ops.toList (X.od f id)=true:=by grind
   have key:(∃Ap:Mem->Prop,Ap S.mem/\A3=.normal/\∃ps A6,Cert X.P Ap ops.toList ops.toList S ps A6/\jL S1 A6/\p9 (X.od f id) ps=true)\/
    (S1.n=S.n/\S1.gl=S.gl/\∀φ G a w,Rel φ G S a w->∀Q:Exit->Act->World->Prop,(A3=.normal->∀φ' Y w',Rel φ' G S1 Y w'->bn φ S.mem w φ' S1.mem w'->Q .normal Y w')->
     (∀t x,A3=.panic t x->∀φ' Y w' v,Rel φ' G S1 Y w'->bn φ S.mem w φ' S1.mem w'->aR w' (Fo G φ' S1.mem) x v->Q (.panic [{v:=.iface t v,recovered:=false}]) Y w')->(Code.region id ops true).wp X.P Q a w)/\(A3=.normal\/∃t x,A3=.panic t x):=by
    cases CB:X.fl f id with
    |nil=>
     rw[CB]at J;rcases GS Ax ops.toList S [] A3 S1 J A4 V.1 with ⟨he,ps,A6,O,heq,Ac⟩|⟨t,x,j,ps,he,DX,DY,O,Ac,C6,Be⟩
     .grind
     .right;obtain⟨M,U,AM⟩:=Vu (id:=id) Ai.mixed Ab O (by grind) (by grind) Be (by grind) rfl;exact⟨⟨M,U,λφ G a w H Q _ Bi=>AM H (λφ' Y w' v A_ Cq Cs=>Bi t x he φ' Y w' v A_ Cq Cs)⟩,.inr ⟨t,x,he⟩⟩
    |cons q r=>
     rw[CB]at J;simp[AK]at J;cases BG:gZ S.mem (q::r)with
     |none=>rw[BG]at J;cases J
     |some DZ=>
      rw[BG]at J;rcases L9 Ax ops.toList S [] A3 S1 (by simp) J A4 V.1 with ⟨he,ps,A6,O,heq,Ac⟩|⟨init,ol,ps,A6,Ct,O,A2,Ac,M,U,AM,A_⟩
      .exact .inl ⟨_,CH BG,he,ps,A6,O,heq,by grind⟩
      .obtain⟨Bk,AZ⟩:=aeJ O;refine .inr ⟨⟨M.trans Bk,U.trans AZ,λφ G a w H Q Cv Cw=>?_⟩,AM⟩;have BE:ps.length+1=ops.toList.length:=by
        have:=Pj O;grind
       refine RW (ops:=ops.toList) Ct (RV Ab A2) (CH BG) Ai.mixed O (aa4 Ab BE A2 (by grind)) H (λφ' Y w' A1 Z next Cx=>?_);exact A_ φ' G Y w' A1 next Q (λhe AH a2 B4 Ao AE=>Cx a2 B4 (Cv he AH a2 B4 Ao (Z.trans AE))) (λt x he AH a2 B4 v Ao AE AD=>Cw t x he AH a2 B4 v Ao (Z.trans AE) AD)
   rcases key with ⟨Ap,Cy,rfl,ps,A6,O,heq,Ac⟩|⟨⟨AC,AB,D'⟩,_⟩;rotate_left
   .exact⟨AC,AB,λφ G a w H=>D' φ G a w H _ (λhe φ' Y w' A1 Z=>⟨φ',S1,AC,⟨he.symm,rfl⟩,A1,Z⟩) (λt x he φ' Y w' v A1 Z AD=>⟨φ',S1,t,x,v,rfl,AD,AC,⟨he.symm,rfl⟩,A1,Z⟩)⟩
   obtain⟨AC,AB⟩:=ahv O;have Ac:=Xt Ab Ac (Pj O);refine⟨heq.n.trans AC,heq.gl.trans AB,λφ G a w H=>?_⟩;exact RU (ops:=ops.toList) Cy Ai.mixed O Ac H (λφ' Y w' A1 Z=>⟨φ',S1,heq.n.trans AC,⟨rfl,rfl⟩,A1.eqv heq.symm,by rw[heq.mem];grind⟩)
 |seq a b BH Bl=>
  intro S e S' h A4 V;simp[gu]at V;rcases jO h with ⟨S1,J,M⟩|⟨J,M⟩
  .obtain⟨AC,AB,Bm⟩:=BH S _ S1 J A4 V.1;obtain⟨Bk,AZ,D_⟩:=Bl S1 e S' M (AB.trans A4) (by grind);refine⟨Bk.trans AC,AZ.trans AB,SA (Bm.mono λA3 A6 AT=>?_)⟩;grind
  .obtain⟨AC,AB,Bm⟩:=BH S _ S' J A4 V.1;refine⟨AC,AB,SA (Bm.mono λA3 A6 AT=>?_)⟩;grind
 |cond c a b BH Bl=>
  intro S e S' h A4 V;simp[gu]at V;simp[den]at h;cases O:S.aw c with
  |mk g y=>
   rw[O]at h;unfold Jb at h;split at h
   .rename_i t heq;cases heq;cases t with
    |true=>
     obtain⟨J,M,U⟩:=BH S e S' (by grind) A4 V.1;exact⟨J,M,OD O (λ_=>U) (λAS=>by cases AS)⟩
    |false=>
     obtain⟨J,M,U⟩:=Bl S e S' (by grind) A4 V.2;exact⟨J,M,OD O (λAS=>by cases AS) (λ_=>U)⟩
   grind
 |block id c ih=>
  intro S e S' h A4 V;simp[den]at h;have B5:=CJ (X.gh f (id+2000000)) S;have ih:∀e S',den X f Ah n c (S.enter X f id)=some (e,S')->S'.n=S.n/\S'.gl=S.gl/\pZ X.P c S (Is e S'):=λe S' h=>by
   obtain⟨Bn,a2,a3⟩:=ih (S.enter X f id) e S' h (B5.2.1.trans A4) (by simp[St.enter];rw[B5.1];exact V);exact⟨Bn.trans B5.1,a2.trans B5.2.1,aeI B5 a3⟩
  unfold Ja at h;split at h
  .rename_i CC S1 J;obtain⟨A2,A',AU⟩:=ih _ S1 J;split at h
   .cases h;refine⟨A2,A',Ee (AU.mono λA3 A6 AT=>?_)⟩;grind
   .cases h;refine⟨A2,A',Ee (AU.mono λA3 A6 AT=>?_)⟩;grind
  .obtain⟨A2,A',AU⟩:=ih _ S' h;refine⟨A2,A',Ee (AU.mono λA3 A6 AT=>?_)⟩;obtain⟨rfl,rfl⟩:=AT;cases A3 with
   |exit CC=>grind
   |_=>grind
 |loop c ih=>
  intro S e S' h A4 V;have B3:∀(k:Nat)(S1:St),iter (den X f Ah n c) k S1=some (e,S')->S1.gl=X.gl->gu X f S1.n c=true->S'.n=S1.n/\S'.gl=S1.gl:=by
   intro k;induction k with
   |zero=>intro S1 J;cases J
   |succ k Da=>
    intro S1 J AB Bo;rcases jO J with ⟨A6,M,U⟩|⟨M,U⟩
    .grind
    grind
  obtain⟨A2,A'⟩:=B3 n S h A4 V;refine⟨A2,A',?_⟩;refine aaN (α:=Nat×St) (λx=>x.2) (λx=>iter (den X f Ah n c) x.1 x.2=some (e,S')/\x.2.gl=X.gl/\gu X f x.2.n c=true) (λx=>x.1) (n,S) rfl ⟨h,A4,V⟩ ?_;rintro ⟨k,S1⟩ ⟨J,AB,Bo⟩;cases k with
  |zero=>cases J
  |succ k=>
   rcases jO J with ⟨A6,M,U⟩|⟨M,U⟩
   .obtain⟨Bn,a2,AU⟩:=ih S1 _ A6 M AB Bo;refine AU.mono λA3 CD AT=>?_;obtain⟨rfl,rfl⟩:=AT;exact⟨(k,CD),rfl,⟨U,a2.trans AB,by grind⟩,Nat.lt_succ_self k⟩
   .obtain⟨Bn,a2,AU⟩:=ih S1 _ S' M AB Bo;refine AU.mono λA3 CD AT=>?_;grind
 |exit id=>
  intro S e S' h A4 V;obtain⟨rfl,rfl⟩:=h;obtain⟨t1,t2,t3⟩:=CJ (X.gh f (id+1000000)) S;refine⟨t1,t2,λφ G a w Bd=>wp_mono ((aaM (Q:=Is (.exit id) S) ⟨rfl,rfl⟩:pZ X.P (.exit id) S (Is (.exit id) S)) φ G a w Bd) λe' Y w' A9=>?_⟩;obtain⟨φ',A2,A1,Z,he⟩:=A9.is;cases e' with
  |exit CC=>
   cases he;obtain⟨AH,Ao,AE⟩:=t3 φ' G Y w' A1;exact⟨AH,_,t1.trans A2,⟨rfl,rfl⟩,Ao,Z.trans AE⟩
  |normal=>cases he
  |ret=>cases he
  |panic chain=>grind
  |_=>grind
 |ret=>
  intro S e S' h A4 V;obtain⟨rfl,rfl⟩:=h;exact⟨rfl,rfl,aeC ⟨rfl,rfl⟩⟩
 |rangeFunc _ _ _ _=>intro S e S' h;simp[den]at h
 |scope _ _=>intro S e S' h;simp[den]at h
 |label _=>intro S e S' h;simp[den]at h
 |goto _=>intro S e S' h;simp[den]at h
 |refuse _=>intro S e S' h;simp[den]at h
theorem HH:∀(cs:List aF)(i:Nat),(fh i cs).map (·.key)=List.range' i cs.length
 |[],i=>rfl
 |c::r,i=>by simp[fh,HH r,aie]
theorem KK:∀(cs:List aF)(i:Nat)(e:dn),e∈fh i cs->e.au=0
 |[],i,e,he=>by simp[fh]at he
 |c::r,i,e,he=>by
  simp[fh]at he;rcases he with rfl|he
  .rfl
  .exact KK r (i+1) e he
theorem bK.dv{φ:cC}{G:Fr}{m:Mem}{w:World}(h:bK φ G m w)(dv:List Deferred):bK φ ⟨G.g,dv⟩ m w:=
 ⟨h.nodup,h.ud,h.gZ,h.apart,h.nJ,h.bound⟩
theorem Ev.dv{P:Program}{gl f args m K}(h:∀φ G w (vs:Array Value),G.dv=[]->bK φ G m w->gr w (Fo G φ m) gl->args.length=vs.size->(∀(i:Nat) x v,args[i]?=some x->vs[i]?=some v->aG φ w (Fo G φ m) x v)->
 Calls P f vs w λe w'=>∃φ' m' out,K out m'/\bK φ' G m' w'/\bn φ m w φ' m' w'/\rF φ' w' (Fo G φ' m') out e):Ev P gl f args m K:=by
 intro φ G w vs hm A' BI B6;refine (h φ ⟨G.g,[]⟩ w vs rfl (hm.dv []) A' BI B6).mono ?_;rintro e w' ⟨φ',m',out,J,M,U,AM⟩;exact⟨φ',m',out,J,M.dv G.dv,U,AM⟩
theorem CK(Ai:m8 X)(Ax:mi X Ah){fn:Func}{c:Code}{args:List AV}{cs:List aF}{out:Out}{l:List (Nat×aF)}(AS:X.P.funcs[f]?=some fn)(I:fn.body=some c)
 (h:vz X f Ah n fn c args cs=some (out,l)):Ev X.P X.gl f args (fh 0 cs) λo m=>o=out/\m=eO 0 l:=by
 unfold vz at h;split at h
 .rename_i O;simp at O;obtain⟨⟨⟨Db,Dc⟩,D0⟩,D1⟩:=O;refine Ev.dv ?_;intro φ G w vs B7 hm D2 Dd B1;have BC:∀k,k∈(fh 0 cs).map (·.key)↔k<cs.length:=λk=>by rw[HH];simp
  have Bp:∀k∈(X.fp f).sites,k∉(fh 0 cs).map (·.key):=by
   grind
  have CE:∀k L,φ k=some L->k<cs.length/\L.au=0:=λk L A5=>by
   have A7:=hm.ud k L A5;obtain⟨e,he,rfl⟩:=adk.1 A7;obtain⟨L',Ag,AN,_⟩:=hm.gZ e he;rw[A5]at Ag;cases Ag;exact⟨(BC _).1 A7,by rw[AN];exact KK cs 0 e he⟩
  have D3:=hm.add D1 Bp;have Bq:bn φ (fh 0 cs) w (φ.add (X.fp f).sites) (fh 0 cs++(X.fp f).sites.map dead) w:=⟨OK hm Bp,λ_ _ _=>rfl,λb _ A8=>(FH Bp b).1 A8,aar _,rfl,rfl,rfl⟩;refine calls_of_wp AS I ?_;obtain⟨S0,B8⟩:∃S0,S0=entry fn.ntmps X.gl args cs (X.fp f).sites:=⟨_,rfl⟩;have H:Rel (φ.add (X.fp f).sites) G S0 {tmps:=vs++Array.replicate (fn.ntmps-vs.size) undef,defers:=[]} w:=by
   rw[B8];refine⟨by simp[entry];omega,B7.symm,λt x AO=>?_,D3,?_⟩
   .obtain⟨j,rfl,AA⟩:=Cu 0 args t _ AO;have C7:j<vs.size:=by grind
    have e:(vs++Array.replicate (fn.ntmps-vs.size) undef).getD (0+j) undef=vs[j]:=by
     simp;grind
    exact Bq.av (B1 j x _ AA (by grind))
   .exact Bq.nK D2
  rw[<-B8]at h;cases Br:den X f Ah n c S0 with
  |none=>rw[Br]at h;cases h
  |some q=>
   obtain⟨e,S'⟩:=q;rw[Br]at h;obtain⟨De,Df,AU⟩:=Pk Ai Ax c S0 e S' Br (by rw[B8];rfl) (by rw[B8];exact Ai.aa9 f fn c AS I D0);refine wp_mono (AU _ G _ w H) λe' Y w' A9=>?_;obtain⟨φ',_,A1,Z,he⟩:=A9.is;have CF:bn φ (fh 0 cs) w φ' S'.mem w':=by
    have:S0.mem=fh 0 cs++(X.fp f).sites.map dead:=by rw[B8];rfl
    rw[this]at Z;exact Bq.trans Z
   have CG:finish X.P (X.fp f) cs.length fn.results.toList S'=some (out,l)->
    Y.defers=[]/\∃v,(results fn Y.tmps).run X.P w'=.ok v w'/\∃BJ m' CI,(CI=out/\m'=eO 0 l)/\bK BJ G m' w'/\bn φ (fh 0 cs) w BJ m' w'/\rF BJ w' (Fo G BJ m') CI (.returned v):=by
    intro BK;unfold finish at BK;split at BK
    .rename_i D4 xs C';split at BK
     .rename_i D5;obtain⟨Aq,J,M,U⟩:=Cr A1 fn.results.toList D4 xs C' D5;obtain⟨AH,Ad,rfl,g1,g2,g3,g4,_⟩:=xE BK A1.mem A1.nK M U CF CE;have D6:(results fn Y.tmps).run X.P w'=.ok (if h:Aq.toArray.size=1 then Aq.toArray[0]else .tuple Aq.toArray) w':=by
       have e:results fn Y.tmps=(do let vs <-fn.results.mapM (Ek Y.tmps);pure (if h:vs.size=1 then vs[0]else .tuple vs)):=by
        congr 1
       rw[e,Array.mapM_eq_mapM_toList];simp_all
      refine⟨A1.defers.trans B7,_,D6,AH,_,_,⟨rfl,rfl⟩,g1,g2,?_⟩;show aG AH w' _ (oneOf Ad) _;by_cases Dg:Aq.length=1
      .obtain⟨v,rfl⟩:∃v,Aq=[v]:=by
        cases Aq with
        |nil=>grind
        |cons v r=>grind
       obtain⟨y,rfl⟩:∃y,Ad=[y]:=by
        cases Ad with
        |nil=>grind
        |cons v r=>grind
       simpa [oneOf]using g4 0 y v (by simp) (by simp)
      .have e:oneOf Ad=.bq Ad:=by
        cases Ad with
        |nil=>rfl
        |cons y r=>cases r with|nil=>grind|cons _ _=>rfl
       rw[e,dif_neg (by grind)];exact .bq Ad Aq.toArray (by grind) (λi y v h CL=>g4 i y v h (by grind))
     grind
    grind
   cases e' with
   |normal=>cases he;exact CG h
   |ret=>cases he;exact CG h
   |exit id=>cases he;cases h
   |panic chain=>
    obtain⟨t,x,v,rfl,rfl,V⟩:=he;have CL:uJ (X.fp f) cs.length S' [] (λ_=>.panic t x)=some (out,l):=h;obtain⟨AH,Ad,rfl,g1,g2,_,_,g5⟩:=xE (vs:=[]) CL A1.mem A1.nK rfl (by simp) CF CE;exact⟨A1.defers.trans B7,AH,_,_,⟨rfl,rfl⟩,g1,g2,v,rfl,V.mono (λ_ _ _=>rfl) (aar _) (λb _=>g5 b)⟩
   |_=>grind
 grind
theorem Ev.split{P:Program}{gl f r m K}(J:Ev P gl f (.lit (.slice none 0 0)::r) m K)(M:Ev P gl f (.nn::r) m K):Ev P gl f (.d (.list [])::r) m K:=by
 intro φ G w vs hm A' BI B6;have go:∀y,(∀v,vs[0]?=some v->aG φ w (Fo G φ m) y v)->∀(i:Nat) x v,(y::r)[i]?=some x->vs[i]?=some v->aG φ w (Fo G φ m) x v:=by
  grind
 have Dh:0<vs.size:=by grind
 have AG:=B6 0 (.d (.list [])) vs[0] (by simp) (by grind);generalize Di:vs[0]=v0 at AG;have Bs:vs[0]?=some v0:=by grind
 cases AG with
 |d _ _ V=>
  cases V with
  |nil a cap A2=>
   cases a with
   |none=>
    have:=A2 rfl;subst this;exact J φ G w vs hm A' (by grind) (go _ (λv AD=>by rw[Bs]at AD;cases AD;exact .lit _ rfl))
   |some a=>exact M φ G w vs hm A' (by grind) (go _ (λv AD=>by rw[Bs]at AD;cases AD;exact .nn a cap))
  |list _ b off cap sz Dj=>exact M φ G w vs hm A' (by grind) (go _ (λv AD=>by rw[Bs]at AD;cases AD;exact .nn _ cap))
theorem ir{r:Option (Out×List (Nat×aF))}{sz:Nat}(h:sl r=some sz):r=some (.ret (.vec 0 0 0 0),[(0,.vec sz [])]):=by
 unfold sl at h;grind
theorem R3{h:List AV->Option AV}{args:List AV}{cs:List aF}{r:Out×List (Nat×aF)}(H:Bv h args cs=some r):cs=[]/\∃d,h args=some d/\r=(.ret d,[]):=by
 unfold Bv at H;grind
theorem toDs_eq:∀{args:List AV}{BL:List D},toDs args=some BL->args=BL.map .d
 |[],BL,h=>by
  simp[toDs]at h;grind
 |y::r,BL,h=>by
  cases H:toDs r with
  |none=>unfold toDs at h;grind
  |some Ad=>
   unfold toDs at h;rw[H]at h;cases y<;>cases h;rw[toDs_eq H];rfl
theorem ahM(Ai:m8 X){g:FuncId}{h:List AV->Option AV}(A':X.Bu g=some h){args:List AV}{cs:List aF}{out:Out}{l:List (Nat×aF)}(H:Bv h args cs=some (out,l)):
 jM X.P g=true/\Ev X.P X.gl g args (fh 0 cs) λo m=>o=out/\m=eO 0 l:=by
 obtain⟨O,D7⟩:=Ai.Bu g h A';refine⟨O,?_⟩;obtain⟨rfl,d,V,he⟩:=R3 H;cases he;intro φ G w vs hm A4 BI B6;have CM:∀b,kV φ (fh 0 []) b->False:=by
  rintro b ⟨e,he,_⟩;simp[fh]at he
 refine (D7 args d V φ (Fo G φ (fh 0 [])) w vs A4 (λb I=>I.elim (hm.bound b) λh=>(CM b h).elim) BI B6).mono ?_;rintro e w' ⟨v,rfl,I,B7⟩;refine⟨φ,fh 0 [],.ret d,⟨rfl,rfl⟩,⟨hm.nodup,hm.ud,λe he=>by simp[fh]at he,λe he=>by simp[fh]at he,λb I=>(CM b I).elim,λb D8=>aly (hm.bound b D8) I.size⟩,⟨cC.le_refl _,λb Bb _=>I.block b Bb,λb _ A8=>A8,I.size,I.os,I.tape,I.output⟩,?_⟩;exact B7
end
def anj(φ:cC)(w:World)(F:Nat->Prop)(x:DF)(d:Deferred):Prop:=
 ∃A0:Array Value,d.target=.fn (.func x.1) A0/\x.2.length=(d.args++A0).size/\∀(i:Nat) y v,x.2[i]?=some y->(d.args++A0)[i]?=some v->aG φ w F y v
def rO(φ:cC)(w:World)(F:Nat->Prop):List DF->List Deferred->Prop
 |[],[]=>True
 |x::xs,d::D=>anj φ w F x d/\rO φ w F xs D
 |_,_=>False
def rO.keeps{φ m w φ' m' w'}{G:Fr}(h:bn φ m w φ' m' w'):∀{xs:List DF}{D:List Deferred},rO φ w (Fo G φ m) xs D->rO φ' w' (Fo G φ' m') xs D
 |[],[],_=>trivial
 |x::xs,d::D,⟨⟨A0,A8,A5,A6⟩,AA⟩=>⟨⟨A0,A8,A5,λi y v AB A2=>h.av (A6 i y v AB A2)⟩,rO.keeps h AA⟩
 |[],_::_,AP=>AP.elim
 |_::_,[],AP=>AP.elim
def CL(n:Nat)(φ:cC)(g:Nat->Prop)(m:Mem)(w:World)(e:XE)(S':St)(H:List DF)(e':Exit)(M:Act)(w':World):Prop:=
 ∃φ' A1,S'.n=n/\Rel φ' ⟨g,A1⟩ S' M w'/\bn φ m w φ' S'.mem w'/\rO φ' w' (Fo ⟨g,A1⟩ φ' S'.mem) H A1/\(match e' with
  | .normal=>e=.normal
  | .exit id=>e=.exit id
  | .ret=>e=.ret
  | .panic chain=>∃t x v,e=.panic t x/\chain=[{v:=.iface t v,recovered:=false}]/\aR w' (Fo ⟨g,A1⟩ φ' S'.mem) x v
  |_=>False)
def CL.weaken{n:Nat}{φ AZ:cC}{g:Nat->Prop}{m A_:Mem}{w Aa:World}{e S' H e' M w'}(h:CL n AZ g A_ Aa e S' H e' M w')(An:bn φ m w AZ A_ Aa):CL n φ g m w e S' H e' M w':=by
 obtain⟨φ',A1,A8,A5,A6,AA,V⟩:=h;exact⟨φ',A1,A8,A5,An.trans A6,AA,V⟩
def Pp{S:St}{o:Oper}{d:DF}(h:lf S o=some d):o.guard=none/\∃c AC args AK g AF,o.op=.defer c/\c={callee:=.value AC,args,argTypes:=AK}/\S.aw AC=(true,.fn g AF)/\g<xe/\kY S args.toList=true/\d=(g,ef S args.toList++AF):=by
 unfold lf at h;split at h
 .rename_i AC args AK AR AS;unfold LZ at h;split at h
  .rename_i g AF AL;split at h
   .rename_i AG;cases h;simp only[Ds,ac2]at AG;exact⟨AR,_,AC,args,AK,g,AF,AS,rfl,AL,AG.2,AG.1,rfl⟩
   .cases h
  .cases h
 .cases h
section
variable {X:Ctx} {A3:bP} {f:FuncId} {n:Nat}
theorem CM{md:Bool}{all:List Oper}(A7:mi X A3):∀(ops:List Oper)(S:St)(D:List DF)(e:XE)(S':St)(H:List DF),iE X A3 md all ops S D=some (e,S',H)->S.gl=X.gl->mY S.n ops=true->
 S'.n=S.n/\S'.gl=S.gl/\∀φ g dv a w,Rel φ ⟨g,dv⟩ S a w->rO φ w (Fo ⟨g,dv⟩ φ S.mem) D dv->∀Q:Exit->Act->World->Prop,(∀e' M w',CL S.n φ g S.mem w e S' H e' M w'->Q e' M w')->wpList X.P all.toArray Q ops a w
 |[],S,D,e,S',H,h,T,J=>by
  simp only[iE,adl,aeb]at h;obtain⟨rfl,rfl,rfl⟩:=h;exact⟨rfl,rfl,λφ g dv a w I O Q AD=>AD .normal _ _ ⟨φ,dv,rfl,I,bn.refl ..,O,rfl⟩⟩
 |o::rest,S,D,e,S',H,h,T,J=>by
  simp only[mY,ah7,Ds]at J;obtain⟨Ab,J⟩:=J;have Ac:∀t,o.dst=some t->t<S.n:=λt Ao=>by rw[Ao]at Ab;simpa using Ab
  simp only[iE]at h;cases AT:lf S o with
  |some d=>
   rw[AT]at h;simp only at h;obtain⟨AR,c,AC,args,AK,g0,AF,AS,Ap,AL,Aq,AG,rfl⟩:=Pp AT;obtain⟨AH,AI,AU⟩:=CM A7 rest (S.put o.dst true .bH) _ e S' H h ((o7 ..).trans T) (by rw[pL];exact J);refine⟨AH.trans (pL ..),AI.trans (o7 ..),λφ g dv a w I O Q AD=>?_⟩;have AV:=I.aw AC (by rw[AL]);rw[AL]at AV;generalize Ar:a.eval AC=B0 at AV;cases AV with
   |xf _ _ A0 Ad Ae=>exact absurd Aq (Nat.not_lt.2 (alG _ _))
   |fn _ _ A0 B1 Ad Ae=>
    have As:(execOp a.eval o).run X.P w=.ok (.defer {target:=.fn (.func g0) A0,args:=args.map a.eval}) w:=by
     simp[execOp,AS,Ap,resolve,Ar,Deferred.ofValue]
    have hw:Region.wanted o (yielded all.toArray a.tmps)=true:=by simp[Region.wanted,AR]
    unfold wpList;rw[ac1 hw];left;unfold Oper.wp;rw[As,Oper.upon_defer];have At:Rel φ ⟨g,{target:=.fn (.func g0) A0,args:=args.map a.eval}::dv⟩ S {a with defers:={target:=.fn (.func g0) A0,args:=args.map a.eval}::a.defers} w:=
     ⟨I.size,by rw[I.defers],I.env,I.mem.dv _,I.nK⟩
    have AW:=At.put o.dst Ac true .bH undef (λ_=>.bH _);refine AU φ g _ _ w AW ⟨⟨A0,rfl,?_,?_⟩,?_⟩ Q (λe' a2 AM Y=>AD e' a2 AM ?_)
    .rw[acY,lV];simp[Ad]
    .intro i y v AB A2;rw[ib];by_cases hi:i<args.size
     .rw[ac9 (by rw[lV];simpa using hi),AQ]at AB;rw[ahT (by simpa using hi)]at A2;simp only[Array.getElem?_map,ac3]at A2;obtain⟨z,Af,rfl⟩:=A2;obtain⟨B2,Ag,rfl⟩:=ac3.1 AB;rw[ahH,Af]at Ag;cases Ag;exact I.aw z (zE AG z (by simpa using Array.mem_of_getElem? Af))
     .rw[adb (by rw[lV];simpa using hi),lV]at AB;rw[Array.getElem?_append_right (by simpa using hi)]at A2;simp only[Array.size_map,adA]at AB A2;exact Ae _ _ v AB A2
    .rw[ib];exact O
    .rw[pL,ib]at Y;exact Y
  |none=>
   rw[AT]at h;simp only at h;cases AX:qI X A3 md all S o with
   |none=>rw[AX]at h;cases h
   |some p=>
    obtain⟨U,S1⟩:=p;rw[AX]at h;obtain⟨Z,A4,Au,Ah⟩:=yM A7 T Ac AX;rcases Au with rfl|⟨t0,B3,rfl⟩
    .simp only[NB]at h;obtain⟨AH,AI,AU⟩:=CM A7 rest S1 D e S' H h (A4.trans T) (by rw[Z];exact J);refine⟨AH.trans Z,AI.trans A4,λφ g dv a w I O Q AD=>?_⟩;have:=Ah φ ⟨g,dv⟩ a w I (wpList X.P all.toArray Q rest) Q
      (λ_ φ' M w' AJ A9=>AU φ' g dv M w' AJ (O.keeps A9) Q (λe' a2 AM Y=>AD e' a2 AM (by rw[<-Z];exact Y.weaken A9))) (λt x he=>by cases he)
     unfold wpList;split
     .rename_i hw;rw[ac1 hw]at this;exact .inl this
     .rename_i hw;rw[aaf hw]at this;exact this
    .simp only[NB,adl,aeb]at h;obtain⟨rfl,rfl,rfl⟩:=h;refine⟨Z,A4,λφ g dv a w I O Q AD=>?_⟩;have:=Ah φ ⟨g,dv⟩ a w I (wpList X.P all.toArray Q rest) Q
      (λhe=>by cases he) (λt x he φ' M w' v AJ A9 A2=>AD (.panic _) M w' ⟨φ',dv,Z,AJ,A9,O.keeps A9,t,x,v,he,rfl,A2⟩)
     unfold wpList;split
     .rename_i hw;rw[ac1 hw]at this;exact .inl this
     .rename_i hw;rw[aaf hw]at this;exact this
theorem SL(AN:m8 X)(A7:mi X A3){c:Code}{S:St}{D:List DF}{e:XE}{S':St}{H:List DF}(h:CD D (den X f A3 n c S)=some (e,S',H))(T:S.gl=X.gl)(J:gu X f S.n c=true):
 S'.n=S.n/\S'.gl=S.gl/\∀φ g dv a w,Rel φ ⟨g,dv⟩ S a w->rO φ w (Fo ⟨g,dv⟩ φ S.mem) D dv->c.wp X.P (CL S.n φ g S.mem w e S' H) a w:=by
 cases A':den X f A3 n c S with
 |none=>rw[A']at h;cases h
 |some p=>
  obtain⟨U,S1⟩:=p;rw[A']at h;simp only[CD,adl,aeb]at h;obtain⟨rfl,rfl,rfl⟩:=h;obtain⟨A8,A5,A6⟩:=Pk AN A7 c S U S1 A' T J;refine⟨A8,A5,λφ g dv a w I O=>wp_mono (A6 φ ⟨g,dv⟩ a w I) λe' M w' Y=>?_⟩;obtain⟨φ',Av,AJ,A9,he⟩:=Y.is;exact⟨φ',dv,Av,AJ,A9,O.keeps A9,by cases e'<;>exact he⟩
theorem aeK(AN:m8 X)(A7:mi X A3)(c:Code):∀(S:St)(D:List DF)(e:XE)(S':St)(H:List DF),lh X f A3 n c S D=some (e,S',H)->S.gl=X.gl->gu X f S.n c=true->
 S'.n=S.n/\S'.gl=S.gl/\∀φ g dv a w,Rel φ ⟨g,dv⟩ S a w->rO φ w (Fo ⟨g,dv⟩ φ S.mem) D dv->c.wp X.P (CL S.n φ g S.mem w e S' H) a w:=by
 induction c with
 |seq a b Aw Ax=>
  intro S D e S' H h T J;simp only[gu,Ds]at J;simp only[lh]at h;cases A':lh X f A3 n a S D with
  |none=>rw[A']at h;cases h
  |some p=>
   obtain⟨U,S1,AE⟩:=p;obtain⟨Z,A4,AO⟩:=Aw S D U S1 AE A' T J.1;have stop:U≠.normal->e=U/\S'=S1/\H=AE:=λhe=>by
    rw[A']at h;cases U with
    |normal=>exact absurd rfl he
    |_=>simp only[OX,adl,aeb]at h;exact⟨h.1.symm,h.2.1.symm,h.2.2.symm⟩
   by_cases he:U=.normal
   .subst he;rw[A']at h;simp only[OX]at h;obtain⟨AH,AI,Ay⟩:=Ax S1 AE e S' H h (A4.trans T) (by rw[Z];exact J.2);refine⟨AH.trans Z,AI.trans A4,λφ g dv ac w I O=>wp_seq (wp_mono (AO φ g dv ac w I O) λe' M w' Y=>?_)⟩;obtain⟨φ',A1,A8,A5,A6,AA,V⟩:=Y;cases e' with
    |normal=>exact wp_mono (Ay φ' g A1 M w' A5 AA) λB4 a2 AM Ai=>by rw[Z]at Ai;exact Ai.weaken A6
    |exit id=>cases V
    |ret=>cases V
    |panic chain=>obtain⟨t,x,v,AY,_⟩:=V;cases AY
    |_=>exact V.elim
   .obtain⟨rfl,rfl,rfl⟩:=stop he;refine⟨Z,A4,λφ g dv ac w I O=>wp_seq (wp_mono (AO φ g dv ac w I O) λe' M w' Y=>?_)⟩;cases e' with
    |normal=>obtain⟨_,_,_,_,_,_,V⟩:=Y;exact absurd V he
    |_=>exact Y
 |region id ops draw=>
  intro S D e S' H h T J;simp only[lh]at h;split at h
  .rename_i Aj;simp only[Ds,ahI]at Aj;obtain⟨rfl,_⟩:=Aj;simp only[gu,Ds]at J;have Az:mY S.n ops.toList=true:=J.1;cases A':iE X A3 (X.md f id) ops.toList ops.toList S D with
   |none=>rw[A']at h;cases h
   |some p=>
    obtain⟨U,S1,AE⟩:=p;rw[A']at h;obtain⟨Z,A4,AO⟩:=CM A7 ops.toList S D U S1 AE A' T Az;have Ak:∀φ g dv a w,Rel φ ⟨g,dv⟩ S a w->rO φ w (Fo ⟨g,dv⟩ φ S.mem) D dv->(Code.region id ops false).wp X.P (CL S.n φ g S.mem w U S1 AE) a w:=
     λφ g dv a w I O=>wp_region_lit (AO φ g dv a w I O _ (λ_ _ _ h=>h))
    by_cases he:U=.normal
    .subst he;simp only[EC,adl,aeb]at h;obtain⟨rfl,rfl,rfl⟩:=h;obtain⟨t1,t2,t3⟩:=xK X f id S1;refine⟨t1.trans Z,t2.trans A4,λφ g dv a w I O=>wp_mono (Ak φ g dv a w I O) λe' M w' Y=>?_⟩;obtain⟨φ',A1,A8,A5,A6,AA,V⟩:=Y;cases e' with
     |normal=>
      obtain⟨B',AW,Al⟩:=t3 φ' ⟨g,A1⟩ M w' A5;exact⟨B',A1,t1.trans A8,AW,A6.trans Al,AA.keeps Al,rfl⟩
     |exit id=>cases V
     |ret=>cases V
     |panic chain=>obtain⟨t,x,v,AY,_⟩:=V;cases AY
     |_=>exact V.elim
    .have:e=U/\S'=S1/\H=AE:=by
      cases U with
      |normal=>exact absurd rfl he
      |_=>simp only[EC,adl,aeb]at h;exact⟨h.1.symm,h.2.1.symm,h.2.2.symm⟩
     obtain⟨rfl,rfl,rfl⟩:=this;exact⟨Z,A4,Ak⟩
  .exact SL AN A7 h T J
 |_=>intro S D e S' H h T J;exact SL AN A7 (by simpa only[lh]using h) T J
end
abbrev Ru:=FuncId->Array Value->World->(Ending->World->Prop)->Prop
def Pq(C:Ru):Prop:=∀f vs w R A5,C f vs w R->(∀e w',R e w'->A5 e w')->C f vs w A5
def Pr(C:Ru)(gl:List (Nat×D))(f:FuncId)(args:List AV)(m:Mem)(K:Out->Mem->Prop):Prop:=
 ∀φ G w (vs:Array Value),bK φ G m w->gr w (Fo G φ m) gl->args.length=vs.size->(∀(i:Nat) x v,args[i]?=some x->vs[i]?=some v->aG φ w (Fo G φ m) x v)->
  C f vs w λe w'=>∃φ' m' out,K out m'/\bK φ' G m' w'/\bn φ m w φ' m' w'/\rF φ' w' (Fo G φ' m') out e
def Pr.frz{C:Ru}(Y:Pq C){gl f args}{cs:List aF}{out:Out}{H:List (Nat×aF)}(h:Pr C gl f args (fh 0 cs) λo m=>o=out/\m=eO 0 H)(A6:cs.length<=H.length):
 Pr C gl f args (fh 0 cs) λo m=>o=KA cs.length H out/\m=eO 0 (fS (eO 0 H) (List.range cs.length) (λ_=>true) (λ_ v=>v) 0 (List.range cs.length)):=by
 intro φ G w vs hm Z AH AI;refine Y _ _ _ _ _ (h φ G w vs hm Z AH AI) ?_;rintro e w' ⟨φ',m',A',⟨rfl,rfl⟩,T,I,J⟩;obtain⟨s1,s2,AJ⟩:=FG (G1:=G) (ρ:=List.range cs.length) (bor:=λ_=>true) (nv:=λ_ v=>v) T List.nodup_range (λk U=>BA H 0 k (apR _) (by simp at U;omega)) (λb h=>.inl h) (λb h=>T.nJ b h.own)
  (λk e L b Z _ _ A0 A2=>T.nJ _ ⟨e,(Mem.get_mem Z).1,L,by rw[(Mem.get_mem Z).2];exact A0,A2⟩)
 refine⟨_,_,_,⟨rfl,rfl⟩,s1,⟨?_,I.DU,?_,I.size,I.os,I.tape,I.output⟩,?_⟩
 .intro k L A0;have U:k<cs.length:=by
   have:=hm.ud k L A0;rw[OL,uF]at this;simpa using this
  obtain⟨L',A3,AK,AL⟩:=I.le k L A0;exact⟨L',by simp[cC.kB,U,A3],AK,AL⟩
 .intro b AM A2;exact I.own b AM ((Bo (φ:=φ') (nv:=λ_ v=>v) (bor:=λ_=>true) (λk U=>BA H 0 k (apR _) (by simp at U;omega)) b).1 A2).own
 .cases A' with
  |ret x=>
   cases e with
   |returned v=>exact (s2 x v J).norm
   |_=>exact J.elim
  |panic t x=>
   cases e with
   |panicked chain=>
    obtain⟨v,A1,O⟩:=J;exact⟨v,A1,O.mono (λ_ _ _=>rfl) (aar _) (λb _=>AJ b)⟩
   |_=>exact J.elim
def R4{C:Ru}(Y:Pq C){gl:List (Nat×D)}{A7:bP}(AN:∀g args cs out l,A7 g args cs=some (out,l)->Pr C gl g args (fh 0 cs) λo m=>o=out/\m=eO 0 l)
 {m:Mem} {A8:Nat} {g:FuncId} {M:List AV} {mt:List Nat} {res:im} (h:fi A7 m A8 g M mt=some res) {φ:cC} {G:Fr} {w:World} (hm:bK φ G m w) (AO:gr w (Fo G φ m) gl)
 {vs:Array Value} (A6:M.length=vs.size) (AP:∀(i:Nat) x v,M[i]?=some x->vs[i]?=some v->aG φ w (Fo G φ m) x v):
 C g vs w λe w'=>∃φ',bK φ' G (bV m res.es) w'/\bn φ m w φ' (bV m res.es) w'/\rF φ' w' (Fo G φ' (bV m res.es)) res.out e:=by
 unfold fi po pn at h;obtain⟨ρ,A9⟩:∃ρ,ρ=collect m 64 (pk mt 0 M) []:=⟨_,rfl⟩;have AA:=te m 64 (pk mt 0 M) [] List.nodup_nil (by simp);rw[<-A9]at h AA;generalize (yH mt 0 M).filter (λk=>!ρ.contains k)=B at h;clear A9;obtain⟨AB,AC⟩:=AA;unfold iq at h;split at h
 .rename_i out H AQ;split at h
  .rename_i A1;cases h;have AD:Pr C gl g (kj (mt.contains 1000) m ρ B M) (fh 0 (se (fS m ρ (λk=>B.contains k) ki 0 ρ))) λo m=>o=out/\m=eO 0 H:=by
    obtain⟨Ab,Ac,AR,A3⟩:=EF AQ;have AE:=AN _ _ _ _ _ AR;rcases A3 with ⟨rfl,rfl⟩|⟨Ad,rfl,rfl⟩
    .exact AE
    .have AF:(se (fS m ρ (λk=>B.contains k) ki 0 ρ)).length=ρ.length:=by rw[yL,vp]
     have:=AE.frz Y (by rw[AF];omega);rw[AF]at this;exact this
   simp only[Ds,ams,ac2]at A1;obtain⟨⟨Ae,AS⟩,AT⟩:=A1;rw[EE]at AD;obtain⟨v1,v2,v3⟩:=LL (B:=B) hm AB AC;have AU:∀(i:Nat) x v,(kj (mt.contains 1000) m ρ B M)[i]?=some x->vs[i]?=some v->aG (φ.kB ρ ki) w (Fo (oJ φ G m ρ B) (φ.kB ρ ki) (eO 0 (fS m ρ (λk=>B.contains k) ki 0 ρ))) x v:=by
    intro i x v O AW;rw[CE]at O;obtain⟨y,AX,rfl⟩:=ac3.1 O;exact (v2 y v (AP i y v AX AW)).GK
   have AY:gr w (Fo (oJ φ G m ρ B) (φ.kB ρ ki) (eO 0 (fS m ρ (λk=>B.contains k) ki 0 ρ))) gl:=
    AO.mono (λ_ _ _=>rfl) (aar _) (λb _=>v3 b)
   refine Y _ _ _ _ _ (AD (φ.kB ρ ki) (oJ φ G m ρ B) w _ v1 AY (by rw[wV];exact A6) AU) ?_;rintro e w' ⟨Af,Ag,A',⟨rfl,rfl⟩,AZ,A_,J⟩;have A4:B=[]\/(Ez A'=true/\rL H=true):=AT.imp (by simp) id;obtain⟨φ',T,I,AG⟩:=LM (B:=B) hm AB AC (fr:=List.range' (A8+1) (H.length-ρ.length)) List.nodup_range' (HA AS) AZ A_ (by simp;omega) (A4.imp id λV=>CF V.2);refine⟨φ',T,I,?_⟩;cases A' with
   |ret x=>
    cases e with
    |returned v=>exact AG x v (A4.imp id λV=>V.1) J
    |_=>exact J.elim
   |panic t x=>
    cases e with
    |panicked chain=>
     obtain⟨v,rfl,O⟩:=J;have:=AG (.d x) v (A4.imp id λV=>V.1) (.d _ _ O);cases this with
     |d _ _ Aa=>exact⟨v,rfl,Aa⟩
    |_=>exact J.elim
  .cases h
 .cases h
def Md{P:Program}{ops:Array Oper}{Q:Exit->Act->List Frame->World->Prop}{cs:List Frame}(AD:∀a w,¬Q .outgrown a cs w):∀(l:List Nat)(a:Act)(w:World),
 wpOps P ops (λe a w=>Q e a cs w) l a w->wpOpsS P ops Q l a cs w
 |[],a,w,h=>h
 |i::rest,a,w,h=>by
  have ih:=Md (P:=P) (ops:=ops) AD rest;unfold wpOps at h;unfold wpOpsS;split at h
  .rename_i y;simp only[y];exact ih a w h
  .rename_i o y;simp only[y];split at h
   .rename_i hw;rw[ac1 hw];rcases h with h|⟨_,a0,w0,h⟩
    .have Y:=Oper.wp_mono (K':=λJ w'=>wpOpsS P ops Q rest J cs w') ih h;unfold Oper.wp at Y;split
     .rename_i w' M;rw[M]at Y;exact Y.elim
     .exact Y
    .exact absurd h (AD a0 w0)
   .rename_i hw;rw[aaf hw];exact ih _ w h
def Vv(D:Frame)(H:List Frame)(v:Value)(I:FrameMode):Prop:=
 recoverD (D::H)=some (v,{D with mode:=I}::H)\/(recoverD (D::H)=none/\v=.nilIface/\I=D.mode)
def KL{o:Oper}(h:zN o=true):o.guard=none/\∃A6,o.op=.call {callee:=.builtin .recover,args:=#[],argTypes:=A6}:=by
 unfold zN at h;split at h
 .rename_i args A6 A8 y;refine⟨A8,A6,?_⟩;rw[y];have:args=#[]:=by
   cases args with
   |mk l=>cases l with
    |nil=>rfl
    |cons a r=>simp at h
  rw[this]
 .cases h
abbrev NC(D:Frame)(H:List Frame)(I:FrameMode)(n:Nat)(φ:cC)(G:Fr)(m:Mem)(w:World)(e:XE)(S':St):Exit->Act->List Frame->World->Prop:=
 λe' J A2 w'=>A2={D with mode:=I}::H/\rf n φ G m w (Is e S') e' J w'
def CN{P:Program}{c:Code}{Q AE:Exit->Act->List Frame->World->Prop}{a:Act}{cs:List Frame}{w:World}(h:c.wpS P Q a cs w)(AO:∀e a cs w,Q e a cs w->AE e a cs w):c.wpS P AE a cs w:=
 λb k AP M=>let ⟨e,J,A2,w',q,r⟩:=h b k AP M;⟨e,J,A2,w',AO _ _ _ _ q,r⟩
section
variable {X:Ctx} {A9:bP} {f:FuncId} {n:Nat}
theorem aeL(AQ:m8 X)(AF:mi X A9)(A3:AV)(c:Code):∀(S:St)(e:XE)(S':St),rl X f A9 n A3 c S=some (e,S')->S.gl=X.gl->gu X f S.n c=true->
 S'.n=S.n/\S'.gl=S.gl/\∀φ G a w D H v I,Vv D H v I->aG φ w (Fo G φ S.mem) A3 v->Rel φ G S a w->c.wpS X.P (NC D H I S.n φ G S.mem w e S') a (D::H) w:=by
 induction c with
 |seq a b AG Ah=>
  intro S e S' h A5 A';simp only[gu,Ds]at A';simp only[rl]at h;rcases jO h with ⟨S1,A0,Y⟩|⟨A0,Y⟩
  .obtain⟨T,U,V⟩:=AG S .normal S1 A0 A5 A'.1;obtain⟨AR,AS,AT⟩:=Pk AQ AF b S1 e S' Y (U.trans A5) (by rw[T];exact A'.2);refine⟨AR.trans T,AS.trans U,λφ G ac w D H v I O A1 M=>wpS_seq (CN (V φ G ac w D H v I O A1 M) ?_)⟩;rintro e' J A2 w' ⟨rfl,Z⟩;obtain⟨φ',AH,AA,AB,he⟩:=Z.is;cases e' with
   |normal=>
    refine wpS_of_wp (wp_mono (AT φ' G J w' AA) λAi a2 Aj AI=>⟨rfl,?_⟩);rw[T]at AI;exact AI.weaken AB
   |exit id=>cases he
   |ret=>cases he
   |panic chain=>obtain⟨t,x,v,AU,_⟩:=he;cases AU
   |_=>exact he.elim
  .obtain⟨T,U,V⟩:=AG S e S' A0 A5 A'.1;refine⟨T,U,λφ G ac w D H v I O A1 M=>wpS_seq (CN (V φ G ac w D H v I O A1 M) ?_)⟩;rintro e' J A2 w' ⟨rfl,Z⟩;cases e' with
   |normal=>obtain⟨φ',_,_,_,he⟩:=Z.is;exact absurd he Y
   |_=>exact⟨rfl,Z⟩
 |region id ops draw=>
  intro S e S' h A5 A';simp only[rl]at h;split at h
  .rename_i o r AJ;split at h
   .rename_i AW;obtain⟨A8,A6,y⟩:=KL AW;simp only[gu,Ds]at A';have AC:mY S.n ops.toList=true:=A'.1;rw[AJ]at AC;simp only[mY,ah7,Ds]at AC;obtain⟨AK,AX⟩:=AC;have AY:∀t,o.dst=some t->t<S.n:=λt AZ=>by rw[AZ]at AK;simpa using AK
    have A7:(o::r).toArray=ops:=by rw[<-AJ]
    have key:∀A4 S1,jw X A9 (X.md f id) (o::r) r (S.put o.dst true A3)=some (A4,S1)->S1.n=S.n/\S1.gl=S.gl/\∀φ G a w D H v I,Vv D H v I->aG φ w (Fo G φ S.mem) A3 v->Rel φ G S a w->
     (Code.region id ops false).wpS X.P (NC D H I S.n φ G S.mem w A4 S1) a (D::H) w:=by
     intro A4 S1 A0;obtain⟨T,U,V⟩:=EJ AF r (S.put o.dst true A3) A4 S1 A0 ((o7 ..).trans A5) (by rw[pL];exact AX);rw[pL]at T V;rw[o7]at U;rw[ib]at V;refine⟨T,U,λφ G a w D H v I O A1 M=>wpS_region ?_⟩;have A_:List.range ops.size=0::List.range' 1 r.length:=by
      rw[<-A7];simp[List.range_eq_range',aie]
     have Aa:ops[0]?=some o:=by rw[<-A7];simp
     have Ab:(execOp a.eval o).run X.P w=.ok .recover w:=by
      simp[execOp,y,resolve,Deferred.ofValue,invoke,builtin]
     have Ac:=M.put o.dst AY true A3 v (λ_=>A1);have AM:=V φ G _ w Ac (λe a w'=>NC D H I S.n φ G S.mem w A4 S1 e a ({D with mode:=I}::H) w') (λe' J w' Z=>⟨rfl,Z⟩);rw[A7,<-wpOps_eq_wpList r 1 (λj=>by rw[<-A7];simp[Nat.add_comm])]at AM;have AN:=Md (Q:=NC D H I S.n φ G S.mem w A4 S1) (cs:={D with mode:=I}::H) (λ_ _ hh=>hh.2) _ _ _ AM;rw[A_];unfold wpOpsS;simp only[Aa];rw[ac1 (by simp[Region.wanted,A8])];simp only[Ab];rcases O with O|⟨O,rfl,rfl⟩
     .rw[O];exact AN
     .rw[O];exact AN
    unfold AL at h;split at h
    .rename_i S1 A0;cases h;obtain⟨T,U,V⟩:=key _ _ A0;obtain⟨t1,t2,t3⟩:=xK X f id S1;refine⟨t1.trans T,t2.trans U,λφ G a w D H v I O A1 M=>CN (V φ G a w D H v I O A1 M) ?_⟩;rintro e' J A2 w' ⟨rfl,Z⟩;refine⟨rfl,?_⟩;obtain⟨φ',AH,AA,AB,he⟩:=Z.is;cases e' with
     |normal=>
      obtain⟨Ad,Ae,Af⟩:=t3 φ' G J w' AA;exact⟨Ad,_,t1.trans AH,⟨rfl,rfl⟩,Ae,AB.trans Af⟩
     |exit id=>cases he
     |ret=>cases he
     |panic chain=>obtain⟨t,x,v,Ag,_⟩:=he;cases Ag
     |_=>exact he.elim
    .exact key _ _ h
   .cases h
  .cases h
 |_=>intro S e S' h;simp[rl]at h
end
section
variable {X:Ctx} {A9:bP} {f:FuncId} {n:Nat}
theorem Ps{fn:Func}{args:List AV}{cs:List aF}(AN:args.length<=fn.ntmps)(AO:cs.length<=100)(A0:∀k∈(X.fp f).sites,100<=k)(AA:(X.fp f).sites.Nodup)
 {φ:cC} {G:Fr} {w:World} {vs:Array Value} (AB:G.dv=[]) (hm:bK φ G (fh 0 cs) w) (AC:gr w (Fo G φ (fh 0 cs)) X.gl) (AD:args.length=vs.size)
 (AE:∀(i:Nat) x v,args[i]?=some x->vs[i]?=some v->aG φ w (Fo G φ (fh 0 cs)) x v):
 Rel (φ.add (X.fp f).sites) G (entry fn.ntmps X.gl args cs (X.fp f).sites) {tmps:=vs++Array.replicate (fn.ntmps-vs.size) undef,defers:=[]} w/\
  bn φ (fh 0 cs) w (φ.add (X.fp f).sites) (entry fn.ntmps X.gl args cs (X.fp f).sites).mem w/\(∀k L,φ k=some L->k<cs.length/\L.au=0):=by
 have AP:∀k,k∈(fh 0 cs).map (·.key)↔k<cs.length:=λk=>by rw[HH];simp
 have AF:∀k∈(X.fp f).sites,k∉(fh 0 cs).map (·.key):=by
  intro k A1 Ac;have A2:=A0 k A1;have A3:=(AP k).1 Ac;omega
 have V:∀k L,φ k=some L->k<cs.length/\L.au=0:=λk L AQ=>by
  have A1:=hm.ud k L AQ;obtain⟨e,he,rfl⟩:=adk.1 A1;obtain⟨L',AR,Ad,_⟩:=hm.gZ e he;rw[AQ]at AR;cases AR;exact⟨(AP _).1 A1,by rw[Ad];exact KK cs 0 e he⟩
 have AG:=hm.add AA AF;have AH:bn φ (fh 0 cs) w (φ.add (X.fp f).sites) (fh 0 cs++(X.fp f).sites.map dead) w:=⟨OK hm AF,λ_ _ _=>rfl,λb _ Ae=>(FH AF b).1 Ae,aar _,rfl,rfl,rfl⟩;refine⟨⟨by simp[entry];omega,AB.symm,λt x Y=>?_,AG,AH.nK AC⟩,AH,V⟩;obtain⟨j,rfl,AS⟩:=Cu 0 args t _ Y;have AI:j<vs.size:=by rw[<-AD];exact (aap.1 AS).1
 have e:(vs++Array.replicate (fn.ntmps-vs.size) undef).getD (0+j) undef=vs[j]:=by
  simp only[agT,aef];rw[ahT AI];simp[AI]
 rw[e];exact AH.av (AE j x _ AS (by simp[AI]))
theorem Me{fn:Func}{cs:List aF}{out:Out}{l:List (Nat×aF)}{φ φ':cC}{G:Fr}{S':St}{I:Act}{w w':World}(U:Rel φ' G S' I w')(AJ:bn φ (fh 0 cs) w φ' S'.mem w')
 (V:∀k L,φ k=some L->k<cs.length/\L.au=0) (J:finish X.P (X.fp f) cs.length fn.results.toList S'=some (out,l)):
 ∃v,(results fn I.tmps).run X.P w'=.ok v w'/\∃D m' Z,(Z=out/\m'=eO 0 l)/\bK D G m' w'/\bn φ (fh 0 cs) w D m' w'/\rF D w' (Fo G D m') Z (.returned v):=by
 unfold finish at J;split at J
 .rename_i Af xs Ag;split at J
  .rename_i Ah;obtain⟨O,A2,A3,AK⟩:=Cr U fn.results.toList Af xs Ag Ah;obtain⟨A4,T,rfl,g1,g2,g3,g4,_⟩:=xE J U.mem U.nK A3 AK AJ V;have Ai:(results fn I.tmps).run X.P w'=.ok (if h:O.toArray.size=1 then O.toArray[0]else .tuple O.toArray) w':=by
    have e:results fn I.tmps=(do let vs <-fn.results.mapM (Ek I.tmps);pure (if h:vs.size=1 then vs[0]else .tuple vs)):=by
     unfold results;congr 1
    rw[e,Array.mapM_eq_mapM_toList];simp only[Sem.run_bind,Sem.run_map,A2,Result.andThen_ok,Sem.run_pure]
   refine⟨_,Ai,A4,_,_,⟨rfl,rfl⟩,g1,g2,?_⟩;show aG A4 w' _ (oneOf T) _;by_cases AL:O.length=1
   .obtain⟨v,rfl⟩:∃v,O=[v]:=by
     cases O with
     |nil=>simp at AL
     |cons v r=>exact⟨v,by cases r with|nil=>rfl|cons _ _=>simp at AL⟩
    obtain⟨y,rfl⟩:∃y,T=[y]:=by
     cases T with
     |nil=>simp at g3
     |cons v r=>exact⟨v,by cases r with|nil=>rfl|cons _ _=>simp at g3⟩
    simpa [oneOf]using g4 0 y v (by simp) (by simp)
   .have e:oneOf T=.bq T:=by
     cases T with
     |nil=>rfl
     |cons y r=>cases r with|nil=>simp at g3;omega|cons _ _=>rfl
    rw[e,dif_neg (by simpa using AL)];exact .bq T O.toArray (by simpa using g3) (λi y v h Aj=>g4 i y v h (by simpa using Aj))
  .cases J
 .cases J
def XU(u:FrameMode)(v:Value):Prop:=(v=.nilIface/\u=.returning)\/∃t x,v=.iface t x/\u=.panicking [{v:=.iface t x,recovered:=false}]
def RuR(P:Program):Ru:=λf vs w R=>∀u v,vs.back?=some v->XU u v->CallsD P f vs.pop u w λe H w'=>settle H=.returning/\R e w'
theorem abb(P:Program):Pq (RuR P):=λf vs w R B1 h Ak u v M hm=>(h u v M hm).mono λe H w' hh=>⟨hh.1,Ak e w' hh.2⟩
theorem XV(AT:m8 X)(Al:mi X A9){fn:Func}{c:Code}{args:List AV}{cs:List aF}{out:Out}{l:List (Nat×aF)}(AU:X.P.funcs[f]?=some fn)(AW:fn.body=some c)
 (h:Bw X f A9 n fn c args cs=some (out,l)):Pr (RuR X.P) X.gl f args (fh 0 cs) λo m=>o=out/\m=eO 0 l:=by
 unfold Bw at h;split at h
 .rename_i A5 AX;split at h
  .rename_i AY;simp only[Ds,ac2,adp]at AY;obtain⟨⟨⟨AN,AO⟩,A0⟩,AA⟩:=AY;intro φ A6 w vs AG AC AD AE u v M An;obtain⟨G,A'⟩:∃G:Fr,G=⟨A6.g,[]⟩:=⟨_,rfl⟩;have AB:G.dv=[]:=by rw[A']
   have hm:bK φ G (fh 0 cs) w:=by rw[A'];exact AG.dv []
   have Ao:gr w (Fo G φ (fh 0 cs)) X.gl:=by rw[A'];exact AC
   have AZ:∀(i:Nat) x v,args[i]?=some x->vs[i]?=some v->aG φ w (Fo G φ (fh 0 cs)) x v:=by rw[A'];exact AE
   have Ap:args≠[]:=by rintro rfl;cases AX
   have B2:0<args.length:=List.length_pos_iff.2 Ap;have Aq:args.dropLast.length=vs.pop.size:=by simp;omega
   obtain⟨Ar,A_,V⟩:=Ps (fn:=fn) AN AO A0 AA AB hm Ao Aq (λi x v Y M=>by
    have hi:i<args.length-1:=by have:=(aap.1 Y).1;simpa using this
    refine AZ i x v ?_ ?_
    .rw[List.dropLast_eq_take,List.getElem?_take_of_lt (by omega)]at Y;exact Y
    .rw[Array.getElem?_pop]at M;rw[ac1 (by omega)]at M;exact M)
   have As:aG (φ.add (X.fp f).sites) w (Fo G (φ.add (X.fp f).sites) (entry fn.ntmps X.gl args.dropLast cs (X.fp f).sites).mem) A5 v:=by
    refine A_.av (AZ (args.length-1) A5 v ?_ ?_)
    .rw[<-aiC];exact AX
    .rw[Array.back?]at M;rw[AD];exact M
   cases AM:rl X f A9 n A5 c (entry fn.ntmps X.gl args.dropLast cs (X.fp f).sites)with
   |none=>rw[AM]at h;cases h
   |some p=>
    obtain⟨e,S'⟩:=p;rw[AM]at h;obtain⟨B3,B4,At⟩:=aeL AT Al A5 c _ e S' AM rfl (AT.aa9 f fn c AU AW A0);refine callsD_of_wpS AU AW λA7 A8 hu=>?_;obtain⟨H,Au,Av⟩:∃H,Vv A7 A8 v H/\settle H=.returning:=by
     rcases An with ⟨rfl,rfl⟩|⟨t,x,rfl,rfl⟩
     .exact⟨.returning,.inr ⟨by simp[recoverD,hu],rfl,hu.symm⟩,rfl⟩
     .exact⟨.panicking [{v:=.iface t x,recovered:=true}],.inl (by simp[recoverD,hu]),by simp[settle]⟩
    refine CN (At _ G _ w A7 A8 v H Au As Ar) ?_;rintro e' I B5 w' ⟨rfl,Aw⟩;obtain⟨φ',_,U,Ax,he⟩:=Aw.is;have AJ:=A_.trans Ax;have Aa:finish X.P (X.fp f) cs.length fn.results.toList S'=some (out,l)->I.defers=[]/\∃Ab,({A7 with mode:=H}::A8)={A7 with mode:=Ab}::A8/\∃v,(results fn I.tmps).run X.P w'=.ok v w'/\(settle Ab=.returning/\
     ∃D m' Z,(Z=out/\m'=eO 0 l)/\bK D A6 m' w'/\bn φ (fh 0 cs) w D m' w'/\rF D w' (Fo A6 D m') Z (.returned v)):=by
     intro J;obtain⟨v,A2,A4,Ay,Az,A3,AK,B',B0⟩:=Me U AJ V J;subst A';exact⟨U.defers,H,rfl,v,A2,Av,A4,Ay,Az,A3,AK.dv A6.dv,B',B0⟩
    cases e' with
    |normal=>cases he;exact Aa h
    |ret=>cases he;exact Aa h
    |exit id=>cases he;cases h
    |panic chain=>obtain⟨t,x,v,rfl,_⟩:=he;cases h
    |_=>exact he.elim
  .cases h
 .cases h
end
def ads(X:Ctx)(A':bP):Prop:=∀g args cs out l,A' g args cs=some (out,l)->jM X.P g=true/\Pr (RuR X.P) X.gl g args (fh 0 cs) λo m=>o=out/\m=eO 0 l
def Nq{T:bP}{m:Mem}{AT:Nat}{g:FuncId}{AH:List AV}{mt:List Nat}{res:im}(h:fi T m AT g AH mt=some res):∃args cs out l,T g args cs=some (out,l):=by
 unfold fi po pn iq at h;split at h
 .rename_i out B6 U;obtain⟨B7,B8,AI,_⟩:=EF U;exact⟨_,_,_,_,AI⟩
 .cases h
section
variable {X:Ctx} {T A':bP} {f:FuncId} {n:Nat}
theorem XW(D:m8 X)(AB:mi X T)(AJ:ads X A'){fn:Func}{c:Code}{args:List AV}{cs:List aF}{out:Out}{l:List (Nat×aF)}(H:X.P.funcs[f]?=some fn)(I:fn.body=some c)
 (h:Bx X f T A' n fn c args cs=some (out,l)):Ev X.P X.gl f args (fh 0 cs) λo m=>o=out/\m=eO 0 l:=by
 unfold Bx at h;split at h
 .rename_i AK;simp only[Ds,ac2,adp]at AK;obtain⟨⟨⟨AU,AW⟩,AL⟩,AX⟩:=AK;refine Ev.dv ?_;intro φ G w vs AC hm AY AZ A_;obtain⟨A3,A0,AN⟩:=Ps (fn:=fn) AU AW AL AX AC hm AY AZ A_;obtain⟨g,B9⟩:=G;simp only at AC;subst AC;cases AD:lh X f T n c (entry fn.ntmps X.gl args cs (X.fp f).sites) []with
  |none=>rw[AD]at h;cases h
  |some p=>
   obtain⟨e,S',AO⟩:=p;rw[AD]at h;obtain⟨BA,Aa,Ab⟩:=aeK D AB c _ _ e S' AO AD rfl (D.aa9 f fn c H I AL);refine calls_of_wp_defers H I (wp_mono (Ab _ g [] _ w A3 trivial) λe' J w' Ac=>?_);obtain⟨φ',AP,_,O,Ad,A4,he⟩:=Ac;have A5:=A0.trans Ad;have Ae:S'.gl=X.gl:=Aa;have back:∀{Y:cC}{A6:St}{M:World},Rel Y ⟨g,AP⟩ A6 J M->bn φ (fh 0 cs) w Y A6.mem M->finish X.P (X.fp f) cs.length fn.results.toList A6=some (out,l)->
    ∃v,(results fn J.tmps).run X.P M=.ok v M/\∃A7 m' A1,(A1=out/\m'=eO 0 l)/\bK A7 ⟨g,[]⟩ m' M/\bn φ (fh 0 cs) w A7 m' M/\rF A7 M (Fo ⟨g,[]⟩ A7 m') A1 (.returned v):=by
    intro Y A6 M Af A8 Ag;obtain⟨v,Ah,Ai,Aj,Ak,Al,An,Ao,Ap⟩:=Me Af A8 AN Ag;exact⟨v,Ah,Ai,Aj,Ak,Al,An.dv [],Ao,Ap⟩
   match AO,AP,A4 with
   |[],[],_=>
    have V:J.defers=[]:=O.defers;simp only[AM]at h;cases e' with
    |normal=>cases he;show Leaves _ _ _ _ J.defers _ _;rw[V];exact back O A5 h
    |ret=>cases he;show Leaves _ _ _ _ J.defers _ _;rw[V];exact back O A5 h
    |exit id=>cases he;cases h
    |panic chain=>
     obtain⟨t,x,v,rfl,rfl,AE⟩:=he;have Aq:uJ (X.fp f) cs.length S' [] (λ_=>.panic t x)=some (out,l):=h;obtain⟨Y,AH,rfl,g1,g2,_,_,g5⟩:=xE (vs:=[]) Aq O.mem O.nK rfl (by simp) A5 AN;show Leaves _ _ _ _ J.defers _ _;rw[V];exact⟨Y,_,_,⟨rfl,rfl⟩,g1,g2,v,rfl,AE.mono (λ_ _ _=>rfl) (aar _) (λb _=>g5 b)⟩
    |_=>exact he.elim
   |[d],[Z],⟨Ar,_⟩=>
    have V:J.defers=[Z]:=O.defers;simp only[AM]at h;have one:∀u A9 A2,u≠FrameMode.run->XU u A2->aG φ' w' (Fo ⟨g,[Z]⟩ φ' S'.mem) A9 A2->Hy e=some A9->
     Leaves X.P fn J.tmps (λe w'=>∃φ' m' A1,(A1=out/\m'=eO 0 l)/\bK φ' ⟨g,[]⟩ m' w'/\bn φ (fh 0 cs) w φ' m' w'/\rF φ' w' (Fo ⟨g,[]⟩ φ' m') A1 e) [Z] u w':=by
     intro u A9 A2 hu As At Au;rw[Au]at h;simp only[xI]at h;cases U:fi A' S'.mem 0 d.1 (d.2++[A9]) (X.fp d.1).AF with
     |none=>rw[U]at h;cases h
     |some res=>
      rw[U]at h;obtain⟨AG,AQ,AR,Av⟩:=Ar;obtain⟨_,_,_,_,Aw⟩:=Nq U;have Ax:=(AJ _ _ _ _ _ Aw).1;have Ay:=R4 (abb X.P) (gl:=X.gl) (λg args cs out l hh=>(AJ g args cs out l hh).2) U (φ:=φ') (G:=⟨g,[Z]⟩) (w:=w') (vs:=(Z.args++AG).push A2) O.mem (by rw[<-Ae];exact O.nK)
       (by simp[AR];omega) (λi x v y AA=>by
        by_cases hi:i<d.2.length
        .rw[ac9 hi]at y;rw[Array.getElem?_push,aaf (by omega)]at AA;exact Av i x v y AA
        .have:i=d.2.length:=by
          have:=(aap.1 y).1;simp at this;omega
         subst this;rw[adb (aar _)]at y;simp at y;subst y;rw[Array.getElem?_push,ac1 AR]at AA;cases AA;exact At)
      have AS:=Ay u A2 (by simp) As;rw[Array.pop_push]at AS;refine⟨hu,.func d.1,AG,d.1,Z.args++AG,AQ,by rw[AQ];simp[invoke,yK Ax],AS.mono ?_⟩;rintro A0 Az M ⟨B',Y,B0,A8,B1⟩;unfold ED at h;split at h
      .rename_i x es ks heq;cases heq;cases A0 with
       |returned v2=>
        show Leaves _ _ _ _ [] (settle Az) M;rw[B'];exact back (O.DW B0 A8) (A5.trans A8) h
       |_=>exact B1.elim
      .cases h
    cases e' with
    |normal=>cases he;show Leaves _ _ _ _ J.defers _ _;rw[V];exact one .returning _ .nilIface (by simp) (.inl ⟨rfl,rfl⟩) (.lit _ rfl) rfl
    |ret=>cases he;show Leaves _ _ _ _ J.defers _ _;rw[V];exact one .returning _ .nilIface (by simp) (.inl ⟨rfl,rfl⟩) (.lit _ rfl) rfl
    |exit id=>cases he;cases h
    |panic chain=>
     obtain⟨t,x,v,rfl,rfl,AE⟩:=he;show Leaves _ _ _ _ J.defers _ _;rw[V];exact one (.panicking [{v:=.iface t v,recovered:=false}]) _ (.iface t v) (by simp) (.inr ⟨t,v,rfl,rfl⟩) (.jG _ _ _ AE) rfl
    |_=>exact he.elim
   |_::_::_,_,_=>cases h
 .cases h
theorem abc(D:m8 X)(AB:mi X T):ads X (qJ X n T):=by
 intro g args cs out l h;unfold qJ at h;split at h
 .rename_i fn H;split at h
  .rename_i c I;refine⟨?_,XV D AB H I h⟩;unfold jM;rw[H];simp[I,D.names g fn H]
  .cases h
 .cases h
theorem Pt(D:m8 X):∀n,mi X (bE X n)
 |0=>λg args cs out l h=>by cases h
 |n+1=>λg args cs out l h=>by
  have ih:=Pt D n;simp only[bE,D.ov]at h;split at h
  .rename_i AI B2;exact ahM D B2 h
  split at h
  .rename_i fn H;split at h
   .rename_i c I;have U:jM X.P g=true:=by
     unfold jM;rw[H];simp[I,D.names g fn H]
    refine⟨U,?_⟩;cases A4:yJ c with
    |true=>
     rw[A4]at h;exact XW D ih (abc D ih) H I h
    |false=>
    rw[A4]at h;simp only[By]at h;unfold jN at h;split at h
    .split at h
     .rename_i r;unfold nr at h;split at h
      .rename_i a b B3 B4;split at h
       .rename_i B5;subst B5;have A3:=ir B3;have A0:=ir B4;rw[A3]at h;cases h;exact Ev.split (CK D ih H I A3) (CK D ih H I A0)
       .cases h
      .cases h
     .exact CK D ih H I h
    .exact CK D ih H I h
   .cases h
  .cases h
end
def aO{α:Type}(f:Nat->Option α):Prop:=∀n r,f n=some r->f (n+1)=some r
def aO.le{α:Type}{f:Nat->Option α}(h:aO f){n m:Nat}(Ai:n<=m){r:α}(A':f n=some r):f m=some r:=by
 induction Ai with
 |refl=>exact A'
 |step _ ih=>exact h _ _ ih
def aO.const{α:Type}(x:Option α):aO λ_=>x:=λ_ _ h=>h
def aO.bind{α β:Type}{f:Nat->Option α}{g:α->Nat->Option β}(Y:aO f)(A0:∀x,aO (g x)):aO λn=>(f n).bind λx=>g x n:=by
 intro n r h;obtain⟨x,AG,A'⟩:=agO.1 h;simp only[Y n x AG,ad8];exact A0 x n r A'
open Classical in
noncomputable def jF{α:Type}(f:Nat->Option α):Option α:=if h:∃n,(f n).isSome=true then f (Classical.choose h)else none
def eW{α:Type}{f:Nat->Option α}(Y:aO f){r:α}:jF f=some r↔∃n,f n=some r:=by
 unfold jF;constructor
 .intro h;split at h
  .exact⟨_,h⟩
  .cases h
 .rintro ⟨n,Z⟩;have hex:∃n,(f n).isSome=true:=⟨n,by rw[Z];rfl⟩;rw[dif_pos hex];have AQ:=apN hex;obtain⟨Ax,AR⟩:=alc.1 AQ;rw[AR];rcases Nat.le_total n (Classical.choose hex)with M|M
  .rw[<-AR];exact Y.le M Z
  .have:=Y.le M AR;rw[this]at Z;exact Z
def bx{α:Type}(x:Option α):jF (λ_=>x)=x:=by
 cases x with
 |some r=>exact (eW (aO.const _)).2 ⟨0,rfl⟩
 |none=>unfold jF;rw[dif_neg];rintro ⟨_,h⟩;cases h
def fq{α β:Type}{f:Nat->Option α}{g:α->Nat->Option β}(Y:aO f)(A0:∀x,aO (g x)):jF (λn=>(f n).bind λx=>g x n)=(jF f).bind λx=>jF (g x):=by
 apply Option.ext;intro r;rw[eW (Y.bind A0),agO];constructor
 .rintro ⟨n,Z⟩;obtain⟨x,AG,A'⟩:=agO.1 Z;exact⟨x,(eW Y).2 ⟨n,AG⟩,(eW (A0 x)).2 ⟨n,A'⟩⟩
 .rintro ⟨x,AG,A'⟩;obtain⟨n,Z⟩:=(eW Y).1 AG;obtain⟨m,hm⟩:=(eW (A0 x)).1 A';exact⟨max n m,by rw[Y.le (Nat.le_max_left n m) Z];exact (A0 x).le (Nat.le_max_right n m) hm⟩
def Mf{α:Type}{f:Nat->Option α}(Y:aO f):jF (λn=>f (n+1))=jF f:=by
 have Aj:aO λn=>f (n+1):=λn r h=>Y (n+1) r h;apply Option.ext;intro r;rw[eW Aj,eW Y];exact⟨λ⟨n,h⟩=>⟨n+1,h⟩,λ⟨n,h⟩=>⟨n,Y n r h⟩⟩
def aT(k:St->Option (XE×St)):XE×St->Option (XE×St)
 |(.normal,S)=>k S
 |r=>some r
def CO(r:Option (XE×St))(k:St->Option (XE×St)):andThen r k=r.bind (aT k):=by
 rcases r with _|⟨e,S⟩
 .rfl
 .cases e<;>rfl
def mT(k:St->St):XE×St->Option (XE×St)
 |(.normal,S)=>some (.normal,k S)
 |r=>some r
def uS(k:St->St)(r:Option (XE×St)):AL k r=r.bind (mT k):=by
 rcases r with _|⟨e,S⟩
 .rfl
 .cases e<;>rfl
def bT(id:Nat):XE×St->Option (XE×St)
 |(.exit Ae,S)=>if Ae=id then some (.normal,S)else some (.exit Ae,S)
 |r=>some r
def Pu(id:Nat)(r:Option (XE×St)):Ja id r=r.bind (bT id):=by
 rcases r with _|⟨e,S⟩
 .rfl
 .cases e<;>rfl
def cT(m:Mem)(A2:Nat)(ρ B:List Nat)(V:Nat)(b:Bool)(p:Out×List (Nat×aF)):Option im:=iq m A2 ρ B (AH V b (some p))
def AS(m:Mem)(A2:Nat)(ρ B:List Nat)(V:Nat)(b:Bool)(r:Option (Out×List (Nat×aF))):iq m A2 ρ B (AH V b r)=r.bind (cT m A2 ρ B V b):=by cases r<;>rfl
def KM(S:St)(d:Option Nat)(r:Option im):eG S d r=r.bind λc=>eG S d (some c):=by cases r<;>rfl
def Pv(b:Bool)(m:Mem)(r:Option im):CC b m r=r.bind λc=>CC b m (some c):=by cases r<;>cases b<;>rfl
def HJ(S:St)(o:Oper)(r:Option im):vy S o r=r.bind λc=>vy S o (some c):=by cases r<;>rfl
def qc(H:List bC)(r:Option (St×bC))(k:St->List bC->Option (XE×St)):NA H r k=r.bind λp=>k p.1 (p.2::H):=by cases r<;>rfl
def Pw(P:Program)(p:il)(V:Nat)(rs:List ResultVar)(r:Option (XE×St)):fin P p V rs r=r.bind λq=>fin P p V rs (some q):=by cases r<;>rfl
def gj(C:Nat->bP):Prop:=∀g a c,aO λk=>C k g a c
section
variable {X:Ctx} {C:Nat->bP} {S:St} {o:Oper} {md:Bool}
theorem rP(D:gj C)(m:Mem)(A2:Nat)(g:FuncId)(AO:List AV)(mt:List Nat):aO (λk=>fi (C k) m A2 g AO mt):=by
 unfold fi po pn;simp only[AS];exact (D _ _ _).bind λ_=>aO.const _
theorem nX(D:gj C)(args:List Operand)(O:Bool×AV):aO (λk=>dw X (C k) S o args O):=by
 unfold dw;split
 .split
  .simp only[Pv _ _ (fi _ _ _ _ _ _)];exact (rP D _ _ _ _ _).bind λ_=>aO.const _
  .exact aO.const _
 .exact aO.const _
theorem R5(D:gj C):aO (λk=>wc X (C k) S o):=by
 unfold wc;split
 .rename_i O args A9 A5;have M:(λk=>eG S o.dst (dw X (C k) S o args.toList (S.aw O)))=λk=>(dw X (C k) S o args.toList (S.aw O)).bind λc=>eG S o.dst (some c):=by
   funext k;exact KM ..
  rw[M];exact (nX D args.toList (S.aw O)).bind (λ_=>aO.const _)
 .exact aO.const _
 .exact aO.const _
theorem AT(D:gj C)(r:ep):aO (λk=>kl X (C k) S o r):=by
 cases r with
 |no=>exact R5 D
 |val c x=>exact aO.const _
 |dU c x e=>exact aO.const _
theorem Px(D:gj C)(b:Bool)(r:ep):aO (λk=>sG X (C k) S o b r):=by
 have other:∀r,aO (λk=>if b=true then kl X (C k) S o r else some (.normal,S.put o.dst true .bH)):=by
  intro r;split
  .exact AT D r
  .exact aO.const _
 cases r with
 |no=>exact other .no
 |val c x=>exact aO.const _
 |dU c x e=>exact other (.dU c x e)
theorem xM(D:gj C)(all:List Oper):aO (λk=>qI X (C k) md all S o):=by
 unfold qI;split
 .exact AT D _
 .split
  .split
   .exact Px D _ _
   .split
    .exact AT D _
    .exact aO.const _
  .exact aO.const _
  .exact aO.const _
theorem tE{F:Nat->Option (XE×St)}{K:St->Nat->Option (XE×St)}(A3:aO F)(AJ:∀S,aO (K S)):aO (λn=>andThen (F n) (λS=>K S n)):=by
 simp only[CO];refine A3.bind (g:=λx n=>aT (λS=>K S n) x) λx=>?_;obtain⟨e,S⟩:=x;cases e with
 |normal=>exact AJ S
 |_=>exact aO.const _
theorem nt(D:gj C)(all:List Oper):∀(ops:List Oper)(S:St),aO (λk=>jw X (C k) md all ops S)
 |[],S=>aO.const _
 |o::r,S=>tE (xM D all) (λS'=>nt D all r S')
theorem Vx(D:gj C):aO (λk=>oN X (C k) S o):=by
 unfold oN;split
 .rename_i O args A9 A5;have M:(λk=>vy S o (dw X (C k) S o args.toList (S.aw O)))=λk=>(dw X (C k) S o args.toList (S.aw O)).bind λc=>vy S o (some c):=by
   funext k;exact HJ ..
  rw[M];exact (nX D args.toList (S.aw O)).bind (λ_=>aO.const _)
 .exact aO.const _
theorem CP(D:gj C)(r:ep):aO (λk=>gw X (C k) S o r):=by
 cases r with
 |no=>exact Vx D
 |val c x=>exact aO.const _
 |dU c x e=>exact aO.const _
theorem R6(D:gj C)(b:Bool)(r:ep):aO (λk=>we X (C k) S o b r):=by
 have other:∀r,aO (λk=>if b=true then gw X (C k) S o r else some (S.put o.dst true .bH,⟨[],[],true,.bH⟩)):=by
  intro r;split
  .exact CP D r
  .exact aO.const _
 cases r with
 |no=>exact other .no
 |val c x=>exact aO.const _
 |dU c x e=>exact other (.dU c x e)
theorem pq(D:gj C)(all:List Oper):aO (λk=>fF X (C k) md all S o):=by
 unfold fF;split
 .exact CP D _
 .split
  .split
   .exact R6 D _ _
   .split
    .exact CP D _
    .exact aO.const _
  .exact aO.const _
  .exact aO.const _
theorem KN(S:St)(r:Option im):AI S r=r.bind λc=>AI S (some c):=by cases r<;>rfl
theorem Mg(D:gj C):aO (λk=>nW X (C k) S o):=by
 unfold nW;split
 .unfold Hv;split
  .unfold OU;split
   .rename_i O args A9 A5;have M:(λk=>AI S (dw X (C k) S o args.toList (S.aw O)))=λk=>(dw X (C k) S o args.toList (S.aw O)).bind λc=>AI S (some c):=by
     funext k;exact KN ..
    rw[M];exact (nX D args.toList (S.aw O)).bind (λ_=>aO.const _)
   .exact aO.const _
  .exact aO.const _
 .exact aO.const _
theorem HK{AX:bP}{all:List Oper}{q:St×bC}(h:fF X AX md all S o=some q):nW X AX S o=none:=by
 cases A4:nW X AX S o with
 |none=>rfl
 |some p=>
  obtain⟨A0,Ak,O,args,A9,A5,AQ,_⟩:=L7 A4;unfold fF at h;rw[A0]at h;simp only[gw,oN,Ak,A5,AQ]at h;cases h
theorem XY(D:gj C)(I:Nat×List (List Nat))(all r:List Oper)(H:List bC){K:Nat->St->List bC->Option (XE×St)}(AJ:∀S H,aO λk=>K k S H):aO (λk=>rj X (C k) md I all r S o H (K k) (nW X (C k) S o)):=by
 intro n y h;simp only at h⊢;cases A4:nW X (C n) S o with
 |some q=>
  rw[A4]at h;have Al:nW X (C (n+1)) S o=some q:=Mg D n q A4;rw[Al];exact h
 |none=>
  rw[A4]at h;simp only[rj,qc]at h;cases A0:fF X (C n) md all S o with
  |none=>rw[A0]at h;cases h
  |some p=>
   have Af:fF X (C (n+1)) md all S o=some p:=pq D all n p A0;rw[HK Af];simp only[rj,qc];rw[A0]at h;rw[Af];exact AJ _ _ n y h
theorem rQ(D:gj C)(I:Nat×List (List Nat))(all:List Oper):∀(ops:List Oper)(S:St)(H:List bC),aO (λk=>km X (C k) md I all ops S H)
 |[],S,H=>aO.const _
 |o::r,S,H=>XY D I all r H λS H=>rQ D I all r S H
def Vy(U:List Cl)(p:St×bC):Option (St×bC):=if zM U p.2.es=true then some p else none
theorem SM(U:List Cl)(r:Option (St×bC)):KC U r=r.bind (Vy U):=by
 rcases r with _|⟨S,p⟩<;>rfl
theorem zU(D:gj C)(I:List (List Nat))(U:List Cl)(all:List Oper):∀(ops:List Oper)(S:St)(H:List bC),aO (λk=>rk X (C k) md I U all ops S H)
 |[],S,H=>aO.const _
 |o::r,S,H=>by
  simp only[rk,qc];cases qa (I.getD H.length []) r with
  |true=>
   simp only[OW];split
   .exact nt D all [o] S
   .exact aO.const _
  |false=>
  simp only
  cases tB X.P U S o with
  |some x=>
   simp only[tC,ad8];exact zU D I U all r _ _
  |none=>
   simp only[tC,SM];exact ((pq D all).bind (g:=λp _=>Vy U p) λp=>aO.const _).bind (g:=λp n=>rk X (C n) md I U all r p.1 (p.2::H)) λp=>zU D I U all r p.1 (p.2::H)
theorem Mh(D:gj C)(I:List (List Nat))(all:List Oper)(S:St)(fl:List (Nat×Nat)):aO (λk=>AK X (C k) md I all S fl):=by
 cases fl with
 |nil=>exact rQ D _ all all S []
 |cons q r=>
  simp only[AK];cases gZ S.mem (q::r)with
  |none=>exact aO.const _
  |some U=>exact zU D I U all all S []
theorem Mi(f:St->Option (XE×St)):∀(j:Nat)(S:St)(r:XE×St),iter f j S=some r->iter f (j+1) S=some r
 |0,S,r,h=>by cases h
 |j+1,S,r,h=>by
  simp only[iter]at h;rw[iter];rcases jO h with ⟨S1,M,A1⟩|⟨M,A1⟩
  .rw[M];exact Mi f j S1 r A1
  .rw[M];obtain⟨e,S1⟩:=r;cases e with
   |normal=>exact absurd rfl A1
   |_=>rfl
theorem yP(f:St->Option (XE×St)){j k:Nat}(h:j<=k){S:St}{r:XE×St}(A':iter f j S=some r):iter f k S=some r:=by
 induction h with
 |refl=>exact A'
 |step _ ih=>exact Mi f _ S r ih
theorem zV{F:Nat->St->Option (XE×St)}(A3:∀S,aO (λk=>F k S)):∀(j:Nat)(S:St),aO (λk=>iter (F k) j S)
 |0,S=>aO.const _
 |j+1,S=>tE (A3 S) (λS'=>zV A3 j S')
theorem CQ(D:gj C)(f:FuncId){m:Nat->Nat}(hm:∀k,m k<=m (k+1)):∀(c:Code)(S:St),aO (λk=>den X f (C k) (m k) c S):=by
 intro c;induction c with
 |region id ops draw=>
  intro S;cases draw with
  |false=>
   simp only[den,uS];exact (nt D _ _ _).bind λ_=>aO.const _
  |true=>
   simp only[den,uS];exact (Mh D _ _ _ _).bind λ_=>aO.const _
 |seq a b A6 AA=>intro S;exact tE (A6 S) (λS'=>AA S')
 |cond c a b A6 AA=>
  intro S;simp only[den];unfold Jb;split
  .split
   .exact A6 S
   .exact AA S
  .exact aO.const _
 |block id c ih=>
  intro S;simp only[den,Pu];exact (ih _).bind λ_=>aO.const _
 |loop c ih=>
  intro S n r h;simp only[den]at h⊢;have M:=zV (F:=λk=>den X f (C k) (m k) c) ih (m n) S n r h;exact yP _ (hm n) M
 |skip=>intro S;exact aO.const _
 |exit id=>intro S;exact aO.const _
 |ret=>intro S;exact aO.const _
 |rangeFunc _ _ _ _=>intro S;exact aO.const _
 |scope _ _=>intro S;exact aO.const _
 |label _=>intro S;exact aO.const _
 |goto _=>intro S;exact aO.const _
 |refuse _=>intro S;exact aO.const _
theorem Jm(D:gj C)(f:FuncId){m:Nat->Nat}(hm:∀k,m k<=m (k+1))(fn:Func)(c:Code)(args:List AV)(cs:List aF):aO (λk=>vz X f (C k) (m k) fn c args cs):=by
 unfold vz;split
 .simp only[Pw X.P (X.fp f) cs.length fn.results.toList (den _ _ _ _ _ _)];exact (CQ D f hm c _).bind λ_=>aO.const _
 .exact aO.const _
theorem DJ{F G:Nat->Option (Out×List (Nat×aF))}(A3:aO F)(An:aO G):aO (λn=>nr (F n) (G n)):=by
 intro n r h;replace h:nr (F n) (G n)=some r:=h;show nr (F (n+1)) (G (n+1))=some r;unfold nr at h;split at h
 .rename_i a b A7 AB;have AC:=ir A7;have Ao:=ir AB;have f1:=A3 n _ AC;have f2:=An n _ Ao;rw[AC]at h;rw[f1,f2];simp only[nr,sl];exact h
 .cases h
theorem Nr{R:Nat->List AV->Option (Out×List (Nat×aF))}(AD:∀a,aO (λn=>R n a))(args:List AV)(b:Bool):aO (λn=>jN (R n) args b):=by
 unfold jN;split
 .split
  .exact DJ (AD _) (AD _)
  .exact AD _
 .exact AD _
def nT(k:St->XD)(J:List DF):XE×St->XD
 |(.normal,S)=>k S
 |(e,S)=>some (e,S,J)
theorem HL(k:St->XD)(J:List DF)(r:Option (XE×St)):NB k J r=r.bind (nT k J):=by
 rcases r with _|⟨e,S⟩
 .rfl
 .cases e<;>rfl
def lT(k:St->St):XE×St×List DF->XD
 |(.normal,S,J)=>some (.normal,k S,J)
 |r=>some r
theorem ER(k:St->St)(r:XD):EC k r=r.bind (lT k):=by
 rcases r with _|⟨e,S,J⟩
 .rfl
 .cases e<;>rfl
def dT(J:List DF)(p:XE×St):XD:=some (p.1,p.2,J)
theorem KO(J:List DF)(r:Option (XE×St)):CD J r=r.bind (dT J):=by
 rcases r with _|⟨e,S⟩<;>rfl
def sT(k:St->List DF->XD):XE×St×List DF->XD
 |(.normal,S,J)=>k S J
 |r=>some r
theorem SN(k:St->List DF->XD)(r:XD):OX k r=r.bind (sT k):=by
 rcases r with _|⟨e,S,J⟩
 .rfl
 .cases e<;>rfl
theorem qd(D:gj C)(all:List Oper):∀(ops:List Oper)(S:St)(J:List DF),aO (λk=>iE X (C k) md all ops S J)
 |[],S,J=>aO.const _
 |o::r,S,J=>by
  simp only[iE];cases lf S o with
  |some d=>exact qd D all r _ _
  |none=>
   simp only[HL];refine (xM D all).bind (g:=λx n=>nT (λS1=>iE X (C n) md all r S1 J) J x) λx=>?_;obtain⟨e,S1⟩:=x;cases e with
   |normal=>exact qd D all r S1 J
   |_=>exact aO.const _
theorem Mj(D:gj C)(f:FuncId){m:Nat->Nat}(hm:∀k,m k<=m (k+1)):∀(c:Code)(S:St)(J:List DF),aO (λk=>lh X f (C k) (m k) c S J):=by
 have add:∀(c:Code)(S:St)(J:List DF),aO (λk=>CD J (den X f (C k) (m k) c S)):=λc S J=>by
  simp only[KO];exact (CQ D f hm c S).bind λ_=>aO.const _
 intro c;induction c with
 |seq a b A6 AA=>
  intro S J;simp only[lh,SN];refine (A6 S J).bind (g:=λx n=>sT (lh X f (C n) (m n) b) x) λx=>?_;obtain⟨e,S1,Ap⟩:=x;cases e with
  |normal=>exact AA S1 Ap
  |_=>exact aO.const _
 |region id ops draw=>
  intro S J;simp only[lh];split
  .simp only[ER];exact (qd D _ _ _ _).bind λ_=>aO.const _
  .exact add _ _ _
 |_=>intro S J;simp only[lh];exact add _ _ _
theorem ES(D:gj C)(f:FuncId){m:Nat->Nat}(hm:∀k,m k<=m (k+1))(AN:AV):∀(c:Code)(S:St),aO (λk=>rl X f (C k) (m k) AN c S):=by
 intro c;induction c with
 |seq a b A6 AA=>intro S;exact tE (A6 S) (λS'=>CQ D f hm b S')
 |region id ops draw=>
  intro S;simp only[rl];split
  .split
   .simp only[uS];exact (nt D _ _ _).bind λ_=>aO.const _
   .exact aO.const _
  .exact aO.const _
 |_=>intro S;simp only[rl];exact aO.const _
theorem SO(P:Program)(p:il)(V:Nat)(rs:List ResultVar)(r:Option (XE×St)):Vh P p V rs r=r.bind λq=>Vh P p V rs (some q):=by cases r<;>rfl
theorem R7(D:gj C)(f:FuncId){m:Nat->Nat}(hm:∀k,m k<=m (k+1))(fn:Func)(c:Code)(args:List AV)(cs:List aF):aO (λk=>Bw X f (C k) (m k) fn c args cs):=by
 unfold Bw;split
 .split
  .simp only[SO X.P (X.fp f) cs.length fn.results.toList (rl _ _ _ _ _ _ _)];exact (ES D f hm _ c _).bind λ_=>aO.const _
  .exact aO.const _
 .exact aO.const _
theorem Jn(D:gj C){m:Nat->Nat}(hm:∀k,m k<=m (k+1)):gj (λk=>qJ X (m k) (C k)):=by
 intro g args cs;simp only[qJ];split
 .split
  .exact R7 D g hm _ _ _ _
  .exact aO.const _
 .exact aO.const _
theorem SP(S:St)(r:Option im):ED S r=r.bind λc=>ED S (some c):=by cases r<;>rfl
theorem SQ(X:Ctx)(p:il)(V:Nat)(rs:List ResultVar)(r:Option St):Vi X p V rs r=r.bind λS=>finish X.P p V rs S:=by cases r<;>rfl
theorem SR(X:Ctx)(p:il)(V:Nat)(rs:List ResultVar)(Ag:bP)(r:XD):AM X p V rs Ag r=r.bind λq=>AM X p V rs Ag (some q):=by cases r<;>rfl
theorem Vz{CR:Nat->bP}(D:gj CR)(p:il)(V:Nat)(rs:List ResultVar)(S:St)(d:DF)(AN:Option AV):aO (λk=>xI X p V rs (CR k) S d AN):=by
 cases AN with
 |none=>exact aO.const _
 |some AN=>
  simp only[xI,SQ,SP S (fi _ _ _ _ _ _)];exact ((rP D _ _ _ _ _).bind (g:=λc _=>ED S (some c)) λ_=>aO.const _).bind (g:=λS _=>finish X.P p V rs S) λ_=>aO.const _
theorem Jo{CR:Nat->bP}(D:gj CR)(p:il)(V:Nat)(rs:List ResultVar)(q:XE×St×List DF):aO (λk=>AM X p V rs (CR k) (some q)):=by
 obtain⟨e,S,J⟩:=q;match J with
 |[]=>exact aO.const _
 |[d]=>exact Vz D p V rs S d (Hy e)
 |_::_::_=>exact aO.const _
theorem R8(D:gj C){CR:Nat->bP}(AD:gj CR)(f:FuncId){m:Nat->Nat}(hm:∀k,m k<=m (k+1))(fn:Func)(c:Code)(args:List AV)(cs:List aF):aO (λk=>Bx X f (C k) (CR k) (m k) fn c args cs):=by
 unfold Bx;split
 .simp only[SR X (X.fp f) cs.length fn.results.toList _ (lh _ _ _ _ _ _ _)];exact (Mj D f hm c _ _).bind (g:=λq n=>AM X (X.fp f) cs.length fn.results.toList (CR n) (some q)) λq=>Jo AD _ _ _ q
 .exact aO.const _
theorem Jp(X:Ctx):∀n g a c r,bE X n g a c=some r->bE X (n+1) g a c=some r
 |0,g,a,c,r,h=>by cases h
 |n+1,g,a,c,r,h=>by
  have ih:=Jp X n;have D:gj λk=>if k=0 then bE X n else bE X (n+1):=by
   intro g a c k r h;by_cases T:k=0
   .subst T;exact ih g a c r h
   .simp only[T,adN]at h;simpa using h
  have hm:∀k,(if k=0 then n else n+1)<=(if k+1=0 then n else n+1):=by
   intro k;by_cases T:k=0<;>simp[T]
  cases A8:X.ov with
  |some Ay=>simp only[bE,A8]at h⊢;exact h
  |none=>
  cases AE:X.Bu g with
  |some Az=>simp only[bE,A8,AE]at h⊢;exact h
  |none=>
  cases Y:X.P.funcs[g]? with
  |none=>simp only[bE,A8,AE,Y]at h;cases h
  |some fn=>
   cases AB:fn.body with
   |none=>simp only[bE,A8,AE,Y,AB]at h;cases h
   |some code=>
    have AC:∀k,bE X (k+1) g a c=By X g (bE X k) k fn code a c (yJ code):=by
     intro k;simp only[bE,A8,AE,Y,AB]
    rw[AC]at h⊢;cases AP:yJ code with
    |true=>
     rw[AP]at h;exact R8 (X:=X) (C:=λk=>if k=0 then bE X n else bE X (n+1)) (CR:=λk=>qJ X (if k=0 then n else n+1) (if k=0 then bE X n else bE X (n+1))) D (Jn D hm) g hm fn code a c 0 r h
    |false=>
    rw[AP]at h;exact Nr (R:=λk args=>vz X g ((λk=>if k=0 then bE X n else bE X (n+1)) k) ((λk=>if k=0 then n else n+1) k) fn code args c) (λargs=>Jm D g hm fn code args c) a _ 0 r h
theorem cd(X:Ctx):gj (bE X):=λg a c n r h=>Jp X n g a c r h
end
noncomputable def aj(X:Ctx):bP:=λg a c=>jF λk=>bE X k g a c
noncomputable def iP(X:Ctx)(f:FuncId)(c:Code)(S:St):Option (XE×St):=jF λk=>den X f (bE X k) k c S
def yQ{X:Ctx}{g a c r}(n:Nat)(h:bE X n g a c=some r):aj X g a c=some r:=(eW (cd X g a c)).2 ⟨n,h⟩
def abd{X:Ctx}(Aq:m8 X):mi X (aj X):=λg args cs out l h=>by
 obtain⟨n,Z⟩:=(eW (cd X g args cs)).1 h;exact Pt Aq n g args cs out l Z
section
variable {X:Ctx} {S:St} {o:Oper} {f:FuncId} {md:Bool}
theorem dm(c:Code)(S:St):aO (λk=>den X f (bE X k) k c S):=CQ (cd X) f (m:=λk=>k) (λk=>alh k) c S
theorem VA(m:Mem)(A2:Nat)(g:FuncId)(AO:List AV)(mt:List Nat):jF (λk=>fi (bE X k) m A2 g AO mt)=fi (aj X) m A2 g AO mt:=by
 unfold fi po pn;simp only[AS];rw[fq (cd X _ _ _) (λ_=>aO.const _)];simp only[bx];rfl
theorem AU(args:List Operand)(O:Bool×AV):jF (λk=>dw X (bE X k) S o args O)=dw X (aj X) S o args O:=by
 unfold dw;split
 .split
  .simp only[Pv _ _ (fi _ _ _ _ _ _)];rw[fq (rP (cd X) _ _ _ _ _) (λ_=>aO.const _),VA];simp only[bx]
  .exact bx _
 .exact bx _
theorem VB:jF (λk=>wc X (bE X k) S o)=wc X (aj X) S o:=by
 unfold wc;split
 .rename_i O args A9 A5;have M:(λk=>eG S o.dst (dw X (bE X k) S o args.toList (S.aw O)))=λk=>(dw X (bE X k) S o args.toList (S.aw O)).bind λc=>eG S o.dst (some c):=by
   funext k;exact KM ..
  rw[M,fq (nX (cd X) _ _) (λ_=>aO.const _),AU,KM];simp only[bx]
 .exact bx _
 .exact bx _
theorem CS(r:ep):jF (λk=>kl X (bE X k) S o r)=kl X (aj X) S o r:=by
 cases r with
 |no=>exact VB
 |val c x=>exact bx _
 |dU c x e=>exact bx _
theorem R9(b:Bool)(r:ep):jF (λk=>sG X (bE X k) S o b r)=sG X (aj X) S o b r:=by
 have other:∀r,jF (λk=>if b=true then kl X (bE X k) S o r else some (.normal,S.put o.dst true .bH))=if b=true then kl X (aj X) S o r else some (.normal,S.put o.dst true .bH):=by
  intro r;split
  .exact CS r
  .exact bx _
 cases r with
 |no=>exact other .no
 |val c x=>exact bx _
 |dU c x e=>exact other (.dU c x e)
theorem Ml(all:List Oper):jF (λk=>qI X (bE X k) md all S o)=qI X (aj X) md all S o:=by
 unfold qI;split
 .exact CS _
 .split
  .split
   .exact R9 _ _
   .split
    .exact CS _
    .exact bx _
  .exact bx _
  .exact bx _
theorem AW{F:Nat->Option (XE×St)}{K:St->Nat->Option (XE×St)}(A3:aO F)(AJ:∀S,aO (K S)):jF (λn=>andThen (F n) (λS=>K S n))=andThen (jF F) (λS=>jF (K S)):=by
 simp only[CO];rw[fq (g:=λx n=>aT (λS=>K S n) x) A3 (λx=>by
  obtain⟨e,S⟩:=x;cases e with
  |normal=>exact AJ S
  |_=>exact aO.const _)]
 congr 1;funext x;obtain⟨e,S⟩:=x;cases e<;>first|rfl|exact bx _
theorem xN(all:List Oper):∀(ops:List Oper)(S:St),jF (λk=>jw X (bE X k) md all ops S)=jw X (aj X) md all ops S
 |[],S=>bx _
 |o::r,S=>by
  simp only[jw];have:=AW (F:=λk=>qI X (bE X k) md all S o) (K:=λS' k=>jw X (bE X k) md all r S') (xM (cd X) all) (λS'=>nt (cd X) all r S');rw[Ml]at this;simp only[xN all r]at this;exact this
theorem XZ:jF (λk=>oN X (bE X k) S o)=oN X (aj X) S o:=by
 unfold oN;split
 .rename_i O args A9 A5;have M:(λk=>vy S o (dw X (bE X k) S o args.toList (S.aw O)))=λk=>(dw X (bE X k) S o args.toList (S.aw O)).bind λc=>vy S o (some c):=by
   funext k;exact HJ ..
  rw[M,fq (nX (cd X) _ _) (λ_=>aO.const _),AU,HJ];simp only[bx]
 .exact bx _
theorem ET(r:ep):jF (λk=>gw X (bE X k) S o r)=gw X (aj X) S o r:=by
 cases r with
 |no=>exact XZ
 |val c x=>exact bx _
 |dU c x e=>exact bx _
theorem VC(b:Bool)(r:ep):jF (λk=>we X (bE X k) S o b r)=we X (aj X) S o b r:=by
 have other:∀r,jF (λk=>if b=true then gw X (bE X k) S o r else some (S.put o.dst true .bH,(⟨[],[],true,.bH⟩:bC)))=if b=true then gw X (aj X) S o r else some (S.put o.dst true .bH,⟨[],[],true,.bH⟩):=by
  intro r;split
  .exact ET r
  .exact bx _
 cases r with
 |no=>exact other .no
 |val c x=>exact bx _
 |dU c x e=>exact other (.dU c x e)
theorem Jq(all:List Oper):jF (λk=>fF X (bE X k) md all S o)=fF X (aj X) md all S o:=by
 unfold fF;split
 .exact ET _
 .split
  .split
   .exact VC _ _
   .split
    .exact ET _
    .exact bx _
  .exact bx _
  .exact bx _
theorem abe:jF (λk=>nW X (bE X k) S o)=nW X (aj X) S o:=by
 unfold nW;split
 .unfold Hv;split
  .unfold OU;split
   .rename_i O args A9 A5;have M:(λk=>AI S (dw X (bE X k) S o args.toList (S.aw O)))=λk=>(dw X (bE X k) S o args.toList (S.aw O)).bind λc=>AI S (some c):=by
     funext k;exact KN ..
    rw[M,fq (nX (cd X) _ _) (λ_=>aO.const _),AU,KN];simp only[bx]
   .exact bx _
  .exact bx _
 .exact bx _
theorem Jr(I:Nat×List (List Nat))(all:List Oper):∀(ops:List Oper)(S:St)(H:List bC),jF (λk=>km X (bE X k) md I all ops S H)=km X (aj X) md I all ops S H
 |[],S,H=>bx _
 |o::r,S,H=>by
  have A4:∀q,nW X (aj X) S o=some q↔∃k,nW X (bE X k) S o=some q:=λq=>by rw[<-abe];exact eW (Mg (cd X))
  have A0:∀q,fF X (aj X) md all S o=some q↔∃k,fF X (bE X k) md all S o=some q:=λq=>by rw[<-Jq];exact eW (pq (cd X) all)
  have A':∀S H y,km X (aj X) md I all r S H=some y↔∃k,km X (bE X k) md I all r S H=some y:=λS H y=>by rw[<-Jr I all r S H];exact eW (rQ (cd X) I all r S H)
  apply Option.ext;intro y;rw[eW (rQ (cd X) I all (o::r) S H)];simp only[km];constructor
  .rintro ⟨k,T⟩;cases AY:nW X (bE X k) S o with
   |some q=>
    rw[AY]at T;rw[(A4 q).2 ⟨k,AY⟩];exact T
   |none=>
    rw[AY]at T;simp only[rj,qc]at T;cases AZ:fF X (bE X k) md all S o with
    |none=>rw[AZ]at T;cases T
    |some p=>
     rw[AZ]at T;have AF:=(A0 p).2 ⟨k,AZ⟩;rw[HK AF];simp only[rj,qc,AF,ad8]at T⊢;exact (A' _ _ y).2 ⟨k,T⟩
  .intro h;cases A_:nW X (aj X) S o with
   |some q=>
    rw[A_]at h;obtain⟨k,T⟩:=(A4 q).1 A_;exact⟨k,by rw[T];exact h⟩
   |none=>
    rw[A_]at h;simp only[rj,qc]at h;cases AF:fF X (aj X) md all S o with
    |none=>rw[AF]at h;cases h
    |some p=>
     rw[AF]at h;simp only[ad8]at h;obtain⟨Aa,Ar⟩:=(A0 p).1 AF;obtain⟨Ab,As⟩:=(A' _ _ y).1 h;refine⟨max Aa Ab,?_⟩;have Ah:=(pq (X:=X) (S:=S) (o:=o) (md:=md) (cd X) all).le (Nat.le_max_left Aa Ab) Ar;have At:=(rQ (X:=X) (md:=md) (cd X) I all r p.1 (p.2::H)).le (Nat.le_max_right Aa Ab) As;rw[HK Ah];simp only[rj,qc,Ah,ad8];exact At
theorem HM(I:List (List Nat))(U:List Cl)(all:List Oper):∀(ops:List Oper)(S:St)(H:List bC),jF (λk=>rk X (bE X k) md I U all ops S H)=rk X (aj X) md I U all ops S H
 |[],S,H=>bx _
 |o::r,S,H=>by
  simp only[rk,qc];cases qa (I.getD H.length []) r with
  |true=>
   simp only[OW];split
   .exact xN all [o] S
   .exact bx _
  |false=>
  simp only
  cases tB X.P U S o with
  |some x=>
   simp only[tC,ad8];exact HM I U all r _ _
  |none=>
   simp only[tC,SM];rw[fq (g:=λp n=>rk X (bE X n) md I U all r p.1 (p.2::H)) ((pq (cd X) all).bind (g:=λp _=>Vy U p) λp=>aO.const _) (λp=>zU (cd X) I U all r p.1 (p.2::H)),
    fq (g:=λp _=>Vy U p) (pq (cd X) all) (λp=>aO.const _),Jq]
   simp only[HM I U all r,bx]
theorem abf(I:List (List Nat))(all:List Oper)(S:St)(fl:List (Nat×Nat)):jF (λk=>AK X (bE X k) md I all S fl)=AK X (aj X) md I all S fl:=by
 cases fl with
 |nil=>exact Jr _ all all S []
 |cons q r=>
  simp only[AK];cases gZ S.mem (q::r)with
  |none=>exact bx _
  |some U=>exact HM I U all all S []
theorem X0:iP X f .skip S=some (.normal,S):=bx _
theorem X7{id:Nat}:iP X f (.exit id) S=some (.exit id,I9 S (X.gh f (id+1000000))):=bx _
theorem abg:iP X f .ret S=some (.ret,S):=bx _
theorem abh{a b:Code}:iP X f (.seq a b) S=andThen (iP X f a S) (iP X f b):=AW (dm a S) (λS'=>dm b S')
theorem Ya{c:Operand}{a b:Code}:iP X f (.cond c a b) S=Jb (iP X f a S) (iP X f b S) (S.aw c):=by
 unfold iP;simp only[den];unfold Jb;split
 .split<;>rfl
 .exact bx _
theorem VD{id:Nat}{c:Code}:iP X f (.block id c) S=Ja id (iP X f c (S.enter X f id)):=by
 unfold iP;simp only[den,Pu];rw[fq (dm c _) (λ_=>aO.const _)];simp only[bx]
theorem Sa{id:Nat}{ops:Array Oper}:iP X f (.region id ops false) S=AL (St.leave X f id) (jw X (aj X) (X.md f id) ops.toList ops.toList S):=by
 unfold iP;simp only[den,uS];rw[fq (nt (cd X) _ _ _) (λ_=>aO.const _),xN];simp only[bx]
theorem Yb{id:Nat}{ops:Array Oper}:iP X f (.region id ops true) S=AL (St.leave X f id) (AK X (aj X) (X.md f id) (X.od f id) ops.toList S (X.fl f id)):=by
 unfold iP;simp only[den,uS];rw[fq (Mh (cd X) _ _ _ _) (λ_=>aO.const _),abf];simp only[bx]
theorem Yc{c:Code}:iP X f (.loop c) S=andThen (iP X f c S) (iP X f (.loop c)):=by
 apply Option.ext;intro r;have Ac:∀S r,iP X f (.loop c) S=some r↔∃k,iter (den X f (bE X k) k c) k S=some r:=λS r=>eW (dm (.loop c) S);have hi:∀{k j i:Nat}{S r},k<=j->i<=j->iter (den X f (bE X k) k c) i S=some r->iter (den X f (bE X j) j c) j S=some r:=by
  intro k j i S r T Au h;exact yP _ Au ((zV (F:=λk=>den X f (bE X k) k c) (λS=>dm c S) i S).le T h)
 rw[Ac];constructor
 .rintro ⟨k,T⟩;cases k with
  |zero=>cases T
  |succ k=>
   simp only[iter]at T;rcases jO T with ⟨S1,M,A1⟩|⟨M,A1⟩
   .have:iP X f c S=some (.normal,S1):=(eW (dm c S)).2 ⟨k+1,M⟩;rw[this];exact (Ac S1 r).2 ⟨k+1,hi (aar _) (alh k) A1⟩
   .have:iP X f c S=some r:=(eW (dm c S)).2 ⟨k+1,M⟩;rw[this];obtain⟨e,S1⟩:=r;cases e with
    |normal=>exact absurd rfl A1
    |_=>rfl
 .intro h;rcases jO h with ⟨S1,M,A1⟩|⟨M,A1⟩
  .obtain⟨k,T⟩:=(eW (dm c S)).1 M;obtain⟨j,Av⟩:=(Ac S1 r).1 A1;refine⟨max k j+1,?_⟩;rw[iter,(dm c S).le (show k<=max k j+1 by omega) T];have:=(zV (F:=λk=>den X f (bE X k) k c) (λS=>dm c S) j S1).le (show j<=max k j+1 by omega) Av;exact yP _ (show j<=max k j by omega) this
  .obtain⟨k,T⟩:=(eW (dm c S)).1 M;refine⟨k+1,?_⟩;rw[iter,(dm c S).le (alh k) T];obtain⟨e,S1⟩:=r;cases e with
   |normal=>exact absurd rfl A1
   |_=>rfl
noncomputable def BE(X:Ctx)(f:FuncId)(fn:Func)(c:Code)(cs:List aF)(args:List AV):Option (Out×List (Nat×aF)):=
 if (decide (args.length<=fn.ntmps)&&decide (cs.length<=100)&&(X.fp f).sites.all (λk=>decide (100<=k))&&decide (X.fp f).sites.Nodup)=true then
  fin X.P (X.fp f) cs.length fn.results.toList (iP X f c (entry fn.ntmps X.gl args cs (X.fp f).sites))
 else none
theorem Py{fn:Func}{c:Code}{args:List AV}{cs:List aF}(A8:X.ov=none)(AE:X.Bu f=none)(Y:X.P.funcs[f]?=some fn)(AB:fn.body=some c)(AP:yJ c=false):
 aj X f args cs=jN (BE X f fn c cs) args (X.fp f).split:=by
 have hm:∀args,aO (λk=>vz X f (bE X k) k fn c args cs):=λargs=>Jm (cd X) f (m:=λk=>k) (λk=>alh k) fn c args cs;have A':∀args,jF (λk=>vz X f (bE X k) k fn c args cs)=BE X f fn c cs args:=by
  intro args;unfold vz BE;split
  .rename_i h;have M:(λk=>fin X.P (X.fp f) cs.length fn.results.toList (den X f (bE X k) k c (entry fn.ntmps X.gl args cs (X.fp f).sites)))=λk=>(den X f (bE X k) k c (entry fn.ntmps X.gl args cs (X.fp f).sites)).bind λq=>fin X.P (X.fp f) cs.length fn.results.toList (some q):=by
    funext k;exact Pw ..
   rw[M,fq (dm c _) (λ_=>aO.const _),Pw];simp only[bx];rfl
  .exact bx _
 have AC:aj X f args cs=jF (λk=>jN (λargs=>vz X f (bE X k) k fn c args cs) args (X.fp f).split):=by
  unfold aj;rw[<-Mf (cd X f args cs)];congr 1;funext k;rw[bE,A8,AE,Y];simp only[AB,AP,By]
 rw[AC];unfold jN;split
 .split
  .rename_i r;apply Option.ext;intro y;rw[eW (DJ (hm _) (hm _)),<-A',<-A'];constructor
   .rintro ⟨n,Z⟩;unfold nr at Z⊢;split at Z
    .rename_i a b A7 Ad;have f1:=(eW (hm _)).2 ⟨n,ir A7⟩;have f2:=(eW (hm _)).2 ⟨n,ir Ad⟩;rw[f1,f2];rw[ir A7]at Z;exact Z
    .cases Z
   .intro h;unfold nr at h;split at h
    .rename_i a b A7 Ad;obtain⟨n,Z⟩:=(eW (hm _)).1 (ir A7);obtain⟨m,Aw⟩:=(eW (hm _)).1 (ir Ad);refine⟨max n m,?_⟩;rw[(hm _).le (Nat.le_max_left n m) Z,(hm _).le (Nat.le_max_right n m) Aw];rw[ir A7]at h;exact h
    .cases h
  .exact A' _
 .exact A' _
end
abbrev bS:=Option (Out×List (Nat×aF))
abbrev Kt:=XE->St->bS
noncomputable def aL(X:Ctx)(f:FuncId)(c:Code)(S:St)(k:Kt):bS:=(iP X f c S).bind λp=>k p.1 p.2
noncomputable def runK(X:Ctx)(md:Bool)(all ops:List Oper)(S:St)(k:Kt):bS:=(jw X (aj X) md all ops S).bind λp=>k p.1 p.2
noncomputable def mJ(X:Ctx)(md:Bool)(H:Nat×List (List Nat))(all ops:List Oper)(S:St)(I:List bC)(k:Kt):bS:=(km X (aj X) md H all ops S I).bind λp=>k p.1 p.2
noncomputable def EU(X:Ctx)(f:FuncId)(b:Code)(k:Kt):Kt
 | .normal,S=>aL X f b S k
 |e,S=>k e S
def KP(id:Nat)(k:Kt):Kt
 | .exit V,S=>if V=id then k .normal S else k (.exit V) S
 |e,S=>k e S
noncomputable def Js(X:Ctx)(f:FuncId)(c:Code)(k:Kt):Kt
 | .normal,S=>aL X f (.loop c) S k
 |e,S=>k e S
def EV(X:Ctx)(f:FuncId)(id:Nat)(k:Kt):Kt
 | .normal,S=>k .normal (S.leave X f id)
 |e,S=>k e S
def CT(P:Program)(p:il)(T:Nat)(rs:List ResultVar):Kt
 | .normal,S=>finish P p T rs S
 | .ret,S=>finish P p T rs S
 | .panic t x,S=>Cv p T t x S
 | .exit _,_=>none
def Yd:Bool×AV->Bool
 |(true,.d (.bool _))=>true
 |_=>false
def EW:Bool×AV->Bool
 |(_,.d (.bool b))=>b
 |_=>false
def Env.kn:Env->Nat->Bool->Env
 |[],_,_=>[]
 |(t,x)::r,c,b=>if t=c then (t,true,.d (.bool b))::r else (t,x)::Env.kn r c b
def St.kn(S:St)(c:Nat)(b:Bool):St:={S with env:=Env.kn S.env c b}
section
variable {X:Ctx} {f:FuncId} {S:St} {k:Kt}
theorem yR(r:Option (XE×St))(g:St->Option (XE×St)):(andThen r g).bind (λp=>k p.1 p.2)=r.bind λp=>match p with
 |(.normal,S)=>(g S).bind λp=>k p.1 p.2
 |(e,S)=>k e S:=by
 rcases r with _|⟨e,S⟩
 .rfl
 .cases e<;>rfl
theorem Ye:aL X f .skip S k=k .normal S:=by simp only[aL,X0,ad8]
theorem Yf{id:Nat}:aL X f (.exit id) S k=k (.exit id) (I9 S (X.gh f (id+1000000))):=by simp only[aL,X7,ad8]
theorem abi:aL X f .ret S k=k .ret S:=by simp only[aL,abg,ad8]
theorem jo{a b:Code}:aL X f (.seq a b) S k=aL X f a S (EU X f b k):=by
 simp only[aL,abh,yR];congr 1;funext p;obtain⟨e,S⟩:=p;cases e<;>rfl
theorem ah{c:Code}:aL X f (.loop c) S k=aL X f c S (Js X f c k):=by
 rw[aL,Yc,yR,aL];congr 1;funext p;obtain⟨e,S⟩:=p;cases e<;>rfl
theorem VE{id:Nat}{c:Code}:aL X f (.block id c) S k=aL X f c (S.enter X f id) (KP id k):=by
 simp only[aL,VD];rcases iP X f c (S.enter X f id)with _|⟨e,S⟩
 .rfl
 .cases e with
  |exit V=>
   simp only[Ja,ad8,KP];split<;>rfl
  |_=>rfl
theorem Mm{c:Operand}{a b:Code}:aL X f (.cond c a b) S k=if Yd (S.aw c)=true then (if EW (S.aw c)=true then aL X f a S k else aL X f b S k)else none:=by
 simp only[aL,Ya];generalize S.aw c=v;obtain⟨g,x⟩:=v;cases g with
 |false=>rfl
 |true=>
  cases x with
  |d x=>
   cases x with
   |bool t=>cases t<;>rfl
   |_=>rfl
  |_=>rfl
theorem adu{b:Bool}:∀{env:Env}{c:Nat},Env.lk env c=some (true,.d (.bool b))->Env.kn env c b=env
 |[],c,h=>by cases h
 |(t,x)::r,c,h=>by
  simp only[Env.lk]at h;simp only[Env.kn];split
  .rename_i A3;rw[ac1 A3]at h;cases h;rfl
  .rename_i A3;rw[aaf A3]at h;rw[adu h]
theorem ahV{c:Tmp}{b:Bool}(h:S.aw (.tmp c)=(true,.d (.bool b))):Env.lk S.env c=some (true,.d (.bool b)):=by
 simp only[St.aw]at h;cases A1:Env.lk S.env c with
 |none=>rw[A1]at h;simp at h
 |some x=>rw[A1]at h;simp only[ahx]at h;rw[h]
theorem VF{c:Tmp}{a b:Code}:aL X f (.cond (.tmp c) a b) S k=if Yd (S.aw (.tmp c))=true then (if EW (S.aw (.tmp c))=true then aL X f a (S.kn c true) k else aL X f b (S.kn c false) k)else none:=by
 rw[Mm];generalize AH:S.aw (.tmp c)=v;obtain⟨g,x⟩:=v;cases g with
 |false=>rfl
 |true=>
  cases x with
  |d x=>
   cases x with
   |bool t=>
    have:S.kn c t=S:=by
     unfold St.kn;rw[adu (ahV AH)]
    cases t with
    |true=>rw[this];rfl
    |false=>rw[this];rfl
   |_=>rfl
  |_=>rfl
theorem VG{v:Value}{a b:Code}:aL X f (.cond (.const v) a b) S k=if Yd (S.aw (.const v))=true then (if EW (S.aw (.const v))=true then aL X f a S k else aL X f b S k)else none:=Mm
theorem Sb{id:Nat}{l:List Oper}:aL X f (.region id ⟨l⟩ false) S k=runK X (X.md f id) l l S (EV X f id k):=by
 simp only[aL,Sa,runK];rcases jw X (aj X) (X.md f id) l l S with _|⟨e,S⟩
 .rfl
 .cases e<;>rfl
noncomputable def FT(X:Ctx)(md:Bool)(H:List (List Nat))(l:List Oper)(S:St)(k:Kt):List (Nat×Nat)->bS
 |[]=>mJ X md (jh S.mem,H) l l S [] k
 |q::r=>(aa0 X (aj X) md H l S (gZ S.mem (q::r))).bind λp=>k p.1 p.2
theorem Yg{id:Nat}{l:List Oper}:aL X f (.region id ⟨l⟩ true) S k=FT X (X.md f id) (X.od f id) l S (EV X f id k) (X.fl f id):=by
 simp only[aL,Yb];cases X.fl f id with
 |nil=>
  simp only[AK,FT,mJ];rcases km X (aj X) (X.md f id) (jh S.mem,X.od f id) l l S []with _|⟨e,S⟩
  .rfl
  .cases e<;>rfl
 |cons q r=>
  simp only[AK,FT];rcases aa0 X (aj X) (X.md f id) (X.od f id) l S (gZ S.mem (q::r))with _|⟨e,S⟩
  .rfl
  .cases e<;>rfl
noncomputable def FU(X:Ctx)(md:Bool)(H:List (List Nat))(J:List Cl)(all ops:List Oper)(S:St)(I:List bC)(k:Kt):bS:=(rk X (aj X) md H J all ops S I).bind λp=>k p.1 p.2
noncomputable def NF(X:Ctx)(md:Bool)(H:List (List Nat))(J:List Cl)(all r:List Oper)(I:List bC)(k:Kt):Option (St×bC)->bS
 |some (S,p)=>FU X md H J all r S (p::I) k
 |none=>none
theorem aeM{md:Bool}{H:List (List Nat)}{l:List Oper}:FT X md H l S k []=mJ X md (jh S.mem,H) l l S [] k:=rfl
noncomputable def NG(X:Ctx)(md:Bool)(H:List (List Nat))(l:List Oper)(S:St)(k:Kt):Option (List Cl)->bS
 |some J=>FU X md H J l l S [] k
 |none=>none
theorem KQ{md:Bool}{H:List (List Nat)}{l:List Oper}{q:Nat×Nat}{r:List (Nat×Nat)}:FT X md H l S k (q::r)=NG X md H l S k (gZ S.mem (q::r)):=by
 simp only[FT];cases gZ S.mem (q::r)<;>rfl
noncomputable def FV(X:Ctx)(md:Bool)(H:List (List Nat))(J:List Cl)(all r:List Oper)(S:St)(o:Oper)(I:List bC)(k:Kt):Bool->bS
 |true=>if p9 H I.reverse=true then runK X md all [o] S k else none
 |false=>NF X md H J all r I k (tC X (aj X) md J all S o (tB X.P J S o))
theorem CU{md:Bool}{H:List (List Nat)}{J:List Cl}{all r:List Oper}{o:Oper}{I:List bC}:FU X md H J all (o::r) S I k=FV X md H J all r S o I k (qa (H.getD I.length []) r):=by
 simp only[FU,rk];cases qa (H.getD I.length []) r with
 |true=>
  simp only[OW,FV];split
  .rfl
  .rfl
 |false=>
  simp only[FV];rcases tC X (aj X) md J all S o (tB X.P J S o)with _|⟨S1,p⟩<;>rfl
theorem ml{b:Code}:EU X f b k .normal S=aL X f b S k:=rfl
theorem ahW{b:Code}{id:Nat}:EU X f b k (.exit id) S=k (.exit id) S:=rfl
theorem ahX{b:Code}:EU X f b k .ret S=k .ret S:=rfl
theorem ahY{b:Code}{t:TypeId}{x:D}:EU X f b k (.panic t x) S=k (.panic t x) S:=rfl
theorem ahZ{id:Nat}:KP id k .normal S=k .normal S:=rfl
theorem ah0{id V:Nat}:KP id k (.exit V) S=if V=id then k .normal S else k (.exit V) S:=rfl
theorem ah1{id:Nat}:KP id k .ret S=k .ret S:=rfl
theorem ah2{id:Nat}{t:TypeId}{x:D}:KP id k (.panic t x) S=k (.panic t x) S:=rfl
theorem aeN{c:Code}:Js X f c k .normal S=aL X f (.loop c) S k:=rfl
theorem aeO{c:Code}{id:Nat}:Js X f c k (.exit id) S=k (.exit id) S:=rfl
theorem aeP{c:Code}:Js X f c k .ret S=k .ret S:=rfl
theorem aeQ{c:Code}{t:TypeId}{x:D}:Js X f c k (.panic t x) S=k (.panic t x) S:=rfl
theorem abj{id:Nat}:EV X f id k .normal S=k .normal (S.leave X f id):=rfl
theorem abk{id:Nat}{t:TypeId}{x:D}:EV X f id k (.panic t x) S=k (.panic t x) S:=rfl
theorem ah3{P:Program}{p:il}{T:Nat}{rs:List ResultVar}:CT P p T rs .normal S=finish P p T rs S:=rfl
theorem ah4{P:Program}{p:il}{T:Nat}{rs:List ResultVar}:CT P p T rs .ret S=finish P p T rs S:=rfl
theorem ah5{P:Program}{p:il}{T:Nat}{rs:List ResultVar}{t:TypeId}{x:D}:CT P p T rs (.panic t x) S=Cv p T t x S:=rfl
end
def CV(all:List Oper)(o:Oper):Option Nat:=
 match o.guard with
 |some (j,_)=>oM all j
 |none=>none
noncomputable def vA(X:Ctx)(md:Bool)(S:St)(d:Option Nat)(all r:List Oper)(k:Kt):Option im->bS
 |some ⟨.ret x,es,_⟩=>runK X md all r (({S with mem:=bV S.mem es}:St).put d true x) k
 |some ⟨.panic t x,es,_⟩=>k (.panic t x) {S with mem:=bV S.mem es}
 |none=>none
def Pz(S:St)(k:Kt):Bool×AV->bS
 |(true,.jG t d)=>k (.panic t d) S
 |_=>none
noncomputable def zW(X:Ctx)(md:Bool)(S:St)(o:Oper)(all r:List Oper)(k:Kt):Op->bS
 | .call {callee:=.value U,args,..}=>vA X md S o.dst all r k (dw X (aj X) S o args.toList (S.aw U))
 | .panic x=>Pz S k (S.aw x)
 |_=>none
noncomputable def vB(X:Ctx)(md:Bool)(S:St)(o:Oper)(all r:List Oper)(k:Kt):ep->bS
 | .val c x=>if (jC S o&&c)=true then runK X md all r (S.put o.dst true x) k else none
 | .dU c x e=>if (jC S o&&c)=true then runK X md all r (({S with mem:=Mem.set S.mem e}:St).put o.dst true x) k else none
 | .no=>zW X md S o all r k o.op
noncomputable def yS(X:Ctx)(md:Bool)(S:St)(o:Oper)(all r:List Oper)(k:Kt)(b:Bool):ep->bS
 | .val c x=>if b=true->(jC S o&&c)=true then runK X md all r (S.put o.dst b x) k else none
 | .dU c x e=>if b=true then vB X md S o all r k (.dU c x e)else runK X md all r (S.put o.dst true .bH) k
 | .no=>if b=true then zW X md S o all r k o.op else runK X md all r (S.put o.dst true .bH) k
noncomputable def Jt(X:Ctx)(S:St)(o:Oper)(all r:List Oper)(k:Kt)(M t:Bool):Bool->bS
 |false=>yS X false S o all r k (t == M) (ee X.P S o)
 |true=>if (t == M)=true then vB X true (S.cz (CV all o) M) o all r k (ee X.P (S.cz (CV all o) M) o)else runK X true all r ((S.cz (CV all o) (!M)).put o.dst true (.bq [])) k
noncomputable def PA(X:Ctx)(md:Bool)(S:St)(o:Oper)(all r:List Oper)(k:Kt)(M:Bool):GV->bS
 | .qX t=>Jt X S o all r k M t md
 | .skip=>runK X md all r (S.put o.dst true (.bq [])) k
 | .bad=>none
section
variable {X:Ctx} {f:FuncId} {S:St} {k:Kt} {all r:List Oper} {md:Bool}
theorem CW(o:Oper)(res:ep):(andThen (kl X (aj X) S o res) (jw X (aj X) md all r)).bind (λp=>k p.1 p.2)=vB X md S o all r k res:=by
 cases res with
 |val c x=>simp only[kl,vB];split<;>rfl
 |dU c x e=>simp only[kl,vB];split<;>rfl
 |no=>
  simp only[kl,vB,wc];split
  .rename_i U args AF Y;rw[Y];simp only[zW];rcases dw X (aj X) S o args.toList (S.aw U)with _|⟨out,es,ks⟩
   .rfl
   .cases out<;>rfl
  .rename_i x Y;rw[Y];simp only[zW];generalize S.aw x=v;obtain⟨g,y⟩:=v;cases g<;>cases y<;>rfl
  .rename_i A0 AJ;unfold zW;split
   .rename_i heq;exact absurd heq (A0 _ _ _)
   .rename_i heq;exact absurd heq (AJ _)
   .rfl
theorem abl:runK X md all [] S k=k .normal S:=rfl
theorem Yh{d:Option Tmp}{op:Op}{ty:TypeId}{pos:String}{O:Array Edge}:runK X md all (⟨d,op,ty,pos,O,none⟩::r) S k=vB X md S ⟨d,op,ty,pos,O,none⟩ all r k (ee X.P S ⟨d,op,ty,pos,O,none⟩):=
 CW _ _
theorem VH{d:Option Tmp}{op:Op}{ty:TypeId}{pos:String}{O:Array Edge}{j:Nat}{w:Bool}:runK X md all (⟨d,op,ty,pos,O,some (j,w)⟩::r) S k=PA X md S ⟨d,op,ty,pos,O,some (j,w)⟩ all r k w (tA (s8 all S j)):=by
 simp only[runK,jw,qI];generalize tA (s8 all S j)=g;cases g with
 |skip=>rfl
 |bad=>rfl
 |qX t=>
  simp only[PA];cases md with
  |true=>
   simp only[Jt,CV];split
   .exact CW _ _
   .rfl
  |false=>
  simp only[Jt];generalize Z:ee X.P S _=res;cases res with
  |val c x=>simp only[sG,yS];split<;>rfl
  |dU c x e=>
   simp only[sG,yS];split
   .exact CW _ (.dU c x e)
   .rfl
  |no=>
   simp only[sG,yS];split
   .exact CW _ .no
   .rfl
theorem Yi{d:Option Nat}{c:Prop}[Decidable c]{a b:Option im}:vA X md S d all r k (if c then a else b)=if c then vA X md S d all r k a else vA X md S d all r k b:=by split<;>rfl
end
def PB{m:Mem}{A4:Nat}{ρ B:List Nat}{c:Prop}[Decidable c]{a b:Option (Out×List (Nat×aF))}:iq m A4 ρ B (if c then a else b)=if c then iq m A4 ρ B a else iq m A4 ρ B b:=by split<;>rfl
noncomputable def o8(X:Ctx)(md:Bool)(H:Nat×List (List Nat))(S:St)(d:Option Nat)(all r:List Oper)(I:List bC)(k:Kt):Option im->bS
 |some ⟨.ret x,es,ks⟩=>mJ X md H all r (({S with mem:=bV S.mem es}:St).put d true x) (⟨ks,es,true,x⟩::I) k
 |some ⟨.panic t x,es,ks⟩=>(Vg X md H all r d I ⟨{S with mem:=bV S.mem es},t,x,es,ks⟩).bind λp=>k p.1 p.2
 |none=>none
noncomputable def EX(X:Ctx)(md:Bool)(H:Nat×List (List Nat))(S:St)(o:Oper)(all r:List Oper)(I:List bC)(k:Kt):Op->bS
 | .call {callee:=.value U,args,..}=>o8 X md H S o.dst all r I k (dw X (aj X) S o args.toList (S.aw U))
 |_=>none
noncomputable def yT(X:Ctx)(md:Bool)(H:Nat×List (List Nat))(S:St)(o:Oper)(all r:List Oper)(I:List bC)(k:Kt):ep->bS
 | .val c x=>if (jC S o&&c)=true then mJ X md H all r (S.put o.dst true x) (⟨lE S o,[],true,x⟩::I) k else none
 | .dU c x e=>if (jC S o&&c&&(lE S o).contains e.key)=true then mJ X md H all r (({S with mem:=Mem.set S.mem e}:St).put o.dst true x) (⟨lE S o,[e],true,x⟩::I) k else none
 | .no=>EX X md H S o all r I k o.op
noncomputable def BF(X:Ctx)(md:Bool)(H:Nat×List (List Nat))(S:St)(d:Option Nat)(all r:List Oper)(I:List bC)(k:Kt):Option im->bS
 |some ⟨.ret x,es,ks⟩=>mJ X md H all r (({S with mem:=bV S.mem es}:St).put d true x) (⟨ks,es,true,x⟩::I) k
 |_=>none
noncomputable def BG(X:Ctx)(md:Bool)(H:Nat×List (List Nat))(S:St)(o:Oper)(all r:List Oper)(I:List bC)(k:Kt):Op->bS
 | .call {callee:=.value U,args,..}=>BF X md H S o.dst all r I k (dw X (aj X) S o args.toList (S.aw U))
 |_=>none
noncomputable def tF(X:Ctx)(md:Bool)(H:Nat×List (List Nat))(S:St)(o:Oper)(all r:List Oper)(I:List bC)(k:Kt):ep->bS
 | .val c x=>if (jC S o&&c)=true then mJ X md H all r (S.put o.dst true x) (⟨lE S o,[],true,x⟩::I) k else none
 | .dU c x e=>if (jC S o&&c&&(lE S o).contains e.key)=true then mJ X md H all r (({S with mem:=Mem.set S.mem e}:St).put o.dst true x) (⟨lE S o,[e],true,x⟩::I) k else none
 | .no=>BG X md H S o all r I k o.op
noncomputable def uT(X:Ctx)(md:Bool)(H:Nat×List (List Nat))(S:St)(o:Oper)(all r:List Oper)(I:List bC)(k:Kt)(b:Bool):ep->bS
 | .val c x=>if b=true->(jC S o&&c)=true then mJ X md H all r (S.put o.dst b x) (⟨lE S o,[],b,x⟩::I) k else none
 | .dU c x e=>if b=true then tF X md H S o all r I k (.dU c x e)else mJ X md H all r (S.put o.dst true .bH) (⟨[],[],true,.bH⟩::I) k
 | .no=>if b=true then BG X md H S o all r I k o.op else mJ X md H all r (S.put o.dst true .bH) (⟨[],[],true,.bH⟩::I) k
noncomputable def EY(X:Ctx)(H:Nat×List (List Nat))(S:St)(o:Oper)(all r:List Oper)(I:List bC)(k:Kt)(M t:Bool):Bool->bS
 |false=>uT X false H S o all r I k (t == M) (ee X.P S o)
 |true=>if (t == M)=true then tF X true H (S.cz (CV all o) M) o all r I k (ee X.P (S.cz (CV all o) M) o)else mJ X true H all r ((S.cz (CV all o) (!M)).put o.dst true (.bq [])) (⟨[],[],true,.bq []⟩::I) k
noncomputable def Ju(X:Ctx)(md:Bool)(H:Nat×List (List Nat))(S:St)(o:Oper)(all r:List Oper)(I:List bC)(k:Kt)(M:Bool):GV->bS
 | .qX t=>EY X H S o all r I k M t md
 | .skip=>mJ X md H all r (S.put o.dst true (.bq [])) (⟨[],[],true,.bq []⟩::I) k
 | .bad=>none
section
variable {X:Ctx} {f:FuncId} {S:St} {k:Kt} {all r:List Oper} {md:Bool} {H:Nat×List (List Nat)} {I:List bC}
theorem wi(o:Oper)(res:ep):(NA I (gw X (aj X) S o res) (km X (aj X) md H all r)).bind (λp=>k p.1 p.2)=tF X md H S o all r I k res:=by
 cases res with
 |val c x=>simp only[gw,tF];split<;>rfl
 |dU c x e=>simp only[gw,tF];split<;>rfl
 |no=>
  simp only[gw,tF,oN];split
  .rename_i U args AF Y;rw[Y];simp only[BG];rcases dw X (aj X) S o args.toList (S.aw U)with _|⟨out,es,ks⟩
   .rfl
   .cases out<;>rfl
  .rename_i A0;unfold BG;split
   .rename_i heq;exact absurd heq (A0 _ _ _)
   .rfl
theorem uU(h:p9 H.2 I.reverse=true):mJ X md H all [] S I k=k .normal S:=by
 simp only[mJ,km,h,ad7,ad8]
def EZ:List bC->List bC->List bC
 |[],r=>r
 |x::l,r=>EZ l (x::r)
theorem FW:∀(l r:List bC),EZ l r=l.reverse++r
 |[],_=>rfl
 |x::l,r=>by rw[EZ,FW l];simp
theorem E0{H:List (List Nat)}{J:List Cl}:FU X md H J all [] S I k=if p9 H (EZ I [])=true then k .normal S else none:=by
 simp only[FU,rk];rw[FW,agV];split<;>rfl
theorem ak:mJ X md H all [] S I k=if p9 H.2 (EZ I [])=true then k .normal S else none:=by
 rw[FW,agV];simp only[mJ,km];split<;>rfl
theorem Yj{d:Option Tmp}{op:Op}{ty:TypeId}{pos:String}{O:Array Edge}:mJ X md H all (⟨d,op,ty,pos,O,none⟩::r) S I k=yT X md H S ⟨d,op,ty,pos,O,none⟩ all r I k (ee X.P S ⟨d,op,ty,pos,O,none⟩):=by
 simp only[mJ,km,nW];generalize Y:(⟨d,op,ty,pos,O,none⟩:Oper)=o;have AL:o.guard=none:=by subst Y;rfl
 have A':fF X (aj X) md all S o=gw X (aj X) S o (ee X.P S o):=by unfold fF;rw[AL]
 generalize Z:ee X.P S o=res;rw[Z]at A';cases res with
 |val c x=>simp only[Hv,rj,A',yT];exact wi _ (.val c x)
 |dU c x e=>simp only[Hv,rj,A',yT];exact wi _ (.dU c x e)
 |no=>
  simp only[Hv,OU,yT];split
  .rename_i U args AF A5;rw[A5];simp only[EX];cases AG:dw X (aj X) S o args.toList (S.aw U)with
   |none=>
    simp only[AI,rj,A',gw,oN,A5,AG,o8];rfl
   |some res=>
    obtain⟨out,es,ks⟩:=res;cases out with
    |ret x=>
     simp only[AI,rj,A',gw,oN,A5,AG,o8];rfl
    |panic t x=>rfl
  .rename_i A0;simp only[rj,A',gw,oN];unfold EX;split
   .rename_i heq;exact absurd heq (A0 _ _ _)
   .rfl
theorem VI{d:Option Tmp}{op:Op}{ty:TypeId}{pos:String}{O:Array Edge}{j:Nat}{w:Bool}:mJ X md H all (⟨d,op,ty,pos,O,some (j,w)⟩::r) S I k=Ju X md H S ⟨d,op,ty,pos,O,some (j,w)⟩ all r I k w (tA (s8 all S j)):=by
 simp only[mJ,km,nW,rj,fF];generalize tA (s8 all S j)=g;cases g with
 |skip=>rfl
 |bad=>rfl
 |qX t=>
  simp only[Ju];cases md with
  |true=>
   simp only[EY,CV];split
   .exact wi _ _
   .rfl
  |false=>
  simp only[EY];generalize Z:ee X.P S _=res;cases res with
  |val c x=>simp only[we,uT];split<;>rfl
  |dU c x e=>
   simp only[we,uT];split
   .exact wi _ (.dU c x e)
   .rfl
  |no=>
   simp only[we,uT];split
   .exact wi _ .no
   .rfl
theorem VJ{d:Option Nat}{c:Prop}[Decidable c]{a b:Option im}:o8 X md H S d all r I k (if c then a else b)=if c then o8 X md H S d all r I k a else o8 X md H S d all r I k b:=by split<;>rfl
theorem VK{d:Option Nat}{c:Prop}[Decidable c]{a b:Option im}:BF X md H S d all r I k (if c then a else b)=if c then BF X md H S d all r I k a else BF X md H S d all r I k b:=by split<;>rfl
end
def nY(n:Nat)(p:il)(args:List AV)(cs:List aF):Bool:=
 decide (args.length<=n)&&decide (cs.length<=100)&&p.sites.all (λk=>decide (100<=k))&&decide p.sites.Nodup
def abm{X:Ctx}{f:FuncId}{fn:Func}{c:Code}{args:List AV}{cs:List aF}{n:Nat}{rs:List ResultVar}{p:il}(A6:X.ov=none)(A7:X.Bu f=none)(A8:X.P.funcs[f]?=some fn)(A9:fn.body=some c)(AA:yJ c=false)(AB:fn.ntmps=n)(AC:fn.results.toList=rs)
 (AD:X.fp f=p) (Z:p.split=false) (AE:nY n p args cs=true):aj X f args cs=aL X f c (entry n X.gl args cs p.sites) (CT X.P p cs.length rs):=by
 subst AD;rw[Py A6 A7 A8 A9 AA,Z];simp only[jN,BE];subst AB;subst AC;rw[ac1 (by simpa only[nY]using AE)];simp only[aL];rcases iP X f c _ with _|⟨e,S⟩
 .rfl
 .cases e<;>rfl
def KR{X:Ctx}{f:FuncId}{fn:Func}{c:Code}{args:List AV}{cs:List aF}{n:Nat}{rs:List ResultVar}{p:il}(A6:X.ov=none)(A7:X.Bu f=none)(A8:X.P.funcs[f]?=some fn)(A9:fn.body=some c)(AA:yJ c=false)(AB:fn.ntmps=n)(AC:fn.results.toList=rs)
 (AD:X.fp f=p) (Z:p.split=true) (AE:nY n p args cs=true):aj X f args cs=jN (λargs=>aL X f c (entry n X.gl args cs p.sites) (CT X.P p cs.length rs)) args true:=by
 subst AD;rw[Py A6 A7 A8 A9 AA,Z];subst AB;subst AC;have key:∀A2:List AV,A2.length=args.length->BE X f fn c cs A2=aL X f c (entry fn.ntmps X.gl A2 cs (X.fp f).sites) (CT X.P (X.fp f) cs.length fn.results.toList):=by
  intro A2 A1;simp only[BE];rw[ac1 (by rw[A1];simpa only[nY]using AE)];simp only[aL];rcases iP X f c _ with _|⟨e,S⟩
  .rfl
  .cases e<;>rfl
 simp only[jN];split
 .rename_i r;rw[key _ (by simp),key _ (by simp)]
 .exact key _ rfl
attribute [simp] ee.eq_1
attribute [simp] jC.eq_1
attribute [simp] kY.eq_1 kY.eq_2
attribute [simp] Go.Op.operands.eq_1 Go.Op.operands.eq_2 Go.Op.operands.eq_3 Go.Op.operands.eq_4 Go.Op.operands.eq_5 Go.Op.operands.eq_6 Go.Op.operands.eq_7 Go.Op.operands.eq_8 Go.Op.operands.eq_9 Go.Op.operands.eq_10 Go.Op.operands.eq_11 Go.Op.operands.eq_12 Go.Op.operands.eq_13 Go.Op.operands.eq_14 Go.Op.operands.eq_15 Go.Op.operands.eq_16 Go.Op.operands.eq_17 Go.Op.operands.eq_18 Go.Op.operands.eq_19 Go.Op.operands.eq_20 Go.Op.operands.eq_21 Go.Op.operands.eq_22 Go.Op.operands.eq_23 Go.Op.operands.eq_24 Go.Op.operands.eq_25 Go.Op.operands.eq_26 Go.Op.operands.eq_27 Go.Op.operands.eq_28 Go.Op.operands.eq_29 Go.Op.operands.eq_30 Go.Op.operands.eq_31 Go.Op.operands.eq_32 Go.Op.operands.eq_33 Go.Op.operands.eq_34 Go.Op.operands.eq_35 Go.Op.operands.eq_36 Go.Op.operands.eq_37 Go.Op.operands.eq_38 Go.Op.operands.eq_39 Go.Op.operands.eq_40 Go.Op.operands.eq_41 Go.Op.operands.eq_42 Go.Op.operands.eq_43
attribute [simp] St.aw.eq_1 St.aw.eq_2 St.aw.eq_3 St.aw.eq_4
attribute [simp] Env.lk.eq_1 Env.lk.eq_2
attribute [simp] St.put.eq_1 St.put.eq_2
attribute [simp] Mem.get.eq_1 Mem.get.eq_2
attribute [simp] Mem.set.eq_1 Mem.set.eq_2
attribute [simp] AV.oC.eq_1 AV.oC.eq_2 AV.oC.eq_3
attribute [simp] qC.eq_1 qC.eq_2 qC.eq_3 qC.eq_4 qC.eq_5 qC.eq_6
attribute [simp] AV.cells.eq_1 AV.cells.eq_2 AV.cells.eq_3
attribute [simp] pG.eq_1 pG.eq_2 pG.eq_3 pG.eq_4 pG.eq_5
attribute [simp] sY.eq_1 sY.eq_2 sY.eq_3
attribute [simp] sy.eq_1 lN.eq_1 lN.eq_2 lN.eq_3
attribute [simp] pV.eq_1 pV.eq_2
attribute [simp] vT.eq_1 vT.eq_2 vT.eq_3 vT.eq_4
attribute [simp] Ec.eq_1 Ec.eq_2 Ec.eq_3 Ec.eq_4
attribute [simp] uD.eq_1 uD.eq_2 uD.eq_3 uD.eq_4 uD.eq_5 uD.eq_6 uD.eq_7 uD.eq_8 uD.eq_9
attribute [simp] gU.eq_1 gU.eq_2 gU.eq_3 gU.eq_4 gU.eq_5 gU.eq_6 gU.eq_7 gU.eq_8 gU.eq_9 gU.eq_10 gU.eq_11 gU.eq_12 gU.eq_13 gU.eq_14 gU.eq_15 gU.eq_16
attribute [simp] pX.eq_1 pX.eq_2 pX.eq_3 pX.eq_4 pX.eq_5 pX.eq_6 pX.eq_7 pX.eq_8
attribute [simp] Nx.eq_1
attribute [simp] yw.eq_1 yw.eq_2
attribute [simp] IA.eq_1 IA.eq_2
attribute [simp] s8.eq_1
attribute [simp] FC.eq_1
def VL{α:Type}(y:α):Option (List α)->Option (List α)
 |some H=>some (y::H)
 |none=>none
@[simp] def ann{α:Type}(y:α)(H:List α):VL y (some H)=some (y::H):=rfl
@[simp] def ano{α:Type}(y:α):VL y none=none:=rfl
@[simp] def toDs_nil:toDs []=some []:=rfl
@[simp] def toDs_d(y r):toDs (.d y::r)=VL y (toDs r):=by
 cases h:toDs r with
 |none=>exact toDs.eq_3 _ _ (λ_ _ _ I=>by rw[h]at I;cases I)
 |some H=>exact toDs.eq_2 _ _ _ h
@[simp] def toDs_vec(a b c d r):toDs (.vec a b c d::r)=none:=by rw[toDs.eq_def]
@[simp] def toDs_lit(a r):toDs (.lit a::r)=none:=by rw[toDs.eq_def]
attribute [simp] xB.eq_1 xB.eq_2
attribute [simp] On.eq_1 On.eq_2 On.eq_3 On.eq_4
attribute [simp] oE.eq_1 oE.eq_2 oE.eq_3 oE.eq_4 oE.eq_5 oE.eq_6 UT.eq_1
attribute [simp] r5.eq_1 r5.eq_2 r5.eq_3 r5.eq_4 r5.eq_5
attribute [simp] wR.eq_1
attribute [simp] D3.eq_1 UH.eq_1 UH.eq_2 aaA.eq_1 aaA.eq_2
attribute [simp] zF.eq_1 zF.eq_2
attribute [simp] jZ.eq_1 jZ.eq_2 jZ.eq_3 jZ.eq_4 jZ.eq_5
attribute [simp] Ck.eq_1
attribute [simp] Cm.eq_1
attribute [simp] Ku.eq_1 Ku.eq_2
attribute [simp] qD.eq_1 qD.eq_2 qD.eq_3 qD.eq_4
attribute [simp] IB.eq_1
attribute [simp] vm.eq_1 vm.eq_2
attribute [simp] nk.eq_1
attribute [simp] vQ.eq_1 vQ.eq_2
attribute [simp] xC.eq_1 xC.eq_2
attribute [simp] pK.eq_1 pK.eq_2 pK.eq_3 pK.eq_4 pK.eq_5 pK.eq_6
attribute [simp] xA.eq_1
attribute [simp] sB.eq_1 sB.eq_2 sB.eq_3
attribute [simp] yx.eq_1 yx.eq_2 Bn.eq_1 Bn.eq_2 FE.eq_1
attribute [simp] uE.eq_1 uE.eq_2 uE.eq_3 uE.eq_4
attribute [simp] nQ.eq_1 nQ.eq_2 nQ.eq_3 nQ.eq_4 nQ.eq_5
attribute [simp] bound.eq_1 bound.eq_2 bound.eq_3
attribute [simp] bL.eq_1 bL.eq_2
attribute [simp] mH.eq_1 mH.eq_2 mH.eq_3 mH.eq_4 mH.eq_5 mH.eq_6 mH.eq_7 mH.eq_8 mH.eq_9 mH.eq_10 mH.eq_11 mH.eq_12
attribute [simp] D.cells.eq_1 D.cells.eq_2
attribute [simp] D.size.eq_1 D.size.eq_2
attribute [simp] D.flat.eq_1 D.flat.eq_2
mutual
@[simp] def abn:∀x:D,EA x x=true
 | .int ..=>by simp[EA]
 | .bool _=>by simp[EA]
 | .str _=>by simp[EA]
 | .list xs=>by simp[EA,E2 xs]
 | .agg xs=>by simp[EA,E2 xs]
 | .Dx=>by simp[EA]
@[simp] def E2:∀x:List D,CB x x=true
 |[]=>by simp[CB]
 |x::r=>by simp[CB,abn x,E2 r]
end
attribute [simp] KB.eq_1 KB.eq_2 KB.eq_3 FM.eq_1 FM.eq_2 EB.eq_1 EB.eq_2 Nz.eq_1 Nz.eq_2 uP.eq_1 uP.eq_2 Ve.eq_1 Ve.eq_2 CC.eq_1 CC.eq_2 CC.eq_3
attribute [simp] dw.eq_1 dw.eq_2
attribute [simp] ef.eq_1 ef.eq_2 ri.eq_1 kN.eq_1 FL.eq_1 yb.eq_1 xe.eq_1
attribute [simp] collect.eq_1 collect.eq_2 collect.eq_3
attribute [simp] pk.eq_1 pk.eq_2
attribute [simp] yH.eq_1 yH.eq_2
attribute [simp] jK.eq_1 jK.eq_2 jK.eq_3 jK.eq_4 jK.eq_5 jK.eq_6 jK.eq_7 jK.eq_8 jK.eq_9 jK.eq_10 jK.eq_11 jK.eq_12
attribute [simp] qH.eq_1 qH.eq_2 qH.eq_3 qH.eq_4 qH.eq_5 qH.eq_6 qH.eq_7
attribute [simp] x8.eq_1 x8.eq_2 x8.eq_3 x8.eq_4
attribute [simp] oL.eq_1 oL.eq_2
attribute [simp] kj.eq_1 kj.eq_2 GK.eq_1 GK.eq_2
attribute [simp] se.eq_1 se.eq_2
attribute [simp] AD.eq_1 AD.eq_2 AD.eq_3
attribute [simp] AE.eq_1 AE.eq_2
attribute [simp] nD.eq_1 nD.eq_2
attribute [simp] iq.eq_1 iq.eq_2
attribute [simp] CA.eq_1 CA.eq_2
attribute [simp] Ez.eq_1 Ez.eq_2
attribute [simp] rL.eq_1 rL.eq_2 rL.eq_1 rL.eq_2
attribute [simp] oZ.eq_1 oZ.eq_2 oZ.eq_3
attribute [simp] eZ.eq_1 eZ.eq_2 eZ.eq_3 eZ.eq_4 eZ.eq_5 eZ.eq_6 eZ.eq_7 eZ.eq_8 eZ.eq_9 eZ.eq_10 eZ.eq_11 eZ.eq_12
attribute [simp] kM.eq_1 kM.eq_2 kM.eq_3 kM.eq_4 kM.eq_5 kM.eq_6
attribute [simp] upO.eq_1 upO.eq_2
attribute [simp] up.eq_1 up.eq_2 up.eq_3 up.eq_4 up.eq_5 up.eq_6 up.eq_7 up.eq_8 up.eq_9 up.eq_10 up.eq_11 up.eq_12
attribute [simp] II.eq_1 II.eq_2 II.eq_3
attribute [simp] kZ.eq_1 kZ.eq_2
attribute [simp] base.eq_1 base.eq_2
attribute [simp] bV.eq_1 bV.eq_2
attribute [simp] I9.eq_1 I9.eq_2
attribute [simp] Gh.go.eq_1 Gh.go.eq_2 Gh.go.eq_3 Gh.go.eq_4
attribute [simp] St.Cz.eq_1 KD.eq_1 KD.eq_2 yI.eq_1 yI.eq_2 aaO.eq_1 aaO.eq_2 qE.eq_1 qE.eq_2
attribute [simp] finish.eq_1
attribute [simp] yB.eq_1 yB.eq_2
attribute [simp] Ej.eq_1 Ej.eq_2
attribute [simp] uI.eq_1
attribute [simp] St.Cs.eq_1
attribute [simp] Bq.eq_1 Bq.eq_2 Bq.eq_3
attribute [simp] IN.eq_1 IN.eq_2
attribute [simp] pN.eq_1 pN.eq_2 pN.eq_3 pN.eq_4 pN.eq_5 pN.eq_6 pN.eq_7 pN.eq_8 pN.eq_9 pN.eq_10 pN.eq_11 pN.eq_12
attribute [simp] St.trim.eq_1
attribute [simp] rH.eq_1 rH.eq_2
attribute [simp] mapM.eq_1 mapM.eq_2
attribute [simp] uH.eq_1 uH.eq_2 uH.eq_3
attribute [simp] oK.eq_1 oK.eq_2 oK.eq_3 oK.eq_4 oK.eq_5 oK.eq_6 oK.eq_7 oK.eq_8 oK.eq_9 oK.eq_10 oK.eq_11 oK.eq_12
attribute [simp] ph.eq_1 ph.eq_2
attribute [simp] oneOf.eq_1 oneOf.eq_2
attribute [simp] AV.norm.eq_1 AV.norm.eq_2 AV.norm.eq_3 AV.norm.eq_4
attribute [simp] toD1.eq_1 toD1.eq_2 toD1.eq_3 toD1.eq_4
attribute [simp] toDsN.eq_1 toDsN.eq_2
attribute [simp] vw.eq_1 vw.eq_2 vw.eq_3 vw.eq_4 vw.eq_5 vw.eq_6 vw.eq_7 vw.eq_8 vw.eq_9 vw.eq_10 vw.eq_11 vw.eq_12
attribute [simp] fS.eq_1 fS.eq_2
attribute [simp] TK.agg.eq_1 TK.agg.eq_2 TK.agg.eq_3
attribute [simp] vB.eq_1 vB.eq_2 vB.eq_3
attribute [simp] yS.eq_1 yS.eq_2 yS.eq_3
attribute [simp] PA.eq_1 PA.eq_2 PA.eq_3
attribute [simp] zW.eq_1 zW.eq_2 zW.eq_3
attribute [simp] vA.eq_1 vA.eq_2 vA.eq_3
attribute [simp] Pz.eq_1 Pz.eq_2
attribute [simp] Yd.eq_1 Yd.eq_2
attribute [simp] EW.eq_1 EW.eq_2
attribute [simp] wP.eq_1
attribute [simp] yy.eq_1 Oz.eq_1 W6.eq_1 W6.eq_2 zeroOf.eq_1 zeroOf.eq_2 zeroOf.eq_3
attribute [simp] St.Ct.eq_1 St.Ct.eq_2
attribute [simp] rG.eq_1 rG.eq_2
attribute [simp] oG.eq_1 oG.eq_2
attribute [simp] mM.eq_1 mM.eq_2
attribute [simp] um.eq_1 um.eq_2
attribute [simp] yC.eq_1 yC.eq_2
attribute [simp] r6.eq_1 r6.eq_2
attribute [simp] kr.eq_1 kr.eq_2
attribute [simp] yF.eq_1 yF.eq_2
attribute [simp] yG.eq_1 yG.eq_2
attribute [simp] ku.eq_1 ku.eq_2
attribute [simp] fh.eq_1 fh.eq_2
attribute [simp] jN.eq_1 jN.eq_2 jN.eq_3
attribute [simp] sl.eq_1 sl.eq_2
attribute [simp] nr.eq_1
attribute [simp] lE.eq_1 IV.eq_1 IV.eq_2 IV.eq_3
attribute [simp] xZ.eq_1 xZ.eq_2
attribute [simp] cW.eq_1 cW.eq_2 cW.eq_3 cW.eq_4
attribute [simp] yT.eq_1 yT.eq_2 yT.eq_3
attribute [simp] uT.eq_1 uT.eq_2 uT.eq_3
attribute [simp] Ju.eq_1 Ju.eq_2 Ju.eq_3
attribute [simp] EX.eq_1 EX.eq_2 tF.eq_1 tF.eq_2 tF.eq_3 BG.eq_1 BG.eq_2 BF.eq_1 BF.eq_2
attribute [simp] o8.eq_1 o8.eq_2 o8.eq_3
attribute [simp] nV.eq_1 nV.eq_2 nV.eq_3 nV.eq_4 nV.eq_5 nV.eq_6 nV.eq_7 nV.eq_8 nV.eq_9 nV.eq_10 nV.eq_11 nV.eq_12
attribute [simp] r9.eq_1 r9.eq_2
attribute [simp] St.freeze.eq_1
attribute [simp] St.qG.eq_1
attribute [simp] Go.Call.operands.eq_1
attribute [simp] D.isByte.eq_1 D.isByte.eq_2
attribute [simp] yt.eq_1 yt.eq_2 yt.eq_3 yt.eq_4
attribute [simp] fI.eq_1 fI.eq_2 fI.eq_3
attribute [simp] Ln.eq_1 Ln.eq_2
attribute [simp] Ye Yf abi jo VE VF VG Sb Yg aeM ml ahW ahX ahY ahZ ah0 ah1 ah2 aeN aeO aeP aeQ abj abk ah3 ah4 ah5 abl Yh VH Yi PB Yj VI VJ VK
attribute [simp] KA.eq_1 KA.eq_2 AH.eq_1 AH.eq_2 eO.eq_1 eO.eq_2
attribute [simp] Jt.eq_1 Jt.eq_2
attribute [simp] EY.eq_1 EY.eq_2
attribute [simp] CV.eq_1
attribute [simp] Env.kn.eq_1 Env.kn.eq_2 St.kn.eq_1
attribute [simp] p9.eq_1 Cx.eq_1 Cx.eq_2 Cx.eq_3 Ky.eq_1 Ky.eq_2 Kx.eq_1 Kx.eq_2 EZ.eq_1 EZ.eq_2 uL.eq_1
attribute [simp] Bv.eq_1 Bv.eq_2 FN.eq_1
@[simp] def atQ(t:Bool):tA (some (true,.d (.bool t)))=.qX t:=rfl
@[simp] def atS:tA (some (true,.bq []))=.skip:=rfl
attribute [simp] oM.eq_1
attribute [simp] St.cz St.prune keyOf St.leave St.enter uJ FI OM St.Ei IS ki nY entry dead fi po pn D.at D.cell D.setCells Cv
attribute [simp] List.take_of_length_le
@[simp] def Code.at:Code->List Nat->Code
 |c,[]=>c
 | .seq a b,i::p=>if i=0 then Code.at a p else Code.at b p
 | .cond _ a b,i::p=>if i=0 then Code.at a p else Code.at b p
 | .block _ c,_::p=>Code.at c p
 | .loop c,_::p=>Code.at c p
 |c,_=>c
@[simp] def asS:List.range 2=[0,1]:=rfl
@[simp] def asT:List.range 3=[0,1,2]:=rfl
@[simp] def asU:List.range 4=[0,1,2,3]:=rfl
@[simp] def asV:List.range 5=[0,1,2,3,4]:=rfl
@[simp] def asW:List.range 6=[0,1,2,3,4,5]:=rfl
@[simp] def asX(a b:Int):(a == b)=decide (a=b):=by by_cases h:a=b<;>simp[h]
def bz(n:Int):Prop:= -9223372036854775808<=n/\n<=9223372036854775807
def jb{n:Int}(h:bz n):IntKind.i64.wrap n=n:=IntWalk.i64_in _ (by unfold bz at h;omega)
def b9(n:Int)(h:bz n:=by unfold bz;omega):IntKind.i64.wrap n=n:=jb h
def q1(m:Nat):Nat:=m/4294967296%4294967296
def q2(m:Nat):Nat:=m/18446744073709551616%4294967296
def q3(m:Nat):Nat:=m/79228162514264337593543950336%4294967296
def q0(m:Nat):Nat:=m%4294967296
def mm(z:Int):Int×Bool:=if-9223372036854775808<=z/\z<=9223372036854775807 then (z,true)else (0,false)
def AX(a b:Int):Int×Int:=if b=0 then (0,3)else if a= -9223372036854775808/\b= -1 then (0,2)else (a.tdiv b,0)
def CX(a b:Int):Int×Int:=if b=0 then (0,3)else (a.tmod b,0)
def HN(a b:Int):a.tdiv b=(if decide (a<0)=decide (b<0)then ((a.natAbs/b.natAbs:Nat):Int)else-((a.natAbs/b.natAbs:Nat):Int)):=by
 rcases Int.lt_or_le a 0 with H|H<;>rcases Int.lt_or_le b 0 with D|D
 .rw[ac1 (by simp[H,D])];obtain⟨m,rfl⟩:∃m:Nat,a= -(m:Int):=⟨a.natAbs,by omega⟩;obtain⟨n,rfl⟩:∃n:Nat,b= -(n:Int):=⟨b.natAbs,by omega⟩;simp[Int.neg_tdiv,Int.tdiv_neg]
 .rw[aaf (by simp[H];omega)];obtain⟨m,rfl⟩:∃m:Nat,a= -(m:Int):=⟨a.natAbs,by omega⟩;obtain⟨n,rfl⟩:∃n:Nat,b=(n:Int):=⟨b.natAbs,by omega⟩;simp[Int.neg_tdiv]
 .rw[aaf (by simp[D];omega)];obtain⟨m,rfl⟩:∃m:Nat,a=(m:Int):=⟨a.natAbs,by omega⟩;obtain⟨n,rfl⟩:∃n:Nat,b= -(n:Int):=⟨b.natAbs,by omega⟩;simp[Int.tdiv_neg]
 .rw[ac1 (by simp;omega)];obtain⟨m,rfl⟩:∃m:Nat,a=(m:Int):=⟨a.natAbs,by omega⟩;obtain⟨n,rfl⟩:∃n:Nat,b=(n:Int):=⟨b.natAbs,by omega⟩;simp
def abo(a b:Int):a.tmod b=(if a<0 then-((a.natAbs%b.natAbs:Nat):Int)else ((a.natAbs%b.natAbs:Nat):Int)):=by
 have D:a.tmod b=a.tmod (b.natAbs:Int):=by
  rcases Int.lt_or_le b 0 with D|D
  .obtain⟨n,rfl⟩:∃n:Nat,b= -(n:Int):=⟨b.natAbs,by omega⟩;simp[Int.tmod_neg]
  .obtain⟨n,rfl⟩:∃n:Nat,b=(n:Int):=⟨b.natAbs,by omega⟩;simp
 rw[D];split
 .obtain⟨m,rfl⟩:∃m:Nat,a= -(m:Int):=⟨a.natAbs,by omega⟩;rw[Int.neg_tmod,Int.natAbs_neg];simp only[Int.natAbs_natCast];rw[<-Int.ofNat_tmod]
 .obtain⟨m,rfl⟩:∃m:Nat,a=(m:Int):=⟨a.natAbs,by omega⟩;simp only[Int.natAbs_natCast];rw[<-Int.ofNat_tmod]
def aeR(a b:Int):a*b=(if decide (a<0)=decide (b<0)then ((a.natAbs*b.natAbs:Nat):Int)else-((a.natAbs*b.natAbs:Nat):Int)):=by
 rcases Int.lt_or_le a 0 with H|H<;>rcases Int.lt_or_le b 0 with D|D
 .rw[ac1 (by simp[H,D])];obtain⟨m,rfl⟩:∃m:Nat,a= -(m:Int):=⟨a.natAbs,by omega⟩;obtain⟨n,rfl⟩:∃n:Nat,b= -(n:Int):=⟨b.natAbs,by omega⟩;simp[Int.neg_mul,Int.mul_neg]
 .rw[aaf (by simp[H];omega)];obtain⟨m,rfl⟩:∃m:Nat,a= -(m:Int):=⟨a.natAbs,by omega⟩;obtain⟨n,rfl⟩:∃n:Nat,b=(n:Int):=⟨b.natAbs,by omega⟩;simp[Int.neg_mul]
 .rw[aaf (by simp[D];omega)];obtain⟨m,rfl⟩:∃m:Nat,a=(m:Int):=⟨a.natAbs,by omega⟩;obtain⟨n,rfl⟩:∃n:Nat,b= -(n:Int):=⟨b.natAbs,by omega⟩;simp[Int.mul_neg]
 .rw[ac1 (by simp;omega)];obtain⟨m,rfl⟩:∃m:Nat,a=(m:Int):=⟨a.natAbs,by omega⟩;obtain⟨n,rfl⟩:∃n:Nat,b=(n:Int):=⟨b.natAbs,by omega⟩;simp
def cg(b:Bool):Int:=if b=true then 1 else 0
@[simp] def GW(p:Int×Bool×Int):AV:=.bq [.d (.int .i64 p.1),.d (.bool p.2.1),.d (.int .i64 p.2.2)]
def hU:Int×Bool×Int:=(0,false, -1)
def px(p:Int×Bool):Int×Bool×Int:=if p.2=true then (p.1,false,0)else (0,false,2)
def oO(p:Int×Int):Int×Bool×Int:=if p.2=3 then (0,false,1)else if p.2=0 then (p.1,false,0)else (0,false,2)
def jl(op a:Int)(t:Bool):Int×Bool×Int:=
 if t=true then (if a≠0/\a≠1 then hU else if op=7 then (cg (decide (a=0)),true,0)else hU)
 else if op=6 then px (mm (0-a))else hU
def wX(op a b:Int):Int×Bool×Int:=
 if op=13 then (cg (decide (a=b)),true,0)else if op=14\/op=20 then (cg (decide (a≠b)),true,0)
 else if op=19 then (cg (decide (a=1/\b=1)),true,0)else if op=21 then (cg (decide (a=1\/b=1)),true,0)else hU
def xo(op a b:Int):Int×Bool×Int:=
 if op=8 then px (mm (a+b))else if op=9 then px (mm (a-b))else if op=10 then px (mm (a*b))else if op=11 then oO (AX a b)else if op=12 then oO (CX a b)
 else if op=13 then (cg (decide (a=b)),true,0)else if op=14 then (cg (decide (a≠b)),true,0)else if op=15 then (cg (decide (a<b)),true,0)
 else if op=16 then (cg (decide (b<a)),true,0)else if op=17 then (cg (decide (a<=b)),true,0)else if op=18 then (cg (decide (b<=a)),true,0)else hU
def gR(op a b:Int)(t:Bool):Int×Bool×Int:=
 if t=true then (if (a≠0/\a≠1)\/(b≠0/\b≠1)then hU else wX op a b)else xo op a b
def DK(e b:Int):Int:=if e<b then e+1 else e
def xO(k a b q e:Int):List Int:=
 if k=10 then (if a=0 then [a,b,0,0]else [a,b,cg (decide (b<=DK e b)),DK e b])
 else if k=11 then (if a=0 then (if q=0 then [a,b,q,e]else [a,b,cg (decide (DK e b<b)),DK e b])else [a,b,1,0])
 else [a,b,q,e]
def tpS(a b q e p r:Int):List Int:=
 let I:=if a≠0/\p=0/\r=0 then 1 else r
 let H:=if a≠0/\p=0/\r=0 then 0 else e
 if I=0 then [a,b,q,H,cg (decide (a≠0)),I]else [a,b,cg (decide (H<b)),DK H b,cg (decide (a≠0)),cg (decide (H<b))]
def cuS(a s v q c p:Int):List Int:=
 let D:=if s≠0 then 0 else if a≠0/\p=0/\c<9223372036854775807 then c+1 else c
 [a,s,v,cg (decide (v<=D)),D,cg (decide (a≠0))]
def cdS(a s v q c p:Int):List Int:=
 let D:=if s≠0 then v else if a≠0/\p=0/\ -9223372036854775808<c then c-1 else c
 [a,s,v,cg (decide (D<=0)),D,cg (decide (a≠0))]
def sf(k a b q e p r:Int):List Int:=
 if k=12 then tpS a b q e p r else if k=13 then cuS a b q e p r else if k=14 then cdS a b q e p r else [a,b,q,e,p,r]
def xP(k a b q:Int):List Int:=
 if k=15 then [a,cg (decide (a≠0/\q=0)),cg (decide (a≠0))]else if k=16 then [a,cg (decide (a=0/\q≠0)),cg (decide (a≠0))]
 else if k=17 then [a,b,cg (decide (a≠0\/(q≠0/\b=0)))]else if k=18 then [a,b,cg (decide (b=0/\(q≠0\/a≠0)))]else [a,b,q]
def ie(k:Int):List Int->List Int
 |[a,b,q]=>xP k a b q
 |[a,b,q,e]=>xO k a b q e
 |[a,b,q,e,p,r]=>sf k a b q e p r
 |c=>c
inductive Ends(succ:Nat->List Nat):Nat->Prop
 |mk (i:Nat) (h:∀j∈succ i,Ends succ j):Ends succ i
inductive Way(succ:Nat->List Nat):Nat->Nat->Prop
 |one {i j} (h:j∈succ i):Way succ i j
 |more {i j k} (h:Way succ i j) (I:k∈succ j):Way succ i k
def Way.trans{succ:Nat->List Nat}{i j k:Nat}(h:Way succ i j)(I:Way succ j k):Way succ i k:=by
 induction I with
 |one M=>exact .more h M
 |more _ M ih=>exact .more ih M
def Ends.abp{succ:Nat->List Nat}{i:Nat}(h:Ends succ i):¬Way succ i i:=by
 induction h with
 |mk i h ih=>
  intro w
  --AD first step of AD AJ
  have first:∀{a b},Way succ a b->∃c∈succ a,c=b\/Way succ c b:=by
   intro a b w;induction w with
   |one h=>exact⟨_,h,.inl rfl⟩
   |more _ I ih=>
    obtain⟨c,V,M⟩:=ih;rcases M with rfl|M
    .exact⟨_,V,.inr (.one I)⟩
    .exact⟨_,V,.inr (.more M I)⟩
  obtain⟨c,V,M⟩:=first w
  rcases M with rfl|M
  .exact ih _ V w
  .exact ih c V (M.trans (.one V))
mutual
def lP(succ:Nat->List Nat):Nat->Nat->List Nat->Bool×List Nat
 |0,_,D=>(true,D)
 |f+1,at_,D=>if D.getD at_ 0≠0 then (D.getD at_ 0 == 1,D)else
  match lj succ f (succ at_) (D.set at_ 1)with
  |(true,s)=>(true,s)
  |(false,s)=>(false,s.set at_ 2)
def lj(succ:Nat->List Nat):Nat->List Nat->List Nat->Bool×List Nat
 |_,[],D=>(false,D)
 |f,n::r,D=>match lP succ f n D with
  |(true,s)=>(true,s)
  |(false,s)=>lj succ f r s
end
def fresh(D:List Nat):Nat:=D.countP (·== 0)
structure tG(succ:Nat->List Nat)(D Y:List Nat):Prop where
 len:Y.length=D.length
 KT:∀i,Y.getD i 0=1↔D.getD i 0=1
 black:∀i,D.getD i 0=2->Y.getD i 0=2
 PC:(∀i,D.getD i 0<=2)->∀i,Y.getD i 0<=2
 ends:(∀i,D.getD i 0=2->Ends succ i)->∀i,Y.getD i 0=2->Ends succ i
 fresh:fresh Y<=fresh D
def tG.refl(succ:Nat->List Nat)(s:List Nat):tG succ s s:=⟨rfl,λ_=>amT,λ_ h=>h,λh=>h,λh=>h,aar _⟩
def tG.trans{succ:Nat->List Nat}{a b c:List Nat}(h:tG succ a b)(k:tG succ b c):tG succ a c:=
 ⟨by rw[k.len,h.len],λi=>(k.KT i).trans (h.KT i),λi hi=>k.black i (h.black i hi),λH=>k.PC (h.PC H),λhe=>k.ends (h.ends he),alB k.fresh h.fresh⟩
def ll(l:List Nat)(i j v:Nat):(l.set i v).getD j 0=if i=j/\i<l.length then v else l.getD j 0:=by
 simp only[ahu,ai9];by_cases h:i=j
 .subst h;by_cases I:i<l.length
  .simp[I]
  .simp[I]
 .simp[h]
def Mn{l:List Nat}{i v:Nat}(h:l.getD i 0=0)(hi:i<l.length)(H:v≠0):fresh (l.set i v)+1=fresh l:=by
 induction l generalizing i with
 |nil=>simp at hi
 |cons x r ih=>
  cases i with
  |zero=>
   simp at h;subst h;simp[fresh,H]
  |succ i=>
   have J:=ih (i:=i) (by simpa using h) (by simpa using hi);unfold fresh at J⊢;simp only[amM,List.countP_cons];omega
def yU{l:List Nat}{i v:Nat}(H:v≠0):fresh (l.set i v)<=fresh l:=by
 induction l generalizing i with
 |nil=>simp
 |cons x r ih=>
  cases i with
  |zero=>
   simp only[fresh,List.set_cons_zero,List.countP_cons];simp[H]
  |succ i=>
   have J:=ih (i:=i);unfold fresh at J⊢;simp only[amM,List.countP_cons];omega
def ah6(succ:Nat->List Nat)(D:List Nat)(at_:Nat):Prop:=∀i,D.getD i 0=1->Way succ i at_
def SV(succ:Nat->List Nat):∀f:Nat,
 (∀at_ D,fresh D<f->at_<D.length->(∀i<D.length,∀j∈succ i,j<D.length)->(∀i,D.getD i 0<=2)->ah6 succ D at_->
  ((lP succ f at_ D).1=true->∃i,i<D.length/\Way succ i i)/\((lP succ f at_ D).1=false->tG succ D (lP succ f at_ D).2/\(lP succ f at_ D).2.getD at_ 0=2))/\
 (∀l at_ D,fresh D<f->(∀n∈l,n∈succ at_)->(∀n∈l,n<D.length)->D.getD at_ 0=1->(∀i<D.length,∀j∈succ i,j<D.length)->(∀i,D.getD i 0<=2)->(∀i,D.getD i 0=1->i=at_\/Way succ i at_)->
  ((lj succ f l D).1=true->∃i,i<D.length/\Way succ i i)/\((lj succ f l D).1=false->tG succ D (lj succ f l D).2/\∀n∈l,(lj succ f l D).2.getD n 0=2))
 |0=>⟨λ_ _ h=>by omega,λ_ _ _ h=>by omega⟩
 |f+1=>by
  have A1:∀at_ D,fresh D<f+1->at_<D.length->(∀i<D.length,∀j∈succ i,j<D.length)->(∀i,D.getD i 0<=2)->ah6 succ D at_->
   ((lP succ (f+1) at_ D).1=true->∃i,i<D.length/\Way succ i i)/\((lP succ (f+1) at_ D).1=false->tG succ D (lP succ (f+1) at_ D).2/\(lP succ (f+1) at_ D).2.getD at_ 0=2):=by
   intro at_ D A2 O U H Z;have AE:=(SV succ f).2 (succ at_) at_ (D.set at_ 1);unfold lP;by_cases A7:D.getD at_ 0≠0
   .rw[ac1 A7];refine⟨λh=>⟨at_,O,Z at_ (by simpa using h)⟩,λh=>⟨tG.refl _ _,?_⟩⟩;have:=H at_;simp only[beq_eq_false_iff_ne]at h;simp only
    omega
   .rw[aaf A7];have A4:D.getD at_ 0=0:=by omega
    have AF:=Mn (v:=1) A4 O (by decide);have A5:=AE (by omega) (λn h=>h) (λn h=>by simpa using U at_ O n h) (by rw[ll];simp[O]) (by simpa using U)
     (λi=>by rw[ll];split;omega;exact H i)
     (λi hi=>by
      rw[ll]at hi;split at hi
      .rename_i h;exact .inl h.1.symm
      .exact .inr (Z i hi))
    obtain⟨s,b,he⟩:∃s b,lj succ f (succ at_) (D.set at_ 1)=(b,s):=⟨_,_,rfl⟩;rw[he]at A5⊢;cases b with
    |true=>exact⟨λ_=>by simpa using A5.1 rfl,λh=>by simp at h⟩
    |false=>
     refine⟨λh=>by simp at h,λ_=>?_⟩;obtain⟨ok,T⟩:=A5.2 rfl;simp only at ok T⊢;have A6:s.length=D.length:=by rw[ok.len];simp
     refine⟨⟨by simp[A6],λi=>?_,λi hi=>?_,λ_ i=>?_,λAG i hi=>?_,?_⟩,by rw[ll];simp[A6,O]⟩
     .rw[ll];by_cases hi:at_=i
      .subst hi;simp only[A6,O,and_self,ad7,A4];omega
      .simp only[hi,false_and,adN];rw[ok.KT i,ll];simp[hi]
     .rw[ll];split
      .rfl
      .refine ok.black i ?_;rw[ll];split
       .rename_i h;rw[<-h.1,A4]at hi;omega
       .exact hi
     .rw[ll];split
      .omega
      .refine ok.PC (λi=>?_) i;rw[ll];split;omega;exact H i
     .have A8:∀i,s.getD i 0=2->Ends succ i:=ok.ends (λi hi=>by
       rw[ll]at hi;split at hi
       .omega
       .exact AG i hi)
      rw[ll]at hi;split at hi
      .rename_i h;rw[<-h.1];exact .mk _ (λj y=>A8 j (T j y))
      .exact A8 i hi
     .have J:=yU (l:=s) (i:=at_) (v:=2) (by decide);have I:=ok.fresh;omega
  refine⟨A1,?_⟩;intro l;induction l with
  |nil=>
   intro at_ D _ _ _ _ _ _ _;unfold lj;exact⟨λh=>by simp at h,λ_=>⟨tG.refl _ _,λn h=>by simp at h⟩⟩
  |cons n r ih=>
   intro at_ D A2 A9 A' AH U H Z;have J:=A1 n D A2 (A' n (by simp)) U H (λi hi=>by
    have A3:=A9 n (by simp);rcases Z i hi with rfl|h
    .exact .one A3
    .exact .more h A3)
   unfold lj;obtain⟨s,b,he⟩:∃s b,lP succ (f+1) n D=(b,s):=⟨_,_,rfl⟩;rw[he]at J⊢;cases b with
   |true=>exact⟨λ_=>J.1 rfl,λh=>by simp at h⟩
   |false=>
    obtain⟨ok,A0⟩:=J.2 rfl;simp only at ok A0⊢;have I:=ih at_ s (Nat.lt_of_le_of_lt ok.fresh A2) (λm hm=>A9 m (by simp[hm])) (λm hm=>by rw[ok.len];exact A' m (by simp[hm])) ((ok.KT at_).2 AH)
     (by rw[ok.len];exact U) (ok.PC H) (λi hi=>Z i ((ok.KT i).1 hi))
    refine⟨λh=>by have:=I.1 h;rwa [ok.len]at this,λh=>?_⟩;obtain⟨AA,T⟩:=I.2 h;refine⟨ok.trans AA,λm hm=>?_⟩;rcases ac4.1 hm with rfl|hm
    .exact AA.black _ A0
    .exact T m hm
def rounds(succ:Nat->List Nat)(f:Nat):List Nat->List Nat->Bool
 |[],_=>false
 |n::r,D=>match lP succ f n D with
  |(true,_)=>true
  |(false,s)=>rounds succ f r s
def VN(succ:Nat->List Nat)(N f:Nat)(A2:N<f)(U:∀i<N,∀j∈succ i,j<N):
 rounds succ f (List.range N) (List.replicate N 0)=true↔∃i<N,¬Ends succ i:=by
 have key:∀(l:List Nat)(D:List Nat),D.length=N->(∀n∈l,n<N)->(∀i,D.getD i 0≠1)->(∀i,D.getD i 0<=2)->(∀i,D.getD i 0=2->Ends succ i)->(∀i<N,i∈l\/D.getD i 0=2)->
  (rounds succ f l D=true↔∃i<N,¬Ends succ i):=by
  intro l;induction l with
  |nil=>
   intro D _ _ _ _ he T;unfold rounds;refine⟨λh=>by simp at h,?_⟩;rintro ⟨i,hi,A3⟩;rcases T i hi with h|h
   .simp at h
   .exact absurd (he i h) A3
  |cons n r ih=>
   intro D O A' AB H he T;have AF:fresh D<=D.length:=List.countP_le_length;have J:=(SV succ f).1 n D (by omega) (by rw[O];exact A' n (by simp)) (by rw[O];exact U) H (λi hi=>absurd hi (AB i));unfold rounds;obtain⟨s,b,A1⟩:∃s b,lP succ f n D=(b,s):=⟨_,_,rfl⟩;rw[A1]at J⊢;cases b with
   |true=>
    refine⟨λ_=>?_,λ_=>rfl⟩;obtain⟨i,hi,w⟩:=J.1 rfl;exact⟨i,by omega,λh=>h.abp w⟩
   |false=>
    obtain⟨ok,A0⟩:=J.2 rfl;simp only at ok A0⊢;refine ih s (by rw[ok.len,O]) (λm hm=>A' m (by simp[hm])) (λi hi=>AB i ((ok.KT i).1 hi)) (ok.PC H) (ok.ends he) (λi hi=>?_);rcases T i hi with h|h
    .rcases ac4.1 h with rfl|h
     .exact .inr A0
     .exact .inl h
    .exact .inr (ok.black i h)
 refine key _ _ (by simp) (by simp) (λi=>?_) (λi=>?_) (λi hi=>?_) (λi hi=>.inl (by simpa using hi))
 .simp[ahu,amQ];split<;>simp
 .simp[ahu,amQ];split<;>simp
 .simp[ahu,amQ]at hi;split at hi<;>simp at hi
def left(g:List Bool):Nat:=g.countP (·== false)
def Sc{succ:Nat->List Nat}{p:Nat->Bool}(AI:∀j,p j=false->Ends succ j)(i:Nat):Ends (λi=>(succ i).filter p) i↔Ends succ i:=by
 constructor
 .intro h;induction h with
  |mk i h ih=>
   refine .mk _ (λj y=>?_);cases AC:p j with
   |false=>exact AI j AC
   |true=>exact ih j (by simp[y,AC])
 .intro h;induction h with
  |mk i h ih=>exact .mk _ (λj y=>ih j ((aha.1 y).1))
structure ar where
 op:Int
 a:Int
 b:Int
 n:Int
 m:Int
def fW(cells at_ n:Int):Bool:=decide (0<=at_)&&decide (0<=n)&&decide (n<=cells)&&decide (at_<=cells-n)
def xQ(x:ar):Bool:=
 if x.a=0 then decide (x.b=6)||decide (8<=x.b)&&decide (x.b<=18)
 else if x.a=1 then decide (x.b=7)||decide (x.b=13)||decide (x.b=14)||decide (19<=x.b)&&decide (x.b<=21)
 else false
def AY(cells:Int)(x:ar):Bool:=decide (0<=x.n)&&decide (x.n<=x.m)&&decide (x.m<=255)&&fW cells x.a (x.m-x.n+1)
def dH(D:Int->Nat)(cells last at_:Int)(x:ar):Bool:=
 if x.op=1\/x.op=11 then true
 else if x.op=2\/x.op=3\/x.op=6\/x.op=14 then fW cells x.a 1
 else if x.op=13 then fW cells x.a 1&&fW cells x.b 2
 else if x.op=4\/x.op=5\/x.op=7 then AY cells x
 else if x.op=8 then xQ x
 else if x.op=9\/x.op=10 then decide (0<=x.a)&&decide (x.a<=last)
 else if x.op=12 then decide (0<D x.b)&&fW cells x.a (D x.b)
 else if x.op=15 then decide (at_=last)
 else false
def qe(D:Int->Nat)(cells last:Int):Nat->List ar->Bool
 |_,[]=>true
 |i,x::r=>dH D cells last i x&&qe D cells last (i+1) r
def jP(n:Nat)(t:Bool)(S:List Bool):Option (List Bool):=
 if S.length<n then none else if t&&(S.drop (S.length-n)).any (λb=>!b)then none else some (S.take (S.length-n))
def fm(t:Bool)(S:List Bool):Option (List Bool):=if S.length<64 then some (S++[t])else none
def iI(S:List Bool):Option (List Bool):=if S=[]then some []else none
def cM(x:ar)(S:List Bool):Option (List Bool):=
 if x.op=1 then fm (decide (x.n=0)||decide (x.n=1)) S
 else if x.op=2 then fm false S
 else if x.op=3\/x.op=13\/x.op=14 then fm true S
 else if x.op=4 then (jP 1 false S).bind (fm false)
 else if x.op=5 then (jP 1 false S).bind (fm true)
 else if x.op=6 then jP 1 false S
 else if x.op=7 then jP 2 false S
 else if x.op=8 then (jP (if x.b=6\/x.b=7 then 1 else 2) (decide (x.a=1)) S).bind (fm (decide (x.b=7)||decide (13<=x.b)))
 else if x.op=10 then (jP 1 true S).bind iI
 else iI S
def gV(BH:List Bool):Nat->List ar->List Bool->Bool
 |_,[],_=>true
 |i,x::r,S=>if BH.getD i false&&!S.isEmpty then false else match cM x S with
  |none=>false
  |some S'=>gV BH (i+1) r S'
def pP(ins:List ar):List Bool:=ins.foldl (λl x=>if x.op=9\/x.op=10 then l.set x.a.toNat true else l) (List.replicate ins.length false)
def xR(ins:List ar)(i:Nat):List Nat:=
 match ins[i]? with
 |none=>[]
 |some x=>if x.op=9 then [x.a.toNat]else if x.op=10 then [i+1,x.a.toNat]else if x.op=15 then []else [i+1]
def jQ(ins:List ar)(i:Nat):Bool:=
 match ins[i]? with
 |none=>false
 |some x=>decide (x.op=11)
def tI(ins:List ar)(i:Nat):List Nat:=if jQ ins i=true then []else xR ins i
def ig(ins:List ar)(i:Nat):List Nat:=(tI ins i).filter λj=>!jQ ins j
def Yk(ins:List ar)(i:Nat):Ends (ig ins) i↔Ends (tI ins) i:=
 Sc (p:=λj=>!jQ ins j) (λj H=>.mk _ (λk Z=>by
  have:jQ ins j=true:=by simpa using H
  simp[tI,this]at Z)) i
def FY(n vars cells:Int)(tJ:Int):Bool:=decide (1<=n)&&decide (n<=4096)&&decide (0<=cells)&&decide (cells<=8192)&&decide (0<=vars)&&decide (vars<=cells)&&decide (tJ=15)
def tJ(ins:List ar):Int:=(ins.getLast?.map (·.op)).getD 0
def mO(D:Int->Nat)(ins:List ar)(vars cells:Int):Bool:=FY ins.length vars cells (tJ ins)&&qe D cells ((ins.length:Int)-1) 0 ins
def qf(D:Int->Nat)(ins:List ar)(vars cells:Int):Bool:=
 mO D ins vars cells&&gV (pP ins) 0 ins []&&!(rounds (ig ins) (ins.length+1) (List.range ins.length) (List.replicate ins.length 0))
def sH{D:Int->Nat}{cells last:Int}:∀{ins:List ar}{i0:Nat},qe D cells last i0 ins=true->∀i x,ins[i]?=some x->dH D cells last ((i0+i:Nat):Int) x=true
 |y::r,i0,h,i,x,I=>by
  simp only[qe,Ds]at h;cases i with
  |zero=>simp at I;subst I;exact h.1
  |succ i=>
   have:=sH h.2 i x (by simpa using I);rw[show i0+(i+1)=i0+1+i by omega];exact this
def aeS{D:Int->Nat}{ins:List ar}{vars cells:Int}(h:mO D ins vars cells=true):∀i<ins.length,∀j∈tI ins i,j<ins.length:=by
 intro i hi j H;simp only[mO,Ds]at h;have I:ins[i]?=some ins[i]:=by simp[hi]
 have J:=sH h.2 i _ I;simp only[agT]at J;have T:i+1=ins.length->ins[i].op=15:=by
  intro A';have U:=h.1;simp only[FY,Ds,ac2]at U;have M:=U.2;unfold tJ at M;rw[aiC,show ins.length-1=i by omega,I]at M;simpa using M
 unfold tI at H;split at H
 .simp at H
 .unfold xR at H;rw[I]at H;simp only at H;unfold dH at J;by_cases V:ins[i].op=9
  .simp[V]at H J;omega
  .by_cases Y:ins[i].op=10
   .simp[Y]at H J;have:i+1≠ins.length:=λh=>by have:=T h;omega
    omega
   .by_cases O:ins[i].op=15
    .simp[O]at H
    .simp[V,Y,O]at H;have:i+1≠ins.length:=λh=>O (T h);omega
def Mp{D:Int->Nat}{ins:List ar}{vars cells:Int}(h:mO D ins vars cells=true):
 rounds (ig ins) (ins.length+1) (List.range ins.length) (List.replicate ins.length 0)=true↔∃i<ins.length,¬Ends (tI ins) i:=by
 rw[VN (ig ins) ins.length (ins.length+1) (by omega) (λi hi j H=>aeS h i hi j (aha.1 H).1)];simp only[Yk]
noncomputable def tK(X:Ctx)(f:FuncId)(c:Code)(S:St)(D:List DF):XD:=jF λk=>lh X f (bE X k) k c S D
noncomputable def Jv(X:Ctx)(f:FuncId)(I:AV)(c:Code)(S:St):Option (XE×St):=jF λk=>rl X f (bE X k) k I c S
noncomputable def HO(X:Ctx):bP:=λg args cs=>jF λk=>qJ X k (bE X k) g args cs
abbrev E3:=XE->St->List DF->bS
noncomputable def m9(X:Ctx)(f:FuncId)(c:Code)(S:St)(D:List DF)(k:E3):bS:=(tK X f c S D).bind λp=>k p.1 p.2.1 p.2.2
noncomputable def CY(X:Ctx)(md:Bool)(all ops:List Oper)(S:St)(D:List DF)(k:E3):bS:=(iE X (aj X) md all ops S D).bind λp=>k p.1 p.2.1 p.2.2
noncomputable def Jw(X:Ctx)(f:FuncId)(b:Code)(k:E3):E3
 | .normal,S,D=>m9 X f b S D k
 |e,S,D=>k e S D
def KU(X:Ctx)(f:FuncId)(id:Nat)(k:E3):E3
 | .normal,S,D=>k .normal (S.leave X f id) D
 |e,S,D=>k e S D
noncomputable def PD(X:Ctx)(md:Bool)(all r:List Oper)(D:List DF)(k:E3):Kt
 | .normal,S=>CY X md all r S D k
 |e,S=>k e S D
noncomputable def NI(X:Ctx)(md:Bool)(all r:List Oper)(o:Oper)(S:St)(D:List DF)(k:E3):Option DF->bS
 |some d=>CY X md all r (S.put o.dst true .bH) (d::D) k
 |none=>runK X md all [o] S (PD X md all r D k)
section
variable {X:Ctx} {f:FuncId} {S:St} {D:List DF} {md:Bool}
theorem AZ(all:List Oper):∀(ops:List Oper)(S:St)(D:List DF),jF (λk=>iE X (bE X k) md all ops S D)=iE X (aj X) md all ops S D
 |[],S,D=>bx _
 |o::r,S,D=>by
  simp only[iE];cases lf S o with
  |some d=>exact AZ all r _ _
  |none=>
   simp only[HL];rw[fq (g:=λx n=>nT (λS1=>iE X (bE X n) md all r S1 D) D x) (xM (cd X) all) (λx=>by
    obtain⟨e,S1⟩:=x;cases e with
    |normal=>exact qd (cd X) all r S1 D
    |_=>exact aO.const _),Ml]
   congr 1;funext x;obtain⟨e,S1⟩:=x;cases e with
   |normal=>exact AZ all r S1 D
   |_=>exact bx _
theorem dmD(c:Code)(S:St)(D:List DF):aO (λk=>lh X f (bE X k) k c S D):=Mj (cd X) f (m:=λk=>k) (λk=>alh k) c S D
theorem Yl{a b:Code}:tK X f (.seq a b) S D=OX (tK X f b) (tK X f a S D):=by
 unfold tK;simp only[lh,SN];rw[fq (g:=λx n=>sT (lh X f (bE X n) n b) x) (dmD a S D) (λx=>by
  obtain⟨e,S1,H⟩:=x;cases e with
  |normal=>exact dmD b S1 H
  |_=>exact aO.const _)]
 congr 1;funext x;obtain⟨e,S1,H⟩:=x;cases e<;>first|rfl|exact bx _
theorem qg{c:Code}(h:∀k,lh X f (bE X k) k c S D=CD D (den X f (bE X k) k c S)):tK X f c S D=CD D (iP X f c S):=by
 unfold tK iP;have:(λk=>lh X f (bE X k) k c S D)=λk=>(den X f (bE X k) k c S).bind λq=>dT D q:=by
  funext k;rw[h,KO]
 rw[this,fq (dm c S) (λ_=>aO.const _),KO];simp only[bx]
theorem Ym{id:Nat}{ops:Array Oper}(h:rN ops.toList=true):tK X f (.region id ops false) S D=EC (St.leave X f id) (iE X (aj X) (X.md f id) ops.toList ops.toList S D):=by
 unfold tK;have:(λk=>lh X f (bE X k) k (.region id ops false) S D)=λk=>(iE X (bE X k) (X.md f id) ops.toList ops.toList S D).bind λq=>lT (St.leave X f id) q:=by
  funext k;simp only[lh,h,Bool.not_false,Bool.and_self,ER]
 rw[this,fq (qd (cd X) _ _ _ _) (λ_=>aO.const _),AZ,ER];simp only[bx]
variable {k:E3}
theorem Yn{a b:Code}:m9 X f (.seq a b) S D k=m9 X f a S D (Jw X f b k):=by
 simp only[m9,Yl];rcases tK X f a S D with _|⟨e,S1,H⟩
 .rfl
 .cases e<;>rfl
theorem qh{c:Code}(h:tK X f c S D=CD D (iP X f c S)):m9 X f c S D k=aL X f c S λe S=>k e S D:=by
 simp only[m9,aL,h];rcases iP X f c S with _|⟨e,S1⟩<;>rfl
theorem VO{o:Operand}{a b:Code}:m9 X f (.cond o a b) S D k=aL X f (.cond o a b) S λe S=>k e S D:=qh (qg λ_=>rfl)
theorem Yo:m9 X f .ret S D k=aL X f .ret S λe S=>k e S D:=qh (qg λ_=>rfl)
theorem VP:m9 X f .skip S D k=aL X f .skip S λe S=>k e S D:=qh (qg λ_=>rfl)
theorem VQ{c:Code}:m9 X f (.loop c) S D k=aL X f (.loop c) S λe S=>k e S D:=qh (qg λ_=>rfl)
theorem Sd{id:Nat}{c:Code}:m9 X f (.block id c) S D k=aL X f (.block id c) S λe S=>k e S D:=qh (qg λ_=>rfl)
theorem VR{id:Nat}{ops:Array Oper}:m9 X f (.region id ops true) S D k=aL X f (.region id ops true) S λe S=>k e S D:=qh (qg λ_=>rfl)
theorem Yp{id:Nat}{l:List Oper}:m9 X f (.region id ⟨l⟩ false) S D k=if rN l=true then CY X (X.md f id) l l S D (KU X f id k)else aL X f (.region id ⟨l⟩ false) S λe S=>k e S D:=by
 split
 .rename_i h;simp only[m9,CY,Ym (ops:=⟨l⟩) h];rcases iE X (aj X) (X.md f id) l l S D with _|⟨e,S1,H⟩
  .rfl
  .cases e<;>rfl
 .rename_i h;exact qh (qg λ_=>by simp[lh,h])
theorem Yq{all:List Oper}:CY X md all [] S D k=k .normal S D:=rfl
theorem VS{all r:List Oper}{o:Oper}:CY X md all (o::r) S D k=NI X md all r o S D k (lf S o):=by
 simp only[CY,iE];cases lf S o with
 |some d=>rfl
 |none=>
  simp only[NI,runK,jw,HL,CO];rcases qI X (aj X) md all S o with _|⟨e,S1⟩
  .rfl
  .cases e<;>rfl
end
noncomputable def Jx(X:Ctx)(p:il)(H:Nat)(rs:List ResultVar):E3
 |e,S,[]=>CT X.P p H rs e S
 |e,S,[d]=>xI X p H rs (HO X) S d (Hy e)
 |_,_,_=>none
noncomputable def zX(X:Ctx)(f:FuncId)(D:AV)(c:Code)(S:St)(k:Kt):bS:=(Jv X f D c S).bind λp=>k p.1 p.2
def NJ(P:Program)(p:il)(H:Nat)(rs:List ResultVar):Kt
 | .normal,S=>finish P p H rs S
 | .ret,S=>finish P p H rs S
 |_,_=>none
section
variable {X:Ctx} {f:FuncId} {S:St}
theorem vC(X:Ctx):gj λk=>qJ X k (bE X k):=Jn (cd X) (m:=λk=>k) (λk=>alh k)
theorem Se{C:Nat->bP}(y:gj C)(m:Mem)(Z:Nat)(g:FuncId)(I:List AV)(mt:List Nat):jF (λk=>fi (C k) m Z g I mt)=fi (λg a c=>jF λk=>C k g a c) m Z g I mt:=by
 unfold fi po pn;simp only[AS];rw[fq (y _ _ _) (λ_=>aO.const _)];simp only[bx]
theorem Yr(p:il)(H:Nat)(rs:List ResultVar)(d:DF)(D:Option AV):jF (λk=>xI X p H rs (qJ X k (bE X k)) S d D)=xI X p H rs (HO X) S d D:=by
 cases D with
 |none=>exact bx _
 |some D=>
  simp only[xI,SQ,SP S (fi _ _ _ _ _ _)];rw[fq (g:=λS _=>finish X.P p H rs S) ((rP (vC X) _ _ _ _ _).bind (g:=λc _=>ED S (some c)) λ_=>aO.const _) (λ_=>aO.const _),
   fq (g:=λc _=>ED S (some c)) (rP (vC X) _ _ _ _ _) (λ_=>aO.const _),Se (vC X)]
  simp only[bx];rfl
theorem Ys{fn:Func}{c:Code}{args:List AV}{cs:List aF}{n:Nat}{rs:List ResultVar}{p:il}(A':X.ov=none)(A0:X.Bu f=none)(J:X.P.funcs[f]?=some fn)(M:fn.body=some c)(A1:yJ c=true)(O:fn.ntmps=n)(T:fn.results.toList=rs)
 (U:X.fp f=p) (V:nY n p args cs=true):aj X f args cs=m9 X f c (entry n X.gl args cs p.sites) [] (Jx X p cs.length rs):=by
 subst U;subst O;subst T;unfold aj;rw[<-Mf (cd X f args cs)];have Y:(λk=>bE X (k+1) f args cs)=λk=>(lh X f (bE X k) k c (entry fn.ntmps X.gl args cs (X.fp f).sites) []).bind λq=>AM X (X.fp f) cs.length fn.results.toList (qJ X k (bE X k)) (some q):=by
  funext k;rw[bE,A',A0,J];simp only[M,A1,By,Bx];rw[ac1 (by simpa only[nY]using V),SR]
 rw[Y,fq (g:=λq k=>AM X (X.fp f) cs.length fn.results.toList (qJ X k (bE X k)) (some q)) (dmD c _ _) (λq=>Jo (vC X) _ _ _ q)];simp only[m9];congr 1;funext q;obtain⟨e,S1,A2⟩:=q;match A2 with
 |[]=>
  simp only[AM,Jx,bx];cases e<;>rfl
 |[d]=>exact Yr _ _ _ _ _
 |_::_::_=>exact bx _
theorem aeT{fn:Func}{c:Code}{args I:List AV}{D:AV}{cs:List aF}{n:Nat}{rs:List ResultVar}{p:il}(J:X.P.funcs[f]?=some fn)(M:fn.body=some c)(O:fn.ntmps=n)(T:fn.results.toList=rs)
 (U:X.fp f=p) (A3:args.getLast?=some D) (A4:args.dropLast=I) (V:nY n p I cs=true):HO X f args cs=zX X f D c (entry n X.gl I cs p.sites) (NJ X.P p cs.length rs):=by
 subst U;subst O;subst T;subst A4;unfold HO;have Y:(λk=>qJ X k (bE X k) f args cs)=λk=>(rl X f (bE X k) k D c (entry fn.ntmps X.gl args.dropLast cs (X.fp f).sites)).bind λq=>Vh X.P (X.fp f) cs.length fn.results.toList (some q):=by
  funext k;simp only[qJ,J,M,Bw,A3];rw[ac1 (by simpa only[nY]using V),SO]
 rw[Y,fq (ES (cd X) f (m:=λk=>k) (λk=>alh k) D c _) (λ_=>aO.const _)];simp only[zX,bx];congr 1;funext q;obtain⟨e,S1⟩:=q;cases e<;>rfl
variable {k:Kt} {D:AV}
theorem Yt{a b:Code}:zX X f D (.seq a b) S k=zX X f D a S (EU X f b k):=by
 have h:Jv X f D (.seq a b) S=andThen (Jv X f D a S) (iP X f b):=
  AW (F:=λn=>rl X f (bE X n) n D a S) (K:=λS' n=>den X f (bE X n) n b S') (ES (cd X) f (m:=λk=>k) (λk=>alh k) D a S) (λS'=>dm b S')
 simp only[zX,h,yR];congr 1;funext q;obtain⟨e,S1⟩:=q;cases e<;>rfl
theorem Mq{id:Nat}{o:Oper}{r:List Oper}(h:zN o=true):zX X f D (.region id ⟨o::r⟩ false) S k=runK X (X.md f id) (o::r) r (S.put o.dst true D) (EV X f id k):=by
 have A5:Jv X f D (.region id ⟨o::r⟩ false) S=AL (St.leave X f id) (jw X (aj X) (X.md f id) (o::r) r (S.put o.dst true D)):=by
  unfold Jv;have:(λk=>rl X f (bE X k) k D (.region id ⟨o::r⟩ false) S)=λk=>(jw X (bE X k) (X.md f id) (o::r) r (S.put o.dst true D)).bind λq=>mT (St.leave X f id) q:=by
   funext k;simp only[rl,h,ad7,uS]
  rw[this,fq (nt (cd X) _ _ _) (λ_=>aO.const _),xN,uS];simp only[bx]
 simp only[zX,runK,A5];rcases jw X (aj X) (X.md f id) (o::r) r (S.put o.dst true D)with _|⟨e,S1⟩
 .rfl
 .cases e<;>rfl
end
section
variable {X:Ctx} {U C:bP} {f:FuncId}
end
inductive PR(H D α:Type) where
 |ok (a:α) (s:D)
 |bad (e:H) (s:D)
 |out
section
variable {H D α β T:Type}
def PR.el(r:PR H D α)(f:α->D->Option β)(g:H->D->Option β):Option β:=
 match r with
 | .ok a s=>f a s
 | .bad e s=>g e s
 | .out=>none
def PR.bind(r:PR H D α)(k:α->D->PR H D T):PR H D T:=
 match r with
 | .ok a s=>k a s
 | .bad e s=>.bad e s
 | .out=>.out
theorem ah8{I:Nat}{b:Bool}{r:PR H D α}{f:α->D->bS}{g:H->D->bS}:AH I b (r.el f g)=r.el (λa s=>AH I b (f a s)) (λe s=>AH I b (g e s)):=by cases r<;>rfl
theorem aeU{m:Mem}{J:Nat}{ρ B:List Nat}{r:PR H D α}{f:α->D->bS}{g:H->D->bS}:iq m J ρ B (r.el f g)=r.el (λa s=>iq m J ρ B (f a s)) (λe s=>iq m J ρ B (g e s)):=by cases r<;>rfl
theorem abq{X:Ctx}{md:Bool}{S:St}{d:Option Nat}{all q:List Oper}{k:Kt}{r:PR H D α}{f:α->D->Option im}{g:H->D->Option im}:vA X md S d all q k (r.el f g)=r.el (λa s=>vA X md S d all q k (f a s)) (λe s=>vA X md S d all q k (g e s)):=by cases r<;>rfl
theorem Yu{X:Ctx}{md:Bool}{M:Nat×List (List Nat)}{S:St}{d:Option Nat}{all q:List Oper}{O:List bC}{k:Kt}{r:PR H D α}{f:α->D->Option im}{g:H->D->Option im}:o8 X md M S d all q O k (r.el f g)=r.el (λa s=>o8 X md M S d all q O k (f a s)) (λe s=>o8 X md M S d all q O k (g e s)):=by cases r<;>rfl
end
abbrev Tx:=List UInt8
def qj:List Tx:=[[80,82,79,71,82,65,77],[69,78,68,95,80,82,79,71,82,65,77],[86,65,82],[86,65,82,95,73,78,80,85,84],[86,65,82,95,79,85,84,80,85,84],[69,78,68,95,86,65,82],[73,78,84],[66,79,79,76],[65,82,82,65,89],[79,70],[84,82,85,69],[70,65,76,83,69],[73,70],[84,72,69,78],[69,76,83,73,70],[69,76,83,69],[69,78,68,95,73,70],[67,65,83,69],[69,78,68,95,67,65,83,69],[70,79,82],[84,79],[66,89],[68,79],[69,78,68,95,70,79,82],[87,72,73,76,69],[69,78,68,95,87,72,73,76,69],[82,69,80,69,65,84],[85,78,84,73,76],[69,78,68,95,82,69,80,69,65,84],[69,88,73,84],[82,69,84,85,82,78],[65,78,68],[79,82],[88,79,82],[78,79,84],[77,79,68]]
def NK(s:Tx):Bool:=decide (s∈qj)
structure pa where
 kind:Int
 text:Tx
 n:Int
 line:Int
 col:Int
 deriving DecidableEq
def here(p:Int×Int):pa:=⟨0,[],0,p.1,p.2⟩
inductive Ex where
 |mk (op n:Int) (name field:Tx) (sub:List Ex) (line:Int)
inductive Sm where
 |mk (op:Int) (name:Tx) (to val:Ex) (conds:List Ex) (I:List (List Int)) (fields:List Tx) (blocks:List (List Sm)) (line:Int)
instance:Inhabited Ex:=⟨.mk 0 0 [] [] [] 0⟩
instance:Inhabited Sm:=⟨.mk 0 [] default default [] [] [] [] 0⟩
structure Vr where
 name:Tx
 ty:Int
 sec:Int
 arr:Bool
 lo:Int
 hi:Int
 init:Int
 line:Int
 deriving DecidableEq
structure Pg where
 name:Tx
 vars:List Vr
 body:List Sm
mutual
def cm:Ex->D
 | .mk op n name field sub line=>.agg [.int .i64 op,.int .i64 n,.str name,.str field,.list (jq sub),.int .i64 line]
def jq:List Ex->List D
 |[]=>[]
 |x::r=>cm x::jq r
end
def yc:∀l:List Ex,jq l=l.map cm
 |[]=>rfl
 |x::r=>by simp[jq,yc r]
def BI:Ex->List D
 | .mk op n name field sub line=>[.int .i64 op,.int .i64 n,.str name,.str field,.list (jq sub),.int .i64 line]
def NL(x:Ex):cm x=.agg (BI x):=by cases x;rfl
def jR(l:List Int):D:=.list (l.map λn=>.int .i64 n)
mutual
def bZ:Sm->D
 | .mk op name to val conds I fields blocks line=>.agg (.int .i64 op::.str name::(BI to++(BI val++[.list (jq conds),.list (I.map jR),.list (fields.map .str),.list (py blocks),.int .i64 line])))
def pz:List Sm->List D
 |[]=>[]
 |x::r=>bZ x::pz r
def py:List (List Sm)->List D
 |[]=>[]
 |b::r=>.list (pz b)::py r
end
def BJ:∀l:List Sm,pz l=l.map bZ
 |[]=>rfl
 |x::r=>by simp[pz,BJ r]
def FZ:∀l:List (List Sm),py l=l.map λb=>.list (b.map bZ)
 |[]=>rfl
 |x::r=>by simp[py,FZ r,BJ]
def dK(v:Vr):List D:=[.str v.name,.int .i64 v.ty,.int .i64 v.sec,.bool v.arr,.int .i64 v.lo,.int .i64 v.hi,.int .i64 v.init,.int .i64 v.line]
def bF(v:Vr):D:=.agg (dK v)
structure PS where
 at_:Nat
 deep:Int
 vars:List Vr
structure Er where
 e:Int
 line:Int
 col:Int
 deriving DecidableEq
abbrev PM(α:Type):=PR Er PS α
abbrev wr(n:Int):Int:=IntKind.i64.wrap n
section
variable (L:List pa)
def yV(s:PS):PM pa:=match L[s.at_]? with
 |some t=>.ok t s
 |none=>.out
def VT{α:Type}(e:Int)(t:pa)(s:PS):PM α:=.bad ⟨e,t.line,t.col⟩ s
def isW(t:pa)(w:Tx):Bool:=(decide (t.kind=2)||decide (t.kind=4))&&decide (t.text=w)
def isS(w:Tx)(s:PS):PM Bool:=(yV L s).bind λt s=>.ok (isW t w) s
def anyS:List Tx->PS->PM Bool
 |[],s=>.ok false s
 |w::r,s=>(isS L w s).bind λb s=>if b=true then .ok true s else anyS r s
def F0(s:PS):PM pa:=(yV L s).bind λt s=>.ok t (if t.kind=0 then s else {s with at_:=s.at_+1})
def nu(w:Tx)(s:PS):PM Bool:=(isS L w s).bind λb s=>if b=true then (F0 L s).bind λ_ s=>.ok true s else .ok false s
def lg(w:Tx)(s:PS):PM Unit:=(nu L w s).bind λb s=>if b=true then .ok () s else (yV L s).bind λt s=>VT 5 t s
def CZ(k:Int)(s:PS):PM pa:=(yV L s).bind λt s=>if t.kind=k then F0 L s else (yV L s).bind λt s=>VT 5 t s
def inS(s:PS):PM Unit:=if 32<wr (s.deep+1)then (yV L {s with deep:=wr (s.deep+1)}).bind λt s=>VT 13 t s else .ok () {s with deep:=wr (s.deep+1)}
def VU(s:PS):PM Unit:=.ok () {s with deep:=wr (s.deep-1)}
def SW(s:PS):PM Int:=(nu L [45] s).bind λb s=>if b=true then (CZ L 3 s).bind λt s=>.ok (wr (-t.n)) s else (CZ L 3 s).bind λt s=>.ok t.n s
def lvT:List (List Tx):=[[[79,82]],[[88,79,82]],[[65,78,68]],[[61],[60,62],[60],[62],[60,61],[62,61]],[[43],[45]],[[42],[47],[77,79,68]]]
def opT:List Tx:=[[43],[45],[42],[47],[77,79,68],[61],[60,62],[60],[62],[60,61],[62,61],[65,78,68],[88,79,82],[79,82]]
def ah9(w:Tx):List Tx->Nat->Int
 |[],_=> -1
 |x::r,i=>if w=x then i else ah9 w r (i+1)
def opI(w:Tx):Int:=8+ah9 w opT 0
def BL:Ex:=.mk 0 0 [] [] [] 0
def adB(t:pa):Ex:=.mk 3 0 t.text [] [] t.line
def Jy(op:Int)(H:Tx)(l:List Ex)(line:Int):Ex:=.mk op 0 H [] l line
def Mr(s:PS):PM Bool:=(yV L s).bind λt s=>if t.kind=3 then .ok true s else isS L [45] s
def SX:Nat->List Int->PS->PM (List Int)
 |0,_,_=>.out
 |f+1,l,s=>(SW L s).bind λlo s=>(nu L [46,46] s).bind λb s=>(if b=true then SW L s else .ok lo s).bind λhi s=>
  if l.length<100000 then (nu L [44] s).bind λb s=>if b=true then SX f (l++[lo,hi]) s else (lg L [58] s).bind λ_ s=>.ok (l++[lo,hi]) s else .out
def abr(s:PS):PM Bool:=(Mr L s).bind λb s=>if b=true then .ok true s else (isS L [69,76,83,69] s).bind λb s=>if b=true then .ok true s else isS L [69,78,68,95,67,65,83,69] s
mutual
def Jz:Nat->Nat->PS->PM Ex
 |0,_,_=>.out
 |f+1,n,s=>if n=6 then PE f s else if n<6 then (Jz f (n+1) s).bind λx s=>Yv f n x s else .out
def Yv:Nat->Nat->Ex->PS->PM Ex
 |0,_,_,_=>.out
 |f+1,n,x,s=>(anyS L (lvT.getD n []) s).bind λb s=>if b=true then (F0 L s).bind λt s=>(Jz f (n+1) s).bind λy s=>
  if n=3 then .ok (Jy (opI t.text) [] [x,y] t.line) s else Yv f n (Jy (opI t.text) [] [x,y] t.line) s
  else .ok x s
def PE:Nat->PS->PM Ex
 |0,_=>.out
 |f+1,s=>(yV L s).bind λt s=>(isS L [45] s).bind λb s=>
  if b=true then adC f 6 t s else (isS L [78,79,84] s).bind λb s=>if b=true then adC f 7 t s else SY f s
def adC:Nat->Int->pa->PS->PM Ex
 |0,_,_,_=>.out
 |f+1,op,t,s=>(inS L s).bind λ_ s=>(F0 L s).bind λ_ s=>(PE f s).bind λx s=>(VU s).bind λ_ s=>.ok (Jy op [] [x] t.line) s
def sg:Nat->PS->PM Ex
 |0,_=>.out
 |f+1,s=>Jz f 0 s
def PF:Nat->PS->PM Ex
 |0,_=>.out
 |f+1,s=>(inS L s).bind λ_ s=>(lg L [91] s).bind λ_ s=>(sg f s).bind λx s=>(lg L [93] s).bind λ_ s=>(VU s).bind λ_ s=>.ok x s
def SY:Nat->PS->PM Ex
 |0,_=>.out
 |f+1,s=>(yV L s).bind λt s=>
  if t.kind=3 then (F0 L s).bind λu s=>.ok (.mk 1 u.n [] [] [] t.line) s else
  (nu L [84,82,85,69] s).bind λb s=>if b=true then .ok (.mk 2 1 [] [] [] t.line) s else
  (nu L [70,65,76,83,69] s).bind λb s=>if b=true then .ok (.mk 2 0 [] [] [] t.line) s else
  (isS L [40] s).bind λb s=>if b=true then (inS L s).bind λ_ s=>(F0 L s).bind λ_ s=>(sg f s).bind λx s=>(lg L [41] s).bind λ_ s=>(VU s).bind λ_ s=>.ok x s else
  (CZ L 1 s).bind λ_ s=>
  (isS L [91] s).bind λb s=>if b=true then (PF f s).bind λx s=>.ok (Jy 4 t.text [x] t.line) s else
  (nu L [46] s).bind λb s=>if b=true then (CZ L 1 s).bind λu s=>.ok (.mk 5 0 t.text u.text [] t.line) s else .ok (adB t) s
end
def aia(op:Int):Sm:=.mk op [] BL BL [] [] [] [] 0
def aq9(line:Int):Sm->Sm
 | .mk op name to val conds I fields blocks _=>.mk op name to val conds I fields blocks line
mutual
def yW:Nat->List Tx->PS->PM (List Sm)
 |0,_,_=>.out
 |f+1,ends,s=>Yw f ends [] s
def Yw:Nat->List Tx->List Sm->PS->PM (List Sm)
 |0,_,_,_=>.out
 |f+1,ends,l,s=>(anyS L ends s).bind λb s=>if b=true then .ok l s else (VV f s).bind λx s=>if l.length<100000 then Yw f ends (l++[x]) s else .out
def VV:Nat->PS->PM Sm
 |0,_=>.out
 |f+1,s=>(yV L s).bind λt s=>(inS L s).bind λ_ s=>(adD f s).bind λx s=>(lg L [59] s).bind λ_ s=>(VU s).bind λ_ s=>.ok (aq9 t.line x) s
def adD:Nat->PS->PM Sm
 |0,_=>.out
 |f+1,s=>
  (nu L [73,70] s).bind λb s=>if b=true then Mt f s else
  (nu L [67,65,83,69] s).bind λb s=>if b=true then Yx f s else
  (nu L [70,79,82] s).bind λb s=>if b=true then PG f s else
  (nu L [87,72,73,76,69] s).bind λb s=>if b=true then (sg L f s).bind λv s=>(lg L [68,79] s).bind λ_ s=>(yW f [[69,78,68,95,87,72,73,76,69]] s).bind λl s=>(lg L [69,78,68,95,87,72,73,76,69] s).bind λ_ s=>.ok (.mk 5 [] BL v [] [] [] [l] 0) s else
  (nu L [82,69,80,69,65,84] s).bind λb s=>if b=true then (yW f [[85,78,84,73,76]] s).bind λl s=>(lg L [85,78,84,73,76] s).bind λ_ s=>(sg L f s).bind λv s=>(lg L [69,78,68,95,82,69,80,69,65,84] s).bind λ_ s=>.ok (.mk 6 [] BL v [] [] [] [l] 0) s else
  (nu L [69,88,73,84] s).bind λb s=>if b=true then .ok (aia 7) s else
  (nu L [82,69,84,85,82,78] s).bind λb s=>if b=true then .ok (aia 8) s else
  (CZ L 1 s).bind λH s=>(nu L [40] s).bind λb s=>if b=true then adE f H.text s else
  (isS L [91] s).bind λb s=>(if b=true then (PF L f s).bind λx s=>.ok (Jy 4 H.text [x] H.line) s else .ok (adB H) s).bind λto s=>
  (lg L [58,61] s).bind λ_ s=>(sg L f s).bind λv s=>.ok (.mk 1 [] to v [] [] [] [] 0) s
def Mt:Nat->PS->PM Sm
 |0,_=>.out
 |f+1,s=>Mu f [] [] s
def Mu:Nat->List Ex->List (List Sm)->PS->PM Sm
 |0,_,_,_=>.out
 |f+1,c,l,s=>(sg L f s).bind λx s=>(lg L [84,72,69,78] s).bind λ_ s=>(yW f [[69,76,83,73,70],[69,76,83,69],[69,78,68,95,73,70]] s).bind λb s=>
  if c.length<100000/\l.length<100000 then (nu L [69,76,83,73,70] s).bind λm s=>if m=true then Mu f (c++[x]) (l++[b]) s else
   (nu L [69,76,83,69] s).bind λm s=>(if m=true then (yW f [[69,78,68,95,73,70]] s).bind λz s=>.ok (l++[b]++[z]) s else .ok (l++[b]) s).bind λl s=>(lg L [69,78,68,95,73,70] s).bind λ_ s=>.ok (.mk 2 [] BL BL (c++[x]) [] [] l 0) s
  else .out
def Yx:Nat->PS->PM Sm
 |0,_=>.out
 |f+1,s=>(sg L f s).bind λv s=>(lg L [79,70] s).bind λ_ s=>Yy f v [] [] s
def Yy:Nat->Ex->List (List Int)->List (List Sm)->PS->PM Sm
 |0,_,_,_,_=>.out
 |f+1,v,c,l,s=>(Mr L s).bind λb s=>
  if b=true then (SX L f [] s).bind λx s=>(adF f [] s).bind λb s=>if c.length<100000/\l.length<100000 then Yy f v (c++[x]) (l++[b]) s else .out
  else (nu L [69,76,83,69] s).bind λm s=>(if m=true then (yW f [[69,78,68,95,67,65,83,69]] s).bind λz s=>if l.length<100000 then .ok (l++[z]) s else .out else .ok l s).bind λl s=>(lg L [69,78,68,95,67,65,83,69] s).bind λ_ s=>.ok (.mk 3 [] BL v [] c [] l 0) s
def adF:Nat->List Sm->PS->PM (List Sm)
 |0,_,_=>.out
 |f+1,l,s=>(abr L s).bind λb s=>if b=true then .ok l s else (VV f s).bind λx s=>if l.length<100000 then adF f (l++[x]) s else .out
def PG:Nat->PS->PM Sm
 |0,_=>.out
 |f+1,s=>(CZ L 1 s).bind λH s=>(lg L [58,61] s).bind λ_ s=>(sg L f s).bind λa s=>(lg L [84,79] s).bind λ_ s=>(sg L f s).bind λb s=>
  (yV L s).bind λt s=>(nu L [66,89] s).bind λm s=>(if m=true then sg L f s else .ok (.mk 1 1 [] [] [] t.line) s).bind λc s=>
  (lg L [68,79] s).bind λ_ s=>(yW f [[69,78,68,95,70,79,82]] s).bind λl s=>(lg L [69,78,68,95,70,79,82] s).bind λ_ s=>.ok (.mk 4 H.text BL BL [a,b,c] [] [] [l] 0) s
def adE:Nat->Tx->PS->PM Sm
 |0,_,_=>.out
 |f+1,H,s=>(nu L [41] s).bind λb s=>if b=true then .ok (.mk 9 H BL BL [] [] [] [] 0) s else adG f H [] [] s
def adG:Nat->Tx->List Tx->List Ex->PS->PM Sm
 |0,_,_,_,_=>.out
 |f+1,H,c,l,s=>(CZ L 1 s).bind λt s=>(lg L [58,61] s).bind λ_ s=>(sg L f s).bind λx s=>
  if c.length<100000/\l.length<100000 then (nu L [44] s).bind λb s=>if b=true then adG f H (c++[t.text]) (l++[x]) s else (lg L [41] s).bind λ_ s=>.ok (.mk 9 H BL BL (l++[x]) [] (c++[t.text]) [] 0) s
  else .out
end
end
def bQ:Ex->Int| .mk a _ _ _ _ _=>a
def iS:Ex->Int| .mk _ a _ _ _ _=>a
def eh:Ex->Tx| .mk _ _ a _ _ _=>a
def ic:Ex->Tx| .mk _ _ _ a _ _=>a
def di:Ex->List Ex| .mk _ _ _ _ a _=>a
def lQ:Ex->Int| .mk _ _ _ _ _ a=>a
@[simp] def kP{a b c d e f}:bQ (.mk a b c d e f)=a:=rfl
@[simp] def wj{a b c d e f}:iS (.mk a b c d e f)=b:=rfl
@[simp] def BM{a b c d e f}:eh (.mk a b c d e f)=c:=rfl
@[simp] def PH{a b c d e f}:ic (.mk a b c d e f)=d:=rfl
@[simp] def nZ{a b c d e f}:di (.mk a b c d e f)=e:=rfl
@[simp] def PI{a b c d e f}:lQ (.mk a b c d e f)=f:=rfl
def adH(x:Ex):BI x=[.int .i64 (bQ x),.int .i64 (iS x),.str (eh x),.str (ic x),.list ((di x).map cm),.int .i64 (lQ x)]:=by cases x;simp[BI,yc]
def az(x:Ex):cm x=.agg [.int .i64 (bQ x),.int .i64 (iS x),.str (eh x),.str (ic x),.list ((di x).map cm),.int .i64 (lQ x)]:=by rw[NL,adH]
def bG:Sm->Int| .mk a _ _ _ _ _ _ _ _=>a
def gk:Sm->Tx| .mk _ a _ _ _ _ _ _ _=>a
def gm:Sm->Ex| .mk _ _ a _ _ _ _ _ _=>a
def dO:Sm->Ex| .mk _ _ _ a _ _ _ _ _=>a
def b7:Sm->List Ex| .mk _ _ _ _ a _ _ _ _=>a
def dq:Sm->List (List Int)| .mk _ _ _ _ _ a _ _ _=>a
def dP:Sm->List Tx| .mk _ _ _ _ _ _ a _ _=>a
def aP:Sm->List (List Sm)| .mk _ _ _ _ _ _ _ a _=>a
def n6:Sm->Int| .mk _ _ _ _ _ _ _ _ a=>a
@[simp] def Yz{a b c d e f g h i}:bG (.mk a b c d e f g h i)=a:=rfl
@[simp] def aib{a b c d e f g h i}:gk (.mk a b c d e f g h i)=b:=rfl
@[simp] def atX{a b c d e f g h i}:gm (.mk a b c d e f g h i)=c:=rfl
@[simp] def atY{a b c d e f g h i}:dO (.mk a b c d e f g h i)=d:=rfl
@[simp] def YA{a b c d e f g h i}:b7 (.mk a b c d e f g h i)=e:=rfl
@[simp] def asY{a b c d e f g h i}:dq (.mk a b c d e f g h i)=f:=rfl
@[simp] def YB{a b c d e f g h i}:dP (.mk a b c d e f g h i)=g:=rfl
@[simp] def aic{a b c d e f g h i}:aP (.mk a b c d e f g h i)=h:=rfl
@[simp] def atZ{a b c d e f g h i}:n6 (.mk a b c d e f g h i)=i:=rfl
def dZ(l:List Sm):D:=.list (l.map bZ)
def bU(x:Sm):bZ x=.agg [.int .i64 (bG x),.str (gk x),
 .int .i64 (bQ (gm x)),.int .i64 (iS (gm x)),.str (eh (gm x)),.str (ic (gm x)),.list ((di (gm x)).map cm),.int .i64 (lQ (gm x)),
 .int .i64 (bQ (dO x)),.int .i64 (iS (dO x)),.str (eh (dO x)),.str (ic (dO x)),.list ((di (dO x)).map cm),.int .i64 (lQ (dO x)),
 .list ((b7 x).map cm),.list ((dq x).map jR),.list ((dP x).map .str),.list ((aP x).map dZ),.int .i64 (n6 x)]:=by
 cases x;simp[bZ,adH,yc,FZ,dZ]
end Go.Am
end
