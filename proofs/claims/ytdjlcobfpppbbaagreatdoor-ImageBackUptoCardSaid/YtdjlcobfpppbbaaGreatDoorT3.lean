/-
  Texts of one proof, one behind the other.
-/
import Derived.Test.YtdjlcobfpppbbaaGreatDoorT2
import Derived.Below
import Derived.Recover
import Derived.Orders
import Derived.Laws.BitsLemmas
import Derived.Laws.Bits64
import Derived.Lib.Mul64
import Derived.Lib.Bytealg
import Derived.Lib.Index
import Derived.Lib.Strings
set_option linter.all false
section
namespace Go.Am
open Go
abbrev Is(e:XE)(E:St):XE->St->Prop:=λe' B'=>e'=e/\B'=E
def Pz(P:Program)(S:St)(o:Oper)(e:XE)(E:St):Prop:=
 E.n=S.n/\E.gl=S.gl/\(e=.normal\/∃t x,e=.panic t x)/\∀φ G a w,Rel φ G S a w->∀(next:Act->World->Prop)(R:Exit->Act->World->Prop),
  (e=.normal->∀φ' A8 w',Rel φ' G E A8 w'->aZ φ S.mem w φ' E.mem w'->next A8 w')->
  (∀t x,e=.panic t x->∀φ' A8 w' v,Rel φ' G E A8 w'->aZ φ S.mem w φ' E.mem w'->aQ w' (Fo G φ' E.mem) x v->R (.panic [{v:=.iface t v,recovered:=false}]) A8 w')->o.wp P a w next R
theorem nt(S:St)(d g x):(S.put d g x).gl=S.gl:=by cases d<;>rfl
section
variable {X:Ctx} {A2:bP} {S E:St} {o:Oper} {e:XE}
theorem Di{c:Bool}{x:AV}{gb:Bool}(AB:dP X.P S o=.val c x)(A4:(iB S o&&c)=true)(I:∀t,o.dst=some t->t<S.n):Pz X.P S o .normal (S.put o.dst gb x):=by
 simp only[Ds]at A4;have:=Lp X.P S o A4.1;rw[AB]at this;refine⟨nW ..,nt ..,.inl rfl,λφ G a w H next R A3 _=>?_⟩;exact Zt this A4.2 H I (λA8 w' AJ AK=>A3 rfl φ A8 w' AJ (by rw[gz];exact AK))
theorem PA{c:Bool}{x:AV}{A_:dk}(AB:dP X.P S o=.dJ c x A_)(A4:(iB S o&&c)=true)(I:∀t,o.dst=some t->t<S.n):Pz X.P S o .normal (({S with mem:=Mem.set S.mem A_}:St).put o.dst true x):=by
 simp only[Ds]at A4;have:=Lp X.P S o A4.1;rw[AB]at this;refine⟨nW ..,nt ..,.inl rfl,λφ G a w H next R A3 _=>?_⟩;exact Zu this A4.2 H I (λφ' A8 w' AJ AK=>A3 rfl φ' A8 w' AJ (by rw[gz];exact AK))
theorem oA{args:List Operand}{AD:Bool×AV}{res:gU}(h:de X A2 S o args AD=some res):∃g AN,AD=(true,.fn g AN)/\jW S args=true/\gp A2 S.mem (keyOf o) (rj g) (jm g (dL S args) AN) (X.fp (rj g)).zU=some res:=by
 unfold de at h;split at h
 ·rename_i g AN;split at h
  ·rename_i A4;exact⟨g,AN,rfl,A4,h⟩
  ·cases h
 ·cases h
theorem ZK(A9:kM X A2){AD:Operand}{args:Array Operand}{AS:Array TypeId}(U:o.op=.call {callee:=.value AD,args,argTypes:=AS})(A1:S.gl=X.gl)(I:∀t,o.dst=some t->t<S.n)
 (h:dS S o.dst (de X A2 S o args.toList (S.ar AD))=some (e,E)):Pz X.P S o e E:=by
 cases AX:de X A2 S o args.toList (S.ar AD)with
 |none=>rw[AX]at h;cases h
 |some res=>
  rw[AX]at h;obtain⟨g,AN,Aa,A4,AH⟩:=oA AX;obtain⟨out,es,ks⟩:=res;cases out with
  |ret x=>
   simp only[dS,acE,adJ]at h;obtain⟨rfl,rfl⟩:=h;refine⟨nW ..,nt ..,.inl rfl,λφ G a w H next R A3 _=>?_⟩;refine xo A9 U Aa rfl A4 AH A1 H (λAi Y φ' w' v AJ AK AM=>?_) (λt Ai Y=>by cases Y);cases Y;exact A3 rfl φ' _ w' (AJ.put o.dst I true x v (λ_=>AM)) (by rw[gz];exact AK)
  |panic t x=>
   simp only[dS,acE,adJ]at h;obtain⟨rfl,rfl⟩:=h;refine⟨rfl,rfl,.inr ⟨t,x,rfl⟩,λφ G a w H next R _ AO=>?_⟩;refine xo A9 U Aa rfl A4 AH A1 H (λAi Y=>by cases Y) (λBZ Ai Y φ' w' v AJ AK AM=>?_);cases Y;exact AO t x rfl φ' a w' v AJ AK AM
theorem VR{x:Operand}(U:o.op=.panic x)(h:EK S (S.ar x)=some (e,E)):Pz X.P S o e E:=by
 cases Y:S.ar x with
 |mk g y=>
  rw[Y]at h;unfold EK at h;split at h
  ·rename_i t d heq;cases heq;simp only[acE,adJ]at h;obtain⟨rfl,rfl⟩:=h;refine⟨rfl,rfl,.inr ⟨t,d,rfl⟩,λφ G a w H next R _ AO=>?_⟩;have AM:=H.ar x (by rw[Y]);rw[Y]at AM;generalize B_:a.eval x=u at AM;cases AM with
   |jb _ _ v I=>
    have B3:(execOp a.eval o).run X.P w=.halt (.panic (.iface t v)) w:=by
     simp[execOp,U,B_,Instr.panic]
    unfold Oper.wp;rw[B3];exact AO t d rfl φ a w v H (aZ.refl ..) I
  ·cases h
theorem B9(A9:kM X A2)(A1:S.gl=X.gl)(I:∀t,o.dst=some t->t<S.n)(h:jo X A2 S o (dP X.P S o)=some (e,E)):Pz X.P S o e E:=by
 generalize AB:dP X.P S o=r at h;cases r with
 |val c x=>
  simp only[jo]at h;split at h
  ·rename_i A4;cases h;exact Di AB A4 I
  ·cases h
 |dJ c x A_=>
  simp only[jo]at h;split at h
  ·rename_i A4;cases h;exact PA AB A4 I
  ·cases h
 |no=>
  simp only[jo,tU]at h;split at h
  ·rename_i AD args AS U;exact ZK A9 U A1 I h
  ·rename_i x U;exact VR U h
  ·cases h
def Ca(P:Program)(all:List Oper)(S:St)(o:Oper)(e:XE)(E:St):Prop:=
 E.n=S.n/\E.gl=S.gl/\(e=.normal\/∃t x,e=.panic t x)/\∀φ G a w,Rel φ G S a w->∀(next:Act->World->Prop)(R:Exit->Act->World->Prop),
  (e=.normal->∀φ' A8 w',Rel φ' G E A8 w'->aZ φ S.mem w φ' E.mem w'->next A8 w')->
  (∀t x,e=.panic t x->∀φ' A8 w' v,Rel φ' G E A8 w'->aZ φ S.mem w φ' E.mem w'->aQ w' (Fo G φ' E.mem) x v->R (.panic [{v:=.iface t v,recovered:=false}]) A8 w')->
  if Region.wanted o (yielded all.toArray a.tmps)then o.wp P a w next R else next (a.put o.dst undef) w
theorem Dj{all:List Oper}(h:Pz X.P S o e E)(hw:∀φ G a w,Rel φ G S a w->Region.wanted o (yielded all.toArray a.tmps)=true):Ca X.P all S o e E:=by
 obtain⟨J,M,AE,AP⟩:=h;refine⟨J,M,AE,λφ G a w H next R A3 AO=>?_⟩;rw[acs (hw φ G a w H)];exact AP φ G a w H next R A3 AO
theorem Cb{φ:cd}{w:World}{F:Nat->Prop}{x:AV}(Y:x=.bm\/x=.bh []):aG φ w F x undef:=by
 rcases Y with rfl|rfl
 ·exact .bm _
 ·exact .bh [] #[] rfl (λi c v h=>by simp at h)
theorem Gx{all:List Oper}{j:Nat}{φ G a w}(h:Rel φ G S a w)(V:qV all S j=some (true,.bh [])):yielded all.toArray a.tmps j=none:=by
 unfold qV at V;split at V
 ·rename_i o U;split at V
  ·rename_i t AC;have J:=h.env t _ V;unfold yielded;simp only[agl,U,ad0,AC];rw[acH]at J;cases A5:a.tmps[t]? with
   |none=>rfl
   |some v=>
    rw[A5]at J;simp only[af9]at J;cases J;rfl
  ·cases V
 ·cases V
theorem L6{all:List Oper}{gb:Bool}{x:AV}(Y:gb=true->x=.bm\/x=.bh [])(I:∀t,o.dst=some t->t<S.n)(hw:∀φ G a w,Rel φ G S a w->Region.wanted o (yielded all.toArray a.tmps)=false):Ca X.P all S o .normal (S.put o.dst gb x):=by
 refine⟨nW ..,nt ..,.inl rfl,λφ G a w H next R A3 _=>?_⟩;rw[ach (by rw[hw φ G a w H];simp)];exact A3 rfl φ _ w (H.put o.dst I gb x undef (λV=>Cb (Y V))) (by rw[gz];exact aZ.refl ..)
theorem I9{all:List Oper}{j:Nat}{AF t:Bool}(V:o.guard=some (j,AF))(A6:qV all S j=some (true,.d (.bool t))){φ G a w}(H:Rel φ G S a w):Region.wanted o (yielded all.toArray a.tmps)=(t == AF):=by
 have As:=Vt H A6;simp only[Region.wanted,V,As];cases t<;>cases AF<;>rfl
theorem EV(S:St)(d b):(S.cz d b).n=S.n:=nW ..
theorem Dk(S:St)(d b):(S.cz d b).gl=S.gl:=nt ..
theorem Gy(S:St)(d b):(S.cz d b).mem=S.mem:=gz ..
theorem acD{all:List Oper}{S:St}{j:Nat}{t b:Bool}(A6:qV all S j=some (true,.d (.bool t)))(Z:t=b)(u:Nat):Env.lk (S.cz (nc all j) b).env u=Env.lk S.env u:=by
 subst Z;unfold qV at A6;unfold St.cz nc;split at A6
 ·rename_i Ba AG;split at A6
  ·rename_i d I;simp only[AG,I,St.put,Env.lk];split
   ·rename_i hu;subst hu;exact A6.symm
   ·rfl
  ·cases A6
 ·cases A6
theorem agK{all:List Oper}{S:St}{j:Nat}{t b:Bool}(A6:qV all S j=some (true,.d (.bool t)))(Z:t=b){φ G a w}(H:Rel φ G S a w):Rel φ G (S.cz (nc all j) b) a w:=
 Rel.eqv H ⟨(EV ..).symm,(Dk ..).symm,(Gy ..).symm,λu=>(acD A6 Z u).symm⟩
theorem wc{all:List Oper}(A9:kM X A2)(A1:S.gl=X.gl)(I:∀t,o.dst=some t->t<S.n){md:Bool}(h:pb X A2 md all S o=some (e,E)):Ca X.P all S o e E:=by
 unfold pb at h;split at h
 ·rename_i V;exact Dj (B9 A9 A1 I h) (λ_ _ _ _ _=>by simp[Region.wanted,V])
 ·rename_i j AF V;split at h
  ·rename_i t A6;replace A6:=LN A6;have hw:∀φ G a w,Rel φ G S a w->Region.wanted o (yielded all.toArray a.tmps)=(t == AF):=λφ G a w H=>I9 V A6 H;have other:∀{r:dY},dP X.P S o=r->(if (t == AF)=true then jo X A2 S o r else some (.normal,S.put o.dst true .bm))=some (e,E)->Ca X.P all S o e E:=by
    intro r AB h;split at h
    ·rename_i Z;exact Dj (B9 A9 A1 I (by rw[AB];exact h)) (λφ G a w H=>by rw[hw φ G a w H];exact Z)
    ·rename_i Z;cases h;exact L6 (λ_=>.inl rfl) I (λφ G a w H=>by rw[hw φ G a w H];simpa using Z)
   cases md with
   |true=>
    simp only at h;have BJ:∀b,t=b->∀φ G a w,Rel φ G S a w->Rel φ G (S.cz (nc all j) b) a w:=λb Z φ G a w H=>agK A6 Z H;split at h
    ·rename_i Z;have Aj:t=AF:=by simpa using Z
     have:=B9 (S:=S.cz (nc all j) AF) A9 (by rw[Dk];exact A1) (λt AC=>by rw[EV];exact I t AC) h;obtain⟨J,M,AE,AP⟩:=this;refine Dj ⟨by rw[J,EV],by rw[M,Dk],AE,λφ G a w H next R A3 AO=>?_⟩ (λφ G a w H=>by rw[hw φ G a w H];exact Z);have BK:=AP φ G a w (BJ AF Aj φ G a w H) next R
     rw[Gy]at BK;exact BK A3 AO
    ·rename_i Z;have Aj:t=!AF:=by cases t<;>cases AF<;>simp_all
     cases h;refine⟨by rw[nW,EV],by rw[nt,Dk],.inl rfl,λφ G a w H next R A3 _=>?_⟩;rw[ach (by rw[hw φ G a w H];simpa using Z)];exact A3 rfl φ _ w ((BJ _ Aj φ G a w H).put o.dst (λt AC=>by rw[EV];exact I t AC) true (.bh []) undef (λ_=>Cb (.inr rfl))) (by rw[gz,Gy];exact aZ.refl ..)
   |false=>
   simp only at h;unfold qz at h;split at h
   ·rename_i c x AB;split at h
    ·rename_i A7;cases h;cases Z:(t == AF)
     ·exact L6 (by simp) I (λφ G a w H=>by rw[hw φ G a w H];exact Z)
     ·exact Dj (Di AB (A7 Z) I) (λφ G a w H=>by rw[hw φ G a w H];exact Z)
    ·cases h
   ·rename_i r H;exact other rfl h
  ·rename_i A6;replace A6:=I6 A6;cases h;exact L6 (λ_=>.inr rfl) I (λφ G a w H=>by
    simp only[Region.wanted,V,Gx H A6];cases AF<;>rfl)
  ·cases h
theorem iQ{r:Option (XE×St)}{k:St->Option (XE×St)}{y:XE×St}(h:andThen r k=some y):(∃S1,r=some (.normal,S1)/\k S1=some y)\/(r=some y/\y.1≠.normal):=by
 unfold andThen at h;split at h
 ·rename_i S1;exact .inl ⟨S1,rfl,h⟩
 ·rename_i H;refine .inr ⟨h,λhe=>?_⟩;obtain⟨e,S1⟩:=y;simp only at he;subst he;exact H S1 h
theorem aZ.post{n:Nat}{φ φ':cd}{G:Fr}{m:Mem}{w w':World}{e:XE}{E:St}{A8:Act}(A3:E.n=n)(H:Rel φ' G E A8 w')(AA:aZ φ m w φ' E.mem w')(he:e=.normal):px n φ G m w (Is e E) .normal A8 w':=
 ⟨φ',E,A3,⟨he.symm,rfl⟩,H,AA⟩
theorem Cc{md:Bool}{all:List Oper}(A9:kM X A2):∀(ops:List Oper)(S:St)(e:XE)(E:St),iv X A2 md all ops S=some (e,E)->S.gl=X.gl->lB S.n ops=true->
 E.n=S.n/\E.gl=S.gl/\∀φ G a w,Rel φ G S a w->∀Q:Exit->Act->World->Prop,(∀e' A8 w',px S.n φ G S.mem w (Is e E) e' A8 w'->Q e' A8 w')->wpList X.P all.toArray Q ops a w
 |[],S,e,E,h,A1,I=>by
  simp only[iv,acE,adJ]at h;obtain⟨rfl,rfl⟩:=h;exact⟨rfl,rfl,λφ G a w H Q At=>At _ _ _ (aZ.post rfl H (aZ.refl ..) rfl)⟩
 |o::rest,S,e,E,h,A1,I=>by
  simp only[lB,agZ,Ds]at I;obtain⟨AU,I⟩:=I;have AW:∀t,o.dst=some t->t<S.n:=λt AC=>by rw[AC]at AU;simpa using AU
  simp only[iv]at h;rcases iQ h with ⟨S1,J,M⟩|⟨J,M⟩
  ·obtain⟨Ao,B0,_,B4⟩:=wc A9 A1 AW J;obtain⟨Bb,Bc,Bd⟩:=Cc A9 rest S1 e E M (B0.trans A1) (by rw[Ao];exact I);refine⟨Bb.trans Ao,Bc.trans B0,λφ G a w H Q At=>?_⟩;have:=B4 φ G a w H (wpList X.P all.toArray Q rest) Q
    (λ_ φ' A8 w' AJ AK=>Bd φ' G A8 w' AJ Q (λe' a2 Be AO=>At e' a2 Be (by rw[<-Ao];exact AO.weaken AK))) (λt x he=>by cases he)
   unfold wpList;split
   ·rename_i hw;rw[acs hw]at this;exact .inl this
   ·rename_i hw;rw[ach hw]at this;exact this
  ·obtain⟨Ao,B0,Bw,B4⟩:=wc A9 A1 AW J;refine⟨Ao,B0,λφ G a w H Q At=>?_⟩;have:=B4 φ G a w H (wpList X.P all.toArray Q rest) Q
    (λhe=>absurd he M) (λt x he φ' A8 w' v AJ AK AM=>At _ _ _ ⟨φ',E,t,x,v,rfl,AM,Ao,⟨he.symm,rfl⟩,AJ,AK⟩)
   unfold wpList;split
   ·rename_i hw;rw[acs hw]at this;exact .inl this
   ·rename_i hw;rw[ach hw]at this;exact this
theorem tX{all:List Oper}{ks:List Nat}{E S:St}(h:mh all o ks E S){x:Operand}(Y:x∈o.op.operands.toList):E.ar x=S.ar x:=by
 cases x with
 |tmp t=>
  simp only[St.ar];rw[h.env t (by simp only[looks,acC,List.mem_filterMap];exact .inl ⟨.tmp t,Y,rfl⟩)]
 |global g=>simp only[St.ar,h.gl]
 |_=>rfl
theorem Ja{all:List Oper}{ks:List Nat}{E S:St}(h:mh all o ks E S){j AF}(V:o.guard=some (j,AF)):Am.qV all E j=Am.qV all S j:=by
 unfold Am.qV;split
 ·rename_i Ba AG;split
  ·rename_i t AC;exact h.env t (by simp only[looks,acC,V,acA,AG,AC];exact .inr (by simp))
  ·rfl
 ·rfl
theorem xq{E S:St}:∀{l:List Operand},(∀x∈l,E.ar x=S.ar x)->jW E l=jW S l
 |[],_=>rfl
 |x::r,h=>by simp only[jW,h x (by simp),xq (l:=r) (λy As=>h y (afX _ As))]
theorem yp{E S:St}:∀{l:List Operand},(∀x∈l,E.ar x=S.ar x)->dL E l=dL S l
 |[],_=>rfl
 |x::r,h=>by simp only[dL,h x (by simp),yp (l:=r) (λy As=>h y (afX _ As))]
theorem L7{E S:St}(h:∀x∈o.op.operands.toList,E.ar x=S.ar x):iB E o=iB S o:=by
 unfold iB;split
 ·rfl
 ·exact xq h
theorem Jb{all:List Oper}{c:Bool}{x:AV}{gb:Bool}(I:∀t,o.dst=some t->t<S.n)(AB:dP X.P S o=.val c x)(A4:(iB S o&&c)=true)
 (hw:∀E,mh all o (kj S o) E S->∀φ G a w,Rel φ G E a w->Region.wanted o (yielded all.toArray a.tmps)=true):mi X.P all S o ⟨kj S o,[],gb,x⟩:=by
 intro E O φ G a w H next R A3
 rw[acs (hw E O φ G a w H)];have Y:∀x∈o.op.operands.toList,E.ar x=S.ar x:=λx Y=>tX O Y;have Au:dP X.P E o=.val c x:=by rw[I1 Y O.mem];exact AB
 obtain⟨_,_,_,AP⟩:=Di (gb:=gb) Au (by rw[L7 Y];exact A4) (λt AC=>by rw[O.n];exact I t AC);exact AP φ G a w H next R (λ_ φ' A8 w' AJ AK=>A3 φ' A8 w' AJ AK) (λt x he=>by cases he)
theorem VS{all:List Oper}{c:Bool}{x:AV}{A_:dk}(I:∀t,o.dst=some t->t<S.n)(AB:dP X.P S o=.dJ c x A_)(A4:(iB S o&&c)=true)
 (hw:∀E,mh all o (kj S o) E S->∀φ G a w,Rel φ G E a w->Region.wanted o (yielded all.toArray a.tmps)=true):mi X.P all S o ⟨kj S o,[A_],true,x⟩:=by
 intro E O φ G a w H next R A3
 rw[acs (hw E O φ G a w H)];have Y:∀x∈o.op.operands.toList,E.ar x=S.ar x:=λx Y=>tX O Y;have Au:dP X.P E o=.dJ c x A_:=by rw[I1 Y O.mem];exact AB
 obtain⟨_,_,_,AP⟩:=PA Au (by rw[L7 Y];exact A4) (λt AC=>by rw[O.n];exact I t AC);exact AP φ G a w H next R (λ_ φ' A8 w' AJ AK=>A3 φ' A8 w' AJ AK) (λt x he=>by cases he)
theorem u4{all:List Oper}{ks:List Nat}{gb:Bool}{x:AV}(I:∀t,o.dst=some t->t<S.n)(Y:gb=true->x=.bm\/x=.bh [])
 (hw:∀E,mh all o ks E S->∀φ G a w,Rel φ G E a w->Region.wanted o (yielded all.toArray a.tmps)=false):mi X.P all S o ⟨ks,[],gb,x⟩:=by
 intro E O φ G a w H next R A3
 rw[ach (by rw[hw E O φ G a w H];simp)];exact A3 φ _ w (H.put o.dst (λt AC=>by rw[O.n];exact I t AC) gb x undef (λV=>Cb (Y V))) (by simp only[bf.app,gz];exact aZ.refl ..)
theorem SI{all:List Oper}(A9:kM X A2)(A1:S.gl=X.gl)(I:∀t,o.dst=some t->t<S.n){AD:Operand}{args:Array Operand}{AS:Array TypeId}(U:o.op=.call {callee:=.value AD,args,argTypes:=AS})
 {x:AV} {es:List dk} {ks:List Nat} (h:de X A2 S o args.toList (S.ar AD)=some ⟨.ret x,es,ks⟩)
 (hw:∀E,mh all o ks E S->∀φ G a w,Rel φ G E a w->Region.wanted o (yielded all.toArray a.tmps)=true):mi X.P all S o ⟨ks,es,true,x⟩:=by
 intro E O φ G a w H next R A3
 rw[acs (hw E O φ G a w H)];have Y:∀x∈o.op.operands.toList,E.ar x=S.ar x:=λx Y=>tX O Y;have Av:∀x∈args.toList,E.ar x=S.ar x:=λx B5=>Y x (by simp[U,Op.operands,Call.operands];exact .inr (by simpa using B5));obtain⟨g,AN,Aa,A4,AH⟩:=oA h;have B6:E.ar AD=(true,.fn g AN):=by rw[Y AD (by simp[U,Op.operands,Call.operands])];exact Aa
 have B7:gp A2 E.mem (keyOf o) (rj g) (jm g (dL E args.toList) AN) (X.fp (rj g)).zU=some ⟨.ret x,es,ks⟩:=by
  rw[yp Av];exact Gw O.keys AH (λk AA=>O.mem k AA)
 refine xo A9 U B6 rfl (by rw[xq Av];exact A4) B7 (O.gl.trans A1) H (λAi Ak φ' w' v AJ AK AM=>?_) (λt Ai Ak=>by cases Ak);cases Ak;exact A3 φ' _ w' (AJ.put o.dst (λt AC=>by show t<E.n;rw[O.n];exact I t AC) true x v (λ_=>AM)) (by simp only[bf.app,gz];exact AK)
theorem L9{all:List Oper}{S1:St}{p:bf}(A9:kM X A2)(A1:S.gl=X.gl)(I:∀t,o.dst=some t->t<S.n){r:dY}(AB:dP X.P S o=r)(h:fO X A2 S o r=some (S1,p))
 (hw:∀(ks:List Nat) E,mh all o ks E S->∀φ G a w,Rel φ G E a w->Region.wanted o (yielded all.toArray a.tmps)=true):S1=p.app o S/\(∀e∈p.es,e.key∈p.ks)/\mi X.P all S o p:=by
 cases r with
 |val c x=>
  simp only[fO]at h;split at h
  ·rename_i A4;cases h;exact⟨rfl,by simp,Jb I AB A4 (hw _)⟩
  ·cases h
 |dJ c x A_=>
  simp only[fO]at h;split at h
  ·rename_i A4;cases h;simp only[Ds,List.contains_eq_mem,acn]at A4;exact⟨rfl,by simpa using A4.2,VS I AB (by simpa using A4.1) (hw _)⟩
  ·cases h
 |no=>
  simp only[fO,nf]at h;split at h
  ·rename_i AD args AS U;cases AX:de X A2 S o args.toList (S.ar AD)with
   |none=>rw[AX]at h;cases h
   |some res=>
    rw[AX]at h;obtain⟨out,es,ks⟩:=res;cases out with
    |panic=>cases h
    |ret x=>
     cases h;refine⟨rfl,?_,SI A9 A1 I U AX (hw _)⟩;obtain⟨g,AN,Aa,A4,AH⟩:=oA AX;unfold gp nD nC gm at AH;split at AH
     ·rename_i out Al _;split at AH
      ·rename_i A7;simp only[Ds,acn]at A7;simp only[acE,gU.mk.injEq]at AH;obtain⟨_,rfl,rfl⟩:=AH;intro e he;obtain⟨j,v,c,AG,rfl⟩:=tJ.1 he;have Aw:=(ace.1 AG).1;simp only[aeh];generalize collect S.mem 64 (lq (X.fp (rj g)).zU 0 (jm g (dL S args.toList) AN)) []=ρ at A7 Aw⊢;have An:j<(ρ++List.range' (keyOf o+1) (Al.length-ρ.length)).length:=by simp;omega
       have hm:=age An;have Ab:(ρ++List.range' (keyOf o+1) (Al.length-ρ.length)).getD j 0=(ρ++List.range' (keyOf o+1) (Al.length-ρ.length))[j]:=by
        rw[adX,adK An];rfl
       rw[Ab];rcases acC.1 hm with J|J
       ·exact agX _ (agX _ J)
       ·exact List.mem_append_right _ J
      ·cases AH
     ·cases AH
  ·cases h
theorem iO.refl(S:St):iO S S:=⟨rfl,rfl,rfl,λ_=>rfl⟩
theorem iO.symm{S E:St}(h:iO S E):iO E S:=⟨h.n.symm,h.gl.symm,h.mem.symm,λt=>(h.env t).symm⟩
theorem iO.trans{S E B':St}(h:iO S E)(k:iO E B'):iO S B':=⟨h.n.trans k.n,h.gl.trans k.gl,h.mem.trans k.mem,λt=>(h.env t).trans (k.env t)⟩
theorem iO.app{S E:St}(h:iO S E)(p:bf)(o:Oper):iO (p.app o S) (p.app o E):=
 ⟨by rw[xf,xf,h.n],by rw[tP,tP,h.gl],by simp only[bf.app,gz,h.mem],λt=>by rw[vW,vW,h.env]⟩
theorem mh.eqv{all:List Oper}{ks:List Nat}{E S S0:St}(h:mh all o ks E S)(he:iO S S0):mh all o ks E S0:=
 ⟨h.n.trans he.n,h.gl.trans he.gl,by rw[h.keys,he.mem],λt AC=>(h.env t AC).trans (he.env t),λk AA=>by rw[h.mem k AA,he.mem]⟩
theorem mi.eqv{P:Program}{all:List Oper}{S S0:St}{p:bf}(h:mi P all S o p)(he:iO S S0):mi P all S0 o p:=λE O=>h E (O.eqv he.symm)
theorem uY.eqv{P:Program}{Ac:Mem->Prop}{all:List Oper}{S S0:St}{p:bf}(h:uY P Ac all S o p)(he:iO S S0):uY P Ac all S0 o p:=λE O=>h E (O.eqv he.symm)
theorem EX{P:Program}{Ac:Mem->Prop}{all ops:List Oper}{S S1:St}{ps:List bf}(h:Cert P Ac all ops S ps S1):∀{S0:St},iO S S0->∃AL,Cert P Ac all ops S0 ps AL/\iO S1 AL:=by
 induction h with
 |nil S=>exact λhe=>⟨_,.nil _,he⟩
 |cons o rest S p ps S1 AA Ap h H ih=>
  intro S0 he;obtain⟨AL,M,AE⟩:=ih (he.app p o);exact⟨AL,.cons o rest S0 p ps AL AA Ap (h.eqv he) M,AE⟩
theorem VU{all:List Oper}{S:St}{j:Nat}{t b:Bool}(A6:qV all S j=some (true,.d (.bool t)))(Z:t=b):iO (S.cz (nc all j) b) S:=
 ⟨EV ..,Dk ..,Gy ..,λu=>acD A6 Z u⟩
theorem Cd{md:Bool}{all:List Oper}{S1:St}{p:bf}(A9:kM X A2)(A1:S.gl=X.gl)(I:∀t,o.dst=some t->t<S.n)(h:eZ X A2 md all S o=some (S1,p)):iO S1 (p.app o S)/\(∀e∈p.es,e.key∈p.ks)/\mi X.P all S o p:=by
 have yes:∀{r:dY},dP X.P S o=r->fO X A2 S o r=some (S1,p)->(∀(ks:List Nat) E,mh all o ks E S->∀φ G a w,Rel φ G E a w->Region.wanted o (yielded all.toArray a.tmps)=true)->iO S1 (p.app o S)/\(∀e∈p.es,e.key∈p.ks)/\mi X.P all S o p:=by
  intro r AB h hw;obtain⟨J,M,AE⟩:=L9 A9 A1 I AB h hw;exact⟨by rw[J];exact iO.refl _,M,AE⟩
 unfold eZ at h;split at h
 ·rename_i V;exact yes rfl h (λ_ _ _ _ _ _ _ _=>by simp[Region.wanted,V])
 ·rename_i j AF V;split at h
  ·rename_i t A6;replace A6:=LN A6;have hw:∀(ks:List Nat) E,mh all o ks E S->∀φ G a w,Rel φ G E a w->Region.wanted o (yielded all.toArray a.tmps)=(t == AF):=
    λks E O φ G a w H=>I9 V (by rw[Ja O V];exact A6) H
   have other:∀{r:dY},dP X.P S o=r->(if (t == AF)=true then fO X A2 S o r else some (S.put o.dst true .bm,⟨[],[],true,.bm⟩))=some (S1,p)->iO S1 (p.app o S)/\(∀e∈p.es,e.key∈p.ks)/\mi X.P all S o p:=by
    intro r AB h;split at h
    ·rename_i Z;exact yes AB h (λks E O φ G a w H=>by rw[hw ks E O φ G a w H];exact Z)
    ·rename_i Z;cases h;exact⟨iO.refl _,by simp,u4 I (λ_=>.inl rfl) (λE O φ G a w H=>by rw[hw _ E O φ G a w H];simpa using Z)⟩
   cases md with
   |true=>
    simp only at h;split at h
    ·rename_i Z;have Aj:t=AF:=by simpa using Z
     have he:=VU A6 Aj;obtain⟨J,M,AE⟩:=L9 (S:=S.cz (nc all j) AF) A9 (by rw[Dk];exact A1) (λt AC=>by rw[EV];exact I t AC) rfl h
      (λks E O φ G a w H=>by rw[hw ks E (O.eqv he) φ G a w H];exact Z)
     exact⟨by rw[J];exact he.app p o,M,AE.eqv he⟩
    ·rename_i Z;have Aj:t=!AF:=by cases t<;>cases AF<;>simp_all
     cases h;have he:=VU A6 Aj;exact⟨he.app ⟨[],[],true,.bh []⟩ o,by simp,u4 I (λ_=>.inr rfl) (λE O φ G a w H=>by rw[hw _ E O φ G a w H];simpa using Z)⟩
   |false=>
   simp only at h;unfold tV at h;split at h
   ·rename_i c x AB;split at h
    ·rename_i A7;cases h;refine⟨iO.refl _,by simp,?_⟩;cases Z:(t == AF)
     ·exact u4 I (by simp) (λE O φ G a w H=>by rw[hw _ E O φ G a w H];exact Z)
     ·exact Jb I AB (A7 Z) (λE O φ G a w H=>by rw[hw _ E O φ G a w H];exact Z)
    ·cases h
   ·exact other rfl h
  ·rename_i A6;replace A6:=I6 A6;cases h;exact⟨iO.refl _,by simp,u4 I (λ_=>.inr rfl) (λE O φ G a w H=>by
    have:=Gx H (by rw[Ja O V];exact A6);simp only[Region.wanted,V,this];cases AF<;>rfl)⟩
  ·cases h
inductive lG(T:Nat->St->Oper->bf->Prop):Nat->List Oper->St->List bf->Prop
 |nil (i S):lG T i [] S []
 |cons (i o rest S p ps) (h:T i S o p) (H:lG T (i+1) rest (p.app o S) ps):lG T i (o::rest) S (p::ps)
theorem lG.eqv{T:Nat->St->Oper->bf->Prop}(Aq:∀i S S0 o p,iO S S0->T i S o p->T i S0 o p){i:Nat}{ops:List Oper}{S:St}{ps:List bf}(h:lG T i ops S ps):∀{S0:St},iO S S0->lG T i ops S0 ps:=by
 induction h with
 |nil i S=>exact λ_=>.nil _ _
 |cons i o rest S p ps h H ih=>exact λhe=>.cons _ _ _ _ _ _ (Aq _ _ _ _ _ he h) (ih (he.app p o))
theorem lG.mono{T BL:Nat->St->Oper->bf->Prop}{i:Nat}{ops:List Oper}{S:St}{ps:List bf}(h:lG T i ops S ps):(∀k S o p,i<=k->T k S o p->BL k S o p)->lG BL i ops S ps:=by
 induction h with
 |nil i S=>exact λ_=>.nil _ _
 |cons i o rest S p ps h H ih=>exact λAA=>.cons _ _ _ _ _ _ (AA _ _ _ _ (ack _) h) (ih λk S o p hi=>AA k S o p (by omega))
theorem lG.len{T:Nat->St->Oper->bf->Prop}{i:Nat}{ops:List Oper}{S:St}{ps:List bf}(h:lG T i ops S ps):ps.length=ops.length:=by
 induction h with
 |nil i S=>rfl
 |cons i o rest S p ps h H ih=>simp[ih]
theorem lG.at{T:Nat->St->Oper->bf->Prop}{all:List Oper}{ps:List bf}{i:Nat}{rest:List Oper}{S0 S:St}{AT:List bf}(h:lG T i rest S AT):∀(pre:List Oper)(pp:List bf),pre.length=i->pre.length=pp.length->all=pre++rest->ps=pp++AT->aL all ps S0 (List.range pre.length)=S->
 ∀j o p,pre.length<=j->all[j]?=some o->ps[j]?=some p->T j (aL all ps S0 (List.range j)) o p:=by
 induction h with
 |nil i S=>
  intro pre pp hi AR O B8 BA j o p AG U;simp only[ad9]at O;subst O;rw[agB (by omega)]at U;cases U
 |cons i o rest S p AT Aq H ih=>
  intro pre pp hi AR O B8 BA j BM Bf AG BB BC;have Ad:all[pre.length]?=some o:=by rw[O];simp
  have Ab:ps[pre.length]?=some p:=by rw[B8,AR];simp
  rcases Nat.eq_or_lt_of_le AG with rfl|AG
  ·rw[Ad]at BB;rw[Ab]at BC;cases BB;cases BC;rw[BA,hi];exact Aq
  ·exact ih (pre++[o]) (pp++[p]) (by simp[hi]) (by simp[AR]) (by rw[O];simp) (by rw[B8];simp) (by
    rw[acm,af0,List.range_succ,pW,BA];simp[aL,Ad,Ab]) j BM Bf (by simp;omega) BB BC
theorem Dd.eqv{P:Program}{all:List Oper}{S S0:St}{p:bf}{t:TypeId}{x:D}(h:Dd P all S o p t x)(he:iO S S0):Dd P all S0 o p t x:=λE O=>h E (O.eqv he.symm)
def TT(P:Program)(all:List Oper)(j:Nat)(Ae:List Nat)(t:TypeId)(x:D)(N:Nat)(S1:St)(i:Nat)(S:St)(o:Oper)(p:bf):Prop:=
 (∀e∈p.es,e.key∈p.ks)/\(i≠j->(i<j\/Ae.contains i=true)->mi P all S o p)/\(i=j->Dd P all S o p t x/\S1.n=S.n/\S1.gl=S.gl/\S1.mem=lF N (bS S.mem p.es))
theorem TT.eqv{P:Program}{all:List Oper}{j:Nat}{Ae:List Nat}{t:TypeId}{x:D}{N:Nat}{S1:St}(i:Nat)(S S0:St)(o:Oper)(p:bf)(he:iO S S0)(h:TT P all j Ae t x N S1 i S o p):TT P all j Ae t x N S1 i S0 o p:=
 ⟨h.1,λa b=>(h.2.1 a b).eqv he,λa=>⟨(h.2.2 a).1.eqv he,(h.2.2 a).2.1.trans he.n,(h.2.2 a).2.2.1.trans he.gl,by rw[<-he.mem];exact (h.2.2 a).2.2.2⟩⟩
theorem agL{X:Ctx}:kM X (λ_ _ _=>none):=λg args cs out l h=>by cases h
theorem Ce{md:Bool}{all:List Oper}{Ae:List Nat}:∀(ops:List Oper)(i:Nat)(S:St)(A0 AT:List bf),ux X md all Ae i ops S A0=some AT->S.gl=X.gl->lB S.n ops=true->
 ∃ps,AT=A0.reverse++ps/\lG (λi S o p=>(∀e∈p.es,e.key∈p.ks)/\(Ae.contains i=true->mi X.P all S o p)) i ops S ps
 |[],i,S,A0,AT,h,A1,I=>by
  simp only[ux,acE]at h;exact⟨[],by simp[h],.nil _ _⟩
 |o::rest,i,S,A0,AT,h,A1,I=>by
  simp only[lB,agZ,Ds]at I;obtain⟨AU,I⟩:=I;have AW:∀t,o.dst=some t->t<S.n:=λt AC=>by rw[AC]at AU;simpa using AU
  simp only[ux]at h;cases AG:Ae.contains i with
  |true=>
   rw[AG]at h;simp only at h;cases V:eZ X (λ_ _ _=>none) md all S o with
   |none=>rw[V]at h;cases h
   |some q=>
    obtain⟨AL,p⟩:=q;rw[V]at h;simp only at h;obtain⟨heq,Ar,AY⟩:=Cd agL A1 AW V;obtain⟨ps,J,M⟩:=Ce rest (i+1) AL (p::A0) AT h (by rw[heq.gl,tP];exact A1) (by rw[heq.n,xf];exact I);exact⟨p::ps,by rw[J];simp,.cons _ _ _ _ _ _ ⟨Ar,λ_=>AY⟩ (M.eqv (λ_ _ _ _ _ he h=>⟨h.1,λa=>(h.2 a).eqv he⟩) heq)⟩
  |false=>
   rw[AG]at h;simp only at h;obtain⟨ps,J,M⟩:=Ce rest (i+1) (S.put o.dst false .bm) _ AT h (by rw[nt];exact A1) (by rw[nW];exact I);exact⟨⟨[],[],false,.bm⟩::ps,by rw[J];simp,.cons _ _ _ _ _ _ ⟨by simp,λhh=>by rw[AG]at hh;cases hh⟩ M⟩
theorem Jc{q:LO}(h:mG X A2 S o=some q):o.guard=none/\dP X.P S o=.no/\∃AD args AS,o.op=.call {callee:=.value AD,args,argTypes:=AS}/\de X A2 S o args.toList (S.ar AD)=some ⟨.panic q.t q.x,q.es,q.ks⟩/\q.S={S with mem:=bS S.mem q.es}:=by
 unfold mG at h;split at h
 ·rename_i V;unfold EM at h;split at h
  ·rename_i AB;refine⟨V,AB,?_⟩;unfold LP at h;split at h
   ·rename_i AD args AS U;unfold yj at h;split at h
    ·rename_i t x es ks A7;cases h;exact⟨AD,args,AS,U,A7,rfl⟩
    ·cases h
   ·cases h
  ·cases h
 ·cases h
theorem Ma{args:List Operand}{AD:Bool×AV}{out:Out}{es:List dk}{ks:List Nat}(AX:de X A2 S o args AD=some ⟨out,es,ks⟩):∀e∈es,e.key∈ks:=by
 obtain⟨g,AN,Aa,A4,AH⟩:=oA AX;unfold gp nD nC gm at AH;split at AH
 ·rename_i out Al _;split at AH
  ·rename_i A7;simp only[Ds,acn]at A7;simp only[acE,gU.mk.injEq]at AH;obtain⟨_,rfl,rfl⟩:=AH;intro e he;obtain⟨j,v,c,AG,rfl⟩:=tJ.1 he;have Aw:=(ace.1 AG).1;simp only[aeh];generalize collect S.mem 64 (lq (X.fp (rj g)).zU 0 (jm g (dL S args) AN)) []=ρ at A7 Aw⊢;have An:j<(ρ++List.range' (keyOf o+1) (Al.length-ρ.length)).length:=by simp;omega
   have hm:=age An;have Ab:(ρ++List.range' (keyOf o+1) (Al.length-ρ.length)).getD j 0=(ρ++List.range' (keyOf o+1) (Al.length-ρ.length))[j]:=by
    rw[adX,adK An];rfl
   rw[Ab];rcases acC.1 hm with J|J
   ·exact agX _ (agX _ J)
   ·exact List.mem_append_right _ J
  ·cases AH
 ·cases AH
theorem SJ{all:List Oper}(A9:kM X A2)(A1:S.gl=X.gl){AD:Operand}{args:Array Operand}{AS:Array TypeId}(V:o.guard=none)(U:o.op=.call {callee:=.value AD,args,argTypes:=AS})
 {t:TypeId} {x:D} {es:List dk} {ks:List Nat} (h:de X A2 S o args.toList (S.ar AD)=some ⟨.panic t x,es,ks⟩):Dd X.P all S o ⟨ks,es,true,.bm⟩ t x:=by
 intro E O φ G a w H next R A3
 rw[acs (by simp[Region.wanted,V])];have Y:∀x∈o.op.operands.toList,E.ar x=S.ar x:=λx Y=>tX O Y;have Av:∀x∈args.toList,E.ar x=S.ar x:=λx B5=>Y x (by simp[U,Op.operands,Call.operands];exact .inr (by simpa using B5));obtain⟨g,AN,Aa,A4,AH⟩:=oA h;have B6:E.ar AD=(true,.fn g AN):=by rw[Y AD (by simp[U,Op.operands,Call.operands])];exact Aa
 have B7:gp A2 E.mem (keyOf o) (rj g) (jm g (dL E args.toList) AN) (X.fp (rj g)).zU=some ⟨.panic t x,es,ks⟩:=by
  rw[yp Av];exact Gw O.keys AH (λk AA=>O.mem k AA)
 refine xo A9 U B6 rfl (by rw[xq Av];exact A4) B7 (O.gl.trans A1) H (λAi Ak=>by cases Ak) (λBZ Ai Ak φ' w' v AJ AK AM=>?_);cases Ak;exact A3 φ' a w' v AJ AK AM
theorem Ec{md:Bool}{AI:Nat×List (List Nat)}{all:List Oper}(A9:kM X A2):∀(ops:List Oper)(S:St)(A0:List bf)(e:XE)(S1:St),jq X A2 md AI all ops S A0=some (e,S1)->S.gl=X.gl->lB S.n ops=true->
 (e=.normal/\∃ps AL,Cert X.P (λ_=>True) all ops S ps AL/\iO S1 AL/\oy AI.2 (A0.reverse++ps)=true)\/
 (∃t x j ps,e=.panic t x/\A0.length<=j/\j<A0.length+ops.length/\lG (TT X.P all j (AI.2.getD j []) t x (AI.1+hP (A0.reverse++ps)+1) S1) A0.length ops S ps/\oy AI.2 (A0.reverse++ps)=true/\BW (A0.reverse++ps) (AI.2.getD j [])=true/\S1.env=[])
 |[],S,A0,e,S1,h,A1,I=>by
  simp only[jq]at h;split at h
  ·rename_i AQ;cases h;exact .inl ⟨rfl,[],S,.nil S,iO.refl _,by simpa using AQ⟩
  ·cases h
 |o::rest,S,A0,e,S1,h,A1,I=>by
  have Bg:=I;simp only[lB,agZ,Ds]at I;obtain⟨AU,I⟩:=I;have AW:∀t,o.dst=some t->t<S.n:=λt AC=>by rw[AC]at AU;simpa using AU
  simp only[jq]at h;cases AO:mG X A2 S o with
  |some q=>
   right;rw[AO]at h;simp only[py,SF]at h;obtain⟨V,AB,AD,args,AS,U,A7,BN⟩:=Jc AO;obtain⟨Bx,t,x,es,ks⟩:=q;simp only at A7 BN h;subst BN;cases BD:ux X md all (AI.2.getD A0.length []) (A0.length+1) rest (({S with mem:=bS S.mem es}:St).put o.dst true .bm) (⟨ks,es,true,.bm⟩::A0)with
   |none=>rw[BD]at h;cases h
   |some AT=>
    rw[BD]at h;simp only[SD]at h;split at h
    ·rename_i B1;simp only[Ds]at B1;obtain⟨rfl,rfl⟩:XE.panic t x=e/\St.kill {S with mem:=bS S.mem es} (AI.1+hP AT+1)=S1:=by simpa using h
     obtain⟨ps,rfl,Bh⟩:=Ce rest (A0.length+1) _ _ _ BD (by rw[nt];exact A1) (by rw[nW];exact I);have Ad:(⟨ks,es,true,.bm⟩::A0:List bf).reverse++ps=A0.reverse++(⟨ks,es,true,.bm⟩::ps):=by simp
     rw[Ad]at B1⊢;refine⟨t,x,A0.length,⟨ks,es,true,.bm⟩::ps,rfl,ack _,by simp,.cons _ _ _ _ _ _ ⟨Ma A7,λhh=>absurd rfl hh,λ_=>⟨SJ A9 A1 V U A7,rfl,rfl,rfl⟩⟩ (Bh.mono λk S o p AA Aq=>?_),B1.1,B1.2,rfl⟩;exact⟨Aq.1,λ_ hh=>Aq.2 (hh.resolve_left (by omega)),λhh=>by omega⟩
    ·cases h
  |none=>
   rw[AO]at h;simp only[py]at h;cases V:eZ X A2 md all S o with
   |none=>rw[V]at h;cases h
   |some q=>
    obtain⟨AL,p⟩:=q;rw[V]at h;simp only[z7]at h;obtain⟨heq,Ar,AY⟩:=Cd A9 A1 AW V;rcases Ec A9 rest AL (p::A0) e S1 h (by rw[heq.gl,tP];exact A1) (by rw[heq.n,xf];exact I)with ⟨he,ps,BE,A7,BF,AQ⟩|⟨t,x,j,ps,he,Bj,Bk,A7,AQ,BP,Bl⟩
    ·left;obtain⟨Ah,Ax,Ay⟩:=EX A7 heq;exact⟨he,p::ps,Ah,.cons o rest S p ps Ah Ar (λ_ _=>trivial) AY.toI Ax,BF.trans Ay,by simpa using AQ⟩
    ·right;have Ad:(p::A0).reverse++ps=A0.reverse++(p::ps):=by simp
     rw[Ad]at AQ BP A7;simp only[acq]at Bj Bk A7;exact⟨t,x,j,p::ps,he,by omega,by simp;omega,.cons _ _ _ _ _ _ ⟨Ar,λ_ _=>AY,λhh=>by omega⟩ (A7.eqv TT.eqv heq),AQ,BP,Bl⟩
def cellOf:Bool->aJ->Nat->Option AV
 |false,.box cs,j=>cs[j]?
 |true,.vv aj (some x),j=>if aj.length=j then some x else none
 |_,_,_=>none
def uz(A':List Cl)(m:Mem):Prop:=∀q∈A',∃c,Mem.get m q.k=some ⟨q.k,q.v,c⟩/\cellOf q.vv c q.j=some q.x
theorem SK{c:aJ}{j:Nat}{x:AV}(h:cellOf false c j=some x):∃cs,c=.box cs/\cs[j]?=some x:=by
 cases c with
 |box cs=>exact⟨cs,rfl,h⟩
 |dead=>cases h
 |vec _ _=>cases h
 |vv _ _=>cases h
theorem VX{c:aJ}{j:Nat}{x:AV}(h:cellOf true c j=some x):∃aj,c=.vv aj (some x)/\aj.length=j:=by
 cases c with
 |box cs=>cases h
 |dead=>cases h
 |vec _ _=>cases h
 |vv aj y=>
  cases y with
  |none=>cases h
  |some y=>
   simp only[cellOf]at h;split at h
   ·rename_i AG;cases h;exact⟨aj,rfl,AG⟩
   ·cases h
theorem VY:∀{x y:AV},LQ x y=true->x=y:=by
 intro x y h;unfold LQ at h;split at h
 ·simp only[Ds,acn]at h;obtain⟨⟨⟨rfl,rfl⟩,rfl⟩,rfl⟩:=h;rfl
 ·simp only[Ds,acn]at h;obtain⟨⟨rfl,rfl⟩,rfl⟩:=h;rfl
 ·simp only[Ds,acn]at h;obtain⟨rfl,rfl⟩:=h;rfl
 ·simp only[acn]at h;subst h;rfl
 ·cases h
theorem Af{m:Mem}:∀{fl:List (Nat×Nat)}{A':List Cl},gv m fl=some A'->uz A' m
 |[],A',h=>by simp[gv]at h;subst h;exact λq A5=>by simp at A5
 |(k,j)::r,A',h=>by
  unfold gv at h;split at h
  ·rename_i key v cs l V AR;split at h
   ·rename_i x Y;cases h;have AA:key=k:=(Mem.get_mem V).2;subst AA;intro q A5;rcases aco.1 A5 with rfl|A5
    ·exact⟨.box cs,V,Y⟩
    ·exact Af AR q A5
   ·cases h
  ·rename_i key v aj x l V AR;cases h;have AA:key=k:=(Mem.get_mem V).2;subst AA;intro q A5;rcases aco.1 A5 with rfl|A5
   ·exact⟨.vv aj (some x),V,by simp[cellOf]⟩
   ·exact Af AR q A5
  ·cases h
theorem ZL{q:Cl}{v:Nat}{c:aJ}(h:Px q v c=true):v=q.v/\cellOf q.vv c q.j=some q.x:=by
 unfold Px at h;split at h
 ·rename_i cs;simp only[Ds,acn,agD]at h;obtain⟨⟨J,M⟩,AE⟩:=h;refine⟨M,?_⟩;rw[J];simp only[cellOf];unfold VO at AE;split at AE
  ·rename_i x Y;rw[Y,VY AE]
  ·cases AE
 ·rename_i aj x;simp only[Ds,acn]at h;obtain⟨⟨⟨J,M⟩,AE⟩,AP⟩:=h;refine⟨M,?_⟩;rw[J];simp only[cellOf,AE,adZ,VY AP]
 ·cases h
theorem Md{e:dk}:∀{A':List Cl},EN e A'=true->∀q∈A',e.key=q.k->∃c,e=⟨q.k,q.v,c⟩/\cellOf q.vv c q.j=some q.x
 |[],_,q,A5,_=>by simp at A5
 |p::r,h,q,A5,AA=>by
  simp only[EN,Ds]at h;rcases aco.1 A5 with rfl|A5
  ·have J:=h.1;simp only[AA,decide_true]at J;obtain⟨key,aq,cont⟩:=e;simp only at AA J;subst AA;obtain⟨rfl,M⟩:=ZL J;exact⟨cont,rfl,M⟩
  ·exact Md h.2 q A5 AA
theorem Jg{A':List Cl}:∀{es:List dk},xk A' es=true->∀m,uz A' m->uz A' (bS m es)
 |[],_,m,hm=>hm
 |e::r,h,m,hm=>by
  simp only[xk,Ds]at h;refine Jg h.2 _ (λq A5=>?_);obtain⟨cs,J,M⟩:=hm q A5;by_cases AA:e.key=q.k
  ·obtain⟨Bm,he,Y⟩:=Md h.1 q A5 AA;refine⟨Bm,?_,Y⟩;have Bn:e.key∈m.map (·.key):=by
    obtain⟨AE,AP⟩:=Mem.get_mem J;rw[AA];exact adL AE
   rw[<-AA,Mem.qN Bn,he]
  ·exact⟨cs,by rw[Mem.qO AA];exact J,M⟩
theorem Cf{b:Bool}{k v j:Nat}{x:AV}:∀{A':List Cl},uZ b k v j A'=some x->∃q∈A',q.vv=b/\q.k=k/\q.v=v/\q.j=j/\q.x=x
 |[],h=>by simp[uZ]at h
 |q::r,h=>by
  unfold uZ at h;split at h
  ·rename_i Z;simp only[Ds,acn]at Z;cases h;exact⟨q,by simp,Z.1.1.1.symm,Z.1.1.2.symm,Z.1.2.symm,Z.2.symm,rfl⟩
  ·obtain⟨BG,J,M⟩:=Cf h;exact⟨BG,by simp[J],M⟩
theorem Ag{b:Bool}{k v:Nat}:∀{A':List Cl},yk b k v A'=true->∃q∈A',q.vv=b/\q.k=k/\q.v=v
 |[],h=>by simp[yk]at h
 |q::r,h=>by
  unfold yk at h;split at h
  ·rename_i Z;simp only[Ds,acn]at Z;exact⟨q,by simp,Z.1.1.symm,Z.1.2.symm,Z.2.symm⟩
  ·obtain⟨BG,J,M⟩:=Ag h;exact⟨BG,by simp[J],M⟩
theorem H5{A':List Cl}{m:Mem}(hm:uz A' m){q:Cl}(A5:q∈A')(AM:q.vv=false):∃cs,Mem.get m q.k=some ⟨q.k,q.v,.box cs⟩/\cs[q.j]?=some q.x:=by
 obtain⟨c,J,M⟩:=hm q A5;rw[AM]at M;obtain⟨cs,rfl,AE⟩:=SK M;exact⟨cs,J,AE⟩
theorem VZ{A':List Cl}{m:Mem}(hm:uz A' m){q:Cl}(A5:q∈A')(AM:q.vv=true):∃aj,Mem.get m q.k=some ⟨q.k,q.v,.vv aj (some q.x)⟩/\aj.length=q.j:=by
 obtain⟨c,J,M⟩:=hm q A5;rw[AM]at M;obtain⟨cs,rfl,AE⟩:=VX M;exact⟨cs,J,AE⟩
theorem ZM{P:Program}{A':List Cl}{S:St}{x:AV}(h:u0 P A' S o.op=some x)(hm:uz A' S.mem):∃c,dP P S o=.val c x/\(iB S o&&c)=true:=by
 unfold u0 at h;split at h
 ·rename_i t y U;unfold Gn at h;split at h
  ·rename_i k v off heq;split at h
   ·rename_i BH Az;obtain⟨q,A5,AZ,rfl,rfl,rfl,rfl⟩:=Cf h;obtain⟨cs,J,M⟩:=H5 hm A5 AZ;have An:q.j<cs.length:=(ace.1 M).1;refine⟨true,?_,by simp[iB,U,jW,Op.operands,heq]⟩;unfold dP;rw[U];simp only[heq,nR,J,BH,M,af9];simp only[afY]at Az;simp[Az,An]
   ·cases h
  ·rename_i k v i j heq;split at h
   ·rename_i BH Az AG;obtain⟨q,A5,AZ,rfl,rfl,rfl,rfl⟩:=Cf h;obtain⟨aj,J,M⟩:=VZ hm A5 AZ;simp only[acn]at AG;subst AG;refine⟨true,?_,by simp[iB,U,jW,Op.operands,heq]⟩;unfold dP;rw[U];simp only[heq,nR,J,BH];simp only[afY]at Az;simp[Az,M]
   ·cases h
  ·cases h
 ·rename_i s y f U;unfold Gp at h;split at h
  ·rename_i n k v off A3 heq;split at h
   ·rename_i A7;cases h;obtain⟨q,A5,AZ,rfl,rfl⟩:=Ag A7;obtain⟨cs,J,M⟩:=H5 hm A5 AZ;refine⟨true,?_,by simp[iB,U,jW,Op.operands,heq]⟩;unfold dP;rw[U];simp[heq,qp,A3,J]
   ·cases h
  ·cases h
 ·rename_i y U;unfold Gq at h;split at h
  ·rename_i k v off heq;split at h
   ·rename_i A7;cases h;obtain⟨q,A5,AZ,rfl,rfl⟩:=Ag A7;obtain⟨cs,J,M⟩:=H5 hm A5 AZ;refine⟨true,?_,by simp[iB,U,jW,Op.operands,heq]⟩;unfold dP;rw[U];simp[heq,ku,J]
   ·cases h
  ·cases h
 ·rename_i t y z U;unfold Gr at h;split at h
  ·rename_i e k v off len By n Bo heq BQ;split at h
   ·rename_i BR A7 BS BT;cases h;simp only[acn]at BR BS BT;obtain⟨q,A5,AZ,rfl,rfl⟩:=Ag A7;obtain⟨aj,J,M⟩:=VZ hm A5 AZ;refine⟨true,?_,by simp[iB,U,jW,Op.operands,heq,BQ]⟩;unfold dP;rw[U];simp[heq,BQ,oe,Bo,BR,J,BS,BT]
   ·cases h
  ·cases h
 ·cases h
theorem V0{P:Program}{A':List Cl}{E S:St}(h:∀x∈o.op.operands.toList,E.ar x=S.ar x):u0 P A' E o.op=u0 P A' S o.op:=by
 unfold u0;split
 ·rename_i t y U;rw[h y (by simp[U,Op.operands])]
 ·rename_i s y f U;rw[h y (by simp[U,Op.operands])]
 ·rename_i y U;rw[h y (by simp[U,Op.operands])]
 ·rename_i t y z U;rw[h y (by simp[U,Op.operands]),h z (by simp[U,Op.operands])]
 ·rfl
theorem SL{all:List Oper}{A':List Cl}{x:AV}(I:∀t,o.dst=some t->t<S.n)(h:rl X.P A' S o=some x):uY X.P (uz A') all S o ⟨[],[],true,x⟩:=by
 intro E O Ap φ G a w H next R A3
 unfold rl at h;split at h
 ·rename_i V;rw[acs (by simp[Region.wanted,V])];have Y:∀x∈o.op.operands.toList,E.ar x=S.ar x:=λx Y=>tX O Y;obtain⟨c,Au,A4⟩:=ZM (by rw[V0 Y];exact h) Ap;obtain⟨_,_,_,AP⟩:=Di (gb:=true) Au A4 (λt AC=>by rw[O.n];exact I t AC);exact AP φ G a w H next R (λ_ φ' A8 w' AJ AK=>A3 φ' A8 w' AJ AK) (λt x he=>by cases he)
 ·cases h
theorem OR{l:List Nat}{r:List Oper}(h:oz l r=true):l=[]/\r=[]:=by
 cases l<;>cases r<;>simp_all [oz]
theorem ZN{all:List Oper}{AI:List (List Nat)}{ps:List bf}(AB:EI all AI=true)(AR:ps.length+1=all.length)(A3:AI.getD (all.length-1) []=[])(I:oy AI ps=true):oX all (ps++[D9])=true:=by
 have Bp:=D8 AB A3;unfold oX;refine acI.2 λj AG=>?_;have J:=acI.1 AB j AG;have Bq:j<all.length:=adP.1 AG;unfold BU at J;unfold Kr;have Br:(ps++[D9])[j]?=some ((ps++[D9])[j]'(by simp;omega)):=by simp[AR,Bq]
 rw[Br];cases U:all[j]? with
 |none=>rw[U]at J;cases J
 |some o=>
  rw[U]at J;simp only[Ds,acI,acn,agv,adP]at J⊢;refine⟨J.1,λi hi=>?_⟩;by_cases Aw:j+1=all.length
  ·left;have:=Bp i (by omega);rw[<-Aw]at this;simpa using this
  ·rcases J.2 i hi with M|M
   ·exact .inl M
   ·right;have B2:j<ps.length:=by omega
    have Bs:(ps++[D9])[i]?=some (ps[i]'(by omega)):=by rw[acB (by omega)];simp[show i<ps.length by omega]
    have Bt:(ps++[D9])[j]'(by simp;omega)=ps[j]'B2:=List.getElem_append_left B2
    rw[Bt];cases BV:all[i]? with
    |none=>rw[BV]at M;cases M
    |some BM=>
     rw[BV]at M;rw[Bs];simp only[Ds]at M;simp only[BO];have Ad:=zY (su I i _ (adK (show i<ps.length by omega))) j (by simpa using M.2.1) _ (adK B2);have Ab:=zY (su I j _ (adK B2)) i (by simpa using M.2.2) _ (adK (show i<ps.length by omega));have BX:=M.1;simp only[EH,Ds]at BX;simp only[Ds];exact⟨⟨BX,Ad⟩,Ab⟩
def V1(P:Program)(Ac:Mem->Prop)(AI:List (List Nat))(all ops:List Oper)(S:St)(A0:List bf)(e:XE)(S1:St):Prop:=
 (e=.normal/\∃ps AL,Cert P Ac all ops S ps AL/\iO S1 AL/\oy AI (A0.reverse++ps)=true)\/
  (∃init ol ps AL,ops=init++[ol]/\Cert P Ac all init S ps AL/\AI.getD (all.length-1) []=[]/\oy AI (A0.reverse++ps)=true/\Ca P all AL ol e S1)
theorem Ca.eqv{P:Program}{all:List Oper}{S S0 S1:St}{e:XE}(h:Ca P all S o e S1)(he:iO S S0):Ca P all S0 o e S1:=by
 obtain⟨J,M,AE,AP⟩:=h;refine⟨J.trans he.n,M.trans he.gl,AE,λφ G a w H next R A3 AO=>?_⟩;have:=AP φ G a w (H.eqv he.symm) next R
 rw[he.mem]at this;exact this A3 AO
theorem Jh{md:Bool}{AI:List (List Nat)}{A':List Cl}{all:List Oper}(A9:kM X A2):∀(ops:List Oper)(S:St)(A0:List bf)(e:XE)(S1:St),A0.length+ops.length=all.length->pz X A2 md AI A' all ops S A0=some (e,S1)->S.gl=X.gl->lB S.n ops=true->
 V1 X.P (uz A') AI all ops S A0 e S1
 |[],S,A0,e,S1,_,h,A1,I=>by
  simp only[pz]at h;split at h
  ·rename_i AQ;cases h;exact .inl ⟨rfl,[],S,.nil S,iO.refl _,by simpa using AQ⟩
  ·cases h
 |o::rest,S,A0,e,S1,BY,h,A1,I=>by
  have Bg:=I;simp only[lB,agZ,Ds]at I;obtain⟨AU,I⟩:=I;have AW:∀t,o.dst=some t->t<S.n:=λt AC=>by rw[AC]at AU;simpa using AU
  simp only[acq]at BY;simp only[pz]at h;cases BI:oz (AI.getD A0.length []) rest with
  |true=>
   rw[BI]at h;simp only[LR]at h;obtain⟨Bu,rfl⟩:=OR BI;split at h
   ·rename_i AQ;right;refine⟨[],o,[],S,rfl,.nil S,?_,by simpa using AQ,?_⟩
    ·have:all.length-1=A0.length:=by simp at BY;omega
     rw[this];exact Bu
    ·simp only[iv]at h;rcases iQ h with ⟨BE,J,M⟩|⟨J,M⟩
     ·cases M;exact wc A9 A1 AW J
     ·exact wc A9 A1 AW J
   ·cases h
  |false=>
  rw[BI]at h;simp only at h;have glue:∀(p:bf)(E:St),(∀e∈p.es,e.key∈p.ks)->(∀m,uz A' m->uz A' (bS m p.es))->uY X.P (uz A') all S o p->iO E (p.app o S)->pz X A2 md AI A' all rest E (p::A0)=some (e,S1)->V1 X.P (uz A') AI all (o::rest) S A0 e S1:=by
   intro p E AA Ap AY heq B3;rcases Jh A9 rest E (p::A0) e S1 (by simp;omega) B3 (by rw[heq.gl,tP];exact A1) (by rw[heq.n,xf];exact I)with ⟨he,ps,BE,A7,BF,AQ⟩|⟨init,ol,ps,BE,H,A7,A3,AQ,Bv⟩
   ·obtain⟨Ah,Ax,Ay⟩:=EX A7 heq;exact .inl ⟨he,p::ps,Ah,.cons o rest S p ps Ah AA Ap AY Ax,BF.trans Ay,by simpa using AQ⟩
   ·obtain⟨Ah,Ax,Ay⟩:=EX A7 heq;exact .inr ⟨o::init,ol,p::ps,Ah,by rw[H];rfl,.cons o init S p ps Ah AA Ap AY Ax,A3,by simpa using AQ,Bv.eqv Ay⟩
  cases AR:rl X.P A' S o with
  |some x=>
   rw[AR]at h;simp only[pY,z7]at h;exact glue ⟨[],[],true,x⟩ _ (by simp) (λ_ h=>h) (SL (X:=X) (all:=all) AW AR) (iO.refl _) h
  |none=>
   rw[AR]at h;simp only[pY]at h;cases V:eZ X A2 md all S o with
   |none=>rw[V]at h;cases h
   |some q=>
    obtain⟨AL,p⟩:=q;rw[V]at h;simp only[H3]at h;split at h
    ·rename_i hinv;simp only[z7]at h;obtain⟨heq,Ar,AY⟩:=Cd A9 A1 AW V;exact glue p AL Ar (Jg hinv) AY.toI heq h
    ·cases h
end
theorem bz.ZO{φ:cd}{G:Fr}{m:Mem}{w:World}(h:bz φ G m w){H I e1' e2':dk}(A5:H∈m)(A6:I∈m)(AM:H.key≠I.key){Z c L1' L2':Loc}(A7:φ H.key=some Z)(A8:φ I.key=some c)
 (A1:e1'.key=H.key) (A2:e2'.key=I.key) (AN:Z.aq<=L1'.aq) (AO:c.aq<=L2'.aq) (AP:L1'.aq=Z.aq->L1'={Z with dy:=L1'.dy}) (AQ:L2'.aq=c.aq->L2'={c with dy:=L2'.dy})
 (AR:L1'.aq=e1'.aq) (AS:L2'.aq=e2'.aq) (A9:∀b,e1'.cont.dz L1' b->H.cont.dz Z b\/I.cont.dz c b) (AA:∀b,e2'.cont.dz L2' b->H.cont.dz Z b\/I.cont.dz c b)
 (AH:∀b,e1'.cont.dz L1' b->e2'.cont.dz L2' b->False)
 (AT:∀(φ':cd)(F':Nat->Prop),φ.le φ'->φ' H.key=some L1'->φ' I.key=some L2'->(∀b,F' b->Fo G φ m b)->eV φ' w F' L1' e1'.cont/\eV φ' w F' L2' e2'.cont):
 ∃φ',bz φ' G (Mem.set (Mem.set m e1') e2') w/\aZ φ m w φ' (Mem.set (Mem.set m e1') e2') w:=by
 obtain⟨m',AB⟩:∃m',m'=Mem.set (Mem.set m e1') e2':=⟨_,rfl⟩;rw[<-AB];have AU:((Mem.set m e1').map (·.key)).Nodup:=by rw[Mem.iI];exact h.nodup
 have AI:m'.map (·.key)=m.map (·.key):=by rw[AB,Mem.iI,Mem.iI]
 have A3:∀y,y∈m'->y=e2'\/y=e1'\/(y∈m/\y.key≠H.key/\y.key≠I.key):=by
  intro y V;rw[AB]at V;rcases (Mem.mem_set AU).1 V with ⟨D,_⟩|⟨D,J⟩
  ·exact .inl D
  ·rcases (Mem.mem_set h.nodup).1 D with ⟨D,_⟩|⟨D,Y⟩
   ·exact .inr (.inl D)
   ·exact .inr (.inr ⟨D,by rw[<-A1];exact Y,by rw[<-A2];exact J⟩)
 obtain⟨φ',AC⟩:∃φ':cd,φ'=λj=>if j=H.key then some L1' else if j=I.key then some L2' else φ j:=⟨_,rfl⟩
 have f1:φ' H.key=some L1':=by simp[AC]
 have f2:φ' I.key=some L2':=by simp[AC,show ¬I.key=H.key from λh=>AM h.symm]
 have f3:∀j,j≠H.key->j≠I.key->φ' j=φ j:=λj D J=>by simp[AC,D,J]
 have hle:φ.le φ':=by
  intro j AD A';by_cases D:j=H.key
  ·subst D;rw[A7]at A';cases A';exact⟨_,f1,AN,AP⟩
  ·by_cases J:j=I.key
   ·subst J;rw[A8]at A';cases A';exact⟨_,f2,AO,AQ⟩
   ·exact⟨AD,by rw[f3 j D J];exact A',ack _,λ_=>rfl⟩
 have AJ:∀b,H.cont.dz Z b\/I.cont.dz c b->jT φ m b:=λb M=>M.elim (λM=>⟨H,A5,Z,A7,M⟩) (λM=>⟨I,A6,c,A8,M⟩);have AE:∀b,jT φ' m' b->jT φ m b:=by
  rintro b ⟨y,V,U,E,O⟩;rcases A3 y V with rfl|rfl|⟨D,J,Y⟩
  ·rw[A2,f2]at E;cases E;exact AJ b (AA b O)
  ·rw[A1,f1]at E;cases E;exact AJ b (A9 b O)
  ·rw[f3 _ J Y]at E;exact⟨y,D,U,E,O⟩
 have AK:∀b,Fo G φ' m' b->Fo G φ m b:=λb=>Or.imp id (AE b);have AL:=AT φ' (Fo G φ' m') hle f1 f2 AK;have A4:∀y∈m,y.key≠H.key->y.key≠I.key->∀U,φ y.key=some U->∀b,y.cont.dz U b->H.cont.dz Z b\/I.cont.dz c b->False:=by
  intro y V J Y U E b O M;rcases M with M|M
  ·exact J (h.apart y V H A5 U Z E A7 ⟨b,O,M⟩)
  ·exact Y (h.apart y V I A6 U c E A8 ⟨b,O,M⟩)
 refine⟨φ',⟨by rw[AI];exact h.nodup,?_,?_,?_,λb M=>h.ml b (AE b M),h.bound⟩,⟨hle,λ_ _ _=>rfl,λb _ M=>AE b M,ack _,rfl,rfl,rfl⟩⟩
 ·intro j AD A';rw[AI];by_cases D:j=H.key
  ·subst D;exact adL A5
  ·by_cases J:j=I.key
   ·subst J;exact adL A6
   ·rw[f3 j D J]at A';exact h.rR j AD A'
 ·intro y V;rcases A3 y V with rfl|rfl|⟨D,J,Y⟩
  ·exact⟨L2',by rw[A2];exact f2,AS,AL.2⟩
  ·exact⟨L1',by rw[A1];exact f1,AR,AL.1⟩
  ·obtain⟨U,E,AV,AW⟩:=h.gv y D;exact⟨U,by rw[f3 _ J Y];exact E,AV,AW.mono hle (λ_ _ _=>rfl) (ack _) (λb _=>AK b) (λ_ _=>rfl)⟩
 ·rintro y V z AF U AG E T ⟨b,O,A0⟩;rcases A3 y V with rfl|rfl|⟨D,J,Y⟩
  ·rw[A2,f2]at E;cases E;rcases A3 z AF with rfl|rfl|⟨g1,g2,g3⟩
   ·rfl
   ·rw[A1,f1]at T;cases T;exact (AH b A0 O).elim
   ·rw[f3 _ g2 g3]at T;exact (A4 z g1 g2 g3 AG T b A0 (AA b O)).elim
  ·rw[A1,f1]at E;cases E;rcases A3 z AF with rfl|rfl|⟨g1,g2,g3⟩
   ·rw[A2,f2]at T;cases T;exact (AH b O A0).elim
   ·rfl
   ·rw[f3 _ g2 g3]at T;exact (A4 z g1 g2 g3 AG T b A0 (A9 b O)).elim
  ·rw[f3 _ J Y]at E;rcases A3 z AF with rfl|rfl|⟨g1,g2,g3⟩
   ·rw[A2,f2]at T;cases T;exact (A4 y D J Y U E b O (AA b A0)).elim
   ·rw[A1,f1]at T;cases T;exact (A4 y D J Y U E b O (A9 b A0)).elim
   ·rw[f3 _ g2 g3]at T;exact h.apart y D z g1 U AG E T ⟨b,O,A0⟩
theorem SM(S:St)(Ai j k sz:Nat):eY S (S.o8 Ai j k sz):=by
 unfold St.o8;split
 ·rename_i key BB cs U v cont Bd A';split
  ·rename_i A5;split
   ·exact eY.refl S
   ·rename_i AN;refine⟨rfl,rfl,λφ G a w I=>?_⟩;obtain⟨hm,A2,L,AA,AI,AZ⟩:=I.mem.get A';simp only at A2 AI;subst A2;obtain⟨Ce,AT,Cf,Cg,Db⟩:=I.mem.dJ (e':=⟨U,v+1,.vec sz []⟩) hm AA rfl (L':=⟨v+1,0,sz,0,0,[]⟩) (by simp only;omega) (λhh=>by simp only at hh;omega) rfl
     (w':=w) (λ_ _ _=>rfl) (ack _) (λ_ A3=>absurd A3.1 (by simp)) rfl rfl rfl (λφ' AQ Be=>⟨rfl,by simp,by simp,λM=>by simp at M⟩)
    have Cj:Mem.get (Mem.set S.mem ⟨U,v+1,.vec sz []⟩) Ai=some ⟨key,BB,.box cs⟩:=by
     rw[Mem.qO (by simpa using λh=>AN h.symm)];exact Bd
    obtain⟨BR,BC,BD,BS,BE,Bf⟩:=AT.get Cj;simp only at BC BE;subst BC;obtain⟨AM,Aj,AE,Dc,Dd⟩:=AT.dJ (e':=⟨key,BB,.box (cs.set j (.vec U (v+1) 0 0))⟩) BR BS rfl (L':=BD) (ack _) (λ_=>rfl) BE
     (w':=w) (λ_ _ _=>rfl) (ack _) (λ_ A3=>.inl A3) rfl rfl rfl (λφ' AQ Be=>by
      obtain⟨g0,arr,elem,g1,g2,g3,g4⟩:=Bf;have Ck:∀b,Fo G φ' (Mem.set (Mem.set S.mem ⟨U,v+1,.vec sz []⟩) ⟨key,BB,.box (cs.set j (.vec U (v+1) 0 0))⟩) b->Fo G Ce (Mem.set S.mem ⟨U,v+1,.vec sz []⟩) b:=by
       rintro b (h|⟨x,AB,Bg,A_,BF⟩)
       ·exact .inl h
       ·right;rcases (Mem.mem_set AT.nodup).1 AB with ⟨rfl,_⟩|⟨Bj,Bl⟩
        ·simp only[AQ,adZ]at A_;cases A_;exact⟨_,BR,BD,BS,BF⟩
        ·simp only[AQ,Bl,adY]at A_;exact⟨x,Bj,Bg,A_,BF⟩
      refine⟨by simpa using g0,arr,elem,g1,by simp[g2],g3,λi c u M hu=>?_⟩;rw[List.getElem?_set]at M;split at M
      ·rename_i Ak;subst Ak;split at M
       ·cases M;have:=g4 j _ u A5 hu;cases this;refine .vec U (v+1) 0 0 _ ⟨v+1,0,sz,0,0,[]⟩ ?_ (ack _) (λ_=>⟨_,_,rfl,by simp,λh=>by omega⟩) rfl;rw[AQ];simp only
        rw[ach (λh=>AN h.symm)];exact Cg
       ·cases M
      ·exact (g4 i c u M hu).mono Be (λ_ _ _=>rfl) (ack _) (λb _=>Ck b))
    have CC:=Cf.trans AE;exact⟨AM,I.Bk Aj CC,CC⟩
  ·exact eY.refl S
 ·exact eY.refl S
theorem Ch(AO:AV->AV):∀m:Mem,(v8 AO m).map (·.key)=m.map (·.key)
 |[]=>rfl
 |e::r=>by simp[v8,Ch AO r]
theorem Me{AO:AV->AV}:∀{m:Mem}{x:dk},x∈v8 AO m↔∃e∈m,x=⟨e.key,e.aq,sm AO e.cont⟩
 |[],x=>by simp[v8]
 |e::r,x=>by simp[v8,Me (m:=r)]
theorem SN(S:St)(k AR:Nat):eY S (S.zZ k AR):=by
 unfold St.zZ;split
 ·rename_i key v sz aj U v2 cont A' Aa;split
  ·exact eY.refl S
  ·rename_i AN;refine⟨rfl,rfl,λφ G a w I=>?_⟩;obtain⟨hm,A2,L,AA,AI,AZ⟩:=I.mem.get A';obtain⟨Aj,AE,AU,As,B1,_⟩:=I.mem.get Aa;simp only at A2 AI AE B1;subst A2;subst AE;have Cl:¬U=key:=λh=>AN h.symm;obtain⟨AO,CD⟩:∃AO,AO=H4 key v U (v2+1):=⟨_,rfl⟩;rw[<-CD];obtain⟨BT,AT⟩:∃BT,BT=Mem.set (v8 AO S.mem) ⟨key,v+1,.dead⟩:=⟨_,rfl⟩;have CE:((v8 AO S.mem).map (·.key)).Nodup:=by rw[Ch];exact I.mem.nodup
   have AJ:(BT.map (·.key)).Nodup:=by rw[AT,Mem.iI];exact CE
   obtain⟨m',AS⟩:∃m',m'=Mem.set BT ⟨U,v2+1,.vec sz aj⟩:=⟨_,rfl⟩;rw[<-AT,<-AS];have BH:m'.map (·.key)=S.mem.map (·.key):=by rw[AS,Mem.iI,AT,Mem.iI,Ch]
   have BI:∀y,y∈m'->y=⟨U,v2+1,.vec sz aj⟩\/y=⟨key,v+1,.dead⟩\/(∃z∈S.mem,y=⟨z.key,z.aq,sm AO z.cont⟩/\z.key≠key/\z.key≠U):=by
    intro y AF;rw[AS]at AF;rcases (Mem.mem_set AJ).1 AF with ⟨h,_⟩|⟨h,J⟩
    ·exact .inl h
    ·rw[AT]at h;rcases (Mem.mem_set CE).1 h with ⟨h,_⟩|⟨h,O⟩
     ·exact .inr (.inl h)
     ·obtain⟨z,BV,rfl⟩:=Me.1 h;exact .inr (.inr ⟨z,BV,rfl,O,J⟩)
   obtain⟨φ',AQ⟩:∃φ':cd,φ'=λj=>if j=key then some {L with aq:=v+1} else if j=U then some {L with aq:=v2+1} else φ j:=⟨_,rfl⟩
   have f1:φ' key=some {L with aq:=v+1}:=by simp[AQ]
   have f2:φ' U=some {L with aq:=v2+1}:=by simp[AQ,Cl]
   have f3:∀j,j≠key->j≠U->φ' j=φ j:=λj H J=>by simp[AQ,H,J]
   have hle:φ.le φ':=by
    intro j Bm AC;by_cases H:j=key
    ·subst H;rw[AA]at AC;cases AC;exact⟨_,f1,by simp only;omega,λhh=>by simp only at hh;omega⟩
    ·by_cases J:j=U
     ·subst J;rw[As]at AC;cases AC;exact⟨_,f2,by simp only;omega,λhh=>by simp only at hh;omega⟩
     ·exact⟨Bm,by rw[f3 j H J];exact AC,ack _,λ_=>rfl⟩
   have Bn:∀b,jT φ' m' b->jT φ S.mem b:=by
    rintro b ⟨y,AF,B2,AG,Al⟩;rcases BI y AF with rfl|rfl|⟨At,H,rfl,J,O⟩
    ·simp only at AG;rw[f2]at AG;cases AG;exact⟨_,hm,L,AA,Al⟩
    ·exact Al.elim
    ·simp only at AG;rw[f3 _ J O]at AG;exact⟨At,H,B2,AG,mU.1 Al⟩
   have A0:∀b,Fo G φ' m' b->Fo G φ S.mem b:=λb=>Or.imp id (Bn b);have Au:∀x u,aG φ w (Fo G φ S.mem) x u->aG φ' w (Fo G φ' m') (AO x) u:=by
    intro y u AC;have CF:=AC.mono (φ':=φ') (F':=Fo G φ' m') hle (λ_ _ _=>rfl) (ack _) (λb _=>A0 b);rw[CD];unfold H4;split
    ·rename_i De v0 o l;split
     ·rename_i hh;obtain⟨rfl,rfl⟩:=hh;cases AC with
      |vec _ _ _ _ _ L' An _ h H=>
       rw[AA]at An;cases An;exact .vec U (v2+1) o l _ _ f2 (ack _) (λ_=>h AI.symm) H
     ·exact CF
    ·exact CF
   refine⟨φ',⟨I.size,I.defers,?_,⟨?_,?_,?_,?_,?_,?_⟩,I.mm.mono (λ_ _ _=>rfl) (ack _) (λb _=>A0 b)⟩,Lv Bn hle⟩
   ·intro t x AB;obtain⟨y,AF,rfl⟩:=BJ _ S.env t true x AB;exact Au _ _ (I.env t y AF)
   ·show (m'.map (·.key)).Nodup;rw[BH];exact I.mem.nodup
   ·intro j Bm AC;show j∈m'.map (·.key);rw[BH];by_cases H:j=key
    ·subst H;exact adL hm
    ·by_cases J:j=U
     ·subst J;exact adL Aj
     ·rw[f3 j H J]at AC;exact I.mem.rR j Bm AC
   ·intro y AF;rcases BI y AF with rfl|rfl|⟨At,H,rfl,J,O⟩
    ·refine⟨_,f2,rfl,?_⟩;have:=AZ.mono (φ':=φ') (F':=Fo G φ' m') hle (λ_ _ _=>rfl) (ack _) (λb _=>A0 b) (λ_ _=>rfl);exact this
    ·exact⟨_,f1,rfl,trivial⟩
    ·obtain⟨B2,AG,Cm,B3⟩:=I.mem.gv At H;refine⟨B2,by simp only;rw[f3 _ J O];exact AG,Cm,?_⟩;cases Bo:At.cont with
     |dead=>trivial
     |box cs=>
      rw[Bo]at B3;obtain⟨g0,arr,elem,g1,g2,g3,g4⟩:=B3;refine⟨by simpa using g0,arr,elem,g1,by simp[g2],g3,λi c u CG hu=>?_⟩;rw[adD]at CG;obtain⟨x,AB,rfl⟩:=acp.1 CG;exact Au x u (g4 i x u AB hu)
     |vec Df Cn=>
      rw[Bo]at B3;exact B3.mono hle (λ_ _ _=>rfl) (ack _) (λb _=>A0 b) (λ_ _=>rfl)
     |vv Cn Dg=>
      rw[Bo]at B3;exact mj.mono AO B3 (λ_ _ _ _ u hu=>hu.mono (λ_ _ _=>rfl) (ack _) (λb _=>A0 b)) (λx _ v AB=>Au x v AB) (λ_ _=>rfl)
   ·rintro y AF z BV B2 CH AG Ab ⟨b,Al,BK⟩;rcases BI y AF with rfl|rfl|⟨At,H,rfl,J,O⟩
    ·rcases BI z BV with rfl|rfl|⟨z0,g1,rfl,g2,g3⟩
     ·rfl
     ·exact BK.elim
     ·simp only at AG;rw[f2]at AG;cases AG;simp only at Ab;rw[f3 _ g2 g3]at Ab;exact absurd (I.mem.apart _ hm z0 g1 L CH AA Ab ⟨b,Al,mU.1 BK⟩).symm g2
    ·exact Al.elim
    ·rcases BI z BV with rfl|rfl|⟨z0,g1,rfl,g2,g3⟩
     ·simp only at Ab;rw[f2]at Ab;cases Ab;simp only at AG;rw[f3 _ J O]at AG;exact absurd (I.mem.apart At H _ hm B2 L AG AA ⟨b,mU.1 Al,BK⟩) J
     ·exact BK.elim
     ·simp only at AG Ab;rw[f3 _ J O]at AG;rw[f3 _ g2 g3]at Ab;exact I.mem.apart At H z0 g1 B2 CH AG Ab ⟨b,mU.1 Al,mU.1 BK⟩
   ·intro b E;exact I.mem.ml b (Bn b E)
   ·exact I.mem.bound
 ·exact eY.refl S
theorem V3{α:Type}{l:List α}{n:Nat}(h:l.length=n+1):∃(r:List α)(o:α),l=r++[o]/\r.length=n:=by
 refine⟨l.dropLast,l.getLast (by intro hh;simp[hh]at h),(List.dropLast_concat_getLast _).symm,by simp[h]⟩
theorem ZQ(S:St)(k AR:Nat):eY S (S.fS k AR):=by
 unfold St.fS;split
 ·rename_i key v aj U v2 cont A' Aa;split
  ·rename_i xs BL;split
   ·exact eY.refl S
   ·rename_i AN;refine⟨rfl,rfl,λφ G a w I=>?_⟩;obtain⟨hm,A2,L,AA,AI,AZ⟩:=I.mem.get A';obtain⟨Aj,AE,AU,As,B1,_⟩:=I.mem.get Aa;simp only at A2 AI AE B1;subst A2;subst AE;have CI:aj=aj.dropLast++[xs]:=by
     rcases ajs aj with rfl|⟨r,x,rfl⟩
     ·simp at BL
     ·simp at BL;subst BL;simp
    obtain⟨r,Co⟩:∃r,r=aj.dropLast:=⟨_,rfl⟩;rw[<-Co]at CI⊢;subst CI;obtain⟨⟨AC,H,J⟩,O,AH,Ac⟩:mj φ w (Fo G φ S.mem) L (r++[xs]) none:=AZ;simp only[acm,af0,Option.toList_none,acw,agq]at H J;obtain⟨arr,elem,g1,g2,g3,g4,_⟩:=Ac (by omega);obtain⟨dy,o,B4,Bp⟩:=V3 J;have CJ:=g4 r.length xs o (by simp) (by rw[B4,<-Bp];simp);have B5:∀b,some b∈dy->some b∈L.dy:=λb E=>by rw[B4];simp[E]
    have AW:∀(i:Nat)(x:Option Nat),dy[i]?=some x->L.dy[i]?=some x:=λi x AB=>by
     rw[B4,acB (ace.1 AB).1];exact AB
    have Cp:∀b,o=some b->some b∉dy:=λb E hm=>by
     obtain⟨i,hi⟩:=apn hm;have Av:=(ace.1 hi).1;have:=O i r.length b (AW i _ hi) (by rw[B4,<-Bp,<-E];simp);omega
    have base:∀(L2':Loc)(x:Value),(L2'.aq=v2+1/\L2'.sz=1)->arr[L.base+r.length]?=some x->(∀(φ':cd)(F':Nat->Prop),φ' U=some L2'->aG φ' w F' (.vec U (v2+1) 0 xs.length) x)->
     (∀b,0<L2'.cap->L2'.en=b->o=some b)->
     (∀(φ':cd)(F':Nat->Prop),φ.le φ'->(∀b,F' b->Fo G φ S.mem b)->eV φ' w F' L2' (.vec 1 xs))->
     ∃φ',Rel φ' G {S with mem:=Mem.set (Mem.set S.mem ⟨key,v,.vv r (some (.vec U (v2+1) 0 xs.length))⟩) ⟨U,v2+1,.vec 1 xs⟩} a w/\aZ φ S.mem w φ' (Mem.set (Mem.set S.mem ⟨key,v,.vv r (some (.vec U (v2+1) 0 xs.length))⟩) ⟨U,v2+1,.vec 1 xs⟩) w:=by
     intro L2' x Bq AB Au CK Cq;have B6:∀(φ':cd)(F':Nat->Prop),φ.le φ'->φ' U=some L2'->(∀b,F' b->Fo G φ S.mem b)->eV φ' w F' {L with dy:=dy} (.vv r (some (.vec U (v2+1) 0 xs.length))):=by
      intro φ' F' hle f2 A0;refine⟨⟨AC,by simp;omega,Bp⟩,λi j b hi A5=>O i j b (AW _ _ hi) (AW _ _ A5),λb E=>AH b (B5 b E),λ_=>⟨arr,elem,g1,g2,g3,λi Br Bs hi A3=>?_,λy AF=>?_⟩⟩
      ·have Aw:=(ace.1 hi).1;exact (g4 i Br Bs (by rw[acB Aw];exact hi) (AW _ _ A3)).mono (λd u _ hu=>hu.mono (λ_ _ _=>rfl) (ack _) (λb _=>A0 b)) (λ_ _=>rfl)
      ·cases AF;exact⟨x,AB,Au φ' F' f2⟩
     obtain⟨φ',AS,Z⟩:=I.mem.ZO (e1':=⟨key,v,.vv r (some (.vec U (v2+1) 0 xs.length))⟩) (e2':=⟨U,v2+1,.vec 1 xs⟩) hm Aj AN AA As (L1':={L with dy:=dy}) (L2':=L2') rfl rfl (ack _) (by rw[Bq.1];omega)
      (λ_=>rfl) (λhh=>by rw[Bq.1]at hh;omega) AI Bq.1 (λb E=>.inl (by
       rcases E with E|E
       ·exact .inl E
       ·exact .inr (B5 b E))) (λb E=>.inl (.inr (by rw[B4,CK b E.1 E.2];simp))) (λb BM BX=>by
       have CL:=CK b BX.1 BX.2;rcases BM with ⟨_,BM⟩|BM
       ·exact (AH b (by rw[B4,CL];simp)).2 BM.symm
       ·exact Cp b CL BM) (λφ' F' hle f1 f2 A0=>⟨B6 φ' F' hle f2 A0,Cq φ' F' hle A0⟩)
     exact⟨φ',I.Bk AS Z,Z⟩
    cases o with
    |none=>
     obtain⟨rfl,b,AD⟩:=CJ;exact base ⟨v2+1,0,1,0,0,[]⟩ _ ⟨rfl,rfl⟩ AD (λφ' F' AX=>.vec U _ 0 0 _ _ AX (ack _) (λ_=>⟨_,_,rfl,by simp,λh=>by omega⟩) rfl) (λb E=>by simp at E) (λφ' F' hle A0=>⟨rfl,by simp,by simp,λM=>by simp at M⟩)
    |some b=>
     obtain⟨row,Cr,off,cap,q1,q2,q3,Dh,Cs,Ct,CM⟩:=CJ;refine base ⟨v2+1,b,1,row.size-off,off,[]⟩ _ ⟨rfl,rfl⟩ q1 (λφ' F' AX=>.vec U _ 0 _ _ _ AX (ack _) (λ_=>⟨_,cap,rfl,q3,λh=>⟨by simp,by simp only;omega⟩⟩) rfl) (λDi _ E=>by simp only at E;rw[E]) (λφ' F' hle A0=>?_);refine⟨rfl,by simp only;omega,λd V=>?_,λM=>⟨row,Cr,Cs,by simp only;omega,Ct,λi d hi=>?_⟩⟩
     ·obtain⟨i,hi⟩:=apn V;exact (CM i d hi).1
     ·obtain⟨_,u,hu,A5⟩:=CM i d hi;exact⟨u,hu.mono (λ_ _ _=>rfl) (ack _) (λb _=>A0 b),A5⟩
  ·exact eY.refl S
 ·exact eY.refl S
theorem ZR(S:St)(k AR:Nat):eY S (S.cls k AR):=by
 unfold St.cls;split
 ·rename_i key v aj Dj v3 len U v2 xs A' Aa;split
  ·exact eY.refl S
  ·rename_i AN;split
   ·rename_i Cu;obtain⟨rfl,rfl,rfl⟩:=Cu;refine⟨rfl,rfl,λφ G a w I=>?_⟩;obtain⟨hm,A2,L,AA,AI,AZ⟩:=I.mem.get A';obtain⟨Aj,AE,AU,As,B1,Cv⟩:=I.mem.get Aa;simp only at A2 AI AE B1;subst A2;subst AE;obtain⟨⟨AC,H,J⟩,O,AH,Ac⟩:mj φ w (Fo G φ S.mem) L aj (some (.vec U v3 0 xs.length)):=AZ;simp only[Option.toList_some,af0]at H;obtain⟨arr,elem,g1,g2,g3,g4,g5⟩:=Ac (by omega);obtain⟨y,Cw,Cx⟩:=g5 _ rfl;obtain⟨z0,Dk,z2,z3⟩:=Cv;have Bt:∀b,0<AU.cap->AU.en=b->(L.en=b\/some b∈L.dy)->False:=by
     intro b M E hh;refine AN (I.mem.apart _ hm _ Aj L AU AA As ⟨b,?_,⟨M,E⟩⟩);rcases hh with hh|hh
     ·exact .inl ⟨by omega,hh⟩
     ·exact .inr hh
    have base:∀(o:Option Nat),(∀b,o=some b->0<AU.cap/\AU.en=b)->(∀F':Nat->Prop,(∀b,F' b->Fo G φ S.mem b)->Bh w F' (some y) xs o)->
     ∃φ',Rel φ' G {S with mem:=Mem.set (Mem.set S.mem ⟨key,v,.vv (aj++[xs]) none⟩) ⟨U,v3+1,.dead⟩} a w/\aZ φ S.mem w φ' (Mem.set (Mem.set S.mem ⟨key,v,.vv (aj++[xs]) none⟩) ⟨U,v3+1,.dead⟩) w:=by
     intro o A3 Cy;have CN:∀(i b:Nat),(L.dy++[o])[i]?=some (some b)->(L.dy[i]?=some (some b)/\i<L.dy.length)\/(i=L.dy.length/\o=some b):=by
      intro i b hi;rcases Nat.lt_trichotomy i L.dy.length with Av|heq|Dl
      ·rw[acB Av]at hi;exact .inl ⟨hi,Av⟩
      ·subst heq;simp at hi;exact .inr ⟨rfl,hi⟩
      ·rw[acG (by omega)]at hi;have:i-L.dy.length=(i-L.dy.length-1)+1:=by omega
       rw[this]at hi;simp at hi
     have B6:∀(φ':cd)(F':Nat->Prop),(∀b,F' b->Fo G φ S.mem b)->eV φ' w F' {L with dy:=L.dy++[o]} (.vv (aj++[xs]) none):=by
      intro φ' F' A0;refine⟨⟨AC,by simp;omega,by simp[J]⟩,λi j b hi A5=>?_,λb E=>?_,λ_=>⟨arr,elem,g1,g2,g3,λi Br Bs hi BO=>?_,λy AF=>by cases AF⟩⟩
      ·rcases CN i b hi with ⟨AW,Aw⟩|⟨Cz,AW⟩<;>rcases CN j b A5 with ⟨B7,Ao⟩|⟨D',B7⟩
       ·exact O i j b AW B7
       ·exact (Bt b (A3 b B7).1 (A3 b B7).2 (.inr (acu AW))).elim
       ·exact (Bt b (A3 b AW).1 (A3 b AW).2 (.inr (acu B7))).elim
       ·rw[Cz,D']
      ·simp only[acC,List.mem_singleton]at E;refine⟨by simp only;omega,?_⟩;rcases E with E|E
       ·exact (AH b E).2
       ·exact λhh=>Bt b (A3 b E.symm).1 (A3 b E.symm).2 (.inl hh.symm)
      ·rcases Nat.lt_or_ge i aj.length with Av|Dm
       ·rw[acB Av]at hi;rw[acB (by omega)]at BO;exact (g4 i Br Bs hi BO).mono (λd u _ hu=>hu.mono (λ_ _ _=>rfl) (ack _) (λb _=>A0 b)) (λ_ _=>rfl)
       ·have D0:i=aj.length:=by have:=(ace.1 hi).1;simp at this;omega
        subst D0;simp at hi;subst hi;rw[<-J]at BO;simp at BO;subst BO;simp only
        rw[Cw];exact Cy F' A0
     obtain⟨φ',AS,Z⟩:=I.mem.ZO (e1':=⟨key,v,.vv (aj++[xs]) none⟩) (e2':=⟨U,v3+1,.dead⟩) hm Aj AN AA As (L1':={L with dy:=L.dy++[o]}) (L2':={AU with aq:=v3+1}) rfl rfl (ack _) (by simp only;omega)
      (λ_=>rfl) (λhh=>by simp only at hh;omega) AI rfl (λb E=>by
       rcases E with E|E
       ·exact .inl (.inl E)
       ·simp only[acC,List.mem_singleton]at E;rcases E with E|E
        ·exact .inl (.inr E)
        ·exact .inr (A3 b E.symm)) (λb E=>E.elim) (λb _ BX=>BX) (λφ' F' hle f1 f2 A0=>⟨B6 φ' F' A0,trivial⟩)
     exact⟨φ',I.Bk AS Z,Z⟩
    cases Cx with
    |vec _ _ _ _ _ L' An Dn AL B6=>
     rw[As]at An;cases An;obtain⟨D1,cap,rfl,D2,D3⟩:=AL B1.symm;by_cases CO:0<cap
     ·obtain⟨rfl,B8⟩:=D3 CO;obtain⟨D4,D5,t1,t2,t3,t4⟩:=z3 (by omega);refine base (some AU.en) (λb E=>by cases E;exact⟨by omega,rfl⟩) (λF' A0=>⟨D4,D5,AU.base,cap,by simp,CO,D2,by rw[t2,z0];omega,t1,t3,λi d V=>?_⟩);obtain⟨u,hu,A5⟩:=t4 i d V;rw[z0]at A5;exact⟨by rw[z2 d (acu V),z0],u,hu.mono (λ_ _ _=>rfl) (ack _) (λb _=>A0 b),A5⟩
     ·have CP:xs=[]:=List.length_eq_zero_iff.1 (by omega);have D6:cap=0:=by omega
      subst D6;refine base none (λb E=>by cases E) (λF' A0=>⟨CP,D1,by rw[CP];rfl⟩)
   ·exact eY.refl S
 ·exact eY.refl S
theorem V4(S:St)(k:Nat):eY S (S.shut k):=by
 unfold St.shut;split
 ·rename_i key v aj y A';refine⟨rfl,rfl,λφ G a w I=>?_⟩;obtain⟨hm,A2,L,AA,AI,AZ⟩:=I.mem.get A';simp only at A2 AI;subst A2;obtain⟨φ',AS,Z,_,_⟩:=I.mem.dJ (e':=⟨key,v,.vv aj none⟩) hm AA rfl (L':=L) (ack _) (λ_=>rfl) AI
   (w':=w) (λ_ _ _=>rfl) (ack _) (λ_ A3=>.inl A3) rfl rfl rfl (λφ' AQ Be=>by
    obtain⟨⟨AC,H,J⟩,O,AH,Ac⟩:mj φ w (Fo G φ S.mem) L aj (some y):=AZ;refine⟨⟨AC,by simp at H⊢;omega,J⟩,O,AH,λM=>?_⟩;obtain⟨arr,elem,g1,g2,g3,g4,g5⟩:=Ac M;refine⟨arr,elem,g1,g2,g3,λi xs o hi A3=>(g4 i xs o hi A3).mono (λd u _ hu=>hu.mono (λ_ _ _=>rfl) (ack _) (λb _ E=>?_)) (λ_ _=>rfl),λy AF=>by cases AF⟩;rcases E with E|⟨x,AB,Bg,A_,BF⟩
    ·exact .inl E
    ·right;rcases (Mem.mem_set I.mem.nodup).1 AB with ⟨rfl,_⟩|⟨Bj,Bl⟩
     ·simp only[AQ,adZ]at A_;cases A_;exact⟨_,hm,L,AA,BF⟩
     ·simp only[AQ,Bl,adY]at A_;exact⟨x,Bj,Bg,A_,BF⟩)
  exact⟨φ',I.Bk AS Z,Z⟩
 ·exact eY.refl S
theorem OS(S:St)(Ai j k:Nat):eY S (S.tT Ai j k):=by
 unfold St.tT;split
 ·rename_i key BB cs U v cont Bd A';split
  ·rename_i A5;split
   ·exact eY.refl S
   ·rename_i AN;refine⟨rfl,rfl,λφ G a w I=>?_⟩;obtain⟨BR,BC,BD,BS,BE,Bf⟩:=I.mem.get Bd;obtain⟨hm,A2,L,AA,AI,AZ⟩:=I.mem.get A';simp only at BC BE A2 AI;subst BC;subst A2;have B6:∀(φ':cd)(F':Nat->Prop),φ.le φ'->φ' U=some ⟨v+1,0,1,0,0,[]⟩->(∀b,F' b->Fo G φ S.mem b)->eV φ' w F' BD (.box (cs.set j (.vec U (v+1) 0 0))):=by
     intro φ' F' hle f2 A0;obtain⟨g0,arr,elem,g1,g2,g3,g4⟩:=Bf;refine⟨by simpa using g0,arr,elem,g1,by simp[g2],g3,λi c u M hu=>?_⟩;rw[List.getElem?_set]at M;split at M
     ·rename_i Ak;subst Ak;split at M
      ·cases M;have:=g4 j _ u A5 hu;cases this;exact .vec U (v+1) 0 0 _ _ f2 (ack _) (λ_=>⟨_,_,rfl,by simp,λh=>by omega⟩) rfl
      ·cases M
     ·exact (g4 i c u M hu).mono hle (λ_ _ _=>rfl) (ack _) (λb _=>A0 b)
    obtain⟨φ',AS,Z⟩:=I.mem.ZO (e1':=⟨key,BB,.box (cs.set j (.vec U (v+1) 0 0))⟩) (e2':=⟨U,v+1,.vv [] none⟩) BR hm AN BS AA (L1':=BD) (L2':=⟨v+1,0,1,0,0,[]⟩) rfl rfl (ack _) (by simp only;omega)
     (λ_=>rfl) (λhh=>by simp only at hh;omega) BE rfl (λb E=>.inl E) (λb E=>by
      rcases E with ⟨E,_⟩|E
      ·simp at E
      ·simp at E) (λb _ E=>by
      rcases E with ⟨E,_⟩|E
      ·simp at E
      ·simp at E) (λφ' F' hle f1 f2 A0=>⟨B6 φ' F' hle f2 A0,⟨⟨rfl,by simp,rfl⟩,λi j b hi=>by simp at hi,λb E=>by simp at E,λM=>by simp at M⟩⟩)
    exact⟨φ',I.Bk AS Z,Z⟩
  ·exact eY.refl S
 ·exact eY.refl S
theorem aev(S:St)(g:Gh):eY S (g.go S):=by
 cases g with
 |trim k=>exact Ga S k
 |freeze k=>exact OL S k
 |o8 Ai j k sz=>exact SM S Ai j k sz
 |zZ k AR=>exact SN S k AR
 |fS k AR=>exact ZQ S k AR
 |cls k AR=>exact ZR S k AR
 |shut k=>exact V4 S k
 |tT Ai j k=>exact OS S Ai j k
theorem EY:∀(l:List Gh)(S:St),eY S (I7 S l)
 |[],S=>eY.refl S
 |g::r,S=>(aev S g).trans (EY r _)
theorem u5(X:Ctx)(f:FuncId)(id:Nat)(S:St):eY S (S.leave X f id):=(Sl S _).trans (EY _ _)
def fA(X:Ctx)(f:FuncId)(n:Nat):Code->Bool
 | .region id ops draw=>lB n ops.toList&&(!draw||EI ops.toList (X.od f id))
 | .seq a b=>fA X f n a&&fA X f n b
 | .cond _ a b=>fA X f n a&&fA X f n b
 | .block _ c=>fA X f n c
 | .loop c=>fA X f n c
 |_=>true
structure lH(X:Ctx):Prop where
 ov:X.ov=none
 names:∀(g:FuncId)(fn:Func),X.P.funcs[g]?=some fn->fn.name≠ "runtime.NumGoroutine"
 ZS:∀(g:FuncId)(fn:Func)(c:Code),X.P.funcs[g]?=some fn->fn.body=some c->fA X g fn.ntmps c=true
 mixed:X.P.follows .mixedOrders=true
 Ea:∀(g:FuncId)(h:List AV->Option AV),X.Ea g=some h->iP X.P g=true/\∀(Bu:List AV)(a:AV),h Bu=some a->∀(φ:cd)(F:Nat->Prop)(w:World)(vs:Array Value),fL w F X.gl->(∀b,F b->b<w.heap.size)->Bu.length=vs.size->
  (∀(i:Nat) x v,Bu[i]?=some x->vs[i]?=some v->aG φ w F x v)->Calls X.P g vs w λe w'=>∃v,e=.returned v/\Go.RowKit.Below w.heap.size w w'/\aG φ w' F a v
theorem px.is{n:Nat}{φ:cd}{G:Fr}{m:Mem}{w:World}{e:XE}{T:St}{e':Exit}{Y:Act}{w':World}(h:px n φ G m w (Is e T) e' Y w'):
 ∃φ',T.n=n/\Rel φ' G T Y w'/\aZ φ m w φ' T.mem w'/\(match e' with
  | .normal=>e=.normal
  | .exit id=>e=.exit id
  | .ret=>e=.ret
  | .panic chain=>∃t x v,e=.panic t x/\chain=[{v:=.iface t v,recovered:=false}]/\aQ w' (Fo G φ' T.mem) x v
  |_=>False):=by
 cases e' with
 |normal=>obtain⟨φ',A4,A1,⟨H,rfl⟩,J,O⟩:=h;exact⟨φ',A1,J,O,H.symm⟩
 |exit id=>obtain⟨φ',A4,A1,⟨H,rfl⟩,J,O⟩:=h;exact⟨φ',A1,J,O,H.symm⟩
 |ret=>obtain⟨φ',A4,A1,⟨H,rfl⟩,J,O⟩:=h;exact⟨φ',A1,J,O,H.symm⟩
 |panic chain=>obtain⟨φ',A4,t,x,v,M,V,A1,⟨H,rfl⟩,J,O⟩:=h;exact⟨φ',A1,J,O,t,x,v,H.symm,M,V⟩
 |_=>exact h.elim
section
variable {X:Ctx} {Ax:bP} {f:FuncId} {n:Nat}
theorem Mf{P:Program}{S:St}{e:XE}{c:Code}{k:St->St}(A2:∀S,eY S (k S)){r:Option (XE×St)}{T:St}(h:z8 k r=some (e,T))
 (I:∀A6 S1,r=some (A6,S1)->S1.n=S.n/\S1.gl=S.gl/\qv P c S (Is A6 S1)):T.n=S.n/\T.gl=S.gl/\qv P c S (Is e T):=by
 unfold z8 at h;split at h
 ·rename_i S1;cases h;obtain⟨H,J,O⟩:=I _ _ rfl;obtain⟨t1,t2,t3⟩:=A2 S1;refine⟨t1.trans H,t2.trans J,λφ G a w Bv=>wp_mono (O φ G a w Bv) λe' Y w' AK=>?_⟩;obtain⟨φ',A1,A7,Z,he⟩:=AK.is;cases e' with
  |normal=>
   obtain⟨AM,Ay,AE⟩:=t3 φ' G Y w' A7;exact⟨AM,k S1,t1.trans A1,⟨rfl,rfl⟩,Ay,Z.trans AE⟩
  |exit id=>cases he
  |ret=>cases he
  |panic chain=>obtain⟨t,x,v,AH,_⟩:=he;cases AH
  |_=>exact he.elim
 ·exact I _ _ h
theorem aew{P:Program}{Az:Mem->Prop}{all:List Oper}{ops:List Oper}{S:St}{ps:List bf}{S1:St}(h:Cert P Az all ops S ps S1):S1.n=S.n/\S1.gl=S.gl:=by
 induction h with
 |nil S=>exact⟨rfl,rfl⟩
 |cons o rest S p ps S1 _ _ _ _ ih=>exact⟨ih.1.trans (xf ..),ih.2.trans (tP ..)⟩
theorem Mg{P:Program}{Az:Mem->Prop}{all:List Oper}:∀{ops:List Oper}{S:St}{ps:List bf}{S1:St},Cert P Az all ops S ps S1->ps.length=ops.length:=by
 intro ops S ps S1 h;induction h with
 |nil S=>rfl
 |cons o rest S p ps S1 _ _ _ _ ih=>simp[ih]
theorem Ji:∀{es:List dk},H0 es=true->∀e∈es,100<=e.key
 |_::r,h,e,he=>by
  simp only[H0,Ds,acn]at h;rcases aco.1 he with rfl|he
  ·exact h.1
  ·exact Ji h.2 e he
theorem Jj{ps:List bf}:∀{CQ:List Nat},BW ps CQ=true->∀i∈CQ,∀p,ps[i]?=some p->∀e∈p.es,100<=e.key
 |k::r,h,i,hi,p,AK,e,he=>by
  simp only[BW,Ds]at h;rcases aco.1 hi with rfl|hi
  ·have:=h.1;rw[AK]at this;exact Ji this e he
  ·exact Jj h.2 i hi p AK e he
theorem Ci{all:List Oper}{Ad:List (List Nat)}(h:EI all Ad=true){i j:Nat}(Ak:i<j)(A5:j<all.length)(A1:i∉(iN all []).getD j []):(Ad.getD i []).contains j=true/\(Ad.getD j []).contains i=true:=by
 have H:=acI.1 h j (adP.2 A5);unfold BU at H;rw[adK A5]at H;simp only[Ds,acI,agv,adP]at H;rcases H.2 i Ak with J|J
 ·exact absurd (by simpa using J) A1
 ·rw[adK (by omega)]at J;simp only[Ds]at J;exact J.2
theorem SO{P:Program}{S S1:St}{id:Nat}{ops:List Oper}{Ad:List (List Nat)}{ps:List bf}{j N:Nat}{t:TypeId}{x:D}(hm:P.follows .mixedOrders=true)(Ae:EI ops Ad=true)
 (M:lG (TT P ops j (Ad.getD j []) t x N S1) 0 ops S ps) (D7:oy Ad ps=true) (Bw:BW ps (Ad.getD j [])=true) (Bx:S1.env=[]) (Ao:j<ops.length) (D9:N=hY S.mem+hP ps+1):
 S1.n=S.n/\S1.gl=S.gl/\∀{φ:cd}{G:Fr}{a:Act}{w:World},Rel φ G S a w->∀{Q:Exit->Act->World->Prop},
 (∀φ' Y w' v,Rel φ' G S1 Y w'->aZ φ S.mem w φ' S1.mem w'->aQ w' (Fo G φ' S1.mem) x v->Q (.panic [{v:=.iface t v,recovered:=false}]) Y w')->(Code.region id ops.toArray true).wp P Q a w:=by
 have BY:=M.len;have By:=lG.at (ps:=ps) (S0:=S) M [] [] rfl rfl rfl rfl rfl;have AP:=VK Ae D7 BY;obtain⟨Bz,CS⟩:∃Bz,ops[j]?=some Bz:=⟨ops[j],by simp[Ao]⟩;obtain⟨C',CT⟩:∃C',ps[j]?=some C':=⟨ps[j]'(by omega),by simp[show j<ps.length by omega]⟩
 obtain⟨DA,AJ,A8,AT⟩:=(By j Bz C' (by simp) CS CT).2.2 rfl;rw[p7]at AJ;rw[ot]at A8;refine⟨AJ,A8,λ{φ G a w} I {Q} C0=>wp_region_any hm ?_⟩;have DB:∀(i:Nat)(p:bf),ps[i]?=some p->∀e∈p.es,e.key∈p.ks:=λi p AK=>by
  have Aw:i<ps.length:=(ace.1 AK).1;exact (By i (ops[i]'(by omega)) p (by simp) (by simp[show i<ops.length by omega]) AK).1
 have DC:Rel φ G S a {w with drawn:=w.drawn+1}:=I.grow (λ_ _=>rfl) (ack _);have CU:(jE ops.length λi=>(Array.replicate ops.length false).getD i false)=[]:=by
  rw[jE,ahk];intro i hi;simp[acH,adP.1 hi]
 refine VM (S0:=S) (S1:=S1) (φ0:=φ) (w0:=w) (G:=G) (j:=j) BY AP I.mem.nodup DB ?_ CS CT DA ?_ AJ A8 Bx (by rw[AT,D9];rfl) (λφ' Y w' v A7 Z AD=>C0 φ' Y w' v A7 Z AD) _ _ φ a _ (by simp) ?_ ?_ ?_ ?_ ?_
 ·intro i o p A3 AK Ak C1;have Aw:i<ops.length:=(ace.1 A3).1;refine (By i o p (by simp) A3 AK).2.1 Ak ?_;rcases Nat.lt_or_ge i j with h|h
  ·exact .inl h
  ·exact .inr (Ci Ae (by omega) Aw C1).1
 ·intro i p AK Ak hi C1 e he;have Aw:i<ops.length:=by have:=(ace.1 AK).1;omega
  have B5:(Ad.getD j []).contains i=true:=by
   rcases Nat.lt_or_ge i j with h|h
   ·exact (Ci Ae h Ao hi).2
   ·exact (Ci Ae (by omega) Aw C1).1
  exact Jj Bw i (by simpa using B5) p AK e he
 ·intro j o _ A5;exfalso;simp only[acH]at A5;by_cases h:j<ops.length
  ·simp[h]at A5
  ·simp[h]at A5
 ·simp only[acH];simp[Ao]
 ·simp only[afZ];rw[CU];exact DC
 ·simp only[afZ];rw[CU];exact aZ.grow (λ_ _=>rfl) (ack _) rfl rfl rfl
 ·simp only[afZ];exact agQ (List.length_filter_le _ _) (by simp)
theorem Mh(Ap:lH X)(B8:kM X Ax):∀(c:Code)(S:St)(e:XE)(T:St),den X f Ax n c S=some (e,T)->S.gl=X.gl->fA X f S.n c=true->
 T.n=S.n/\T.gl=S.gl/\qv X.P c S (Is e T):=by
 intro c;induction c with
 |skip=>
  intro S e T h A9 V;simp only[den,acE,adJ]at h;obtain⟨rfl,rfl⟩:=h;exact⟨rfl,rfl,Zv ⟨rfl,rfl⟩⟩
 |region id ops draw=>
  intro S e T h A9 V;simp only[den]at h;simp only[fA,Ds]at V;cases draw with
  |false=>
   refine Mf (u5 X f id) h (λA6 S1 H=>?_);obtain⟨J,O,AH⟩:=Cc B8 ops.toList S A6 S1 H A9 V.1;exact⟨J,O,λφ G a w I=>wp_region_lit (AH φ G a w I _ (λ_ _ _ h=>h))⟩
  |true=>
   refine Mf (u5 X f id) h (λA6 S1 H=>?_);have Ae:EI ops.toList (X.od f id)=true:=by simpa using V.2
   have key:(∃Az:Mem->Prop,Az S.mem/\A6=.normal/\∃ps A4,Cert X.P Az ops.toList ops.toList S ps A4/\iO S1 A4/\oy (X.od f id) ps=true)\/
    (S1.n=S.n/\S1.gl=S.gl/\∀φ G a w,Rel φ G S a w->∀Q:Exit->Act->World->Prop,(A6=.normal->∀φ' Y w',Rel φ' G S1 Y w'->aZ φ S.mem w φ' S1.mem w'->Q .normal Y w')->
     (∀t x,A6=.panic t x->∀φ' Y w' v,Rel φ' G S1 Y w'->aZ φ S.mem w φ' S1.mem w'->aQ w' (Fo G φ' S1.mem) x v->Q (.panic [{v:=.iface t v,recovered:=false}]) Y w')->(Code.region id ops true).wp X.P Q a w)/\(A6=.normal\/∃t x,A6=.panic t x):=by
    cases CV:X.fl f id with
    |nil=>
     rw[CV]at H;simp only[v7]at H;rcases Ec B8 ops.toList S [] A6 S1 H A9 V.1 with ⟨he,ps,A4,M,heq,AP⟩|⟨t,x,j,ps,he,B7,DD,M,AP,Bw,Bx⟩
     ·exact .inl ⟨_,trivial,he,ps,A4,M,heq,by simpa using AP⟩
     ·right;obtain⟨J,O,AH⟩:=SO (id:=id) Ap.mixed Ae M (by simpa using AP) (by simpa using Bw) Bx (by simpa using DD) rfl;exact⟨⟨J,O,λφ G a w I Q _ C0=>AH I (λφ' Y w' v Ac DE DF=>C0 t x he φ' Y w' v Ac DE DF)⟩,.inr ⟨t,x,he⟩⟩
    |cons q r=>
     rw[CV]at H;simp only[v7]at H;cases BZ:gv S.mem (q::r)with
     |none=>rw[BZ]at H;cases H
     |some Do=>
      rw[BZ]at H;simp only[SG]at H;rcases Jh B8 ops.toList S [] A6 S1 (by simp) H A9 V.1 with ⟨he,ps,A4,M,heq,AP⟩|⟨init,ol,ps,A4,CW,M,A1,AP,J,O,AH,Ac⟩
      ·exact .inl ⟨_,Af BZ,he,ps,A4,M,heq,by simpa using AP⟩
      ·obtain⟨C2,Aa⟩:=aew M;refine .inr ⟨⟨J.trans C2,O.trans Aa,λφ G a w I Q DG DH=>?_⟩,AH⟩;have BY:ps.length+1=ops.toList.length:=by
        have:=Mg M;rw[CW];simp[this]
       refine OP (ops:=ops.toList) CW (D8 Ae A1) (Af BZ) Ap.mixed M (ZN Ae BY A1 (by simpa using AP)) I (λφ' Y w' A7 Z next DI=>?_);exact Ac φ' G Y w' A7 next Q (λhe AM a2 B_ Ay AE=>DI a2 B_ (DG he AM a2 B_ Ay (Z.trans AE))) (λt x he AM a2 B_ v Ay AE AD=>DH t x he AM a2 B_ v Ay (Z.trans AE) AD)
   rcases key with ⟨Az,DJ,rfl,ps,A4,M,heq,AP⟩|⟨⟨AJ,A8,DK⟩,_⟩;rotate_left
   ·exact⟨AJ,A8,λφ G a w I=>DK φ G a w I _ (λhe φ' Y w' A7 Z=>⟨φ',S1,AJ,⟨he.symm,rfl⟩,A7,Z⟩) (λt x he φ' Y w' v A7 Z AD=>⟨φ',S1,t,x,v,rfl,AD,AJ,⟨he.symm,rfl⟩,A7,Z⟩)⟩
   obtain⟨AJ,A8⟩:=agz M;have AP:=VK Ae AP (Mg M);refine⟨heq.n.trans AJ,heq.gl.trans A8,λφ G a w I=>?_⟩;exact OO (ops:=ops.toList) DJ Ap.mixed M AP I (λφ' Y w' A7 Z=>⟨φ',S1,heq.n.trans AJ,⟨rfl,rfl⟩,A7.eqv heq.symm,by rw[heq.mem];exact Z⟩)
 |seq a b Ba C3=>
  intro S e T h A9 V;simp only[fA,Ds]at V;simp only[den]at h;rcases iQ h with ⟨S1,H,J⟩|⟨H,J⟩
  ·obtain⟨AJ,A8,C4⟩:=Ba S _ S1 H A9 V.1;obtain⟨C2,Aa,DL⟩:=C3 S1 e T J (A8.trans A9) (by rw[AJ];exact V.2);refine⟨C2.trans AJ,Aa.trans A8,Ps (C4.mono λA6 A4 AL=>?_)⟩;obtain⟨rfl,rfl⟩:=AL;exact DL
  ·obtain⟨AJ,A8,C4⟩:=Ba S _ T H A9 V.1;refine⟨AJ,A8,Ps (C4.mono λA6 A4 AL=>?_)⟩;obtain⟨rfl,rfl⟩:=AL;cases A6 with
   |normal=>exact absurd rfl J
   |_=>exact⟨rfl,rfl⟩
 |cond c a b Ba C3=>
  intro S e T h A9 V;simp only[fA,Ds]at V;simp only[den]at h;cases M:S.ar c with
  |mk g y=>
   rw[M]at h;unfold Gt at h;split at h
   ·rename_i t heq;cases heq;cases t with
    |true=>
     obtain⟨H,J,O⟩:=Ba S e T (by simpa using h) A9 V.1;exact⟨H,J,Lq M (λ_=>O) (λAX=>by cases AX)⟩
    |false=>
     obtain⟨H,J,O⟩:=C3 S e T (by simpa using h) A9 V.2;exact⟨H,J,Lq M (λAX=>by cases AX) (λ_=>O)⟩
   ·cases h
 |block id c ih=>
  intro S e T h A9 V;simp only[den]at h;unfold Gs at h;split at h
  ·rename_i C5 S1 H;obtain⟨A1,A',AY⟩:=ih S _ S1 H A9 V;split at h
   ·rename_i hid;cases h;refine⟨A1,A',BG (AY.mono λA6 A4 AL=>?_)⟩;obtain⟨rfl,rfl⟩:=AL;simp only[hid,adZ];exact⟨rfl,rfl⟩
   ·rename_i hid;cases h;refine⟨A1,A',BG (AY.mono λA6 A4 AL=>?_)⟩;obtain⟨rfl,rfl⟩:=AL;simp only[hid,adY];exact⟨rfl,rfl⟩
  ·rename_i AN;obtain⟨A1,A',AY⟩:=ih S _ T h A9 V;refine⟨A1,A',BG (AY.mono λA6 A4 AL=>?_)⟩;obtain⟨rfl,rfl⟩:=AL;cases A6 with
   |exit C5=>exact absurd h (AN C5 A4)
   |_=>exact⟨rfl,rfl⟩
 |loop c ih=>
  intro S e T h A9 V;simp only[den]at h;simp only[fA]at V;have B5:∀(k:Nat)(S1:St),iter (den X f Ax n c) k S1=some (e,T)->S1.gl=X.gl->fA X f S1.n c=true->T.n=S1.n/\T.gl=S1.gl:=by
   intro k;induction k with
   |zero=>intro S1 H;cases H
   |succ k DM=>
    intro S1 H A8 Aq;simp only[iter]at H;rcases iQ H with ⟨A4,J,O⟩|⟨J,O⟩
    ·obtain⟨B',a2,_⟩:=ih S1 _ A4 J A8 Aq;obtain⟨DN,DO⟩:=DM A4 O (a2.trans A8) (by rw[B'];exact Aq);exact⟨DN.trans B',DO.trans a2⟩
    ·obtain⟨B',a2,_⟩:=ih S1 _ T J A8 Aq;exact⟨B',a2⟩
  obtain⟨A1,A'⟩:=B5 n S h A9 V;refine⟨A1,A',?_⟩;refine Zx (α:=Nat×St) (λx=>x.2) (λx=>iter (den X f Ax n c) x.1 x.2=some (e,T)/\x.2.gl=X.gl/\fA X f x.2.n c=true) (λx=>x.1) (n,S) rfl ⟨h,A9,V⟩ ?_;rintro ⟨k,S1⟩ ⟨H,A8,Aq⟩;simp only at H A8 Aq⊢;cases k with
  |zero=>cases H
  |succ k=>
   simp only[iter]at H;rcases iQ H with ⟨A4,J,O⟩|⟨J,O⟩
   ·obtain⟨B',a2,AY⟩:=ih S1 _ A4 J A8 Aq;refine AY.mono λA6 CX AL=>?_;obtain⟨rfl,rfl⟩:=AL;exact⟨(k,CX),rfl,⟨O,a2.trans A8,by rw[B'];exact Aq⟩,Nat.lt_succ_self k⟩
   ·obtain⟨B',a2,AY⟩:=ih S1 _ T J A8 Aq;refine AY.mono λA6 CX AL=>?_;obtain⟨rfl,rfl⟩:=AL;cases A6 with
    |normal=>exact absurd rfl O
    |_=>exact⟨rfl,rfl⟩
 |exit id=>
  intro S e T h A9 V;simp only[den,acE,adJ]at h;obtain⟨rfl,rfl⟩:=h;obtain⟨t1,t2,t3⟩:=EY (X.gh f (id+1000000)) S;refine⟨t1,t2,λφ G a w Bv=>wp_mono ((Zw (Q:=Is (.exit id) S) ⟨rfl,rfl⟩:qv X.P (.exit id) S (Is (.exit id) S)) φ G a w Bv) λe' Y w' AK=>?_⟩;obtain⟨φ',A1,A7,Z,he⟩:=AK.is;cases e' with
  |exit C5=>
   cases he;obtain⟨AM,Ay,AE⟩:=t3 φ' G Y w' A7;exact⟨AM,_,t1.trans A1,⟨rfl,rfl⟩,Ay,Z.trans AE⟩
  |normal=>cases he
  |ret=>cases he
  |panic chain=>obtain⟨t,x,v,AH,_⟩:=he;cases AH
  |_=>exact he.elim
 |ret=>
  intro S e T h A9 V;simp only[den,acE,adJ]at h;obtain⟨rfl,rfl⟩:=h;exact⟨rfl,rfl,aeq ⟨rfl,rfl⟩⟩
 |rangeFunc _ _ _ _=>intro S e T h;simp[den]at h
 |scope _ _=>intro S e T h;simp[den]at h
 |label _=>intro S e T h;simp[den]at h
 |goto _=>intro S e T h;simp[den]at h
 |refuse _=>intro S e T h;simp[den]at h
theorem EZ:∀(cs:List aJ)(i:Nat),(eI i cs).map (·.key)=List.range' i cs.length
 |[],i=>rfl
 |c::r,i=>by simp[eI,EZ r,ai0]
theorem H6:∀(cs:List aJ)(i:Nat)(e:dk),e∈eI i cs->e.aq=0
 |[],i,e,he=>by simp[eI]at he
 |c::r,i,e,he=>by
  simp only[eI,aco]at he;rcases he with rfl|he
  ·rfl
  ·exact H6 r (i+1) e he
theorem bz.dv{φ:cd}{G:Fr}{m:Mem}{w:World}(h:bz φ G m w)(dv:List Deferred):bz φ ⟨G.g,dv⟩ m w:=
 ⟨h.nodup,h.rR,h.gv,h.apart,h.ml,h.bound⟩
theorem Ev.dv{P:Program}{gl f args m K}(h:∀φ G w (vs:Array Value),G.dv=[]->bz φ G m w->fL w (Fo G φ m) gl->args.length=vs.size->(∀(i:Nat) x v,args[i]?=some x->vs[i]?=some v->aG φ w (Fo G φ m) x v)->
 Calls P f vs w λe w'=>∃φ' m' out,K out m'/\bz φ' G m' w'/\aZ φ m w φ' m' w'/\pI φ' w' (Fo G φ' m') out e):Ev P gl f args m K:=by
 intro φ G w vs hm A' Ar B9;refine (h φ ⟨G.g,[]⟩ w vs rfl (hm.dv []) A' Ar B9).mono ?_;rintro e w' ⟨φ',m',out,H,J,O,AH⟩;exact⟨φ',m',out,H,J.dv G.dv,O,AH⟩
theorem Ah(Ap:lH X)(B8:kM X Ax){fn:Func}{c:Code}{args:List AV}{cs:List aJ}{out:Out}{l:List (Nat×aJ)}(AX:X.P.funcs[f]?=some fn)(E:fn.body=some c)
 (h:s6 X f Ax n fn c args cs=some (out,l)):Ev X.P X.gl f args (eI 0 cs) λo m=>o=out/\m=ej 0 l:=by
 unfold s6 at h;split at h
 ·rename_i M;simp only[Ds,acn,acI]at M;obtain⟨⟨⟨Dp,Dq⟩,DP⟩,DQ⟩:=M;refine Ev.dv ?_;intro φ G w vs BP hm DR DS Au;have BH:∀k,k∈(eI 0 cs).map (·.key)↔k<cs.length:=λk=>by rw[EZ];simp
  have C6:∀k∈(X.fp f).sites,k∉(eI 0 cs).map (·.key):=by
   intro k A2 DT;have H:=DP k A2;have J:=(BH k).1 DT;omega
  have CY:∀k L,φ k=some L->k<cs.length/\L.aq=0:=λk L AA=>by
   have A2:=hm.rR k L AA;obtain⟨e,he,rfl⟩:=acF.1 A2;obtain⟨L',An,AI,_⟩:=hm.gv e he;rw[AA]at An;cases An;exact⟨(BH _).1 A2,by rw[AI];exact H6 cs 0 e he⟩
  have DU:=hm.add DQ C6;have C7:aZ φ (eI 0 cs) w (φ.add (X.fp f).sites) (eI 0 cs++(X.fp f).sites.map dead) w:=⟨LA hm C6,λ_ _ _=>rfl,λb _ A3=>(Da C6 b).1 A3,ack _,rfl,rfl,rfl⟩;refine calls_of_wp AX E ?_;obtain⟨S0,BQ⟩:∃S0,S0=entry fn.ntmps X.gl args cs (X.fp f).sites:=⟨_,rfl⟩;have I:Rel (φ.add (X.fp f).sites) G S0 {tmps:=vs++Array.replicate (fn.ntmps-vs.size) undef,defers:=[]} w:=by
   rw[BQ];refine⟨by simp[entry];omega,BP.symm,λt x AB=>?_,DU,?_⟩
   ·obtain⟨j,rfl,A5⟩:=zT 0 args t _ AB;have Ao:j<vs.size:=by rw[<-DS];exact (ace.1 A5).1
    have e:(vs++Array.replicate (fn.ntmps-vs.size) undef).getD (0+j) undef=vs[j]:=by
     simp only[aeh,acH];rw[agM Ao];simp[Ao]
    rw[e];exact C7.av (Au j x _ A5 (by simp[Ao]))
   ·exact C7.mm DR
  rw[<-BQ]at h;cases C8:den X f Ax n c S0 with
  |none=>rw[C8]at h;cases h
  |some q=>
   obtain⟨e,T⟩:=q;rw[C8]at h;obtain⟨Dr,Dt,AY⟩:=Mh Ap B8 c S0 e T C8 (by rw[BQ];rfl) (by rw[BQ];exact Ap.ZS f fn c AX E);refine wp_mono (AY _ G _ w I) λe' Y w' AK=>?_;obtain⟨φ',_,A7,Z,he⟩:=AK.is;have CZ:aZ φ (eI 0 cs) w φ' T.mem w':=by
    have:S0.mem=eI 0 cs++(X.fp f).sites.map dead:=by rw[BQ];rfl
    rw[this]at Z;exact C7.trans Z
   have C_:finish X.P (X.fp f) cs.length fn.results.toList T=some (out,l)->
    Y.defers=[]/\∃v,(results fn Y.tmps).run X.P w'=.ok v w'/\∃Bb m' Ca,(Ca=out/\m'=ej 0 l)/\bz Bb G m' w'/\aZ φ (eI 0 cs) w Bb m' w'/\pI Bb w' (Fo G Bb m') Ca (.returned v):=by
    intro BA;unfold finish at BA;split at BA
    ·rename_i DV xs BL;split at BA
     ·rename_i DW;obtain⟨B0,H,J,O⟩:=zQ A7 fn.results.toList DV xs BL DW;obtain⟨AM,Ag,rfl,g1,g2,g3,g4,_⟩:=uX BA A7.mem A7.mm J O CZ CY;have DX:(results fn Y.tmps).run X.P w'=.ok (if h:B0.toArray.size=1 then B0.toArray[0]else .tuple B0.toArray) w':=by
       have e:results fn Y.tmps=(do let vs <-fn.results.mapM (BN Y.tmps);pure (if h:vs.size=1 then vs[0]else .tuple vs)):=by
        unfold results;congr 1
       rw[e,Array.mapM_eq_mapM_toList];simp only[Sem.run_bind,Sem.run_map,H,Result.andThen_ok,Sem.run_pure]
      refine⟨A7.defers.trans BP,_,DX,AM,_,_,⟨rfl,rfl⟩,g1,g2,?_⟩;show aG AM w' _ (oneOf Ag) _;by_cases C9:B0.length=1
      ·obtain⟨v,rfl⟩:∃v,B0=[v]:=by
        cases B0 with
        |nil=>simp at C9
        |cons v r=>exact⟨v,by cases r with|nil=>rfl|cons _ _=>simp at C9⟩
       obtain⟨y,rfl⟩:∃y,Ag=[y]:=by
        cases Ag with
        |nil=>simp at g3
        |cons v r=>exact⟨v,by cases r with|nil=>rfl|cons _ _=>simp at g3⟩
       simpa [oneOf]using g4 0 y v (by simp) (by simp)
      ·have e:oneOf Ag=.bh Ag:=by
        cases Ag with
        |nil=>rfl
        |cons y r=>cases r with|nil=>simp at g3;omega|cons _ _=>rfl
       rw[e,dif_neg (by simpa using C9)];exact .bh Ag B0.toArray (by simpa using g3) (λi y v h CA=>g4 i y v h (by simpa using CA))
     ·cases BA
    ·cases BA
   cases e' with
   |normal=>cases he;exact C_ h
   |ret=>cases he;exact C_ h
   |exit id=>cases he;cases h
   |panic chain=>
    obtain⟨t,x,v,rfl,rfl,V⟩:=he;have CA:so (X.fp f) cs.length T [] (λ_=>.panic t x)=some (out,l):=h;obtain⟨AM,Ag,rfl,g1,g2,_,_,g5⟩:=uX (vs:=[]) CA A7.mem A7.mm rfl (by simp) CZ CY;exact⟨A7.defers.trans BP,AM,_,_,⟨rfl,rfl⟩,g1,g2,v,rfl,V.mono (λ_ _ _=>rfl) (ack _) (λb _=>g5 b)⟩
   |_=>exact he.elim
 ·cases h
theorem Ev.split{P:Program}{gl f r m K}(H:Ev P gl f (.lit (.slice none 0 0)::r) m K)(J:Ev P gl f (.nn::r) m K):Ev P gl f (.d (.list [])::r) m K:=by
 intro φ G w vs hm A' Ar B9;have go:∀y,(∀v,vs[0]?=some v->aG φ w (Fo G φ m) y v)->∀(i:Nat) x v,(y::r)[i]?=some x->vs[i]?=some v->aG φ w (Fo G φ m) x v:=by
  intro y AF i x v AB AD;cases i with
  |zero=>simp at AB;subst AB;exact AF v AD
  |succ i=>exact B9 (i+1) x v (by simpa using AB) AD
 have Cb:0<vs.size:=by rw[<-Ar];simp
 have AC:=B9 0 (.d (.list [])) vs[0] (by simp) (by simp[Cb]);generalize DY:vs[0]=v0 at AC;have CB:vs[0]?=some v0:=by rw[<-DY];simp[Cb]
 cases AC with
 |d _ _ V=>
  cases V with
  |nil a cap A1=>
   cases a with
   |none=>
    have:=A1 rfl;subst this;exact H φ G w vs hm A' (by simpa using Ar) (go _ (λv AD=>by rw[CB]at AD;cases AD;exact .lit _ rfl))
   |some a=>exact J φ G w vs hm A' (by simpa using Ar) (go _ (λv AD=>by rw[CB]at AD;cases AD;exact .nn a cap))
  |list _ b off cap sz Du=>exact J φ G w vs hm A' (by simpa using Ar) (go _ (λv AD=>by rw[CB]at AD;cases AD;exact .nn _ cap))
theorem gM{r:Option (Out×List (Nat×aJ))}{sz:Nat}(h:p8 r=some sz):r=some (.ret (.vec 0 0 0 0),[(0,.vec sz [])]):=by
 unfold p8 at h;split at h
 ·cases h;rfl
 ·cases h
theorem OT{h:List AV->Option AV}{args:List AV}{cs:List aJ}{r:Out×List (Nat×aJ)}(I:yQ h args cs=some r):cs=[]/\∃d,h args=some d/\r=(.ret d,[]):=by
 unfold yQ at I;split at I
 ·split at I
  ·rename_i d V;cases I;exact⟨rfl,d,V,rfl⟩
  ·cases I
 ·cases I
theorem toDs_eq:∀{args:List AV}{Bc:List D},toDs args=some Bc->args=Bc.map .d
 |[],Bc,h=>by
  simp only[toDs,acE]at h;subst h;rfl
 |y::r,Bc,h=>by
  cases I:toDs r with
  |none=>unfold toDs at h;rw[I]at h;cases y<;>cases h
  |some Ag=>
   unfold toDs at h;rw[I]at h;cases y<;>cases h;rw[toDs_eq I];rfl
theorem agR(Ap:lH X){g:FuncId}{h:List AV->Option AV}(A':X.Ea g=some h){args:List AV}{cs:List aJ}{out:Out}{l:List (Nat×aJ)}(I:yQ h args cs=some (out,l)):
 iP X.P g=true/\Ev X.P X.gl g args (eI 0 cs) λo m=>o=out/\m=ej 0 l:=by
 obtain⟨M,DZ⟩:=Ap.Ea g h A';refine⟨M,?_⟩;obtain⟨rfl,d,V,he⟩:=OT I;cases he;intro φ G w vs hm A9 Ar B9;have Cd:∀b,jT φ (eI 0 []) b->False:=by
  rintro b ⟨e,he,_⟩;simp[eI]at he
 refine (DZ args d V φ (Fo G φ (eI 0 [])) w vs A9 (λb E=>E.elim (hm.bound b) λh=>(Cd b h).elim) Ar B9).mono ?_;rintro e w' ⟨v,rfl,E,BP⟩;refine⟨φ,eI 0 [],.ret d,⟨rfl,rfl⟩,⟨hm.nodup,hm.rR,λe he=>by simp[eI]at he,λe he=>by simp[eI]at he,λb E=>(Cd b E).elim,λb D_=>ajd (hm.bound b D_) E.size⟩,⟨cd.le_refl _,λb Av _=>E.block b Av,λb _ A3=>A3,E.size,E.os,E.tape,E.output⟩,?_⟩;exact BP
end
def alI(φ:cd)(w:World)(F:Nat->Prop)(x:DF)(d:Deferred):Prop:=
 ∃A0:Array Value,d.target=.fn (.func x.1) A0/\x.2.length=(d.args++A0).size/\∀(i:Nat) y v,x.2[i]?=some y->(d.args++A0)[i]?=some v->aG φ w F y v
def pM(φ:cd)(w:World)(F:Nat->Prop):List DF->List Deferred->Prop
 |[],[]=>True
 |x::xs,d::E=>alI φ w F x d/\pM φ w F xs E
 |_,_=>False
theorem pM.keeps{φ m w φ' m' w'}{G:Fr}(h:aZ φ m w φ' m' w'):∀{xs:List DF}{E:List Deferred},pM φ w (Fo G φ m) xs E->pM φ' w' (Fo G φ' m') xs E
 |[],[],_=>trivial
 |x::xs,d::E,⟨⟨A0,A8,A5,A6⟩,AA⟩=>⟨⟨A0,A8,A5,λi y v AB A2=>h.av (A6 i y v AB A2)⟩,pM.keeps h AA⟩
 |[],_::_,AP=>AP.elim
 |_::_,[],AP=>AP.elim
def Ai(n:Nat)(φ:cd)(g:Nat->Prop)(m:Mem)(w:World)(e:XE)(D:St)(H:List DF)(e':Exit)(M:Act)(w':World):Prop:=
 ∃φ' A1,D.n=n/\Rel φ' ⟨g,A1⟩ D M w'/\aZ φ m w φ' D.mem w'/\pM φ' w' (Fo ⟨g,A1⟩ φ' D.mem) H A1/\(match e' with
  | .normal=>e=.normal
  | .exit id=>e=.exit id
  | .ret=>e=.ret
  | .panic chain=>∃t x v,e=.panic t x/\chain=[{v:=.iface t v,recovered:=false}]/\aQ w' (Fo ⟨g,A1⟩ φ' D.mem) x v
  |_=>False)
theorem Ai.weaken{n:Nat}{φ AY:cd}{g:Nat->Prop}{m AZ:Mem}{w A_:World}{e D H e' M w'}(h:Ai n AY g AZ A_ e D H e' M w')(Ap:aZ φ m w AY AZ A_):Ai n φ g m w e D H e' M w':=by
 obtain⟨φ',A1,A8,A5,A6,AA,V⟩:=h;exact⟨φ',A1,A8,A5,Ap.trans A6,AA,V⟩
theorem Ml{S:St}{o:Oper}{d:DF}(h:qA S o=some d):o.guard=none/\∃c AC args AK g AF,o.op=.defer c/\c={callee:=.value AC,args,argTypes:=AK}/\S.ar AC=(true,.fn g AF)/\g<uC/\jW S args.toList=true/\d=(g,dL S args.toList++AF):=by
 unfold qA at h;split at h
 ·rename_i AC args AK AQ AR;unfold dfv at h;split at h
  ·rename_i g AF AL;split at h
   ·rename_i AG;cases h;simp only[Ds,acn]at AG;exact⟨AQ,_,AC,args,AK,g,AF,AR,rfl,AL,AG.2,AG.1,rfl⟩
   ·cases h
  ·cases h
 ·cases h
section
variable {X:Ctx} {A3:bP} {f:FuncId} {n:Nat}
theorem Aj{md:Bool}{all:List Oper}(A7:kM X A3):∀(ops:List Oper)(S:St)(E:List DF)(e:XE)(D:St)(H:List DF),gP X A3 md all ops S E=some (e,D,H)->S.gl=X.gl->lB S.n ops=true->
 D.n=S.n/\D.gl=S.gl/\∀φ g dv a w,Rel φ ⟨g,dv⟩ S a w->pM φ w (Fo ⟨g,dv⟩ φ S.mem) E dv->∀Q:Exit->Act->World->Prop,(∀e' M w',Ai S.n φ g S.mem w e D H e' M w'->Q e' M w')->wpList X.P all.toArray Q ops a w
 |[],S,E,e,D,H,h,T,J=>by
  simp only[gP,acE,adJ]at h;obtain⟨rfl,rfl,rfl⟩:=h;exact⟨rfl,rfl,λφ g dv a w I O Q AD=>AD .normal _ _ ⟨φ,dv,rfl,I,aZ.refl ..,O,rfl⟩⟩
 |o::rest,S,E,e,D,H,h,T,J=>by
  simp only[lB,agZ,Ds]at J;obtain⟨Ab,J⟩:=J;have Ac:∀t,o.dst=some t->t<S.n:=λt Aq=>by rw[Aq]at Ab;simpa using Ab
  simp only[gP]at h;cases AS:qA S o with
  |some d=>
   rw[AS]at h;simp only at h;obtain⟨AQ,c,AC,args,AK,g0,AF,AR,Ar,AL,As,AG,rfl⟩:=Ml AS;obtain⟨AH,AI,AT⟩:=Aj A7 rest (S.put o.dst true .bm) _ e D H h ((nt ..).trans T) (by rw[nW];exact J);refine⟨AH.trans (nW ..),AI.trans (nt ..),λφ g dv a w I O Q AD=>?_⟩;have AU:=I.ar AC (by rw[AL]);rw[AL]at AU;generalize At:a.eval AC=B3 at AU;cases AU with
   |uD _ _ A0 Ad Ae=>exact absurd As (Nat.not_lt.2 (akG _ _))
   |fn _ _ A0 B4 Ad Ae=>
    have Au:(execOp a.eval o).run X.P w=.ok (.defer {target:=.fn (.func g0) A0,args:=args.map a.eval}) w:=by
     simp[execOp,AR,Ar,resolve,At,Deferred.ofValue]
    have hw:Region.wanted o (yielded all.toArray a.tmps)=true:=by simp[Region.wanted,AQ]
    unfold wpList;rw[acs hw];left;unfold Oper.wp;rw[Au,Oper.upon_defer];have Av:Rel φ ⟨g,{target:=.fn (.func g0) A0,args:=args.map a.eval}::dv⟩ S {a with defers:={target:=.fn (.func g0) A0,args:=args.map a.eval}::a.defers} w:=
     ⟨I.size,by rw[I.defers],I.env,I.mem.dv _,I.mm⟩
    have AV:=Av.put o.dst Ac true .bm undef (λ_=>.bm _);refine AT φ g _ _ w AV ⟨⟨A0,rfl,?_,?_⟩,?_⟩ Q (λe' a2 AM Y=>AD e' a2 AM ?_)
    ·rw[acm,kB];simp[Ad]
    ·intro i y v AB A2;rw[gz];by_cases hi:i<args.size
     ·rw[acB (by rw[kB];simpa using hi),yo]at AB;rw[agM (by simpa using hi)]at A2;simp only[Array.getElem?_map,acp]at A2;obtain⟨z,Af,rfl⟩:=A2;obtain⟨B5,Ag,rfl⟩:=acp.1 AB;rw[agC,Af]at Ag;cases Ag;exact I.ar z (wW AG z (by simpa using Array.mem_of_getElem? Af))
     ·rw[acG (by rw[kB];simpa using hi),kB]at AB;rw[Array.getElem?_append_right (by simpa using hi)]at A2;simp only[Array.size_map,adN]at AB A2;exact Ae _ _ v AB A2
    ·rw[gz];exact O
    ·rw[nW,gz]at Y;exact Y
  |none=>
   rw[AS]at h;simp only at h;cases AW:pb X A3 md all S o with
   |none=>rw[AW]at h;cases h
   |some p=>
    obtain⟨U,S1⟩:=p;rw[AW]at h;obtain⟨Z,A4,Aw,Ah⟩:=wc A7 T Ac AW;rcases Aw with rfl|⟨t0,B6,rfl⟩
    ·simp only[Ks]at h;obtain⟨AH,AI,AT⟩:=Aj A7 rest S1 E e D H h (A4.trans T) (by rw[Z];exact J);refine⟨AH.trans Z,AI.trans A4,λφ g dv a w I O Q AD=>?_⟩;have:=Ah φ ⟨g,dv⟩ a w I (wpList X.P all.toArray Q rest) Q
      (λ_ φ' M w' AJ A9=>AT φ' g dv M w' AJ (O.keeps A9) Q (λe' a2 AM Y=>AD e' a2 AM (by rw[<-Z];exact Y.weaken A9))) (λt x he=>by cases he)
     unfold wpList;split
     ·rename_i hw;rw[acs hw]at this;exact .inl this
     ·rename_i hw;rw[ach hw]at this;exact this
    ·simp only[Ks,acE,adJ]at h;obtain⟨rfl,rfl,rfl⟩:=h;refine⟨Z,A4,λφ g dv a w I O Q AD=>?_⟩;have:=Ah φ ⟨g,dv⟩ a w I (wpList X.P all.toArray Q rest) Q
      (λhe=>by cases he) (λt x he φ' M w' v AJ A9 A2=>AD (.panic _) M w' ⟨φ',dv,Z,AJ,A9,O.keeps A9,t,x,v,he,rfl,A2⟩)
     unfold wpList;split
     ·rename_i hw;rw[acs hw]at this;exact .inl this
     ·rename_i hw;rw[ach hw]at this;exact this
theorem PB(AN:lH X)(A7:kM X A3){c:Code}{S:St}{E:List DF}{e:XE}{D:St}{H:List DF}(h:Aa E (den X f A3 n c S)=some (e,D,H))(T:S.gl=X.gl)(J:fA X f S.n c=true):
 D.n=S.n/\D.gl=S.gl/\∀φ g dv a w,Rel φ ⟨g,dv⟩ S a w->pM φ w (Fo ⟨g,dv⟩ φ S.mem) E dv->c.wp X.P (Ai S.n φ g S.mem w e D H) a w:=by
 cases A':den X f A3 n c S with
 |none=>rw[A']at h;cases h
 |some p=>
  obtain⟨U,S1⟩:=p;rw[A']at h;simp only[Aa,acE,adJ]at h;obtain⟨rfl,rfl,rfl⟩:=h;obtain⟨A8,A5,A6⟩:=Mh AN A7 c S U S1 A' T J;refine⟨A8,A5,λφ g dv a w I O=>wp_mono (A6 φ ⟨g,dv⟩ a w I) λe' M w' Y=>?_⟩;obtain⟨φ',Ax,AJ,A9,he⟩:=Y.is;exact⟨φ',dv,Ax,AJ,A9,O.keeps A9,by cases e'<;>exact he⟩
theorem aex(AN:lH X)(A7:kM X A3)(c:Code):∀(S:St)(E:List DF)(e:XE)(D:St)(H:List DF),kl X f A3 n c S E=some (e,D,H)->S.gl=X.gl->fA X f S.n c=true->
 D.n=S.n/\D.gl=S.gl/\∀φ g dv a w,Rel φ ⟨g,dv⟩ S a w->pM φ w (Fo ⟨g,dv⟩ φ S.mem) E dv->c.wp X.P (Ai S.n φ g S.mem w e D H) a w:=by
 induction c with
 |seq a b Ay Az=>
  intro S E e D H h T J;simp only[fA,Ds]at J;simp only[kl]at h;cases A':kl X f A3 n a S E with
  |none=>rw[A']at h;cases h
  |some p=>
   obtain⟨U,S1,AE⟩:=p;obtain⟨Z,A4,AO⟩:=Ay S E U S1 AE A' T J.1;have stop:U≠.normal->e=U/\D=S1/\H=AE:=λhe=>by
    rw[A']at h;cases U with
    |normal=>exact absurd rfl he
    |_=>simp only[LS,acE,adJ]at h;exact⟨h.1.symm,h.2.1.symm,h.2.2.symm⟩
   by_cases he:U=.normal
   ·subst he;rw[A']at h;simp only[LS]at h;obtain⟨AH,AI,B'⟩:=Az S1 AE e D H h (A4.trans T) (by rw[Z];exact J.2);refine⟨AH.trans Z,AI.trans A4,λφ g dv ac w I O=>wp_seq (wp_mono (AO φ g dv ac w I O) λe' M w' Y=>?_)⟩;obtain⟨φ',A1,A8,A5,A6,AA,V⟩:=Y;cases e' with
    |normal=>exact wp_mono (B' φ' g A1 M w' A5 AA) λB7 a2 AM Ak=>by rw[Z]at Ak;exact Ak.weaken A6
    |exit id=>cases V
    |ret=>cases V
    |panic chain=>obtain⟨t,x,v,AX,_⟩:=V;cases AX
    |_=>exact V.elim
   ·obtain⟨rfl,rfl,rfl⟩:=stop he;refine⟨Z,A4,λφ g dv ac w I O=>wp_seq (wp_mono (AO φ g dv ac w I O) λe' M w' Y=>?_)⟩;cases e' with
    |normal=>obtain⟨_,_,_,_,_,_,V⟩:=Y;exact absurd V he
    |_=>exact Y
 |region id ops draw=>
  intro S E e D H h T J;simp only[kl]at h;split at h
  ·rename_i Al;simp only[Ds,agD]at Al;obtain⟨rfl,_⟩:=Al;simp only[fA,Ds]at J;have B0:lB S.n ops.toList=true:=J.1;cases A':gP X A3 (X.md f id) ops.toList ops.toList S E with
   |none=>rw[A']at h;cases h
   |some p=>
    obtain⟨U,S1,AE⟩:=p;rw[A']at h;obtain⟨Z,A4,AO⟩:=Aj A7 ops.toList S E U S1 AE A' T B0;have An:∀φ g dv a w,Rel φ ⟨g,dv⟩ S a w->pM φ w (Fo ⟨g,dv⟩ φ S.mem) E dv->(Code.region id ops false).wp X.P (Ai S.n φ g S.mem w U S1 AE) a w:=
     λφ g dv a w I O=>wp_region_lit (AO φ g dv a w I O _ (λ_ _ _ h=>h))
    by_cases he:U=.normal
    ·subst he;simp only[B1,acE,adJ]at h;obtain⟨rfl,rfl,rfl⟩:=h;obtain⟨t1,t2,t3⟩:=u5 X f id S1;refine⟨t1.trans Z,t2.trans A4,λφ g dv a w I O=>wp_mono (An φ g dv a w I O) λe' M w' Y=>?_⟩;obtain⟨φ',A1,A8,A5,A6,AA,V⟩:=Y;cases e' with
     |normal=>
      obtain⟨B2,AV,Ao⟩:=t3 φ' ⟨g,A1⟩ M w' A5;exact⟨B2,A1,t1.trans A8,AV,A6.trans Ao,AA.keeps Ao,rfl⟩
     |exit id=>cases V
     |ret=>cases V
     |panic chain=>obtain⟨t,x,v,AX,_⟩:=V;cases AX
     |_=>exact V.elim
    ·have:e=U/\D=S1/\H=AE:=by
      cases U with
      |normal=>exact absurd rfl he
      |_=>simp only[B1,acE,adJ]at h;exact⟨h.1.symm,h.2.1.symm,h.2.2.symm⟩
     obtain⟨rfl,rfl,rfl⟩:=this;exact⟨Z,A4,An⟩
  ·exact PB AN A7 h T J
 |_=>intro S E e D H h T J;exact PB AN A7 (by simpa only[kl]using h) T J
end
abbrev Ru:=FuncId->Array Value->World->(Ending->World->Prop)->Prop
def Mm(C:Ru):Prop:=∀f vs w R A3,C f vs w R->(∀e w',R e w'->A3 e w')->C f vs w A3
def Mn(C:Ru)(gl:List (Nat×D))(f:FuncId)(args:List AV)(m:Mem)(K:Out->Mem->Prop):Prop:=
 ∀φ G w (vs:Array Value),bz φ G m w->fL w (Fo G φ m) gl->args.length=vs.size->(∀(i:Nat) x v,args[i]?=some x->vs[i]?=some v->aG φ w (Fo G φ m) x v)->
  C f vs w λe w'=>∃φ' m' out,K out m'/\bz φ' G m' w'/\aZ φ m w φ' m' w'/\pI φ' w' (Fo G φ' m') out e
theorem Mn.frz{C:Ru}(V:Mm C){gl f args}{cs:List aJ}{out:Out}{E:List (Nat×aJ)}(h:Mn C gl f args (eI 0 cs) λo m=>o=out/\m=ej 0 E)(A4:cs.length<=E.length):
 Mn C gl f args (eI 0 cs) λo m=>o=H2 cs.length E out/\m=ej 0 (fo (ej 0 E) (List.range cs.length) (λ_=>true) (λ_ v=>v) 0 (List.range cs.length)):=by
 intro φ G w vs hm Y AF AG;refine V _ _ _ _ _ (h φ G w vs hm Y AF AG) ?_;rintro e w' ⟨φ',m',Z,⟨rfl,rfl⟩,O,H,I⟩;obtain⟨s1,s2,AH⟩:=C9 (G1:=G) (ρ:=List.range cs.length) (bor:=λ_=>true) (nv:=λ_ v=>v) O List.nodup_range (λk T=>yS E 0 k (apk _) (by simp at T;omega)) (λb h=>.inl h) (λb h=>O.ml b h.own)
  (λk e L b Y _ _ c A0=>O.ml _ ⟨e,(Mem.get_mem Y).1,L,by rw[(Mem.get_mem Y).2];exact c,A0⟩)
 refine⟨_,_,_,⟨rfl,rfl⟩,s1,⟨?_,H.Bi,?_,H.size,H.os,H.tape,H.output⟩,?_⟩
 ·intro k L c;have T:k<cs.length:=by
   have:=hm.rR k L c;rw[LB,sk]at this;simpa using this
  obtain⟨L',A1,AI,AJ⟩:=H.le k L c;exact⟨L',by simp[cd.jC,T,A1],AI,AJ⟩
 ·intro b AK A0;exact H.own b AK ((yM (φ:=φ') (nv:=λ_ v=>v) (bor:=λ_=>true) (λk T=>yS E 0 k (apk _) (by simp at T;omega)) b).1 A0).own
 ·cases Z with
  |ret x=>
   cases e with
   |returned v=>exact (s2 x v I).norm
   |_=>exact I.elim
  |panic t x=>
   cases e with
   |panicked chain=>
    obtain⟨v,A',M⟩:=I;exact⟨v,A',M.mono (λ_ _ _=>rfl) (ack _) (λb _=>AH b)⟩
   |_=>exact I.elim
theorem OU{C:Ru}(V:Mm C){gl:List (Nat×D)}{A5:bP}(AL:∀g args cs out l,A5 g args cs=some (out,l)->Mn C gl g args (eI 0 cs) λo m=>o=out/\m=ej 0 l)
 {m:Mem} {A6:Nat} {g:FuncId} {J:List AV} {mt:List Nat} {res:gU} (h:gp A5 m A6 g J mt=some res) {φ:cd} {G:Fr} {w:World} (hm:bz φ G m w) (AM:fL w (Fo G φ m) gl)
 {vs:Array Value} (A4:J.length=vs.size) (AN:∀(i:Nat) x v,J[i]?=some x->vs[i]?=some v->aG φ w (Fo G φ m) x v):
 C g vs w λe w'=>∃φ',bz φ' G (bS m res.es) w'/\aZ φ m w φ' (bS m res.es) w'/\pI φ' w' (Fo G φ' (bS m res.es)) res.out e:=by
 unfold gp nD nC at h;obtain⟨ρ,A7⟩:∃ρ,ρ=collect m 64 (lq mt 0 J) []:=⟨_,rfl⟩;have A8:=qY m 64 (lq mt 0 J) [] List.nodup_nil (by simp);rw[<-A7]at h A8;generalize (vZ mt 0 J).filter (λk=>!ρ.contains k)=B at h;clear A7;obtain⟨A9,AA⟩:=A8;unfold gm at h;split at h
 ·rename_i out E AO;split at h
  ·rename_i A';cases h;have AB:Mn C gl g (jl (mt.contains 1000) m ρ B J) (eI 0 (pX (fo m ρ (λk=>B.contains k) jk 0 ρ))) λo m=>o=out/\m=ej 0 E:=by
    obtain⟨A_,Aa,AP,A1⟩:=B8 AO;have AC:=AL _ _ _ _ _ AP;rcases A1 with ⟨rfl,rfl⟩|⟨Ab,rfl,rfl⟩
    ·exact AC
    ·have AD:(pX (fo m ρ (λk=>B.contains k) jk 0 ρ)).length=ρ.length:=by rw[wb,sX]
     have:=AC.frz V (by rw[AD];omega);rw[AD]at this;exact this
   simp only[Ds,agv,acn]at A';obtain⟨⟨Ac,AQ⟩,AR⟩:=A';rw[B7]at AB;obtain⟨v1,v2,v3⟩:=IW (B:=B) hm A9 AA;have AS:∀(i:Nat) x v,(jl (mt.contains 1000) m ρ B J)[i]?=some x->vs[i]?=some v->aG (φ.jC ρ jk) w (Fo (m6 φ G m ρ B) (φ.jC ρ jk) (ej 0 (fo m ρ (λk=>B.contains k) jk 0 ρ))) x v:=by
    intro i x v M AT;rw[Ad]at M;obtain⟨y,AU,rfl⟩:=acp.1 M;exact (v2 y v (AN i y v AU AT)).D3
   have AW:fL w (Fo (m6 φ G m ρ B) (φ.jC ρ jk) (ej 0 (fo m ρ (λk=>B.contains k) jk 0 ρ))) gl:=
    AM.mono (λ_ _ _=>rfl) (ack _) (λb _=>v3 b)
   refine V _ _ _ _ _ (AB (φ.jC ρ jk) (m6 φ G m ρ B) w _ v1 AW (by rw[uy];exact A4) AS) ?_;rintro e w' ⟨Af,Ag,Z,⟨rfl,rfl⟩,AX,AY,I⟩;have A2:B=[]\/(B0 Z=true/\pL E=true):=AR.imp (by simp) id;obtain⟨φ',O,H,AE⟩:=IX (B:=B) hm A9 AA (fr:=List.range' (A6+1) (E.length-ρ.length)) List.nodup_range' (ET AQ) AX AY (by simp;omega) (A2.imp id λU=>Ae U.2);refine⟨φ',O,H,?_⟩;cases Z with
   |ret x=>
    cases e with
    |returned v=>exact AE x v (A2.imp id λU=>U.1) I
    |_=>exact I.elim
   |panic t x=>
    cases e with
    |panicked chain=>
     obtain⟨v,rfl,M⟩:=I;have:=AE (.d x) v (A2.imp id λU=>U.1) (.d _ _ M);cases this with
     |d _ _ AZ=>exact⟨v,rfl,AZ⟩
    |_=>exact I.elim
  ·cases h
 ·cases h
theorem Jk{P:Program}{ops:Array Oper}{Q:Exit->Act->List Frame->World->Prop}{cs:List Frame}(AD:∀a w,¬Q .outgrown a cs w):∀(l:List Nat)(a:Act)(w:World),
 wpOps P ops (λe a w=>Q e a cs w) l a w->wpOpsS P ops Q l a cs w
 |[],a,w,h=>h
 |i::rest,a,w,h=>by
  have ih:=Jk (P:=P) (ops:=ops) AD rest;unfold wpOps at h;unfold wpOpsS;split at h
  ·rename_i y;simp only[y];exact ih a w h
  ·rename_i o y;simp only[y];split at h
   ·rename_i hw;rw[acs hw];rcases h with h|⟨_,a0,w0,h⟩
    ·have Y:=Oper.wp_mono (K':=λI w'=>wpOpsS P ops Q rest I cs w') ih h;unfold Oper.wp at Y;split
     ·rename_i w' J;rw[J]at Y;exact Y.elim
     ·exact Y
    ·exact absurd h (AD a0 w0)
   ·rename_i hw;rw[ach hw];exact ih _ w h
def SP(D:Frame)(E:List Frame)(v:Value)(H:FrameMode):Prop:=
 recoverD (D::E)=some (v,{D with mode:=H}::E)\/(recoverD (D::E)=none/\v=.nilIface/\H=D.mode)
theorem H7{o:Oper}(h:B3 o=true):o.guard=none/\∃A6,o.op=.call {callee:=.builtin .recover,args:=#[],argTypes:=A6}:=by
 unfold B3 at h;split at h
 ·rename_i args A6 A8 y;refine⟨A8,A6,?_⟩;rw[y];have:args=#[]:=by
   cases args with
   |mk l=>cases l with
    |nil=>rfl
    |cons a r=>simp at h
  rw[this]
 ·cases h
abbrev Ku(D:Frame)(E:List Frame)(H:FrameMode)(n:Nat)(φ:cd)(G:Fr)(m:Mem)(w:World)(e:XE)(M:St):Exit->Act->List Frame->World->Prop:=
 λe' I A2 w'=>A2={D with mode:=H}::E/\px n φ G m w (Is e M) e' I w'
theorem Ak{P:Program}{c:Code}{Q AE:Exit->Act->List Frame->World->Prop}{a:Act}{cs:List Frame}{w:World}(h:c.wpS P Q a cs w)(AN:∀e a cs w,Q e a cs w->AE e a cs w):c.wpS P AE a cs w:=
 λb k AO J=>let ⟨e,I,A2,w',q,r⟩:=h b k AO J;⟨e,I,A2,w',AN _ _ _ _ q,r⟩
section
variable {X:Ctx} {A9:bP} {f:FuncId} {n:Nat}
theorem aey(AP:lH X)(AF:kM X A9)(A3:AV)(c:Code):∀(S:St)(e:XE)(M:St),sy X f A9 n A3 c S=some (e,M)->S.gl=X.gl->fA X f S.n c=true->
 M.n=S.n/\M.gl=S.gl/\∀φ G a w D E v H,SP D E v H->aG φ w (Fo G φ S.mem) A3 v->Rel φ G S a w->c.wpS X.P (Ku D E H S.n φ G S.mem w e M) a (D::E) w:=by
 induction c with
 |seq a b AG Ag=>
  intro S e M h A5 A';simp only[fA,Ds]at A';simp only[sy]at h;rcases iQ h with ⟨S1,A0,Y⟩|⟨A0,Y⟩
  ·obtain⟨T,U,V⟩:=AG S .normal S1 A0 A5 A'.1;obtain⟨AQ,AR,AS⟩:=Mh AP AF b S1 e M Y (U.trans A5) (by rw[T];exact A'.2);refine⟨AQ.trans T,AR.trans U,λφ G ac w D E v H O A1 J=>wpS_seq (Ak (V φ G ac w D E v H O A1 J) ?_)⟩;rintro e' I A2 w' ⟨rfl,Z⟩;obtain⟨φ',AH,AA,AB,he⟩:=Z.is;cases e' with
   |normal=>
    refine wpS_of_wp (wp_mono (AS φ' G I w' AA) λAh a2 Ai AI=>⟨rfl,?_⟩);rw[T]at AI;exact AI.weaken AB
   |exit id=>cases he
   |ret=>cases he
   |panic chain=>obtain⟨t,x,v,AT,_⟩:=he;cases AT
   |_=>exact he.elim
  ·obtain⟨T,U,V⟩:=AG S e M A0 A5 A'.1;refine⟨T,U,λφ G ac w D E v H O A1 J=>wpS_seq (Ak (V φ G ac w D E v H O A1 J) ?_)⟩;rintro e' I A2 w' ⟨rfl,Z⟩;cases e' with
   |normal=>obtain⟨φ',_,_,_,he⟩:=Z.is;exact absurd he Y
   |_=>exact⟨rfl,Z⟩
 |region id ops draw=>
  intro S e M h A5 A';simp only[sy]at h;split at h
  ·rename_i o r AJ;split at h
   ·rename_i AU;obtain⟨A8,A6,y⟩:=H7 AU;simp only[fA,Ds]at A';have AC:lB S.n ops.toList=true:=A'.1;rw[AJ]at AC;simp only[lB,agZ,Ds]at AC;obtain⟨AK,AW⟩:=AC;have AX:∀t,o.dst=some t->t<S.n:=λt AY=>by rw[AY]at AK;simpa using AK
    have A7:(o::r).toArray=ops:=by rw[<-AJ]
    have key:∀A4 S1,iv X A9 (X.md f id) (o::r) r (S.put o.dst true A3)=some (A4,S1)->S1.n=S.n/\S1.gl=S.gl/\∀φ G a w D E v H,SP D E v H->aG φ w (Fo G φ S.mem) A3 v->Rel φ G S a w->
     (Code.region id ops false).wpS X.P (Ku D E H S.n φ G S.mem w A4 S1) a (D::E) w:=by
     intro A4 S1 A0;obtain⟨T,U,V⟩:=Cc AF r (S.put o.dst true A3) A4 S1 A0 ((nt ..).trans A5) (by rw[nW];exact AW);rw[nW]at T V;rw[nt]at U;rw[gz]at V;refine⟨T,U,λφ G a w D E v H O A1 J=>wpS_region ?_⟩;have AZ:List.range ops.size=0::List.range' 1 r.length:=by
      rw[<-A7];simp[List.range_eq_range',ai0]
     have A_:ops[0]?=some o:=by rw[<-A7];simp
     have Aa:(execOp a.eval o).run X.P w=.ok .recover w:=by
      simp[execOp,y,resolve,Deferred.ofValue,invoke,builtin]
     have Ab:=J.put o.dst AX true A3 v (λ_=>A1);have AL:=V φ G _ w Ab (λe a w'=>Ku D E H S.n φ G S.mem w A4 S1 e a ({D with mode:=H}::E) w') (λe' I w' Z=>⟨rfl,Z⟩);rw[A7,<-wpOps_eq_wpList r 1 (λj=>by rw[<-A7];simp[Nat.add_comm])]at AL;have AM:=Jk (Q:=Ku D E H S.n φ G S.mem w A4 S1) (cs:={D with mode:=H}::E) (λ_ _ hh=>hh.2) _ _ _ AL;rw[AZ];unfold wpOpsS;simp only[A_];rw[acs (by simp[Region.wanted,A8])];simp only[Aa];rcases O with O|⟨O,rfl,rfl⟩
     ·rw[O];exact AM
     ·rw[O];exact AM
    unfold z8 at h;split at h
    ·rename_i S1 A0;cases h;obtain⟨T,U,V⟩:=key _ _ A0;obtain⟨t1,t2,t3⟩:=u5 X f id S1;refine⟨t1.trans T,t2.trans U,λφ G a w D E v H O A1 J=>Ak (V φ G a w D E v H O A1 J) ?_⟩;rintro e' I A2 w' ⟨rfl,Z⟩;refine⟨rfl,?_⟩;obtain⟨φ',AH,AA,AB,he⟩:=Z.is;cases e' with
     |normal=>
      obtain⟨Ac,Ad,Ae⟩:=t3 φ' G I w' AA;exact⟨Ac,_,t1.trans AH,⟨rfl,rfl⟩,Ad,AB.trans Ae⟩
     |exit id=>cases he
     |ret=>cases he
     |panic chain=>obtain⟨t,x,v,Af,_⟩:=he;cases Af
     |_=>exact he.elim
    ·exact key _ _ h
   ·cases h
  ·cases h
 |_=>intro S e M h;simp[sy]at h
end
section
variable {X:Ctx} {A8:bP} {f:FuncId} {n:Nat}
theorem Mo{fn:Func}{args:List AV}{cs:List aJ}(AN:args.length<=fn.ntmps)(AO:cs.length<=100)(A9:∀k∈(X.fp f).sites,100<=k)(AA:(X.fp f).sites.Nodup)
 {φ:cd} {G:Fr} {w:World} {vs:Array Value} (AB:G.dv=[]) (hm:bz φ G (eI 0 cs) w) (AC:fL w (Fo G φ (eI 0 cs)) X.gl) (AD:args.length=vs.size)
 (AE:∀(i:Nat) x v,args[i]?=some x->vs[i]?=some v->aG φ w (Fo G φ (eI 0 cs)) x v):
 Rel (φ.add (X.fp f).sites) G (entry fn.ntmps X.gl args cs (X.fp f).sites) {tmps:=vs++Array.replicate (fn.ntmps-vs.size) undef,defers:=[]} w/\
  aZ φ (eI 0 cs) w (φ.add (X.fp f).sites) (entry fn.ntmps X.gl args cs (X.fp f).sites).mem w/\(∀k L,φ k=some L->k<cs.length/\L.aq=0):=by
 have AP:∀k,k∈(eI 0 cs).map (·.key)↔k<cs.length:=λk=>by rw[EZ];simp
 have AF:∀k∈(X.fp f).sites,k∉(eI 0 cs).map (·.key):=by
  intro k A0 Ac;have A1:=A9 k A0;have A2:=(AP k).1 Ac;omega
 have V:∀k L,φ k=some L->k<cs.length/\L.aq=0:=λk L AQ=>by
  have A0:=hm.rR k L AQ;obtain⟨e,he,rfl⟩:=acF.1 A0;obtain⟨L',AR,Ad,_⟩:=hm.gv e he;rw[AQ]at AR;cases AR;exact⟨(AP _).1 A0,by rw[Ad];exact H6 cs 0 e he⟩
 have AG:=hm.add AA AF;have AH:aZ φ (eI 0 cs) w (φ.add (X.fp f).sites) (eI 0 cs++(X.fp f).sites.map dead) w:=⟨LA hm AF,λ_ _ _=>rfl,λb _ Ae=>(Da AF b).1 Ae,ack _,rfl,rfl,rfl⟩;refine⟨⟨by simp[entry];omega,AB.symm,λt x Y=>?_,AG,AH.mm AC⟩,AH,V⟩;obtain⟨j,rfl,AS⟩:=zT 0 args t _ Y;have AI:j<vs.size:=by rw[<-AD];exact (ace.1 AS).1
 have e:(vs++Array.replicate (fn.ntmps-vs.size) undef).getD (0+j) undef=vs[j]:=by
  simp only[aeh,acH];rw[agM AI];simp[AI]
 rw[e];exact AH.av (AE j x _ AS (by simp[AI]))
theorem Jl{fn:Func}{cs:List aJ}{out:Out}{l:List (Nat×aJ)}{φ φ':cd}{G:Fr}{T:St}{H:Act}{w w':World}(U:Rel φ' G T H w')(AJ:aZ φ (eI 0 cs) w φ' T.mem w')
 (V:∀k L,φ k=some L->k<cs.length/\L.aq=0) (I:finish X.P (X.fp f) cs.length fn.results.toList T=some (out,l)):
 ∃v,(results fn H.tmps).run X.P w'=.ok v w'/\∃D m' Z,(Z=out/\m'=ej 0 l)/\bz D G m' w'/\aZ φ (eI 0 cs) w D m' w'/\pI D w' (Fo G D m') Z (.returned v):=by
 unfold finish at I;split at I
 ·rename_i Af xs Ag;split at I
  ·rename_i Ah;obtain⟨M,A1,A2,AK⟩:=zQ U fn.results.toList Af xs Ag Ah;obtain⟨A3,O,rfl,g1,g2,g3,g4,_⟩:=uX I U.mem U.mm A2 AK AJ V;have Ai:(results fn H.tmps).run X.P w'=.ok (if h:M.toArray.size=1 then M.toArray[0]else .tuple M.toArray) w':=by
    have e:results fn H.tmps=(do let vs <-fn.results.mapM (BN H.tmps);pure (if h:vs.size=1 then vs[0]else .tuple vs)):=by
     unfold results;congr 1
    rw[e,Array.mapM_eq_mapM_toList];simp only[Sem.run_bind,Sem.run_map,A1,Result.andThen_ok,Sem.run_pure]
   refine⟨_,Ai,A3,_,_,⟨rfl,rfl⟩,g1,g2,?_⟩;show aG A3 w' _ (oneOf O) _;by_cases AL:M.length=1
   ·obtain⟨v,rfl⟩:∃v,M=[v]:=by
     cases M with
     |nil=>simp at AL
     |cons v r=>exact⟨v,by cases r with|nil=>rfl|cons _ _=>simp at AL⟩
    obtain⟨y,rfl⟩:∃y,O=[y]:=by
     cases O with
     |nil=>simp at g3
     |cons v r=>exact⟨v,by cases r with|nil=>rfl|cons _ _=>simp at g3⟩
    simpa [oneOf]using g4 0 y v (by simp) (by simp)
   ·have e:oneOf O=.bh O:=by
     cases O with
     |nil=>rfl
     |cons y r=>cases r with|nil=>simp at g3;omega|cons _ _=>rfl
    rw[e,dif_neg (by simpa using AL)];exact .bh O M.toArray (by simpa using g3) (λi y v h Aj=>g4 i y v h (by simpa using Aj))
  ·cases I
 ·cases I
def V8(u:FrameMode)(v:Value):Prop:=(v=.nilIface/\u=.returning)\/∃t x,v=.iface t x/\u=.panicking [{v:=.iface t x,recovered:=false}]
def RuR(P:Program):Ru:=λf vs w R=>∀u v,vs.back?=some v->V8 u v->CallsD P f vs.pop u w λe E w'=>settle E=.returning/\R e w'
theorem ZU(P:Program):Mm (RuR P):=λf vs w R B2 h Al u v J hm=>(h u v J hm).mono λe E w' hh=>⟨hh.1,Al e w' hh.2⟩
theorem V9(AT:lH X)(An:kM X A8){fn:Func}{c:Code}{args:List AV}{cs:List aJ}{out:Out}{l:List (Nat×aJ)}(AU:X.P.funcs[f]?=some fn)(AW:fn.body=some c)
 (h:B4 X f A8 n fn c args cs=some (out,l)):Mn (RuR X.P) X.gl f args (eI 0 cs) λo m=>o=out/\m=ej 0 l:=by
 unfold B4 at h;split at h
 ·rename_i A4 AX;split at h
  ·rename_i AY;simp only[Ds,acn,acI]at AY;obtain⟨⟨⟨AN,AO⟩,A9⟩,AA⟩:=AY;intro φ A5 w vs AG AC AD AE u v J Ao;obtain⟨G,A'⟩:∃G:Fr,G=⟨A5.g,[]⟩:=⟨_,rfl⟩;have AB:G.dv=[]:=by rw[A']
   have hm:bz φ G (eI 0 cs) w:=by rw[A'];exact AG.dv []
   have Ap:fL w (Fo G φ (eI 0 cs)) X.gl:=by rw[A'];exact AC
   have AZ:∀(i:Nat) x v,args[i]?=some x->vs[i]?=some v->aG φ w (Fo G φ (eI 0 cs)) x v:=by rw[A'];exact AE
   have Aq:args≠[]:=by rintro rfl;cases AX
   have B3:0<args.length:=List.length_pos_iff.2 Aq;have Ar:args.dropLast.length=vs.pop.size:=by simp;omega
   obtain⟨As,A_,V⟩:=Mo (fn:=fn) AN AO A9 AA AB hm Ap Ar (λi x v Y J=>by
    have hi:i<args.length-1:=by have:=(ace.1 Y).1;simpa using this
    refine AZ i x v ?_ ?_
    ·rw[List.dropLast_eq_take,List.getElem?_take_of_lt (by omega)]at Y;exact Y
    ·rw[Array.getElem?_pop]at J;rw[acs (by omega)]at J;exact J)
   have At:aG (φ.add (X.fp f).sites) w (Fo G (φ.add (X.fp f).sites) (entry fn.ntmps X.gl args.dropLast cs (X.fp f).sites).mem) A4 v:=by
    refine A_.av (AZ (args.length-1) A4 v ?_ ?_)
    ·rw[<-ajv];exact AX
    ·rw[Array.back?]at J;rw[AD];exact J
   cases AM:sy X f A8 n A4 c (entry fn.ntmps X.gl args.dropLast cs (X.fp f).sites)with
   |none=>rw[AM]at h;cases h
   |some p=>
    obtain⟨e,T⟩:=p;rw[AM]at h;obtain⟨B5,B6,Au⟩:=aey AT An A4 c _ e T AM rfl (AT.ZS f fn c AU AW);refine callsD_of_wpS AU AW λA6 A7 hu=>?_;obtain⟨E,Av,Aw⟩:∃E,SP A6 A7 v E/\settle E=.returning:=by
     rcases Ao with ⟨rfl,rfl⟩|⟨t,x,rfl,rfl⟩
     ·exact⟨.returning,.inr ⟨by simp[recoverD,hu],rfl,hu.symm⟩,rfl⟩
     ·exact⟨.panicking [{v:=.iface t x,recovered:=true}],.inl (by simp[recoverD,hu]),by simp[settle]⟩
    refine Ak (Au _ G _ w A6 A7 v E Av At As) ?_;rintro e' H B7 w' ⟨rfl,Ax⟩;obtain⟨φ',_,U,Ay,he⟩:=Ax.is;have AJ:=A_.trans Ay;have Aa:finish X.P (X.fp f) cs.length fn.results.toList T=some (out,l)->H.defers=[]/\∃Ab,({A6 with mode:=E}::A7)={A6 with mode:=Ab}::A7/\∃v,(results fn H.tmps).run X.P w'=.ok v w'/\(settle Ab=.returning/\
     ∃D m' Z,(Z=out/\m'=ej 0 l)/\bz D A5 m' w'/\aZ φ (eI 0 cs) w D m' w'/\pI D w' (Fo A5 D m') Z (.returned v)):=by
     intro I;obtain⟨v,A1,A3,Az,B',A2,AK,B0,B1⟩:=Jl U AJ V I;subst A';exact⟨U.defers,E,rfl,v,A1,Aw,A3,Az,B',A2,AK.dv A5.dv,B0,B1⟩
    cases e' with
    |normal=>cases he;exact Aa h
    |ret=>cases he;exact Aa h
    |exit id=>cases he;cases h
    |panic chain=>obtain⟨t,x,v,rfl,_⟩:=he;cases h
    |_=>exact he.elim
  ·cases h
 ·cases h
end
def acK(X:Ctx)(y:bP):Prop:=∀g args cs out l,y g args cs=some (out,l)->iP X.P g=true/\Mn (RuR X.P) X.gl g args (eI 0 cs) λo m=>o=out/\m=ej 0 l
theorem Ki{O:bP}{m:Mem}{AQ:Nat}{g:FuncId}{AG:List AV}{mt:List Nat}{res:gU}(h:gp O m AQ g AG mt=some res):∃args cs out l,O g args cs=some (out,l):=by
 unfold gp nD nC gm at h;split at h
 ·rename_i out BA T;obtain⟨BB,BC,AH,_⟩:=B8 T;exact⟨_,_,_,_,AH⟩
 ·cases h
section
variable {X:Ctx} {O y:bP} {f:FuncId} {n:Nat}
theorem Wa(D:lH X)(AB:kM X O)(AI:acK X y){fn:Func}{c:Code}{args:List AV}{cs:List aJ}{out:Out}{l:List (Nat×aJ)}(E:X.P.funcs[f]?=some fn)(H:fn.body=some c)
 (h:B5 X f O y n fn c args cs=some (out,l)):Ev X.P X.gl f args (eI 0 cs) λo m=>o=out/\m=ej 0 l:=by
 unfold B5 at h;split at h
 ·rename_i AJ;simp only[Ds,acn,acI]at AJ;obtain⟨⟨⟨AR,AS⟩,AT⟩,AU⟩:=AJ;refine Ev.dv ?_;intro φ G w vs AC hm AW AX AY;obtain⟨A3,A',AK⟩:=Mo (fn:=fn) AR AS AT AU AC hm AW AX AY;obtain⟨g,BD⟩:=G;simp only at AC;subst AC;cases AD:kl X f O n c (entry fn.ntmps X.gl args cs (X.fp f).sites) []with
  |none=>rw[AD]at h;cases h
  |some p=>
   obtain⟨e,A0,AL⟩:=p;rw[AD]at h;obtain⟨BE,AZ,A_⟩:=aex D AB c _ _ e A0 AL AD rfl (D.ZS f fn c E H);refine calls_of_wp_defers E H (wp_mono (A_ _ g [] _ w A3 trivial) λe' I w' Aa=>?_);obtain⟨φ',AM,_,M,Ad,A4,he⟩:=Aa;have A5:=A'.trans Ad;have Ae:A0.gl=X.gl:=AZ;have back:∀{V:cd}{A6:St}{J:World},Rel V ⟨g,AM⟩ A6 I J->aZ φ (eI 0 cs) w V A6.mem J->finish X.P (X.fp f) cs.length fn.results.toList A6=some (out,l)->
    ∃v,(results fn I.tmps).run X.P J=.ok v J/\∃A7 m' A1,(A1=out/\m'=ej 0 l)/\bz A7 ⟨g,[]⟩ m' J/\aZ φ (eI 0 cs) w A7 m' J/\pI A7 J (Fo ⟨g,[]⟩ A7 m') A1 (.returned v):=by
    intro V A6 J Af A8 Ag;obtain⟨v,Ai,Aj,Ak,Al,An,Ao,Ap,Aq⟩:=Jl Af A8 AK Ag;exact⟨v,Ai,Aj,Ak,Al,An,Ao.dv [],Ap,Aq⟩
   match AL,AM,A4 with
   |[],[],_=>
    have U:I.defers=[]:=M.defers;simp only[ER]at h;cases e' with
    |normal=>cases he;show Leaves _ _ _ _ I.defers _ _;rw[U];exact back M A5 h
    |ret=>cases he;show Leaves _ _ _ _ I.defers _ _;rw[U];exact back M A5 h
    |exit id=>cases he;cases h
    |panic chain=>
     obtain⟨t,x,v,rfl,rfl,AE⟩:=he;have Ar:so (X.fp f) cs.length A0 [] (λ_=>.panic t x)=some (out,l):=h;obtain⟨V,AG,rfl,g1,g2,_,_,g5⟩:=uX (vs:=[]) Ar M.mem M.mm rfl (by simp) A5 AK;show Leaves _ _ _ _ I.defers _ _;rw[U];exact⟨V,_,_,⟨rfl,rfl⟩,g1,g2,v,rfl,AE.mono (λ_ _ _=>rfl) (ack _) (λb _=>g5 b)⟩
    |_=>exact he.elim
   |[d],[Y],⟨As,_⟩=>
    have U:I.defers=[Y]:=M.defers;simp only[ER]at h;have one:∀u A9 A2,u≠FrameMode.run->V8 u A2->aG φ' w' (Fo ⟨g,[Y]⟩ φ' A0.mem) A9 A2->EO e=some A9->
     Leaves X.P fn I.tmps (λe w'=>∃φ' m' A1,(A1=out/\m'=ej 0 l)/\bz φ' ⟨g,[]⟩ m' w'/\aZ φ (eI 0 cs) w φ' m' w'/\pI φ' w' (Fo ⟨g,[]⟩ φ' m') A1 e) [Y] u w':=by
     intro u A9 A2 hu At Au Av;rw[Av]at h;simp only[Dg]at h;cases T:gp y A0.mem 0 d.1 (d.2++[A9]) (X.fp d.1).zU with
     |none=>rw[T]at h;cases h
     |some res=>
      rw[T]at h;obtain⟨AF,AN,AO,Aw⟩:=As;obtain⟨_,_,_,_,Ax⟩:=Ki T;have Ay:=(AI _ _ _ _ _ Ax).1;have Az:=OU (ZU X.P) (gl:=X.gl) (λg args cs out l hh=>(AI g args cs out l hh).2) T (φ:=φ') (G:=⟨g,[Y]⟩) (w:=w') (vs:=(Y.args++AF).push A2) M.mem (by rw[<-Ae];exact M.mm)
       (by simp[AO];omega) (λi x v Z AA=>by
        by_cases hi:i<d.2.length
        ·rw[acB hi]at Z;rw[Array.getElem?_push,ach (by omega)]at AA;exact Aw i x v Z AA
        ·have:i=d.2.length:=by
          have:=(ace.1 Z).1;simp at this;omega
         subst this;rw[acG (ack _)]at Z;simp at Z;subst Z;rw[Array.getElem?_push,acs AO]at AA;cases AA;exact Au)
      have AP:=Az u A2 (by simp) At;rw[Array.pop_push]at AP;refine⟨hu,.func d.1,AF,d.1,Y.args++AF,AN,by rw[AN];simp[invoke,wa Ay],AP.mono ?_⟩;rintro A' B' J ⟨B0,V,B1,A8,B2⟩;unfold Ab at h;split at h
      ·rename_i x es ks heq;cases heq;cases A' with
       |returned v2=>
        show Leaves _ _ _ _ [] (settle B') J;rw[B0];exact back (M.Bk B1 A8) (A5.trans A8) h
       |_=>exact B2.elim
      ·cases h
    cases e' with
    |normal=>cases he;show Leaves _ _ _ _ I.defers _ _;rw[U];exact one .returning _ .nilIface (by simp) (.inl ⟨rfl,rfl⟩) (.lit _ rfl) rfl
    |ret=>cases he;show Leaves _ _ _ _ I.defers _ _;rw[U];exact one .returning _ .nilIface (by simp) (.inl ⟨rfl,rfl⟩) (.lit _ rfl) rfl
    |exit id=>cases he;cases h
    |panic chain=>
     obtain⟨t,x,v,rfl,rfl,AE⟩:=he;show Leaves _ _ _ _ I.defers _ _;rw[U];exact one (.panicking [{v:=.iface t v,recovered:=false}]) _ (.iface t v) (by simp) (.inr ⟨t,v,rfl,rfl⟩) (.jb _ _ _ AE) rfl
    |_=>exact he.elim
   |_::_::_,_,_=>cases h
 ·cases h
theorem ZV(D:lH X)(AB:kM X O):acK X (Ac X n O):=by
 intro g args cs out l h;unfold Ac at h;split at h
 ·rename_i fn E;split at h
  ·rename_i c H;refine⟨?_,V9 D AB E H h⟩;unfold iP;rw[E];simp[H,D.names g fn E]
  ·cases h
 ·cases h
theorem Mp(D:lH X):∀n,kM X (aW X n)
 |0=>λg args cs out l h=>by cases h
 |n+1=>λg args cs out l h=>by
  have ih:=Mp D n;simp only[aW,D.ov]at h;split at h
  ·rename_i AH B3;exact agR D B3 h
  split at h
  ·rename_i fn E;split at h
   ·rename_i c H;have T:iP X.P g=true:=by
     unfold iP;rw[E];simp[H,D.names g fn E]
    refine⟨T,?_⟩;cases A4:B6 c with
    |true=>
     rw[A4]at h;exact Wa D ih (ZV D ih) E H h
    |false=>
    rw[A4]at h;simp only[Dh]at h;unfold kL at h;split at h
    ·split at h
     ·rename_i r;unfold lW at h;split at h
      ·rename_i a b B4 B7;split at h
       ·rename_i B9;subst B9;have A3:=gM B4;have A':=gM B7;rw[A3]at h;cases h;exact Ev.split (Ah D ih E H A3) (Ah D ih E H A')
       ·cases h
      ·cases h
     ·exact Ah D ih E H h
    ·exact Ah D ih E H h
   ·cases h
  ·cases h
end
def aS{α:Type}(f:Nat->Option α):Prop:=∀n r,f n=some r->f (n+1)=some r
theorem aS.le{α:Type}{f:Nat->Option α}(h:aS f){n m:Nat}(Ad:n<=m){r:α}(Z:f n=some r):f m=some r:=by
 induction Ad with
 |refl=>exact Z
 |step _ ih=>exact h _ _ ih
theorem aS.const{α:Type}(x:Option α):aS λ_=>x:=λ_ _ h=>h
theorem aS.bind{α β:Type}{f:Nat->Option α}{g:α->Nat->Option β}(V:aS f)(A':∀x,aS (g x)):aS λn=>(f n).bind λx=>g x n:=by
 intro n r h;obtain⟨x,AH,Z⟩:=agU.1 h;simp only[V n x AH,ad0];exact A' x n r Z
open Classical in
noncomputable def jr{α:Type}(f:Nat->Option α):Option α:=if h:∃n,(f n).isSome=true then f (Classical.choose h)else none
theorem ep{α:Type}{f:Nat->Option α}(V:aS f){r:α}:jr f=some r↔∃n,f n=some r:=by
 unfold jr;constructor
 ·intro h;split at h
  ·exact⟨_,h⟩
  ·cases h
 ·rintro ⟨n,Y⟩;have hex:∃n,(f n).isSome=true:=⟨n,by rw[Y];rfl⟩;rw[dif_pos hex];have AM:=ao5 hex;obtain⟨Ax,AN⟩:=akn.1 AM;rw[AN];rcases Nat.le_total n (Classical.choose hex)with J|J
  ·rw[<-AN];exact V.le J Y
  ·have:=V.le J AN;rw[this]at Y;exact Y
theorem bn{α:Type}(x:Option α):jr (λ_=>x)=x:=by
 cases x with
 |some r=>exact (ep (aS.const _)).2 ⟨0,rfl⟩
 |none=>unfold jr;rw[dif_neg];rintro ⟨_,h⟩;cases h
theorem ij{α β:Type}{f:Nat->Option α}{g:α->Nat->Option β}(V:aS f)(A':∀x,aS (g x)):jr (λn=>(f n).bind λx=>g x n)=(jr f).bind λx=>jr (g x):=by
 apply Option.ext;intro r;rw[ep (V.bind A'),agU];constructor
 ·rintro ⟨n,Y⟩;obtain⟨x,AH,Z⟩:=agU.1 Y;exact⟨x,(ep V).2 ⟨n,AH⟩,(ep (A' x)).2 ⟨n,Z⟩⟩
 ·rintro ⟨x,AH,Z⟩;obtain⟨n,Y⟩:=(ep V).1 AH;obtain⟨m,hm⟩:=(ep (A' x)).1 Z;exact⟨max n m,by rw[V.le (Nat.le_max_left n m) Y];exact (A' x).le (Nat.le_max_right n m) hm⟩
theorem Jm{α:Type}{f:Nat->Option α}(V:aS f):jr (λn=>f (n+1))=jr f:=by
 have Ae:aS λn=>f (n+1):=λn r h=>V (n+1) r h;apply Option.ext;intro r;rw[ep Ae,ep V];exact⟨λ⟨n,h⟩=>⟨n+1,h⟩,λ⟨n,h⟩=>⟨n,V n r h⟩⟩
def aT(k:St->Option (XE×St)):XE×St->Option (XE×St)
 |(.normal,S)=>k S
 |r=>some r
theorem Al(r:Option (XE×St))(k:St->Option (XE×St)):andThen r k=r.bind (aT k):=by
 rcases r with _|⟨e,S⟩
 ·rfl
 ·cases e<;>rfl
def mT(k:St->St):XE×St->Option (XE×St)
 |(.normal,S)=>some (.normal,k S)
 |r=>some r
theorem yU(k:St->St)(r:Option (XE×St)):z8 k r=r.bind (mT k):=by
 rcases r with _|⟨e,S⟩
 ·rfl
 ·cases e<;>rfl
def bT(id:Nat):XE×St->Option (XE×St)
 |(.exit AX,S)=>if AX=id then some (.normal,S)else some (.exit AX,S)
 |r=>some r
theorem Mq(id:Nat)(r:Option (XE×St)):Gs id r=r.bind (bT id):=by
 rcases r with _|⟨e,S⟩
 ·rfl
 ·cases e<;>rfl
def cT(m:Mem)(A2:Nat)(ρ B:List Nat)(U:Nat)(b:Bool)(p:Out×List (Nat×aJ)):Option gU:=gm m A2 ρ B (sx U b (some p))
theorem Ee(m:Mem)(A2:Nat)(ρ B:List Nat)(U:Nat)(b:Bool)(r:Option (Out×List (Nat×aJ))):gm m A2 ρ B (sx U b r)=r.bind (cT m A2 ρ B U b):=by cases r<;>rfl
theorem H8(S:St)(d:Option Nat)(r:Option gU):dS S d r=r.bind λc=>dS S d (some c):=by cases r<;>rfl
theorem E2(S:St)(o:Oper)(r:Option gU):s5 S o r=r.bind λc=>s5 S o (some c):=by cases r<;>rfl
theorem oB(E:List bf)(r:Option (St×bf))(k:St->List bf->Option (XE×St)):z7 E r k=r.bind λp=>k p.1 (p.2::E):=by cases r<;>rfl
theorem Mr(P:Program)(p:aP)(U:Nat)(rs:List ResultVar)(r:Option (XE×St)):fin P p U rs r=r.bind λq=>fin P p U rs (some q):=by cases r<;>rfl
def ga(C:Nat->bP):Prop:=∀g a c,aS λk=>C k g a c
section
variable {X:Ctx} {C:Nat->bP} {S:St} {o:Oper} {md:Bool}
theorem Ef(D:ga C)(m:Mem)(A2:Nat)(g:FuncId)(AK:List AV)(mt:List Nat):aS (λk=>gp (C k) m A2 g AK mt):=by
 unfold gp nD nC;simp only[Ee];exact (D _ _ _).bind λ_=>aS.const _
theorem mI(D:ga C)(args:List Operand)(M:Bool×AV):aS (λk=>de X (C k) S o args M):=by
 unfold de;split
 ·split
  ·exact Ef D _ _ _ _ _
  ·exact aS.const _
 ·exact aS.const _
theorem OV(D:ga C):aS (λk=>tU X (C k) S o):=by
 unfold tU;split
 ·rename_i M args AA A6;have J:(λk=>dS S o.dst (de X (C k) S o args.toList (S.ar M)))=λk=>(de X (C k) S o args.toList (S.ar M)).bind λc=>dS S o.dst (some c):=by
   funext k;exact H8 ..
  rw[J];exact (mI D args.toList (S.ar M)).bind (λ_=>aS.const _)
 ·exact aS.const _
 ·exact aS.const _
theorem yq(D:ga C)(r:dY):aS (λk=>jo X (C k) S o r):=by
 cases r with
 |no=>exact OV D
 |val c x=>exact aS.const _
 |dJ c x e=>exact aS.const _
theorem Mt(D:ga C)(b:Bool)(r:dY):aS (λk=>qz X (C k) S o b r):=by
 have other:∀r,aS (λk=>if b=true then jo X (C k) S o r else some (.normal,S.put o.dst true .bm)):=by
  intro r;split
  ·exact yq D r
  ·exact aS.const _
 cases r with
 |no=>exact other .no
 |val c x=>exact aS.const _
 |dJ c x e=>exact other (.dJ c x e)
theorem u7(D:ga C)(all:List Oper):aS (λk=>pb X (C k) md all S o):=by
 unfold pb;split
 ·exact yq D _
 ·split
  ·split
   ·exact Mt D _ _
   ·split
    ·exact yq D _
    ·exact aS.const _
  ·exact aS.const _
  ·exact aS.const _
theorem rn{F:Nat->Option (XE×St)}{K:St->Nat->Option (XE×St)}(A3:aS F)(AI:∀S,aS (K S)):aS (λn=>andThen (F n) (λS=>K S n)):=by
 simp only[Al];refine A3.bind (g:=λx n=>aT (λS=>K S n) x) λx=>?_;obtain⟨e,S⟩:=x;cases e with
 |normal=>exact AI S
 |_=>exact aS.const _
theorem nE(D:ga C)(all:List Oper):∀(ops:List Oper)(S:St),aS (λk=>iv X (C k) md all ops S)
 |[],S=>aS.const _
 |o::r,S=>rn (u7 D all) (λA0=>nE D all r A0)
theorem SR(D:ga C):aS (λk=>nf X (C k) S o):=by
 unfold nf;split
 ·rename_i M args AA A6;have J:(λk=>s5 S o (de X (C k) S o args.toList (S.ar M)))=λk=>(de X (C k) S o args.toList (S.ar M)).bind λc=>s5 S o (some c):=by
   funext k;exact E2 ..
  rw[J];exact (mI D args.toList (S.ar M)).bind (λ_=>aS.const _)
 ·exact aS.const _
theorem An(D:ga C)(r:dY):aS (λk=>fO X (C k) S o r):=by
 cases r with
 |no=>exact SR D
 |val c x=>exact aS.const _
 |dJ c x e=>exact aS.const _
theorem OW(D:ga C)(b:Bool)(r:dY):aS (λk=>tV X (C k) S o b r):=by
 have other:∀r,aS (λk=>if b=true then fO X (C k) S o r else some (S.put o.dst true .bm,⟨[],[],true,.bm⟩)):=by
  intro r;split
  ·exact An D r
  ·exact aS.const _
 cases r with
 |no=>exact other .no
 |val c x=>exact aS.const _
 |dJ c x e=>exact other (.dJ c x e)
theorem nF(D:ga C)(all:List Oper):aS (λk=>eZ X (C k) md all S o):=by
 unfold eZ;split
 ·exact An D _
 ·split
  ·split
   ·exact OW D _ _
   ·split
    ·exact An D _
    ·exact aS.const _
  ·exact aS.const _
  ·exact aS.const _
theorem H9(S:St)(r:Option gU):yj S r=r.bind λc=>yj S (some c):=by cases r<;>rfl
theorem Jn(D:ga C):aS (λk=>mG X (C k) S o):=by
 unfold mG;split
 ·unfold EM;split
  ·unfold LP;split
   ·rename_i M args AA A6;have J:(λk=>yj S (de X (C k) S o args.toList (S.ar M)))=λk=>(de X (C k) S o args.toList (S.ar M)).bind λc=>yj S (some c):=by
     funext k;exact H9 ..
    rw[J];exact (mI D args.toList (S.ar M)).bind (λ_=>aS.const _)
   ·exact aS.const _
  ·exact aS.const _
 ·exact aS.const _
theorem E3{AO:bP}{all:List Oper}{q:St×bf}(h:eZ X AO md all S o=some q):mG X AO S o=none:=by
 cases A5:mG X AO S o with
 |none=>rfl
 |some p=>
  obtain⟨A',Af,M,args,AA,A6,AM,_⟩:=Jc A5;unfold eZ at h;rw[A']at h;simp only[fO,nf,Af,A6,AM]at h;cases h
theorem Wc(D:ga C)(H:Nat×List (List Nat))(all r:List Oper)(E:List bf){K:Nat->St->List bf->Option (XE×St)}(AI:∀S E,aS λk=>K k S E):aS (λk=>py X (C k) md H all r S o E (K k) (mG X (C k) S o)):=by
 intro n y h;simp only at h⊢;cases A5:mG X (C n) S o with
 |some q=>
  rw[A5]at h;have Ag:mG X (C (n+1)) S o=some q:=Jn D n q A5;rw[Ag];exact h
 |none=>
  rw[A5]at h;simp only[py,oB]at h;cases A':eZ X (C n) md all S o with
  |none=>rw[A']at h;cases h
  |some p=>
   have AY:eZ X (C (n+1)) md all S o=some p:=nF D all n p A';rw[E3 AY];simp only[py,oB];rw[A']at h;rw[AY];exact AI _ _ n y h
theorem pN(D:ga C)(H:Nat×List (List Nat))(all:List Oper):∀(ops:List Oper)(S:St)(E:List bf),aS (λk=>jq X (C k) md H all ops S E)
 |[],S,E=>aS.const _
 |o::r,S,E=>Wc D H all r E λS E=>pN D H all r S E
def SU(T:List Cl)(p:St×bf):Option (St×bf):=if xk T p.2.es=true then some p else none
theorem PC(T:List Cl)(r:Option (St×bf)):H3 T r=r.bind (SU T):=by
 rcases r with _|⟨S,p⟩<;>rfl
theorem xw(D:ga C)(H:List (List Nat))(T:List Cl)(all:List Oper):∀(ops:List Oper)(S:St)(E:List bf),aS (λk=>pz X (C k) md H T all ops S E)
 |[],S,E=>aS.const _
 |o::r,S,E=>by
  simp only[pz,oB];cases oz (H.getD E.length []) r with
  |true=>
   simp only[LR];split
   ·exact nE D all [o] S
   ·exact aS.const _
  |false=>
  simp only
  cases rl X.P T S o with
  |some x=>
   simp only[pY,ad0];exact xw D H T all r _ _
  |none=>
   simp only[pY,PC];exact ((nF D all).bind (g:=λp _=>SU T p) λp=>aS.const _).bind (g:=λp n=>pz X (C n) md H T all r p.1 (p.2::E)) λp=>xw D H T all r p.1 (p.2::E)
theorem Jo(D:ga C)(H:List (List Nat))(all:List Oper)(S:St)(fl:List (Nat×Nat)):aS (λk=>v7 X (C k) md H all S fl):=by
 cases fl with
 |nil=>exact pN D _ all all S []
 |cons q r=>
  simp only[v7];cases gv S.mem (q::r)with
  |none=>exact aS.const _
  |some T=>exact xw D H T all all S []
theorem Jp(f:St->Option (XE×St)):∀(j:Nat)(S:St)(r:XE×St),iter f j S=some r->iter f (j+1) S=some r
 |0,S,r,h=>by cases h
 |j+1,S,r,h=>by
  simp only[iter]at h;rw[iter];rcases iQ h with ⟨S1,J,A1⟩|⟨J,A1⟩
  ·rw[J];exact Jp f j S1 r A1
  ·rw[J];obtain⟨e,S1⟩:=r;cases e with
   |normal=>exact absurd rfl A1
   |_=>rfl
theorem wh(f:St->Option (XE×St)){j k:Nat}(h:j<=k){S:St}{r:XE×St}(Z:iter f j S=some r):iter f k S=some r:=by
 induction h with
 |refl=>exact Z
 |step _ ih=>exact Jp f _ S r ih
theorem xx{F:Nat->St->Option (XE×St)}(A3:∀S,aS (λk=>F k S)):∀(j:Nat)(S:St),aS (λk=>iter (F k) j S)
 |0,S=>aS.const _
 |j+1,S=>rn (A3 S) (λA0=>xx A3 j A0)
theorem Ao(D:ga C)(f:FuncId){m:Nat->Nat}(hm:∀k,m k<=m (k+1)):∀(c:Code)(S:St),aS (λk=>den X f (C k) (m k) c S):=by
 intro c;induction c with
 |region id ops draw=>
  intro S;cases draw with
  |false=>
   simp only[den,yU];exact (nE D _ _ _).bind λ_=>aS.const _
  |true=>
   simp only[den,yU];exact (Jo D _ _ _ _).bind λ_=>aS.const _
 |seq a b A7 AB=>intro S;exact rn (A7 S) (λA0=>AB A0)
 |cond c a b A7 AB=>
  intro S;simp only[den];unfold Gt;split
  ·split
   ·exact A7 S
   ·exact AB S
  ·exact aS.const _
 |block id c ih=>
  intro S;simp only[den,Mq];exact (ih S).bind λ_=>aS.const _
 |loop c ih=>
  intro S n r h;simp only[den]at h⊢;have J:=xx (F:=λk=>den X f (C k) (m k) c) ih (m n) S n r h;exact wh _ (hm n) J
 |skip=>intro S;exact aS.const _
 |exit id=>intro S;exact aS.const _
 |ret=>intro S;exact aS.const _
 |rangeFunc _ _ _ _=>intro S;exact aS.const _
 |scope _ _=>intro S;exact aS.const _
 |label _=>intro S;exact aS.const _
 |goto _=>intro S;exact aS.const _
 |refuse _=>intro S;exact aS.const _
theorem GF(D:ga C)(f:FuncId){m:Nat->Nat}(hm:∀k,m k<=m (k+1))(fn:Func)(c:Code)(args:List AV)(cs:List aJ):aS (λk=>s6 X f (C k) (m k) fn c args cs):=by
 unfold s6;split
 ·simp only[Mr X.P (X.fp f) cs.length fn.results.toList (den _ _ _ _ _ _)];exact (Ao D f hm c _).bind λ_=>aS.const _
 ·exact aS.const _
theorem A4{F G:Nat->Option (Out×List (Nat×aJ))}(A3:aS F)(Ah:aS G):aS (λn=>lW (F n) (G n)):=by
 intro n r h;replace h:lW (F n) (G n)=some r:=h;show lW (F (n+1)) (G (n+1))=some r;unfold lW at h;split at h
 ·rename_i a b A8 AC;have AD:=gM A8;have Ai:=gM AC;have f1:=A3 n _ AD;have f2:=Ah n _ Ai;rw[AD]at h;rw[f1,f2];simp only[lW,p8];exact h
 ·cases h
theorem Kj{R:Nat->List AV->Option (Out×List (Nat×aJ))}(AE:∀a,aS (λn=>R n a))(args:List AV)(b:Bool):aS (λn=>kL (R n) args b):=by
 unfold kL;split
 ·split
  ·exact A4 (AE _) (AE _)
  ·exact AE _
 ·exact AE _
def nT(k:St->XD)(I:List DF):XE×St->XD
 |(.normal,S)=>k S
 |(e,S)=>some (e,S,I)
theorem E5(k:St->XD)(I:List DF)(r:Option (XE×St)):Ks k I r=r.bind (nT k I):=by
 rcases r with _|⟨e,S⟩
 ·rfl
 ·cases e<;>rfl
def lT(k:St->St):XE×St×List DF->XD
 |(.normal,S,I)=>some (.normal,k S,I)
 |r=>some r
theorem Cj(k:St->St)(r:XD):B1 k r=r.bind (lT k):=by
 rcases r with _|⟨e,S,I⟩
 ·rfl
 ·cases e<;>rfl
def dT(I:List DF)(p:XE×St):XD:=some (p.1,p.2,I)
theorem Ia(I:List DF)(r:Option (XE×St)):Aa I r=r.bind (dT I):=by
 rcases r with _|⟨e,S⟩<;>rfl
def sT(k:St->List DF->XD):XE×St×List DF->XD
 |(.normal,S,I)=>k S I
 |r=>some r
theorem PD(k:St->List DF->XD)(r:XD):LS k r=r.bind (sT k):=by
 rcases r with _|⟨e,S,I⟩
 ·rfl
 ·cases e<;>rfl
theorem oC(D:ga C)(all:List Oper):∀(ops:List Oper)(S:St)(I:List DF),aS (λk=>gP X (C k) md all ops S I)
 |[],S,I=>aS.const _
 |o::r,S,I=>by
  simp only[gP];cases qA S o with
  |some d=>exact oC D all r _ _
  |none=>
   simp only[E5];refine (u7 D all).bind (g:=λx n=>nT (λS1=>gP X (C n) md all r S1 I) I x) λx=>?_;obtain⟨e,S1⟩:=x;cases e with
   |normal=>exact oC D all r S1 I
   |_=>exact aS.const _
theorem Jq(D:ga C)(f:FuncId){m:Nat->Nat}(hm:∀k,m k<=m (k+1)):∀(c:Code)(S:St)(I:List DF),aS (λk=>kl X f (C k) (m k) c S I):=by
 have add:∀(c:Code)(S:St)(I:List DF),aS (λk=>Aa I (den X f (C k) (m k) c S)):=λc S I=>by
  simp only[Ia];exact (Ao D f hm c S).bind λ_=>aS.const _
 intro c;induction c with
 |seq a b A7 AB=>
  intro S I;simp only[kl,PD];refine (A7 S I).bind (g:=λx n=>sT (kl X f (C n) (m n) b) x) λx=>?_;obtain⟨e,S1,Aj⟩:=x;cases e with
  |normal=>exact AB S1 Aj
  |_=>exact aS.const _
 |region id ops draw=>
  intro S I;simp only[kl];split
  ·simp only[Cj];exact (oC D _ _ _ _).bind λ_=>aS.const _
  ·exact add _ _ _
 |_=>intro S I;simp only[kl];exact add _ _ _
theorem Jr(D:ga C)(f:FuncId){m:Nat->Nat}(hm:∀k,m k<=m (k+1))(AJ:AV):∀(c:Code)(S:St),aS (λk=>sy X f (C k) (m k) AJ c S):=by
 intro c;induction c with
 |seq a b A7 AB=>intro S;exact rn (A7 S) (λA0=>Ao D f hm b A0)
 |region id ops draw=>
  intro S;simp only[sy];split
  ·split
   ·simp only[yU];exact (nE D _ _ _).bind λ_=>aS.const _
   ·exact aS.const _
  ·exact aS.const _
 |_=>intro S;simp only[sy];exact aS.const _
theorem aez(P:Program)(p:aP)(U:Nat)(rs:List ResultVar)(r:Option (XE×St)):ZJ P p U rs r=r.bind λq=>ZJ P p U rs (some q):=by cases r<;>rfl
theorem OX(D:ga C)(f:FuncId){m:Nat->Nat}(hm:∀k,m k<=m (k+1))(fn:Func)(c:Code)(args:List AV)(cs:List aJ):aS (λk=>B4 X f (C k) (m k) fn c args cs):=by
 unfold B4;split
 ·split
  ·simp only[aez X.P (X.fp f) cs.length fn.results.toList (sy _ _ _ _ _ _ _)];exact (Jr D f hm _ c _).bind λ_=>aS.const _
  ·exact aS.const _
 ·exact aS.const _
theorem SV(D:ga C){m:Nat->Nat}(hm:∀k,m k<=m (k+1)):ga (λk=>Ac X (m k) (C k)):=by
 intro g args cs;simp only[Ac];split
 ·split
  ·exact OX D g hm _ _ _ _
  ·exact aS.const _
 ·exact aS.const _
theorem aeA(S:St)(r:Option gU):Ab S r=r.bind λc=>Ab S (some c):=by cases r<;>rfl
theorem aeB(X:Ctx)(p:aP)(U:Nat)(rs:List ResultVar)(r:Option St):EP X p U rs r=r.bind λS=>finish X.P p U rs S:=by cases r<;>rfl
theorem aeC(X:Ctx)(p:aP)(U:Nat)(rs:List ResultVar)(AZ:bP)(r:XD):ER X p U rs AZ r=r.bind λq=>ER X p U rs AZ (some q):=by cases r<;>rfl
theorem SW{CR:Nat->bP}(D:ga CR)(p:aP)(U:Nat)(rs:List ResultVar)(S:St)(d:DF)(AJ:Option AV):aS (λk=>Dg X p U rs (CR k) S d AJ):=by
 cases AJ with
 |none=>exact aS.const _
 |some AJ=>
  simp only[Dg,aeB,aeA S (gp _ _ _ _ _ _)];exact ((Ef D _ _ _ _ _).bind (g:=λc _=>Ab S (some c)) λ_=>aS.const _).bind (g:=λS _=>finish X.P p U rs S) λ_=>aS.const _
theorem SX{CR:Nat->bP}(D:ga CR)(p:aP)(U:Nat)(rs:List ResultVar)(q:XE×St×List DF):aS (λk=>ER X p U rs (CR k) (some q)):=by
 obtain⟨e,S,I⟩:=q;match I with
 |[]=>exact aS.const _
 |[d]=>exact SW D p U rs S d (EO e)
 |_::_::_=>exact aS.const _
theorem OY(D:ga C){CR:Nat->bP}(AE:ga CR)(f:FuncId){m:Nat->Nat}(hm:∀k,m k<=m (k+1))(fn:Func)(c:Code)(args:List AV)(cs:List aJ):aS (λk=>B5 X f (C k) (CR k) (m k) fn c args cs):=by
 unfold B5;split
 ·simp only[aeC X (X.fp f) cs.length fn.results.toList _ (kl _ _ _ _ _ _ _)];exact (Jq D f hm c _ _).bind (g:=λq n=>ER X (X.fp f) cs.length fn.results.toList (CR n) (some q)) λq=>SX AE _ _ _ q
 ·exact aS.const _
theorem GG(X:Ctx):∀n g a c r,aW X n g a c=some r->aW X (n+1) g a c=some r
 |0,g,a,c,r,h=>by cases h
 |n+1,g,a,c,r,h=>by
  have ih:=GG X n;have D:ga λk=>if k=0 then aW X n else aW X (n+1):=by
   intro g a c k r h;by_cases O:k=0
   ·subst O;exact ih g a c r h
   ·simp only[O,adY]at h;simpa using h
  have hm:∀k,(if k=0 then n else n+1)<=(if k+1=0 then n else n+1):=by
   intro k;by_cases O:k=0<;>simp[O]
  cases A9:X.ov with
  |some Ay=>simp only[aW,A9]at h⊢;exact h
  |none=>
  cases AF:X.Ea g with
  |some Az=>simp only[aW,A9,AF]at h⊢;exact h
  |none=>
  cases V:X.P.funcs[g]? with
  |none=>simp only[aW,A9,AF,V]at h;cases h
  |some fn=>
   cases AC:fn.body with
   |none=>simp only[aW,A9,AF,V,AC]at h;cases h
   |some code=>
    have AD:∀k,aW X (k+1) g a c=Dh X g (aW X k) k fn code a c (B6 code):=by
     intro k;simp only[aW,A9,AF,V,AC]
    rw[AD]at h⊢;cases AL:B6 code with
    |true=>
     rw[AL]at h;exact OY (X:=X) (C:=λk=>if k=0 then aW X n else aW X (n+1)) (CR:=λk=>Ac X (if k=0 then n else n+1) (if k=0 then aW X n else aW X (n+1))) D (SV D hm) g hm fn code a c 0 r h
    |false=>
    rw[AL]at h;exact Kj (R:=λk args=>s6 X g ((λk=>if k=0 then aW X n else aW X (n+1)) k) ((λk=>if k=0 then n else n+1) k) fn code args c) (λargs=>GF D g hm fn code args c) a _ 0 r h
theorem cv(X:Ctx):ga (aW X):=λg a c n r h=>GG X n g a c r h
end
noncomputable def ai(X:Ctx):bP:=λg a c=>jr λk=>aW X k g a c
noncomputable def hZ(X:Ctx)(f:FuncId)(c:Code)(S:St):Option (XE×St):=jr λk=>den X f (aW X k) k c S
theorem bH{X:Ctx}{g a c r}(n:Nat)(h:aW X n g a c=some r):ai X g a c=some r:=(ep (cv X g a c)).2 ⟨n,h⟩
theorem ZW{X:Ctx}(Ak:lH X):kM X (ai X):=λg args cs out l h=>by
 obtain⟨n,Y⟩:=(ep (cv X g args cs)).1 h;exact Mp Ak n g args cs out l Y
section
variable {X:Ctx} {S:St} {o:Oper} {f:FuncId} {md:Bool}
theorem dm(c:Code)(S:St):aS (λk=>den X f (aW X k) k c S):=Ao (cv X) f (m:=λk=>k) (λk=>apd k) c S
theorem SY(m:Mem)(A2:Nat)(g:FuncId)(AK:List AV)(mt:List Nat):jr (λk=>gp (aW X k) m A2 g AK mt)=gp (ai X) m A2 g AK mt:=by
 unfold gp nD nC;simp only[Ee];rw[ij (cv X _ _ _) (λ_=>aS.const _)];simp only[bn];rfl
theorem yr(args:List Operand)(M:Bool×AV):jr (λk=>de X (aW X k) S o args M)=de X (ai X) S o args M:=by
 unfold de;split
 ·split
  ·exact SY ..
  ·exact bn _
 ·exact bn _
theorem SZ:jr (λk=>tU X (aW X k) S o)=tU X (ai X) S o:=by
 unfold tU;split
 ·rename_i M args AA A6;have J:(λk=>dS S o.dst (de X (aW X k) S o args.toList (S.ar M)))=λk=>(de X (aW X k) S o args.toList (S.ar M)).bind λc=>dS S o.dst (some c):=by
   funext k;exact H8 ..
  rw[J,ij (mI (cv X) _ _) (λ_=>aS.const _),yr,H8];simp only[bn]
 ·exact bn _
 ·exact bn _
theorem Ap(r:dY):jr (λk=>jo X (aW X k) S o r)=jo X (ai X) S o r:=by
 cases r with
 |no=>exact SZ
 |val c x=>exact bn _
 |dJ c x e=>exact bn _
theorem OZ(b:Bool)(r:dY):jr (λk=>qz X (aW X k) S o b r)=qz X (ai X) S o b r:=by
 have other:∀r,jr (λk=>if b=true then jo X (aW X k) S o r else some (.normal,S.put o.dst true .bm))=if b=true then jo X (ai X) S o r else some (.normal,S.put o.dst true .bm):=by
  intro r;split
  ·exact Ap r
  ·exact bn _
 cases r with
 |no=>exact other .no
 |val c x=>exact bn _
 |dJ c x e=>exact other (.dJ c x e)
theorem Js(all:List Oper):jr (λk=>pb X (aW X k) md all S o)=pb X (ai X) md all S o:=by
 unfold pb;split
 ·exact Ap _
 ·split
  ·split
   ·exact OZ _ _
   ·split
    ·exact Ap _
    ·exact bn _
  ·exact bn _
  ·exact bn _
theorem yt{F:Nat->Option (XE×St)}{K:St->Nat->Option (XE×St)}(A3:aS F)(AI:∀S,aS (K S)):jr (λn=>andThen (F n) (λS=>K S n))=andThen (jr F) (λS=>jr (K S)):=by
 simp only[Al];rw[ij (g:=λx n=>aT (λS=>K S n) x) A3 (λx=>by
  obtain⟨e,S⟩:=x;cases e with
  |normal=>exact AI S
  |_=>exact aS.const _)]
 congr 1;funext x;obtain⟨e,S⟩:=x;cases e<;>first|rfl|exact bn _
theorem Aq(all:List Oper):∀(ops:List Oper)(S:St),jr (λk=>iv X (aW X k) md all ops S)=iv X (ai X) md all ops S
 |[],S=>bn _
 |o::r,S=>by
  simp only[iv];have:=yt (F:=λk=>pb X (aW X k) md all S o) (K:=λA0 k=>iv X (aW X k) md all r A0) (u7 (cv X) all) (λA0=>nE (cv X) all r A0);rw[Js]at this;simp only[Aq all r]at this;exact this
theorem Wd:jr (λk=>nf X (aW X k) S o)=nf X (ai X) S o:=by
 unfold nf;split
 ·rename_i M args AA A6;have J:(λk=>s5 S o (de X (aW X k) S o args.toList (S.ar M)))=λk=>(de X (aW X k) S o args.toList (S.ar M)).bind λc=>s5 S o (some c):=by
   funext k;exact E2 ..
  rw[J,ij (mI (cv X) _ _) (λ_=>aS.const _),yr,E2];simp only[bn]
 ·exact bn _
theorem Ck(r:dY):jr (λk=>fO X (aW X k) S o r)=fO X (ai X) S o r:=by
 cases r with
 |no=>exact Wd
 |val c x=>exact bn _
 |dJ c x e=>exact bn _
theorem S5(b:Bool)(r:dY):jr (λk=>tV X (aW X k) S o b r)=tV X (ai X) S o b r:=by
 have other:∀r,jr (λk=>if b=true then fO X (aW X k) S o r else some (S.put o.dst true .bm,(⟨[],[],true,.bm⟩:bf)))=if b=true then fO X (ai X) S o r else some (S.put o.dst true .bm,⟨[],[],true,.bm⟩):=by
  intro r;split
  ·exact Ck r
  ·exact bn _
 cases r with
 |no=>exact other .no
 |val c x=>exact bn _
 |dJ c x e=>exact other (.dJ c x e)
theorem GI(all:List Oper):jr (λk=>eZ X (aW X k) md all S o)=eZ X (ai X) md all S o:=by
 unfold eZ;split
 ·exact Ck _
 ·split
  ·split
   ·exact S5 _ _
   ·split
    ·exact Ck _
    ·exact bn _
  ·exact bn _
  ·exact bn _
theorem ZX:jr (λk=>mG X (aW X k) S o)=mG X (ai X) S o:=by
 unfold mG;split
 ·unfold EM;split
  ·unfold LP;split
   ·rename_i M args AA A6;have J:(λk=>yj S (de X (aW X k) S o args.toList (S.ar M)))=λk=>(de X (aW X k) S o args.toList (S.ar M)).bind λc=>yj S (some c):=by
     funext k;exact H9 ..
    rw[J,ij (mI (cv X) _ _) (λ_=>aS.const _),yr,H9];simp only[bn]
   ·exact bn _
  ·exact bn _
 ·exact bn _
theorem GJ(H:Nat×List (List Nat))(all:List Oper):∀(ops:List Oper)(S:St)(E:List bf),jr (λk=>jq X (aW X k) md H all ops S E)=jq X (ai X) md H all ops S E
 |[],S,E=>bn _
 |o::r,S,E=>by
  have A5:∀q,mG X (ai X) S o=some q↔∃k,mG X (aW X k) S o=some q:=λq=>by rw[<-ZX];exact ep (Jn (cv X))
  have A':∀q,eZ X (ai X) md all S o=some q↔∃k,eZ X (aW X k) md all S o=some q:=λq=>by rw[<-GI];exact ep (nF (cv X) all)
  have Z:∀S E y,jq X (ai X) md H all r S E=some y↔∃k,jq X (aW X k) md H all r S E=some y:=λS E y=>by rw[<-GJ H all r S E];exact ep (pN (cv X) H all r S E)
  apply Option.ext;intro y;rw[ep (pN (cv X) H all (o::r) S E)];simp only[jq];constructor
  ·rintro ⟨k,O⟩;cases AP:mG X (aW X k) S o with
   |some q=>
    rw[AP]at O;rw[(A5 q).2 ⟨k,AP⟩];exact O
   |none=>
    rw[AP]at O;simp only[py,oB]at O;cases AQ:eZ X (aW X k) md all S o with
    |none=>rw[AQ]at O;cases O
    |some p=>
     rw[AQ]at O;have AG:=(A' p).2 ⟨k,AQ⟩;rw[E3 AG];simp only[py,oB,AG,ad0]at O⊢;exact (Z _ _ y).2 ⟨k,O⟩
  ·intro h;cases AR:mG X (ai X) S o with
   |some q=>
    rw[AR]at h;obtain⟨k,O⟩:=(A5 q).1 AR;exact⟨k,by rw[O];exact h⟩
   |none=>
    rw[AR]at h;simp only[py,oB]at h;cases AG:eZ X (ai X) md all S o with
    |none=>rw[AG]at h;cases h
    |some p=>
     rw[AG]at h;simp only[ad0]at h;obtain⟨AS,Ar⟩:=(A' p).1 AG;obtain⟨AT,As⟩:=(Z _ _ y).1 h;refine⟨max AS AT,?_⟩;have A_:=(nF (X:=X) (S:=S) (o:=o) (md:=md) (cv X) all).le (Nat.le_max_left AS AT) Ar;have At:=(pN (X:=X) (md:=md) (cv X) H all r p.1 (p.2::E)).le (Nat.le_max_right AS AT) As;rw[E3 A_];simp only[py,oB,A_,ad0];exact At
theorem E6(H:List (List Nat))(T:List Cl)(all:List Oper):∀(ops:List Oper)(S:St)(E:List bf),jr (λk=>pz X (aW X k) md H T all ops S E)=pz X (ai X) md H T all ops S E
 |[],S,E=>bn _
 |o::r,S,E=>by
  simp only[pz,oB];cases oz (H.getD E.length []) r with
  |true=>
   simp only[LR];split
   ·exact Aq all [o] S
   ·exact bn _
  |false=>
  simp only
  cases rl X.P T S o with
  |some x=>
   simp only[pY,ad0];exact E6 H T all r _ _
  |none=>
   simp only[pY,PC];rw[ij (g:=λp n=>pz X (aW X n) md H T all r p.1 (p.2::E)) ((nF (cv X) all).bind (g:=λp _=>SU T p) λp=>aS.const _) (λp=>xw (cv X) H T all r p.1 (p.2::E)),
    ij (g:=λp _=>SU T p) (nF (cv X) all) (λp=>aS.const _),GI]
   simp only[E6 H T all r,bn]
theorem ZY(H:List (List Nat))(all:List Oper)(S:St)(fl:List (Nat×Nat)):jr (λk=>v7 X (aW X k) md H all S fl)=v7 X (ai X) md H all S fl:=by
 cases fl with
 |nil=>exact GJ _ all all S []
 |cons q r=>
  simp only[v7];cases gv S.mem (q::r)with
  |none=>exact bn _
  |some T=>exact E6 H T all all S []
theorem We:hZ X f .skip S=some (.normal,S):=bn _
theorem Wf{id:Nat}:hZ X f (.exit id) S=some (.exit id,I7 S (X.gh f (id+1000000))):=bn _
theorem ZZ:hZ X f .ret S=some (.ret,S):=bn _
theorem Z0{a b:Code}:hZ X f (.seq a b) S=andThen (hZ X f a S) (hZ X f b):=yt (dm a S) (λA0=>dm b A0)
theorem Wg{c:Operand}{a b:Code}:hZ X f (.cond c a b) S=Gt (hZ X f a S) (hZ X f b S) (S.ar c):=by
 unfold hZ;simp only[den];unfold Gt;split
 ·split<;>rfl
 ·exact bn _
theorem S6{id:Nat}{c:Code}:hZ X f (.block id c) S=Gs id (hZ X f c S):=by
 unfold hZ;simp only[den,Mq];rw[ij (dm c S) (λ_=>aS.const _)];simp only[bn]
theorem O0{id:Nat}{ops:Array Oper}:hZ X f (.region id ops false) S=z8 (St.leave X f id) (iv X (ai X) (X.md f id) ops.toList ops.toList S):=by
 unfold hZ;simp only[den,yU];rw[ij (nE (cv X) _ _ _) (λ_=>aS.const _),Aq];simp only[bn]
theorem Wh{id:Nat}{ops:Array Oper}:hZ X f (.region id ops true) S=z8 (St.leave X f id) (v7 X (ai X) (X.md f id) (X.od f id) ops.toList S (X.fl f id)):=by
 unfold hZ;simp only[den,yU];rw[ij (Jo (cv X) _ _ _ _) (λ_=>aS.const _),ZY];simp only[bn]
theorem Wi{c:Code}:hZ X f (.loop c) S=andThen (hZ X f c S) (hZ X f (.loop c)):=by
 apply Option.ext;intro r;have AU:∀S r,hZ X f (.loop c) S=some r↔∃k,iter (den X f (aW X k) k c) k S=some r:=λS r=>ep (dm (.loop c) S);have hi:∀{k j i:Nat}{S r},k<=j->i<=j->iter (den X f (aW X k) k c) i S=some r->iter (den X f (aW X j) j c) j S=some r:=by
  intro k j i S r O Au h;exact wh _ Au ((xx (F:=λk=>den X f (aW X k) k c) (λS=>dm c S) i S).le O h)
 rw[AU];constructor
 ·rintro ⟨k,O⟩;cases k with
  |zero=>cases O
  |succ k=>
   simp only[iter]at O;rcases iQ O with ⟨S1,J,A1⟩|⟨J,A1⟩
   ·have:hZ X f c S=some (.normal,S1):=(ep (dm c S)).2 ⟨k+1,J⟩;rw[this];exact (AU S1 r).2 ⟨k+1,hi (ack _) (apd k) A1⟩
   ·have:hZ X f c S=some r:=(ep (dm c S)).2 ⟨k+1,J⟩;rw[this];obtain⟨e,S1⟩:=r;cases e with
    |normal=>exact absurd rfl A1
    |_=>rfl
 ·intro h;rcases iQ h with ⟨S1,J,A1⟩|⟨J,A1⟩
  ·obtain⟨k,O⟩:=(ep (dm c S)).1 J;obtain⟨j,Av⟩:=(AU S1 r).1 A1;refine⟨max k j+1,?_⟩;rw[iter,(dm c S).le (show k<=max k j+1 by omega) O];have:=(xx (F:=λk=>den X f (aW X k) k c) (λS=>dm c S) j S1).le (show j<=max k j+1 by omega) Av;exact wh _ (show j<=max k j by omega) this
  ·obtain⟨k,O⟩:=(ep (dm c S)).1 J;refine⟨k+1,?_⟩;rw[iter,(dm c S).le (apd k) O];obtain⟨e,S1⟩:=r;cases e with
   |normal=>exact absurd rfl A1
   |_=>rfl
noncomputable def GK(X:Ctx)(f:FuncId)(fn:Func)(c:Code)(cs:List aJ)(args:List AV):Option (Out×List (Nat×aJ)):=
 if (decide (args.length<=fn.ntmps)&&decide (cs.length<=100)&&(X.fp f).sites.all (λk=>decide (100<=k))&&decide (X.fp f).sites.Nodup)=true then
  fin X.P (X.fp f) cs.length fn.results.toList (hZ X f c (entry fn.ntmps X.gl args cs (X.fp f).sites))
 else none
theorem Z1{fn:Func}{c:Code}{args:List AV}{cs:List aJ}(A9:X.ov=none)(AF:X.Ea f=none)(V:X.P.funcs[f]?=some fn)(AC:fn.body=some c)(AL:B6 c=false):
 ai X f args cs=kL (GK X f fn c cs) args (X.fp f).split:=by
 have hm:∀args,aS (λk=>s6 X f (aW X k) k fn c args cs):=λargs=>GF (cv X) f (m:=λk=>k) (λk=>apd k) fn c args cs;have Z:∀args,jr (λk=>s6 X f (aW X k) k fn c args cs)=GK X f fn c cs args:=by
  intro args;unfold s6 GK;split
  ·rename_i h;have J:(λk=>fin X.P (X.fp f) cs.length fn.results.toList (den X f (aW X k) k c (entry fn.ntmps X.gl args cs (X.fp f).sites)))=λk=>(den X f (aW X k) k c (entry fn.ntmps X.gl args cs (X.fp f).sites)).bind λq=>fin X.P (X.fp f) cs.length fn.results.toList (some q):=by
    funext k;exact Mr ..
   rw[J,ij (dm c _) (λ_=>aS.const _),Mr];simp only[bn];rfl
  ·exact bn _
 have AD:ai X f args cs=jr (λk=>kL (λargs=>s6 X f (aW X k) k fn c args cs) args (X.fp f).split):=by
  unfold ai;rw[<-Jm (cv X f args cs)];congr 1;funext k;rw[aW,A9,AF,V];simp only[AC,AL,Dh]
 rw[AD];unfold kL;split
 ·split
  ·rename_i r;apply Option.ext;intro y;rw[ep (A4 (hm _) (hm _)),<-Z,<-Z];constructor
   ·rintro ⟨n,Y⟩;unfold lW at Y⊢;split at Y
    ·rename_i a b A8 AW;have f1:=(ep (hm _)).2 ⟨n,gM A8⟩;have f2:=(ep (hm _)).2 ⟨n,gM AW⟩;rw[f1,f2];rw[gM A8]at Y;exact Y
    ·cases Y
   ·intro h;unfold lW at h;split at h
    ·rename_i a b A8 AW;obtain⟨n,Y⟩:=(ep (hm _)).1 (gM A8);obtain⟨m,Aw⟩:=(ep (hm _)).1 (gM AW);refine⟨max n m,?_⟩;rw[(hm _).le (Nat.le_max_left n m) Y,(hm _).le (Nat.le_max_right n m) Aw];rw[gM A8]at h;exact h
    ·cases h
  ·exact Z _
 ·exact Z _
end
abbrev b7:=Option (Out×List (Nat×aJ))
abbrev Kt:=XE->St->b7
noncomputable def aO(X:Ctx)(f:FuncId)(c:Code)(S:St)(k:Kt):b7:=(hZ X f c S).bind λp=>k p.1 p.2
noncomputable def runK(X:Ctx)(md:Bool)(all ops:List Oper)(S:St)(k:Kt):b7:=(iv X (ai X) md all ops S).bind λp=>k p.1 p.2
noncomputable def lf(X:Ctx)(md:Bool)(E:Nat×List (List Nat))(all ops:List Oper)(S:St)(H:List bf)(k:Kt):b7:=(jq X (ai X) md E all ops S H).bind λp=>k p.1 p.2
noncomputable def Cm(X:Ctx)(f:FuncId)(b:Code)(k:Kt):Kt
 | .normal,S=>aO X f b S k
 |e,S=>k e S
def Ib(id:Nat)(k:Kt):Kt
 | .exit U,S=>if U=id then k .normal S else k (.exit U) S
 |e,S=>k e S
noncomputable def GL(X:Ctx)(f:FuncId)(c:Code)(k:Kt):Kt
 | .normal,S=>aO X f (.loop c) S k
 |e,S=>k e S
def GM(X:Ctx)(f:FuncId)(id:Nat)(k:Kt):Kt
 | .normal,S=>k .normal (S.leave X f id)
 |e,S=>k e S
def Ic(P:Program)(p:aP)(O:Nat)(rs:List ResultVar):Kt
 | .normal,S=>finish P p O rs S
 | .ret,S=>finish P p O rs S
 | .panic t x,S=>zV p O t x S
 | .exit _,_=>none
def Wj:Bool×AV->Bool
 |(true,.d (.bool _))=>true
 |_=>false
def Cn:Bool×AV->Bool
 |(_,.d (.bool b))=>b
 |_=>false
def Env.kn:Env->Nat->Bool->Env
 |[],_,_=>[]
 |(t,x)::r,c,b=>if t=c then (t,true,.d (.bool b))::r else (t,x)::Env.kn r c b
def St.kn(S:St)(c:Nat)(b:Bool):St:={S with env:=Env.kn S.env c b}
section
variable {X:Ctx} {f:FuncId} {S:St} {k:Kt}
theorem wi(r:Option (XE×St))(g:St->Option (XE×St)):(andThen r g).bind (λp=>k p.1 p.2)=r.bind λp=>match p with
 |(.normal,S)=>(g S).bind λp=>k p.1 p.2
 |(e,S)=>k e S:=by
 rcases r with _|⟨e,S⟩
 ·rfl
 ·cases e<;>rfl
theorem Wk:aO X f .skip S k=k .normal S:=by simp only[aO,We,ad0]
theorem Wl{id:Nat}:aO X f (.exit id) S k=k (.exit id) (I7 S (X.gh f (id+1000000))):=by simp only[aO,Wf,ad0]
theorem Z2:aO X f .ret S k=k .ret S:=by simp only[aO,ZZ,ad0]
theorem ik{a b:Code}:aO X f (.seq a b) S k=aO X f a S (Cm X f b k):=by
 simp only[aO,Z0,wi];congr 1;funext p;obtain⟨e,S⟩:=p;cases e<;>rfl
theorem ag{c:Code}:aO X f (.loop c) S k=aO X f c S (GL X f c k):=by
 rw[aO,Wi,wi,aO];congr 1;funext p;obtain⟨e,S⟩:=p;cases e<;>rfl
theorem S7{id:Nat}{c:Code}:aO X f (.block id c) S k=aO X f c S (Ib id k):=by
 simp only[aO,S6];rcases hZ X f c S with _|⟨e,S⟩
 ·rfl
 ·cases e with
  |exit U=>
   simp only[Gs,ad0,Ib];split<;>rfl
  |_=>rfl
theorem Jt{c:Operand}{a b:Code}:aO X f (.cond c a b) S k=if Wj (S.ar c)=true then (if Cn (S.ar c)=true then aO X f a S k else aO X f b S k)else none:=by
 simp only[aO,Wg];generalize S.ar c=v;obtain⟨g,x⟩:=v;cases g with
 |false=>rfl
 |true=>
  cases x with
  |d x=>
   cases x with
   |bool t=>cases t<;>rfl
   |_=>rfl
  |_=>rfl
theorem acM{b:Bool}:∀{env:Env}{c:Nat},Env.lk env c=some (true,.d (.bool b))->Env.kn env c b=env
 |[],c,h=>by cases h
 |(t,x)::r,c,h=>by
  simp only[Env.lk]at h;simp only[Env.kn];split
  ·rename_i A0;rw[acs A0]at h;cases h;rfl
  ·rename_i A0;rw[ach A0]at h;rw[acM h]
theorem ag1{c:Tmp}{b:Bool}(h:S.ar (.tmp c)=(true,.d (.bool b))):Env.lk S.env c=some (true,.d (.bool b)):=by
 simp only[St.ar]at h;cases A3:Env.lk S.env c with
 |none=>rw[A3]at h;simp at h
 |some x=>rw[A3]at h;simp only[af9]at h;rw[h]
theorem S8{c:Tmp}{a b:Code}:aO X f (.cond (.tmp c) a b) S k=if Wj (S.ar (.tmp c))=true then (if Cn (S.ar (.tmp c))=true then aO X f a (S.kn c true) k else aO X f b (S.kn c false) k)else none:=by
 rw[Jt];generalize A6:S.ar (.tmp c)=v;obtain⟨g,x⟩:=v;cases g with
 |false=>rfl
 |true=>
  cases x with
  |d x=>
   cases x with
   |bool t=>
    have:S.kn c t=S:=by
     unfold St.kn;rw[acM (ag1 A6)]
    cases t with
    |true=>rw[this];rfl
    |false=>rw[this];rfl
   |_=>rfl
  |_=>rfl
theorem S9{v:Value}{a b:Code}:aO X f (.cond (.const v) a b) S k=if Wj (S.ar (.const v))=true then (if Cn (S.ar (.const v))=true then aO X f a S k else aO X f b S k)else none:=Jt
theorem O1{id:Nat}{l:List Oper}:aO X f (.region id ⟨l⟩ false) S k=runK X (X.md f id) l l S (GM X f id k):=by
 simp only[aO,O0,runK];rcases iv X (ai X) (X.md f id) l l S with _|⟨e,S⟩
 ·rfl
 ·cases e<;>rfl
noncomputable def Dm(X:Ctx)(md:Bool)(E:List (List Nat))(l:List Oper)(S:St)(k:Kt):List (Nat×Nat)->b7
 |[]=>lf X md (hY S.mem,E) l l S [] k
 |q::r=>(SG X (ai X) md E l S (gv S.mem (q::r))).bind λp=>k p.1 p.2
theorem Wm{id:Nat}{l:List Oper}:aO X f (.region id ⟨l⟩ true) S k=Dm X (X.md f id) (X.od f id) l S (GM X f id k) (X.fl f id):=by
 simp only[aO,Wh];cases X.fl f id with
 |nil=>
  simp only[v7,Dm,lf];rcases jq X (ai X) (X.md f id) (hY S.mem,X.od f id) l l S []with _|⟨e,S⟩
  ·rfl
  ·cases e<;>rfl
 |cons q r=>
  simp only[v7,Dm];rcases SG X (ai X) (X.md f id) (X.od f id) l S (gv S.mem (q::r))with _|⟨e,S⟩
  ·rfl
  ·cases e<;>rfl
noncomputable def Dn(X:Ctx)(md:Bool)(E:List (List Nat))(I:List Cl)(all ops:List Oper)(S:St)(H:List bf)(k:Kt):b7:=(pz X (ai X) md E I all ops S H).bind λp=>k p.1 p.2
noncomputable def Kw(X:Ctx)(md:Bool)(E:List (List Nat))(I:List Cl)(all r:List Oper)(H:List bf)(k:Kt):Option (St×bf)->b7
 |some (S,p)=>Dn X md E I all r S (p::H) k
 |none=>none
theorem aeD{md:Bool}{E:List (List Nat)}{l:List Oper}:Dm X md E l S k []=lf X md (hY S.mem,E) l l S [] k:=rfl
noncomputable def Kx(X:Ctx)(md:Bool)(E:List (List Nat))(l:List Oper)(S:St)(k:Kt):Option (List Cl)->b7
 |some I=>Dn X md E I l l S [] k
 |none=>none
theorem Ie{md:Bool}{E:List (List Nat)}{l:List Oper}{q:Nat×Nat}{r:List (Nat×Nat)}:Dm X md E l S k (q::r)=Kx X md E l S k (gv S.mem (q::r)):=by
 simp only[Dm];cases gv S.mem (q::r)<;>rfl
noncomputable def Dp(X:Ctx)(md:Bool)(E:List (List Nat))(I:List Cl)(all r:List Oper)(S:St)(o:Oper)(H:List bf)(k:Kt):Bool->b7
 |true=>if oy E H.reverse=true then runK X md all [o] S k else none
 |false=>Kw X md E I all r H k (pY X (ai X) md I all S o (rl X.P I S o))
theorem Ar{md:Bool}{E:List (List Nat)}{I:List Cl}{all r:List Oper}{o:Oper}{H:List bf}:Dn X md E I all (o::r) S H k=Dp X md E I all r S o H k (oz (E.getD H.length []) r):=by
 simp only[Dn,pz];cases oz (E.getD H.length []) r with
 |true=>
  simp only[LR,Dp];split
  ·rfl
  ·rfl
 |false=>
  simp only[Dp];rcases pY X (ai X) md I all S o (rl X.P I S o)with _|⟨S1,p⟩<;>rfl
theorem kN{b:Code}:Cm X f b k .normal S=aO X f b S k:=rfl
theorem ag2{b:Code}{id:Nat}:Cm X f b k (.exit id) S=k (.exit id) S:=rfl
theorem ag3{b:Code}:Cm X f b k .ret S=k .ret S:=rfl
theorem ag4{b:Code}{t:TypeId}{x:D}:Cm X f b k (.panic t x) S=k (.panic t x) S:=rfl
theorem ag5{id:Nat}:Ib id k .normal S=k .normal S:=rfl
theorem ag6{id U:Nat}:Ib id k (.exit U) S=if U=id then k .normal S else k (.exit U) S:=rfl
theorem ag7{id:Nat}:Ib id k .ret S=k .ret S:=rfl
theorem ag8{id:Nat}{t:TypeId}{x:D}:Ib id k (.panic t x) S=k (.panic t x) S:=rfl
theorem aeE{c:Code}:GL X f c k .normal S=aO X f (.loop c) S k:=rfl
theorem aeF{c:Code}{id:Nat}:GL X f c k (.exit id) S=k (.exit id) S:=rfl
theorem aeG{c:Code}:GL X f c k .ret S=k .ret S:=rfl
theorem aeH{c:Code}{t:TypeId}{x:D}:GL X f c k (.panic t x) S=k (.panic t x) S:=rfl
theorem Z3{id:Nat}:GM X f id k .normal S=k .normal (S.leave X f id):=rfl
theorem Z4{id:Nat}{t:TypeId}{x:D}:GM X f id k (.panic t x) S=k (.panic t x) S:=rfl
theorem ag9{P:Program}{p:aP}{O:Nat}{rs:List ResultVar}:Ic P p O rs .normal S=finish P p O rs S:=rfl
theorem aha{P:Program}{p:aP}{O:Nat}{rs:List ResultVar}:Ic P p O rs .ret S=finish P p O rs S:=rfl
theorem ahb{P:Program}{p:aP}{O:Nat}{rs:List ResultVar}{t:TypeId}{x:D}:Ic P p O rs (.panic t x) S=zV p O t x S:=rfl
end
def As(all:List Oper)(o:Oper):Option Nat:=
 match o.guard with
 |some (j,_)=>nc all j
 |none=>none
noncomputable def s7(X:Ctx)(md:Bool)(S:St)(d:Option Nat)(all r:List Oper)(k:Kt):Option gU->b7
 |some ⟨.ret x,es,_⟩=>runK X md all r (({S with mem:=bS S.mem es}:St).put d true x) k
 |some ⟨.panic t x,es,_⟩=>k (.panic t x) {S with mem:=bS S.mem es}
 |none=>none
def Mu(S:St)(k:Kt):Bool×AV->b7
 |(true,.jb t d)=>k (.panic t d) S
 |_=>none
noncomputable def xy(X:Ctx)(md:Bool)(S:St)(o:Oper)(all r:List Oper)(k:Kt):Op->b7
 | .call {callee:=.value T,args,..}=>s7 X md S o.dst all r k (de X (ai X) S o args.toList (S.ar T))
 | .panic x=>Mu S k (S.ar x)
 |_=>none
noncomputable def s8(X:Ctx)(md:Bool)(S:St)(o:Oper)(all r:List Oper)(k:Kt):dY->b7
 | .val c x=>if (iB S o&&c)=true then runK X md all r (S.put o.dst true x) k else none
 | .dJ c x e=>if (iB S o&&c)=true then runK X md all r (({S with mem:=Mem.set S.mem e}:St).put o.dst true x) k else none
 | .no=>xy X md S o all r k o.op
noncomputable def wj(X:Ctx)(md:Bool)(S:St)(o:Oper)(all r:List Oper)(k:Kt)(b:Bool):dY->b7
 | .val c x=>if b=true->(iB S o&&c)=true then runK X md all r (S.put o.dst b x) k else none
 | .dJ c x e=>if b=true then s8 X md S o all r k (.dJ c x e)else runK X md all r (S.put o.dst true .bm) k
 | .no=>if b=true then xy X md S o all r k o.op else runK X md all r (S.put o.dst true .bm) k
noncomputable def GN(X:Ctx)(S:St)(o:Oper)(all r:List Oper)(k:Kt)(J t:Bool):Bool->b7
 |false=>wj X false S o all r k (t == J) (dP X.P S o)
 |true=>if (t == J)=true then s8 X true (S.cz (As all o) J) o all r k (dP X.P (S.cz (As all o) J) o)else runK X true all r ((S.cz (As all o) (!J)).put o.dst true (.bh [])) k
noncomputable def Mv(X:Ctx)(md:Bool)(S:St)(o:Oper)(all r:List Oper)(k:Kt)(J:Bool):GV->b7
 | .r5 t=>GN X S o all r k J t md
 | .skip=>runK X md all r (S.put o.dst true (.bh [])) k
 | .bad=>none
section
variable {X:Ctx} {f:FuncId} {S:St} {k:Kt} {all r:List Oper} {md:Bool}
theorem At(o:Oper)(res:dY):(andThen (jo X (ai X) S o res) (iv X (ai X) md all r)).bind (λp=>k p.1 p.2)=s8 X md S o all r k res:=by
 cases res with
 |val c x=>simp only[jo,s8];split<;>rfl
 |dJ c x e=>simp only[jo,s8];split<;>rfl
 |no=>
  simp only[jo,s8,tU];split
  ·rename_i T args A4 V;rw[V];simp only[xy];rcases de X (ai X) S o args.toList (S.ar T)with _|⟨out,es,ks⟩
   ·rfl
   ·cases out<;>rfl
  ·rename_i x V;rw[V];simp only[xy];generalize S.ar x=v;obtain⟨g,y⟩:=v;cases g<;>cases y<;>rfl
  ·rename_i Z A7;unfold xy;split
   ·rename_i heq;exact absurd heq (Z _ _ _)
   ·rename_i heq;exact absurd heq (A7 _)
   ·rfl
theorem Z5:runK X md all [] S k=k .normal S:=rfl
theorem Wn{d:Option Tmp}{op:Op}{ty:TypeId}{pos:String}{M:Array Edge}:runK X md all (⟨d,op,ty,pos,M,none⟩::r) S k=s8 X md S ⟨d,op,ty,pos,M,none⟩ all r k (dP X.P S ⟨d,op,ty,pos,M,none⟩):=
 At _ _
theorem Ta{d:Option Tmp}{op:Op}{ty:TypeId}{pos:String}{M:Array Edge}{j:Nat}{w:Bool}:runK X md all (⟨d,op,ty,pos,M,some (j,w)⟩::r) S k=Mv X md S ⟨d,op,ty,pos,M,some (j,w)⟩ all r k w (rk (qV all S j)):=by
 simp only[runK,iv,pb];generalize rk (qV all S j)=g;cases g with
 |skip=>rfl
 |bad=>rfl
 |r5 t=>
  simp only[Mv];cases md with
  |true=>
   simp only[GN,As];split
   ·exact At _ _
   ·rfl
  |false=>
  simp only[GN];generalize A':dP X.P S _=res;cases res with
  |val c x=>simp only[qz,wj];split<;>rfl
  |dJ c x e=>
   simp only[qz,wj];split
   ·exact At _ (.dJ c x e)
   ·rfl
  |no=>
   simp only[qz,wj];split
   ·exact At _ .no
   ·rfl
theorem Wo{d:Option Nat}{c:Prop}[Decidable c]{a b:Option gU}:s7 X md S d all r k (if c then a else b)=if c then s7 X md S d all r k a else s7 X md S d all r k b:=by split<;>rfl
end
theorem Mw{m:Mem}{A1:Nat}{ρ B:List Nat}{c:Prop}[Decidable c]{a b:Option (Out×List (Nat×aJ))}:gm m A1 ρ B (if c then a else b)=if c then gm m A1 ρ B a else gm m A1 ρ B b:=by split<;>rfl
noncomputable def nu(X:Ctx)(md:Bool)(E:Nat×List (List Nat))(S:St)(d:Option Nat)(all r:List Oper)(H:List bf)(k:Kt):Option gU->b7
 |some ⟨.ret x,es,ks⟩=>lf X md E all r (({S with mem:=bS S.mem es}:St).put d true x) (⟨ks,es,true,x⟩::H) k
 |some ⟨.panic t x,es,ks⟩=>(SF X md E all r d H ⟨{S with mem:=bS S.mem es},t,x,es,ks⟩).bind λp=>k p.1 p.2
 |none=>none
noncomputable def Co(X:Ctx)(md:Bool)(E:Nat×List (List Nat))(S:St)(o:Oper)(all r:List Oper)(H:List bf)(k:Kt):Op->b7
 | .call {callee:=.value T,args,..}=>nu X md E S o.dst all r H k (de X (ai X) S o args.toList (S.ar T))
 |_=>none
noncomputable def wm(X:Ctx)(md:Bool)(E:Nat×List (List Nat))(S:St)(o:Oper)(all r:List Oper)(H:List bf)(k:Kt):dY->b7
 | .val c x=>if (iB S o&&c)=true then lf X md E all r (S.put o.dst true x) (⟨kj S o,[],true,x⟩::H) k else none
 | .dJ c x e=>if (iB S o&&c&&(kj S o).contains e.key)=true then lf X md E all r (({S with mem:=Mem.set S.mem e}:St).put o.dst true x) (⟨kj S o,[e],true,x⟩::H) k else none
 | .no=>Co X md E S o all r H k o.op
noncomputable def rp(X:Ctx)(md:Bool)(E:Nat×List (List Nat))(S:St)(d:Option Nat)(all r:List Oper)(H:List bf)(k:Kt):Option gU->b7
 |some ⟨.ret x,es,ks⟩=>lf X md E all r (({S with mem:=bS S.mem es}:St).put d true x) (⟨ks,es,true,x⟩::H) k
 |_=>none
noncomputable def yV(X:Ctx)(md:Bool)(E:Nat×List (List Nat))(S:St)(o:Oper)(all r:List Oper)(H:List bf)(k:Kt):Op->b7
 | .call {callee:=.value T,args,..}=>rp X md E S o.dst all r H k (de X (ai X) S o args.toList (S.ar T))
 |_=>none
noncomputable def rq(X:Ctx)(md:Bool)(E:Nat×List (List Nat))(S:St)(o:Oper)(all r:List Oper)(H:List bf)(k:Kt):dY->b7
 | .val c x=>if (iB S o&&c)=true then lf X md E all r (S.put o.dst true x) (⟨kj S o,[],true,x⟩::H) k else none
 | .dJ c x e=>if (iB S o&&c&&(kj S o).contains e.key)=true then lf X md E all r (({S with mem:=Mem.set S.mem e}:St).put o.dst true x) (⟨kj S o,[e],true,x⟩::H) k else none
 | .no=>yV X md E S o all r H k o.op
noncomputable def sB(X:Ctx)(md:Bool)(E:Nat×List (List Nat))(S:St)(o:Oper)(all r:List Oper)(H:List bf)(k:Kt)(b:Bool):dY->b7
 | .val c x=>if b=true->(iB S o&&c)=true then lf X md E all r (S.put o.dst b x) (⟨kj S o,[],b,x⟩::H) k else none
 | .dJ c x e=>if b=true then rq X md E S o all r H k (.dJ c x e)else lf X md E all r (S.put o.dst true .bm) (⟨[],[],true,.bm⟩::H) k
 | .no=>if b=true then yV X md E S o all r H k o.op else lf X md E all r (S.put o.dst true .bm) (⟨[],[],true,.bm⟩::H) k
noncomputable def Cp(X:Ctx)(E:Nat×List (List Nat))(S:St)(o:Oper)(all r:List Oper)(H:List bf)(k:Kt)(J t:Bool):Bool->b7
 |false=>sB X false E S o all r H k (t == J) (dP X.P S o)
 |true=>if (t == J)=true then rq X true E (S.cz (As all o) J) o all r H k (dP X.P (S.cz (As all o) J) o)else lf X true E all r ((S.cz (As all o) (!J)).put o.dst true (.bh [])) (⟨[],[],true,.bh []⟩::H) k
noncomputable def GO(X:Ctx)(md:Bool)(E:Nat×List (List Nat))(S:St)(o:Oper)(all r:List Oper)(H:List bf)(k:Kt)(J:Bool):GV->b7
 | .r5 t=>Cp X E S o all r H k J t md
 | .skip=>lf X md E all r (S.put o.dst true (.bh [])) (⟨[],[],true,.bh []⟩::H) k
 | .bad=>none
section
variable {X:Ctx} {f:FuncId} {S:St} {k:Kt} {all r:List Oper} {md:Bool} {E:Nat×List (List Nat)} {H:List bf}
theorem tZ(o:Oper)(res:dY):(z7 H (fO X (ai X) S o res) (jq X (ai X) md E all r)).bind (λp=>k p.1 p.2)=rq X md E S o all r H k res:=by
 cases res with
 |val c x=>simp only[fO,rq];split<;>rfl
 |dJ c x e=>simp only[fO,rq];split<;>rfl
 |no=>
  simp only[fO,rq,nf];split
  ·rename_i T args A4 V;rw[V];simp only[yV];rcases de X (ai X) S o args.toList (S.ar T)with _|⟨out,es,ks⟩
   ·rfl
   ·cases out<;>rfl
  ·rename_i Z;unfold yV;split
   ·rename_i heq;exact absurd heq (Z _ _ _)
   ·rfl
theorem sC(h:oy E.2 H.reverse=true):lf X md E all [] S H k=k .normal S:=by
 simp only[lf,jq,h,adZ,ad0]
def Cq:List bf->List bf->List bf
 |[],r=>r
 |x::l,r=>Cq l (x::r)
theorem Dq:∀(l r:List bf),Cq l r=l.reverse++r
 |[],_=>rfl
 |x::l,r=>by rw[Cq,Dq l];simp
theorem Cr{E:List (List Nat)}{I:List Cl}:Dn X md E I all [] S H k=if oy E (Cq H [])=true then k .normal S else none:=by
 simp only[Dn,pz];rw[Dq,ad9];split<;>rfl
theorem ay:lf X md E all [] S H k=if oy E.2 (Cq H [])=true then k .normal S else none:=by
 rw[Dq,ad9];simp only[lf,jq];split<;>rfl
theorem Wp{d:Option Tmp}{op:Op}{ty:TypeId}{pos:String}{M:Array Edge}:lf X md E all (⟨d,op,ty,pos,M,none⟩::r) S H k=wm X md E S ⟨d,op,ty,pos,M,none⟩ all r H k (dP X.P S ⟨d,op,ty,pos,M,none⟩):=by
 simp only[lf,jq,mG];generalize V:(⟨d,op,ty,pos,M,none⟩:Oper)=o;have A8:o.guard=none:=by subst V;rfl
 have Y:eZ X (ai X) md all S o=fO X (ai X) S o (dP X.P S o):=by unfold eZ;rw[A8]
 generalize A':dP X.P S o=res;rw[A']at Y;cases res with
 |val c x=>simp only[EM,py,Y,wm];exact tZ _ (.val c x)
 |dJ c x e=>simp only[EM,py,Y,wm];exact tZ _ (.dJ c x e)
 |no=>
  simp only[EM,LP,wm];split
  ·rename_i T args A4 A2;rw[A2];simp only[Co];cases A5:de X (ai X) S o args.toList (S.ar T)with
   |none=>
    simp only[yj,py,Y,fO,nf,A2,A5,nu];rfl
   |some res=>
    obtain⟨out,es,ks⟩:=res;cases out with
    |ret x=>
     simp only[yj,py,Y,fO,nf,A2,A5,nu];rfl
    |panic t x=>rfl
  ·rename_i Z;simp only[py,Y,fO,nf];unfold Co;split
   ·rename_i heq;exact absurd heq (Z _ _ _)
   ·rfl
theorem Tb{d:Option Tmp}{op:Op}{ty:TypeId}{pos:String}{M:Array Edge}{j:Nat}{w:Bool}:lf X md E all (⟨d,op,ty,pos,M,some (j,w)⟩::r) S H k=GO X md E S ⟨d,op,ty,pos,M,some (j,w)⟩ all r H k w (rk (qV all S j)):=by
 simp only[lf,jq,mG,py,eZ];generalize rk (qV all S j)=g;cases g with
 |skip=>rfl
 |bad=>rfl
 |r5 t=>
  simp only[GO];cases md with
  |true=>
   simp only[Cp,As];split
   ·exact tZ _ _
   ·rfl
  |false=>
  simp only[Cp];generalize A':dP X.P S _=res;cases res with
  |val c x=>simp only[tV,sB];split<;>rfl
  |dJ c x e=>
   simp only[tV,sB];split
   ·exact tZ _ (.dJ c x e)
   ·rfl
  |no=>
   simp only[tV,sB];split
   ·exact tZ _ .no
   ·rfl
theorem Tc{d:Option Nat}{c:Prop}[Decidable c]{a b:Option gU}:nu X md E S d all r H k (if c then a else b)=if c then nu X md E S d all r H k a else nu X md E S d all r H k b:=by split<;>rfl
theorem Td{d:Option Nat}{c:Prop}[Decidable c]{a b:Option gU}:rp X md E S d all r H k (if c then a else b)=if c then rp X md E S d all r H k a else rp X md E S d all r H k b:=by split<;>rfl
end
def GP(n:Nat)(p:aP)(args:List AV)(cs:List aJ):Bool:=
 decide (args.length<=n)&&decide (cs.length<=100)&&p.sites.all (λk=>decide (100<=k))&&decide p.sites.Nodup
theorem az{X:Ctx}{f:FuncId}{fn:Func}{c:Code}{args:List AV}{cs:List aJ}{n:Nat}{rs:List ResultVar}{p:aP}(A9:X.ov=none)(AA:X.Ea f=none)(AB:X.P.funcs[f]?=some fn)(AC:fn.body=some c)(AD:B6 c=false)(AE:fn.ntmps=n)(AF:fn.results.toList=rs)
 (AG:X.fp f=p) (A':p.split=false) (AH:GP n p args cs=true):ai X f args cs=aO X f c (entry n X.gl args cs p.sites) (Ic X.P p cs.length rs):=by
 subst AG;rw[Z1 A9 AA AB AC AD,A'];simp only[kL,GK];subst AE;subst AF;rw[acs (by simpa only[GP]using AH)];simp only[aO];rcases hZ X f c _ with _|⟨e,S⟩
 ·rfl
 ·cases e<;>rfl
attribute [simp] dP.eq_1
attribute [simp] iB.eq_1
attribute [simp] jW.eq_1 jW.eq_2
attribute [simp] Go.Op.operands.eq_1 Go.Op.operands.eq_2 Go.Op.operands.eq_3 Go.Op.operands.eq_4 Go.Op.operands.eq_5 Go.Op.operands.eq_6 Go.Op.operands.eq_7 Go.Op.operands.eq_8 Go.Op.operands.eq_9 Go.Op.operands.eq_10 Go.Op.operands.eq_11 Go.Op.operands.eq_12 Go.Op.operands.eq_13 Go.Op.operands.eq_14 Go.Op.operands.eq_15 Go.Op.operands.eq_16 Go.Op.operands.eq_17 Go.Op.operands.eq_18 Go.Op.operands.eq_19 Go.Op.operands.eq_20 Go.Op.operands.eq_21 Go.Op.operands.eq_22 Go.Op.operands.eq_23 Go.Op.operands.eq_24 Go.Op.operands.eq_25 Go.Op.operands.eq_26 Go.Op.operands.eq_27 Go.Op.operands.eq_28 Go.Op.operands.eq_29 Go.Op.operands.eq_30 Go.Op.operands.eq_31 Go.Op.operands.eq_32 Go.Op.operands.eq_33 Go.Op.operands.eq_34 Go.Op.operands.eq_35 Go.Op.operands.eq_36 Go.Op.operands.eq_37 Go.Op.operands.eq_38 Go.Op.operands.eq_39 Go.Op.operands.eq_40 Go.Op.operands.eq_41 Go.Op.operands.eq_42 Go.Op.operands.eq_43
attribute [simp] St.ar.eq_1 St.ar.eq_2 St.ar.eq_3 St.ar.eq_4
attribute [simp] Env.lk.eq_1 Env.lk.eq_2
attribute [simp] St.put.eq_1 St.put.eq_2
attribute [simp] Mem.get.eq_1 Mem.get.eq_2
attribute [simp] Mem.set.eq_1 Mem.set.eq_2
attribute [simp] AV.mY.eq_1 AV.mY.eq_2 AV.mY.eq_3
attribute [simp] oU.eq_1 oU.eq_2 oU.eq_3 oU.eq_4 oU.eq_5 oU.eq_6
attribute [simp] AV.cells.eq_1 AV.cells.eq_2 AV.cells.eq_3
attribute [simp] nR.eq_1 nR.eq_2 nR.eq_3 nR.eq_4 nR.eq_5
attribute [simp] qR.eq_1 qR.eq_2 qR.eq_3
attribute [simp] qp.eq_1 ku.eq_1 ku.eq_2 ku.eq_3
attribute [simp] oe.eq_1 oe.eq_2
attribute [simp] tH.eq_1 tH.eq_2 tH.eq_3 tH.eq_4
attribute [simp] BF.eq_1 BF.eq_2 BF.eq_3 BF.eq_4
attribute [simp] sh.eq_1 sh.eq_2 sh.eq_3 sh.eq_4 sh.eq_5 sh.eq_6 sh.eq_7 sh.eq_8 sh.eq_9
attribute [simp] gn.eq_1 gn.eq_2 gn.eq_3 gn.eq_4 gn.eq_5 gn.eq_6 gn.eq_7 gn.eq_8 gn.eq_9 gn.eq_10 gn.eq_11 gn.eq_12 gn.eq_13 gn.eq_14 gn.eq_15 gn.eq_16
attribute [simp] oh.eq_1 oh.eq_2 oh.eq_3 oh.eq_4 oh.eq_5 oh.eq_6 oh.eq_7 oh.eq_8
attribute [simp] Kq.eq_1
attribute [simp] vM.eq_1 vM.eq_2
attribute [simp] FR.eq_1 FR.eq_2
attribute [simp] qV.eq_1
attribute [simp] C6.eq_1
def Tf{α:Type}(y:α):Option (List α)->Option (List α)
 |some H=>some (y::H)
 |none=>none
@[simp] theorem alM{α:Type}(y:α)(H:List α):Tf y (some H)=some (y::H):=rfl
@[simp] theorem alN{α:Type}(y:α):Tf y none=none:=rfl
@[simp] theorem toDs_nil:toDs []=some []:=rfl
@[simp] theorem toDs_d(y r):toDs (.d y::r)=Tf y (toDs r):=by
 cases h:toDs r with
 |none=>exact toDs.eq_3 _ _ (λ_ _ _ I=>by rw[h]at I;cases I)
 |some H=>exact toDs.eq_2 _ _ _ h
@[simp] theorem toDs_vec(a b c d r):toDs (.vec a b c d::r)=none:=by rw[toDs.eq_def]
@[simp] theorem toDs_ptr(a b c r):toDs (.ptr a b c::r)=none:=by rw[toDs.eq_def]
@[simp] theorem toDs_lit(a r):toDs (.lit a::r)=none:=by rw[toDs.eq_def]
@[simp] theorem toDs_fn(a b r):toDs (.fn a b::r)=none:=by rw[toDs.eq_def]
@[simp] theorem toDs_nn(r):toDs (.nn::r)=none:=by rw[toDs.eq_def]
@[simp] theorem toDs_junk(r):toDs (.bm::r)=none:=by rw[toDs.eq_def]
attribute [simp] uU.eq_1 uU.eq_2
attribute [simp] Ld.eq_1 Ld.eq_2 Ld.eq_3 Ld.eq_4
attribute [simp] mZ.eq_1 mZ.eq_2 mZ.eq_3 mZ.eq_4 mZ.eq_5 mZ.eq_6 Si.eq_1
attribute [simp] pT.eq_1 pT.eq_2 pT.eq_3 pT.eq_4 pT.eq_5
attribute [simp] uw.eq_1
attribute [simp] Bq.eq_1 R5.eq_1 R5.eq_2 Zj.eq_1 Zj.eq_2
attribute [simp] wX.eq_1 wX.eq_2
attribute [simp] ja.eq_1 ja.eq_2 ja.eq_3 ja.eq_4 ja.eq_5
attribute [simp] zL.eq_1
attribute [simp] zM.eq_1
attribute [simp] HU.eq_1 HU.eq_2
attribute [simp] oV.eq_1 oV.eq_2 oV.eq_3 oV.eq_4
attribute [simp] FT.eq_1
attribute [simp] sV.eq_1 sV.eq_2
attribute [simp] lR.eq_1
attribute [simp] tF.eq_1 tF.eq_2
attribute [simp] uV.eq_1 uV.eq_2
attribute [simp] nV.eq_1 nV.eq_2 nV.eq_3 nV.eq_4 nV.eq_5 nV.eq_6
attribute [simp] uT.eq_1
attribute [simp] qu.eq_1 qu.eq_2 qu.eq_3
attribute [simp] vN.eq_1 vN.eq_2 yL.eq_1 yL.eq_2 C8.eq_1
attribute [simp] si.eq_1 si.eq_2 si.eq_3 si.eq_4
attribute [simp] mu.eq_1 mu.eq_2 mu.eq_3 mu.eq_4 mu.eq_5
attribute [simp] bound.eq_1 bound.eq_2 bound.eq_3
attribute [simp] bF.eq_1 bF.eq_2
attribute [simp] ld.eq_1 ld.eq_2 ld.eq_3 ld.eq_4 ld.eq_5 ld.eq_6 ld.eq_7 ld.eq_8 ld.eq_9 ld.eq_10 ld.eq_11 ld.eq_12
attribute [simp] D.cells.eq_1 D.cells.eq_2
attribute [simp] D.size.eq_1 D.size.eq_2
attribute [simp] D.flat.eq_1 D.flat.eq_2
attribute [simp] de.eq_1 de.eq_2
attribute [simp] dL.eq_1 dL.eq_2 rj.eq_1 jm.eq_1 De.eq_1 vp.eq_1 uC.eq_1
attribute [simp] collect.eq_1 collect.eq_2 collect.eq_3
attribute [simp] lq.eq_1 lq.eq_2
attribute [simp] vZ.eq_1 vZ.eq_2
attribute [simp] kg.eq_1 kg.eq_2 kg.eq_3 kg.eq_4 kg.eq_5 kg.eq_6 kg.eq_7 kg.eq_8 kg.eq_9 kg.eq_10 kg.eq_11 kg.eq_12
attribute [simp] pa.eq_1 pa.eq_2 pa.eq_3 pa.eq_4 pa.eq_5 pa.eq_6 pa.eq_7
attribute [simp] vo.eq_1 vo.eq_2 vo.eq_3 vo.eq_4
attribute [simp] m8.eq_1 m8.eq_2
attribute [simp] jl.eq_1 jl.eq_2 D3.eq_1 D3.eq_2
attribute [simp] pX.eq_1 pX.eq_2
attribute [simp] yg.eq_1 yg.eq_2 yg.eq_3
attribute [simp] yh.eq_1 yh.eq_2
attribute [simp] mg.eq_1 mg.eq_2
attribute [simp] gm.eq_1 gm.eq_2
attribute [simp] z6.eq_1 z6.eq_2
attribute [simp] B0.eq_1 B0.eq_2
attribute [simp] pL.eq_1 pL.eq_2 pL.eq_1 pL.eq_2
attribute [simp] nr.eq_1 nr.eq_2 nr.eq_3
attribute [simp] eB.eq_1 eB.eq_2 eB.eq_3 eB.eq_4 eB.eq_5 eB.eq_6 eB.eq_7 eB.eq_8 eB.eq_9 eB.eq_10 eB.eq_11 eB.eq_12
attribute [simp] ke.eq_1 ke.eq_2 ke.eq_3 ke.eq_4 ke.eq_5 ke.eq_6
attribute [simp] upO.eq_1 upO.eq_2
attribute [simp] up.eq_1 up.eq_2 up.eq_3 up.eq_4 up.eq_5 up.eq_6 up.eq_7 up.eq_8 up.eq_9 up.eq_10 up.eq_11 up.eq_12
attribute [simp] F5.eq_1 F5.eq_2 F5.eq_3
attribute [simp] jX.eq_1 jX.eq_2
attribute [simp] base.eq_1 base.eq_2
attribute [simp] bS.eq_1 bS.eq_2
attribute [simp] I7.eq_1 I7.eq_2
attribute [simp] Gh.go.eq_1 Gh.go.eq_2 Gh.go.eq_3 Gh.go.eq_4
attribute [simp] St.zZ.eq_1 H4.eq_1 H4.eq_2 v8.eq_1 v8.eq_2 Zy.eq_1 Zy.eq_2 wZ.eq_1 wZ.eq_2
attribute [simp] finish.eq_1
attribute [simp] vU.eq_1 vU.eq_2
attribute [simp] BM.eq_1 BM.eq_2
attribute [simp] sn.eq_1
attribute [simp] St.zR.eq_1
attribute [simp] yN.eq_1 yN.eq_2 yN.eq_3
attribute [simp] F9.eq_1 F9.eq_2
attribute [simp] nX.eq_1 nX.eq_2 nX.eq_3 nX.eq_4 nX.eq_5 nX.eq_6 nX.eq_7 nX.eq_8 nX.eq_9 nX.eq_10 nX.eq_11 nX.eq_12
attribute [simp] St.trim.eq_1
attribute [simp] pJ.eq_1 pJ.eq_2
attribute [simp] mapM.eq_1 mapM.eq_2
attribute [simp] sm.eq_1 sm.eq_2 sm.eq_3
attribute [simp] m7.eq_1 m7.eq_2 m7.eq_3 m7.eq_4 m7.eq_5 m7.eq_6 m7.eq_7 m7.eq_8 m7.eq_9 m7.eq_10 m7.eq_11 m7.eq_12
attribute [simp] nB.eq_1 nB.eq_2
attribute [simp] oneOf.eq_1 oneOf.eq_2
attribute [simp] AV.norm.eq_1 AV.norm.eq_2 AV.norm.eq_3 AV.norm.eq_4
attribute [simp] toD1.eq_1 toD1.eq_2 toD1.eq_3 toD1.eq_4
attribute [simp] toDsN.eq_1 toDsN.eq_2
attribute [simp] vw.eq_1 vw.eq_2 vw.eq_3 vw.eq_4 vw.eq_5 vw.eq_6 vw.eq_7 vw.eq_8 vw.eq_9 vw.eq_10 vw.eq_11 vw.eq_12
attribute [simp] fo.eq_1 fo.eq_2
attribute [simp] TK.agg.eq_1 TK.agg.eq_2 TK.agg.eq_3
attribute [simp] s8.eq_1 s8.eq_2 s8.eq_3
attribute [simp] wj.eq_1 wj.eq_2 wj.eq_3
attribute [simp] Mv.eq_1 Mv.eq_2 Mv.eq_3
attribute [simp] xy.eq_1 xy.eq_2 xy.eq_3
attribute [simp] s7.eq_1 s7.eq_2 s7.eq_3
attribute [simp] Mu.eq_1 Mu.eq_2
attribute [simp] Wj.eq_1 Wj.eq_2
attribute [simp] Cn.eq_1 Cn.eq_2
attribute [simp] uu.eq_1
attribute [simp] vO.eq_1 Ln.eq_1 Vm.eq_1 Vm.eq_2 zeroOf.eq_1 zeroOf.eq_2 zeroOf.eq_3
attribute [simp] St.zS.eq_1 St.zS.eq_2
attribute [simp] tI.eq_1 tI.eq_2
attribute [simp] lU.eq_1 lU.eq_2
attribute [simp] nA.eq_1 nA.eq_2
attribute [simp] xe.eq_1 xe.eq_2
attribute [simp] tN.eq_1 tN.eq_2
attribute [simp] oW.eq_1 oW.eq_2
attribute [simp] mD.eq_1 mD.eq_2
attribute [simp] vX.eq_1 vX.eq_2
attribute [simp] vY.eq_1 vY.eq_2
attribute [simp] jw.eq_1 jw.eq_2
attribute [simp] eI.eq_1 eI.eq_2
attribute [simp] kL.eq_1 kL.eq_2 kL.eq_3
attribute [simp] p8.eq_1 p8.eq_2
attribute [simp] lW.eq_1
attribute [simp] kj.eq_1 Gf.eq_1 Gf.eq_2 Gf.eq_3
attribute [simp] vm.eq_1 vm.eq_2
attribute [simp] cF.eq_1 cF.eq_2 cF.eq_3 cF.eq_4
attribute [simp] wm.eq_1 wm.eq_2 wm.eq_3
attribute [simp] sB.eq_1 sB.eq_2 sB.eq_3
attribute [simp] GO.eq_1 GO.eq_2 GO.eq_3
attribute [simp] Co.eq_1 Co.eq_2 rq.eq_1 rq.eq_2 rq.eq_3 yV.eq_1 yV.eq_2 rp.eq_1 rp.eq_2
attribute [simp] nu.eq_1 nu.eq_2 nu.eq_3
attribute [simp] mC.eq_1 mC.eq_2 mC.eq_3 mC.eq_4 mC.eq_5 mC.eq_6 mC.eq_7 mC.eq_8 mC.eq_9 mC.eq_10 mC.eq_11 mC.eq_12
attribute [simp] pU.eq_1 pU.eq_2
attribute [simp] St.freeze.eq_1
attribute [simp] St.o8.eq_1
attribute [simp] Go.Call.operands.eq_1
attribute [simp] D.isByte.eq_1 D.isByte.eq_2
attribute [simp] vK.eq_1 vK.eq_2 vK.eq_3 vK.eq_4
attribute [simp] fh.eq_1 fh.eq_2 fh.eq_3
attribute [simp] IH.eq_1 IH.eq_2
attribute [simp] Wk Wl Z2 ik S7 S8 S9 O1 Wm aeD kN ag2 ag3 ag4 ag5 ag6 ag7 ag8 aeE aeF aeG aeH Z3 Z4 ag9 aha ahb Z5 Wn Ta Wo Mw Wp Tb Tc Td
attribute [simp] H2.eq_1 H2.eq_2 sx.eq_1 sx.eq_2 ej.eq_1 ej.eq_2
attribute [simp] GN.eq_1 GN.eq_2
attribute [simp] Cp.eq_1 Cp.eq_2
attribute [simp] As.eq_1
attribute [simp] Env.kn.eq_1 Env.kn.eq_2 St.kn.eq_1
attribute [simp] oy.eq_1 zX.eq_1 zX.eq_2 zX.eq_3 HZ.eq_1 HZ.eq_2 HY.eq_1 HY.eq_2 Cq.eq_1 Cq.eq_2 sr.eq_1
attribute [simp] yQ.eq_1 yQ.eq_2 Df.eq_1
@[simp] theorem axC(t:Bool):rk (some (true,.d (.bool t)))=.r5 t:=rfl
@[simp] theorem axD:rk (some (true,.bh []))=.skip:=rfl
attribute [simp] nc.eq_1
attribute [simp] St.cz St.prune keyOf St.leave so Db LC St.BL Gc jk GP entry dead gp nD nC D.at D.cell D.setCells zV
@[simp] theorem alO(m ρ bor nv):∀E:List D,tI m ρ bor nv (E.map .d)=E.map .d
 |[]=>rfl
 |d::r=>by simp[alO m ρ bor nv r]
@[simp] theorem alP(ρ bs):∀E:List D,xe ρ bs (E.map .d)=E.map .d
 |[]=>rfl
 |d::r=>by simp[alP ρ bs r]
@[simp] theorem Wq:∀E:List D,mD (E.map .d)=[]
 |[]=>rfl
 |d::r=>by simp[Wq r]
@[simp] theorem Z6(k v):∀E:List D,tN k v (E.map .d)=none
 |[]=>rfl
 |d::r=>by simp[Z6 k v r]
@[simp] theorem aeI(k v o l):∀E:List D,oW k v o l (E.map .d)=E.map .d
 |[]=>rfl
 |d::r=>by simp[aeI k v o l r]
@[simp] theorem Tg:∀E:List D,lU (E.map .d)=nA E
 |[]=>rfl
 |d::r=>by simp[Tg r]
attribute [simp] List.take_of_length_le
@[simp] def Code.at:Code->List Nat->Code
 |c,[]=>c
 | .seq a b,i::p=>if i=0 then Code.at a p else Code.at b p
 | .cond _ a b,i::p=>if i=0 then Code.at a p else Code.at b p
 | .block _ c,_::p=>Code.at c p
 | .loop c,_::p=>Code.at c p
 |c,_=>c
@[simp] theorem au8:List.range 2=[0,1]:=rfl
@[simp] theorem au9:List.range 3=[0,1,2]:=rfl
@[simp] theorem ava:List.range 4=[0,1,2,3]:=rfl
@[simp] theorem avb:List.range 5=[0,1,2,3,4]:=rfl
@[simp] theorem avc:List.range 6=[0,1,2,3,4,5]:=rfl
@[simp] theorem avd(a b:Int):(a == b)=decide (a=b):=by by_cases h:a=b<;>simp[h]
def aY(n:Int):Prop:= -9223372036854775808<=n/\n<=9223372036854775807
theorem aA{n:Int}(h:aY n):IntKind.i64.wrap n=n:=IntWalk.i64_in _ (by unfold aY at h;omega)
def q1(m:Nat):Nat:=m/4294967296%4294967296
def q2(m:Nat):Nat:=m/18446744073709551616%4294967296
def q3(m:Nat):Nat:=m/79228162514264337593543950336%4294967296
def q0(m:Nat):Nat:=m%4294967296
def ng(z:Int):Int×Bool:=if-9223372036854775808<=z/\z<=9223372036854775807 then (z,true)else (0,false)
def Cs(a b:Int):Int×Int:=if b=0 then (0,3)else if a= -9223372036854775808/\b= -1 then (0,2)else (a.tdiv b,0)
def E7(a b:Int):Int×Int:=if b=0 then (0,3)else (a.tmod b,0)
theorem Mx(a b:Int):a.tdiv b=(if decide (a<0)=decide (b<0)then ((a.natAbs/b.natAbs:Nat):Int)else-((a.natAbs/b.natAbs:Nat):Int)):=by
 rcases Int.lt_or_le a 0 with D|D<;>rcases Int.lt_or_le b 0 with E|E
 ·rw[acs (by simp[D,E])];obtain⟨m,rfl⟩:∃m:Nat,a= -(m:Int):=⟨a.natAbs,by omega⟩;obtain⟨n,rfl⟩:∃n:Nat,b= -(n:Int):=⟨b.natAbs,by omega⟩;simp[Int.neg_tdiv,Int.tdiv_neg]
 ·rw[ach (by simp[D];omega)];obtain⟨m,rfl⟩:∃m:Nat,a= -(m:Int):=⟨a.natAbs,by omega⟩;obtain⟨n,rfl⟩:∃n:Nat,b=(n:Int):=⟨b.natAbs,by omega⟩;simp[Int.neg_tdiv]
 ·rw[ach (by simp[E];omega)];obtain⟨m,rfl⟩:∃m:Nat,a=(m:Int):=⟨a.natAbs,by omega⟩;obtain⟨n,rfl⟩:∃n:Nat,b= -(n:Int):=⟨b.natAbs,by omega⟩;simp[Int.tdiv_neg]
 ·rw[acs (by simp;omega)];obtain⟨m,rfl⟩:∃m:Nat,a=(m:Int):=⟨a.natAbs,by omega⟩;obtain⟨n,rfl⟩:∃n:Nat,b=(n:Int):=⟨b.natAbs,by omega⟩;simp
theorem aeJ(a b:Int):a*b=(if decide (a<0)=decide (b<0)then ((a.natAbs*b.natAbs:Nat):Int)else-((a.natAbs*b.natAbs:Nat):Int)):=by
 rcases Int.lt_or_le a 0 with D|D<;>rcases Int.lt_or_le b 0 with E|E
 ·rw[acs (by simp[D,E])];obtain⟨m,rfl⟩:∃m:Nat,a= -(m:Int):=⟨a.natAbs,by omega⟩;obtain⟨n,rfl⟩:∃n:Nat,b= -(n:Int):=⟨b.natAbs,by omega⟩;simp[Int.neg_mul,Int.mul_neg]
 ·rw[ach (by simp[D];omega)];obtain⟨m,rfl⟩:∃m:Nat,a= -(m:Int):=⟨a.natAbs,by omega⟩;obtain⟨n,rfl⟩:∃n:Nat,b=(n:Int):=⟨b.natAbs,by omega⟩;simp[Int.neg_mul]
 ·rw[ach (by simp[E];omega)];obtain⟨m,rfl⟩:∃m:Nat,a=(m:Int):=⟨a.natAbs,by omega⟩;obtain⟨n,rfl⟩:∃n:Nat,b= -(n:Int):=⟨b.natAbs,by omega⟩;simp[Int.mul_neg]
 ·rw[acs (by simp;omega)];obtain⟨m,rfl⟩:∃m:Nat,a=(m:Int):=⟨a.natAbs,by omega⟩;obtain⟨n,rfl⟩:∃n:Nat,b=(n:Int):=⟨b.natAbs,by omega⟩;simp
def eL(b:Bool):Int:=if b=true then 1 else 0
@[simp] def PF(p:Int×Bool×Int):AV:=.bh [.d (.int .i64 p.1),.d (.bool p.2.1),.d (.int .i64 p.2.2)]
def nK:Int×Bool×Int:=(0,false, -1)
def yu(p:Int×Bool):Int×Bool×Int:=if p.2=true then (p.1,false,0)else (0,false,2)
def sD(p:Int×Int):Int×Bool×Int:=if p.2=3 then (0,false,1)else if p.2=0 then (p.1,false,0)else (0,false,2)
def uK(op a:Int)(t:Bool):Int×Bool×Int:=
 if t=true then (if a≠0/\a≠1 then nK else if op=7 then (eL (decide (a=0)),true,0)else nK)
 else if op=6 then yu (ng (0-a))else nK
def My(op a b:Int):Int×Bool×Int:=
 if op=13 then (eL (decide (a=b)),true,0)else if op=14\/op=20 then (eL (decide (a≠b)),true,0)
 else if op=19 then (eL (decide (a=1/\b=1)),true,0)else if op=21 then (eL (decide (a=1\/b=1)),true,0)else nK
def GQ(op a b:Int):Int×Bool×Int:=
 if op=8 then yu (ng (a+b))else if op=9 then yu (ng (a-b))else if op=10 then yu (ng (a*b))else if op=11 then sD (Cs a b)else if op=12 then sD (E7 a b)
 else if op=13 then (eL (decide (a=b)),true,0)else if op=14 then (eL (decide (a≠b)),true,0)else if op=15 then (eL (decide (a<b)),true,0)
 else if op=16 then (eL (decide (b<a)),true,0)else if op=17 then (eL (decide (a<=b)),true,0)else if op=18 then (eL (decide (b<=a)),true,0)else nK
def yW(op a b:Int)(t:Bool):Int×Bool×Int:=
 if t=true then (if (a≠0/\a≠1)\/(b≠0/\b≠1)then nK else My op a b)else GQ op a b
def Wr(e b:Int):Int:=if e<b then e+1 else e
def alQ(k a b q e:Int):List Int:=
 if k=10 then (if a=0 then [a,b,0,0]else [a,b,eL (decide (b<=Wr e b)),Wr e b])
 else if k=11 then (if a=0 then (if q=0 then [a,b,q,e]else [a,b,eL (decide (Wr e b<b)),Wr e b])else [a,b,1,0])
 else [a,b,q,e]
def tpS(a b q e p r:Int):List Int:=
 let H:=if a≠0/\p=0/\r=0 then 1 else r
 let E:=if a≠0/\p=0/\r=0 then 0 else e
 if H=0 then [a,b,q,E,eL (decide (a≠0)),H]else [a,b,eL (decide (E<b)),Wr E b,eL (decide (a≠0)),eL (decide (E<b))]
def cuS(a s v q c p:Int):List Int:=
 let D:=if s≠0 then 0 else if a≠0/\p=0/\c<9223372036854775807 then c+1 else c
 [a,s,v,eL (decide (v<=D)),D,eL (decide (a≠0))]
def cdS(a s v q c p:Int):List Int:=
 let D:=if s≠0 then v else if a≠0/\p=0/\ -9223372036854775808<c then c-1 else c
 [a,s,v,eL (decide (D<=0)),D,eL (decide (a≠0))]
def alR(k a b q e p r:Int):List Int:=
 if k=12 then tpS a b q e p r else if k=13 then cuS a b q e p r else if k=14 then cdS a b q e p r else [a,b,q,e,p,r]
def alS(k a b q:Int):List Int:=
 if k=15 then [a,eL (decide (a≠0/\q=0)),eL (decide (a≠0))]else if k=16 then [a,eL (decide (a=0/\q≠0)),eL (decide (a≠0))]
 else if k=17 then [a,b,eL (decide (a≠0\/(q≠0/\b=0)))]else if k=18 then [a,b,eL (decide (b=0/\(q≠0\/a≠0)))]else [a,b,q]
def alT(k:Int):List Int->List Int
 |[a,b,q]=>alS k a b q
 |[a,b,q,e]=>alQ k a b q e
 |[a,b,q,e,p,r]=>alR k a b q e p r
 |c=>c
end Go.Am
end
section
namespace Go.Am
inductive Ends(succ:Nat->List Nat):Nat->Prop
 |mk (i:Nat) (h:∀j∈succ i,Ends succ j):Ends succ i
inductive Way(succ:Nat->List Nat):Nat->Nat->Prop
 |one {i j} (h:j∈succ i):Way succ i j
 |more {i j k} (h:Way succ i j) (H:k∈succ j):Way succ i k
theorem Way.trans{succ:Nat->List Nat}{i j k:Nat}(h:Way succ i j)(H:Way succ j k):Way succ i k:=by
 induction H with
 |one J=>exact .more h J
 |more _ J ih=>exact .more ih J
theorem Ends.way{succ:Nat->List Nat}{i j:Nat}(h:Ends succ i)(w:Way succ i j):Ends succ j:=by
 induction w with
 |one H=>cases h with|mk _ h=>exact h _ H
 |more _ H ih=>cases ih with|mk _ h=>exact h _ H
theorem Ends.Z7{succ:Nat->List Nat}{i:Nat}(h:Ends succ i):¬Way succ i i:=by
 induction h with
 |mk i h ih=>
  intro w
  --AE first step of AE way
  have first:∀{a b},Way succ a b->∃c∈succ a,c=b\/Way succ c b:=by
   intro a b w;induction w with
   |one h=>exact⟨_,h,.inl rfl⟩
   |more _ H ih=>
    obtain⟨c,V,J⟩:=ih;rcases J with rfl|J
    ·exact⟨_,V,.inr (.one H)⟩
    ·exact⟨_,V,.inr (.more J H)⟩
  obtain⟨c,V,J⟩:=first w
  rcases J with rfl|J
  ·exact ih _ V w
  ·exact ih c V (J.trans (.one V))
mutual
def ky(succ:Nat->List Nat):Nat->Nat->List Nat->Bool×List Nat
 |0,_,D=>(true,D)
 |f+1,at_,D=>if D.getD at_ 0≠0 then (D.getD at_ 0 == 1,D)else
  match j0 succ f (succ at_) (D.set at_ 1)with
  |(true,s)=>(true,s)
  |(false,s)=>(false,s.set at_ 2)
def j0(succ:Nat->List Nat):Nat->List Nat->List Nat->Bool×List Nat
 |_,[],D=>(false,D)
 |f,n::r,D=>match ky succ f n D with
  |(true,s)=>(true,s)
  |(false,s)=>j0 succ f r s
end
def fresh(D:List Nat):Nat:=D.countP (·== 0)
structure rr(succ:Nat->List Nat)(D Y:List Nat):Prop where
 len:Y.length=D.length
 Ig:∀i,Y.getD i 0=1↔D.getD i 0=1
 black:∀i,D.getD i 0=2->Y.getD i 0=2
 Mz:(∀i,D.getD i 0<=2)->∀i,Y.getD i 0<=2
 ends:(∀i,D.getD i 0=2->Ends succ i)->∀i,Y.getD i 0=2->Ends succ i
 fresh:fresh Y<=fresh D
theorem rr.refl(succ:Nat->List Nat)(s:List Nat):rr succ s s:=⟨rfl,λ_=>apj,λ_ h=>h,λh=>h,λh=>h,ack _⟩
theorem rr.trans{succ:Nat->List Nat}{a b c:List Nat}(h:rr succ a b)(k:rr succ b c):rr succ a c:=
 ⟨by rw[k.len,h.len],λi=>(k.Ig i).trans (h.Ig i),λi hi=>k.black i (h.black i hi),λI=>k.Mz (h.Mz I),λhe=>k.ends (h.ends he),agQ k.fresh h.fresh⟩
theorem j6(l:List Nat)(i j v:Nat):(l.set i v).getD j 0=if i=j/\i<l.length then v else l.getD j 0:=by
 simp only[adX,List.getElem?_set];by_cases h:i=j
 ·subst h;by_cases H:i<l.length
  ·simp[H]
  ·simp[H]
 ·simp[h]
theorem Ju{l:List Nat}{i v:Nat}(h:l.getD i 0=0)(hi:i<l.length)(I:v≠0):fresh (l.set i v)+1=fresh l:=by
 induction l generalizing i with
 |nil=>simp at hi
 |cons x r ih=>
  cases i with
  |zero=>
   simp at h;subst h;simp[fresh,I]
  |succ i=>
   have E:=ih (i:=i) (by simpa using h) (by simpa using hi);unfold fresh at E⊢;simp only[List.set_cons_succ,List.countP_cons];omega
theorem wo{l:List Nat}{i v:Nat}(I:v≠0):fresh (l.set i v)<=fresh l:=by
 induction l generalizing i with
 |nil=>simp
 |cons x r ih=>
  cases i with
  |zero=>
   simp only[fresh,List.set_cons_zero,List.countP_cons];simp[I]
  |succ i=>
   have E:=ih (i:=i);unfold fresh at E⊢;simp only[List.set_cons_succ,List.countP_cons];omega
def ahc(succ:Nat->List Nat)(D:List Nat)(at_:Nat):Prop:=∀i,D.getD i 0=1->Way succ i at_
theorem PG(succ:Nat->List Nat):∀f:Nat,
 (∀at_ D,fresh D<f->at_<D.length->(∀i<D.length,∀j∈succ i,j<D.length)->(∀i,D.getD i 0<=2)->ahc succ D at_->
  ((ky succ f at_ D).1=true->∃i,i<D.length/\Way succ i i)/\((ky succ f at_ D).1=false->rr succ D (ky succ f at_ D).2/\(ky succ f at_ D).2.getD at_ 0=2))/\
 (∀l at_ D,fresh D<f->(∀n∈l,n∈succ at_)->(∀n∈l,n<D.length)->D.getD at_ 0=1->(∀i<D.length,∀j∈succ i,j<D.length)->(∀i,D.getD i 0<=2)->(∀i,D.getD i 0=1->i=at_\/Way succ i at_)->
  ((j0 succ f l D).1=true->∃i,i<D.length/\Way succ i i)/\((j0 succ f l D).1=false->rr succ D (j0 succ f l D).2/\∀n∈l,(j0 succ f l D).2.getD n 0=2))
 |0=>⟨λ_ _ h=>by omega,λ_ _ _ h=>by omega⟩
 |f+1=>by
  have A2:∀at_ D,fresh D<f+1->at_<D.length->(∀i<D.length,∀j∈succ i,j<D.length)->(∀i,D.getD i 0<=2)->ahc succ D at_->
   ((ky succ (f+1) at_ D).1=true->∃i,i<D.length/\Way succ i i)/\((ky succ (f+1) at_ D).1=false->rr succ D (ky succ (f+1) at_ D).2/\(ky succ (f+1) at_ D).2.getD at_ 0=2):=by
   intro at_ D A3 M U I Z;have AF:=(PG succ f).2 (succ at_) at_ (D.set at_ 1);unfold ky;by_cases A8:D.getD at_ 0≠0
   ·rw[acs A8];refine⟨λh=>⟨at_,M,Z at_ (by simpa using h)⟩,λh=>⟨rr.refl _ _,?_⟩⟩;have:=I at_;simp only[beq_eq_false_iff_ne]at h;simp only
    omega
   ·rw[ach A8];have A5:D.getD at_ 0=0:=by omega
    have AG:=Ju (v:=1) A5 M (by decide);have A6:=AF (by omega) (λn h=>h) (λn h=>by simpa using U at_ M n h) (by rw[j6];simp[M]) (by simpa using U)
     (λi=>by rw[j6];split;omega;exact I i)
     (λi hi=>by
      rw[j6]at hi;split at hi
      ·rename_i h;exact .inl h.1.symm
      ·exact .inr (Z i hi))
    obtain⟨s,b,he⟩:∃s b,j0 succ f (succ at_) (D.set at_ 1)=(b,s):=⟨_,_,rfl⟩;rw[he]at A6⊢;cases b with
    |true=>exact⟨λ_=>by simpa using A6.1 rfl,λh=>by simp at h⟩
    |false=>
     refine⟨λh=>by simp at h,λ_=>?_⟩;obtain⟨ok,O⟩:=A6.2 rfl;simp only at ok O⊢;have A7:s.length=D.length:=by rw[ok.len];simp
     refine⟨⟨by simp[A7],λi=>?_,λi hi=>?_,λ_ i=>?_,λAH i hi=>?_,?_⟩,by rw[j6];simp[A7,M]⟩
     ·rw[j6];by_cases hi:at_=i
      ·subst hi;simp only[A7,M,and_self,adZ,A5];omega
      ·simp only[hi,false_and,adY];rw[ok.Ig i,j6];simp[hi]
     ·rw[j6];split
      ·rfl
      ·refine ok.black i ?_;rw[j6];split
       ·rename_i h;rw[<-h.1,A5]at hi;omega
       ·exact hi
     ·rw[j6];split
      ·omega
      ·refine ok.Mz (λi=>?_) i;rw[j6];split;omega;exact I i
     ·have A9:∀i,s.getD i 0=2->Ends succ i:=ok.ends (λi hi=>by
       rw[j6]at hi;split at hi
       ·omega
       ·exact AH i hi)
      rw[j6]at hi;split at hi
      ·rename_i h;rw[<-h.1];exact .mk _ (λj y=>A9 j (O j y))
      ·exact A9 i hi
     ·have E:=wo (l:=s) (i:=at_) (v:=2) (by decide);have H:=ok.fresh;omega
  refine⟨A2,?_⟩;intro l;induction l with
  |nil=>
   intro at_ D _ _ _ _ _ _ _;unfold j0;exact⟨λh=>by simp at h,λ_=>⟨rr.refl _ _,λn h=>by simp at h⟩⟩
  |cons n r ih=>
   intro at_ D A3 AA A' AI U I Z;have E:=A2 n D A3 (A' n (by simp)) U I (λi hi=>by
    have A4:=AA n (by simp);rcases Z i hi with rfl|h
    ·exact .one A4
    ·exact .more h A4)
   unfold j0;obtain⟨s,b,he⟩:∃s b,ky succ (f+1) n D=(b,s):=⟨_,_,rfl⟩;rw[he]at E⊢;cases b with
   |true=>exact⟨λ_=>E.1 rfl,λh=>by simp at h⟩
   |false=>
    obtain⟨ok,A0⟩:=E.2 rfl;simp only at ok A0⊢;have H:=ih at_ s (Nat.lt_of_le_of_lt ok.fresh A3) (λm hm=>AA m (by simp[hm])) (λm hm=>by rw[ok.len];exact A' m (by simp[hm])) ((ok.Ig at_).2 AI)
     (by rw[ok.len];exact U) (ok.Mz I) (λi hi=>Z i ((ok.Ig i).1 hi))
    refine⟨λh=>by have:=H.1 h;rwa [ok.len]at this,λh=>?_⟩;obtain⟨AB,O⟩:=H.2 h;refine⟨ok.trans AB,λm hm=>?_⟩;rcases aco.1 hm with rfl|hm
    ·exact AB.black _ A0
    ·exact O m hm
def rounds(succ:Nat->List Nat)(f:Nat):List Nat->List Nat->Bool
 |[],_=>false
 |n::r,D=>match ky succ f n D with
  |(true,_)=>true
  |(false,s)=>rounds succ f r s
theorem Ti(succ:Nat->List Nat)(N f:Nat)(A3:N<f)(U:∀i<N,∀j∈succ i,j<N):
 rounds succ f (List.range N) (List.replicate N 0)=true↔∃i<N,¬Ends succ i:=by
 have key:∀(l:List Nat)(D:List Nat),D.length=N->(∀n∈l,n<N)->(∀i,D.getD i 0≠1)->(∀i,D.getD i 0<=2)->(∀i,D.getD i 0=2->Ends succ i)->(∀i<N,i∈l\/D.getD i 0=2)->
  (rounds succ f l D=true↔∃i<N,¬Ends succ i):=by
  intro l;induction l with
  |nil=>
   intro D _ _ _ _ he O;unfold rounds;refine⟨λh=>by simp at h,?_⟩;rintro ⟨i,hi,A4⟩;rcases O i hi with h|h
   ·simp at h
   ·exact absurd (he i h) A4
  |cons n r ih=>
   intro D M A' AC I he O;have AG:fresh D<=D.length:=List.countP_le_length;have E:=(PG succ f).1 n D (by omega) (by rw[M];exact A' n (by simp)) (by rw[M];exact U) I (λi hi=>absurd hi (AC i));unfold rounds;obtain⟨s,b,A2⟩:∃s b,ky succ f n D=(b,s):=⟨_,_,rfl⟩;rw[A2]at E⊢;cases b with
   |true=>
    refine⟨λ_=>?_,λ_=>rfl⟩;obtain⟨i,hi,w⟩:=E.1 rfl;exact⟨i,by omega,λh=>h.Z7 w⟩
   |false=>
    obtain⟨ok,A0⟩:=E.2 rfl;simp only at ok A0⊢;refine ih s (by rw[ok.len,M]) (λm hm=>A' m (by simp[hm])) (λi hi=>AC i ((ok.Ig i).1 hi)) (ok.Mz I) (ok.ends he) (λi hi=>?_);rcases O i hi with h|h
    ·rcases aco.1 h with rfl|h
     ·exact .inr A0
     ·exact .inl h
    ·exact .inr (ok.black i h)
 refine key _ _ (by simp) (by simp) (λi=>?_) (λi=>?_) (λi hi=>?_) (λi hi=>.inl (by simpa using hi))
 ·simp[adX,ape];split<;>simp
 ·simp[adX,ape];split<;>simp
 ·simp[adX,ape]at hi;split at hi<;>simp at hi
def left(g:List Bool):Nat:=g.countP (·== false)
structure Au(succ:Nat->List Nat)(s T:List Bool×Bool):Prop where
 len:T.1.length=s.1.length
 ends:(∀i<s.1.length,s.1.getD i true=true->Ends succ i)->∀i<s.1.length,T.1.getD i true=true->Ends succ i
 less:T.2=true->s.2=false->left T.1<left s.1
 le:left T.1<=left s.1
 more:s.2=true->T.2=true
 same:T.2=false->T=s
theorem Au.trans{succ:Nat->List Nat}{a b c:List Bool×Bool}(h:Au succ a b)(k:Au succ b c):Au succ a c:=
 ⟨by
  rw[k.len,h.len],λhe=>by have:=k.ends;rw[h.len]at this;exact this (h.ends he),λE H=>by
  cases A1:b.2 with
  |true=>exact Nat.lt_of_le_of_lt k.le (h.less A1 H)
  |false=>exact ajd (k.less E A1) h.le,agQ k.le h.le,λE=>k.more (h.more E),λE=>by
  cases A1:b.2 with
  |true=>rw[k.more A1]at E;cases E
  |false=>rw[k.same E,h.same A1]⟩
theorem O2{succ:Nat->List Nat}{p:Nat->Bool}(AJ:∀j,p j=false->Ends succ j)(i:Nat):Ends (λi=>(succ i).filter p) i↔Ends succ i:=by
 constructor
 ·intro h;induction h with
  |mk i h ih=>
   refine .mk _ (λj y=>?_);cases AD:p j with
   |false=>exact AJ j AD
   |true=>exact ih j (by simp[y,AD])
 ·intro h;induction h with
  |mk i h ih=>exact .mk _ (λj y=>ih j ((aeg.1 y).1))
structure ak where
 op:Int
 a:Int
 b:Int
 n:Int
 m:Int
def fQ(cells at_ n:Int):Bool:=decide (0<=at_)&&decide (0<=n)&&decide (n<=cells)&&decide (at_<=cells-n)
def s9(x:ak):Bool:=
 if x.a=0 then decide (x.b=6)||decide (8<=x.b)&&decide (x.b<=18)
 else if x.a=1 then decide (x.b=7)||decide (x.b=13)||decide (x.b=14)||decide (19<=x.b)&&decide (x.b<=21)
 else false
def Ct(cells:Int)(x:ak):Bool:=decide (0<=x.n)&&decide (x.n<=x.m)&&decide (x.m<=255)&&fQ cells x.a (x.m-x.n+1)
def du(D:Int->Nat)(cells last at_:Int)(x:ak):Bool:=
 if x.op=1\/x.op=11 then true
 else if x.op=2\/x.op=3\/x.op=6\/x.op=14 then fQ cells x.a 1
 else if x.op=13 then fQ cells x.a 1&&fQ cells x.b 2
 else if x.op=4\/x.op=5\/x.op=7 then Ct cells x
 else if x.op=8 then s9 x
 else if x.op=9\/x.op=10 then decide (0<=x.a)&&decide (x.a<=last)
 else if x.op=12 then decide (0<D x.b)&&fQ cells x.a (D x.b)
 else if x.op=15 then decide (at_=last)
 else false
def oD(D:Int->Nat)(cells last:Int):Nat->List ak->Bool
 |_,[]=>true
 |i,x::r=>du D cells last i x&&oD D cells last (i+1) r
def jx(n:Nat)(t:Bool)(S:List Bool):Option (List Bool):=
 if S.length<n then none else if t&&(S.drop (S.length-n)).any (λb=>!b)then none else some (S.take (S.length-n))
def fe(t:Bool)(S:List Bool):Option (List Bool):=if S.length<64 then some (S++[t])else none
def iw(S:List Bool):Option (List Bool):=if S=[]then some []else none
def cy(x:ak)(S:List Bool):Option (List Bool):=
 if x.op=1 then fe (decide (x.n=0)||decide (x.n=1)) S
 else if x.op=2 then fe false S
 else if x.op=3\/x.op=13\/x.op=14 then fe true S
 else if x.op=4 then (jx 1 false S).bind (fe false)
 else if x.op=5 then (jx 1 false S).bind (fe true)
 else if x.op=6 then jx 1 false S
 else if x.op=7 then jx 2 false S
 else if x.op=8 then (jx (if x.b=6\/x.b=7 then 1 else 2) (decide (x.a=1)) S).bind (fe (decide (x.b=7)||decide (13<=x.b)))
 else if x.op=10 then (jx 1 true S).bind iw
 else iw S
def gq(A5:List Bool):Nat->List ak->List Bool->Bool
 |_,[],_=>true
 |i,x::r,S=>if A5.getD i false&&!S.isEmpty then false else match cy x S with
  |none=>false
  |some Y=>gq A5 (i+1) r Y
def nZ(ins:List ak):List Bool:=ins.foldl (λl x=>if x.op=9\/x.op=10 then l.set x.a.toNat true else l) (List.replicate ins.length false)
def Av(ins:List ak)(i:Nat):List Nat:=
 match ins[i]? with
 |none=>[]
 |some x=>if x.op=9 then [x.a.toNat]else if x.op=10 then [i+1,x.a.toNat]else if x.op=15 then []else [i+1]
def iR(ins:List ak)(i:Nat):Bool:=
 match ins[i]? with
 |none=>false
 |some x=>decide (x.op=11)
def ry(ins:List ak)(i:Nat):List Nat:=if iR ins i=true then []else Av ins i
def gC(ins:List ak)(i:Nat):List Nat:=(ry ins i).filter λj=>!iR ins j
theorem Ws(ins:List ak)(i:Nat):Ends (gC ins) i↔Ends (ry ins) i:=
 O2 (p:=λj=>!iR ins j) (λj E=>.mk _ (λk Z=>by
  have:iR ins j=true:=by simpa using E
  simp[ry,this]at Z)) i
def Dt(n vars cells:Int)(rz:Int):Bool:=decide (1<=n)&&decide (n<=4096)&&decide (0<=cells)&&decide (cells<=8192)&&decide (0<=vars)&&decide (vars<=cells)&&decide (rz=15)
def rz(ins:List ak):Int:=(ins.getLast?.map (·.op)).getD 0
def lu(D:Int->Nat)(ins:List ak)(vars cells:Int):Bool:=Dt ins.length vars cells (rz ins)&&oD D cells ((ins.length:Int)-1) 0 ins
def kO(D:Int->Nat)(ins:List ak)(vars cells:Int):Bool:=
 lu D ins vars cells&&gq (nZ ins) 0 ins []&&!(rounds (gC ins) (ins.length+1) (List.range ins.length) (List.replicate ins.length 0))
theorem qB{D:Int->Nat}{cells last:Int}:∀{ins:List ak}{i0:Nat},oD D cells last i0 ins=true->∀i x,ins[i]?=some x->du D cells last ((i0+i:Nat):Int) x=true
 |y::r,i0,h,i,x,H=>by
  simp only[oD,Ds]at h;cases i with
  |zero=>simp at H;subst H;exact h.1
  |succ i=>
   have:=qB h.2 i x (by simpa using H);rw[show i0+(i+1)=i0+1+i by omega];exact this
theorem aeK{D:Int->Nat}{ins:List ak}{vars cells:Int}(h:lu D ins vars cells=true):∀i<ins.length,∀j∈ry ins i,j<ins.length:=by
 intro i hi j E;simp only[lu,Ds]at h;have H:ins[i]?=some ins[i]:=by simp[hi]
 have I:=qB h.2 i _ H;simp only[aeh]at I;have O:i+1=ins.length->ins[i].op=15:=by
  intro c;have T:=h.1;simp only[Dt,Ds,acn]at T;have J:=T.2;unfold rz at J;rw[ajv,show ins.length-1=i by omega,H]at J;simpa using J
 unfold ry at E;split at E
 ·simp at E
 ·unfold Av at E;rw[H]at E;simp only at E;unfold du at I;by_cases U:ins[i].op=9
  ·simp[U]at E I;omega
  ·by_cases V:ins[i].op=10
   ·simp[V]at E I;have:i+1≠ins.length:=λh=>by have:=O h;omega
    omega
   ·by_cases M:ins[i].op=15
    ·simp[M]at E
    ·simp[U,V,M]at E;have:i+1≠ins.length:=λh=>M (O h);omega
theorem Jv{D:Int->Nat}{ins:List ak}{vars cells:Int}(h:lu D ins vars cells=true):
 rounds (gC ins) (ins.length+1) (List.range ins.length) (List.replicate ins.length 0)=true↔∃i<ins.length,¬Ends (ry ins) i:=by
 rw[Ti (gC ins) ins.length (ins.length+1) (by omega) (λi hi j E=>aeK h i hi j (aeg.1 E).1)];simp only[Ws]
end Go.Am
end
section
namespace Go.Am
open Go
noncomputable def rA(X:Ctx)(f:FuncId)(c:Code)(S:St)(D:List DF):XD:=jr λk=>kl X f (aW X k) k c S D
noncomputable def Tj(X:Ctx)(f:FuncId)(H:AV)(c:Code)(S:St):Option (XE×St):=jr λk=>sy X f (aW X k) k H c S
noncomputable def are(X:Ctx):bP:=λg args cs=>jr λk=>Ac X k (aW X k) g args cs
abbrev Cu:=XE->St->List DF->b7
noncomputable def n6(X:Ctx)(f:FuncId)(c:Code)(S:St)(D:List DF)(k:Cu):b7:=(rA X f c S D).bind λp=>k p.1 p.2.1 p.2.2
noncomputable def Aw(X:Ctx)(md:Bool)(all ops:List Oper)(S:St)(D:List DF)(k:Cu):b7:=(gP X (ai X) md all ops S D).bind λp=>k p.1 p.2.1 p.2.2
noncomputable def GR(X:Ctx)(f:FuncId)(b:Code)(k:Cu):Cu
 | .normal,S,D=>n6 X f b S D k
 |e,S,D=>k e S D
def Ih(X:Ctx)(f:FuncId)(id:Nat)(k:Cu):Cu
 | .normal,S,D=>k .normal (S.leave X f id) D
 |e,S,D=>k e S D
noncomputable def MA(X:Ctx)(md:Bool)(all r:List Oper)(D:List DF)(k:Cu):Kt
 | .normal,S=>Aw X md all r S D k
 |e,S=>k e S D
noncomputable def Ky(X:Ctx)(md:Bool)(all r:List Oper)(o:Oper)(S:St)(D:List DF)(k:Cu):Option DF->b7
 |some d=>Aw X md all r (S.put o.dst true .bm) (d::D) k
 |none=>runK X md all [o] S (MA X md all r D k)
section
variable {X:Ctx} {f:FuncId} {S:St} {D:List DF} {md:Bool}
theorem yw(all:List Oper):∀(ops:List Oper)(S:St)(D:List DF),jr (λk=>gP X (aW X k) md all ops S D)=gP X (ai X) md all ops S D
 |[],S,D=>bn _
 |o::r,S,D=>by
  simp only[gP];cases qA S o with
  |some d=>exact yw all r _ _
  |none=>
   simp only[E5];rw[ij (g:=λx n=>nT (λS1=>gP X (aW X n) md all r S1 D) D x) (u7 (cv X) all) (λx=>by
    obtain⟨e,S1⟩:=x;cases e with
    |normal=>exact oC (cv X) all r S1 D
    |_=>exact aS.const _),Js]
   congr 1;funext x;obtain⟨e,S1⟩:=x;cases e with
   |normal=>exact yw all r S1 D
   |_=>exact bn _
theorem dmD(c:Code)(S:St)(D:List DF):aS (λk=>kl X f (aW X k) k c S D):=Jq (cv X) f (m:=λk=>k) (λk=>apd k) c S D
theorem Wt{a b:Code}:rA X f (.seq a b) S D=LS (rA X f b) (rA X f a S D):=by
 unfold rA;simp only[kl,PD];rw[ij (g:=λx n=>sT (kl X f (aW X n) n b) x) (dmD a S D) (λx=>by
  obtain⟨e,S1,E⟩:=x;cases e with
  |normal=>exact dmD b S1 E
  |_=>exact aS.const _)]
 congr 1;funext x;obtain⟨e,S1,E⟩:=x;cases e<;>first|rfl|exact bn _
theorem oE{c:Code}(h:∀k,kl X f (aW X k) k c S D=Aa D (den X f (aW X k) k c S)):rA X f c S D=Aa D (hZ X f c S):=by
 unfold rA hZ;have:(λk=>kl X f (aW X k) k c S D)=λk=>(den X f (aW X k) k c S).bind λq=>dT D q:=by
  funext k;rw[h,Ia]
 rw[this,ij (dm c S) (λ_=>aS.const _),Ia];simp only[bn]
theorem Wu{id:Nat}{ops:Array Oper}(h:Gu ops.toList=true):rA X f (.region id ops false) S D=B1 (St.leave X f id) (gP X (ai X) (X.md f id) ops.toList ops.toList S D):=by
 unfold rA;have:(λk=>kl X f (aW X k) k (.region id ops false) S D)=λk=>(gP X (aW X k) (X.md f id) ops.toList ops.toList S D).bind λq=>lT (St.leave X f id) q:=by
  funext k;simp only[kl,h,Bool.not_false,Bool.and_self,Cj]
 rw[this,ij (oC (cv X) _ _ _ _) (λ_=>aS.const _),yw,Cj];simp only[bn]
variable {k:Cu}
theorem Wv{a b:Code}:n6 X f (.seq a b) S D k=n6 X f a S D (GR X f b k):=by
 simp only[n6,Wt];rcases rA X f a S D with _|⟨e,S1,E⟩
 ·rfl
 ·cases e<;>rfl
theorem oF{c:Code}(h:rA X f c S D=Aa D (hZ X f c S)):n6 X f c S D k=aO X f c S λe S=>k e S D:=by
 simp only[n6,aO,h];rcases hZ X f c S with _|⟨e,S1⟩<;>rfl
theorem Tk{o:Operand}{a b:Code}:n6 X f (.cond o a b) S D k=aO X f (.cond o a b) S λe S=>k e S D:=oF (oE λ_=>rfl)
theorem Ww:n6 X f .ret S D k=aO X f .ret S λe S=>k e S D:=oF (oE λ_=>rfl)
theorem Tl:n6 X f .skip S D k=aO X f .skip S λe S=>k e S D:=oF (oE λ_=>rfl)
theorem Tm{c:Code}:n6 X f (.loop c) S D k=aO X f (.loop c) S λe S=>k e S D:=oF (oE λ_=>rfl)
theorem O3{id:Nat}{c:Code}:n6 X f (.block id c) S D k=aO X f (.block id c) S λe S=>k e S D:=oF (oE λ_=>rfl)
theorem Tn{id:Nat}{ops:Array Oper}:n6 X f (.region id ops true) S D k=aO X f (.region id ops true) S λe S=>k e S D:=oF (oE λ_=>rfl)
theorem Wx{id:Nat}{l:List Oper}:n6 X f (.region id ⟨l⟩ false) S D k=if Gu l=true then Aw X (X.md f id) l l S D (Ih X f id k)else aO X f (.region id ⟨l⟩ false) S λe S=>k e S D:=by
 split
 ·rename_i h;simp only[n6,Aw,Wu (ops:=⟨l⟩) h];rcases gP X (ai X) (X.md f id) l l S D with _|⟨e,S1,E⟩
  ·rfl
  ·cases e<;>rfl
 ·rename_i h;exact oF (oE λ_=>by simp[kl,h])
theorem Wy{all:List Oper}:Aw X md all [] S D k=k .normal S D:=rfl
theorem To{all r:List Oper}{o:Oper}:Aw X md all (o::r) S D k=Ky X md all r o S D k (qA S o):=by
 simp only[Aw,gP];cases qA S o with
 |some d=>rfl
 |none=>
  simp only[Ky,runK,iv,E5,Al];rcases pb X (ai X) md all S o with _|⟨e,S1⟩
  ·rfl
  ·cases e<;>rfl
end
noncomputable def acO(X:Ctx)(p:aP)(E:Nat)(rs:List ResultVar):Cu
 |e,S,[]=>Ic X.P p E rs e S
 |e,S,[d]=>Dg X p E rs (are X) S d (EO e)
 |_,_,_=>none
noncomputable def Tp(X:Ctx)(f:FuncId)(D:AV)(c:Code)(S:St)(k:Kt):b7:=(Tj X f D c S).bind λp=>k p.1 p.2
def acP(P:Program)(p:aP)(E:Nat)(rs:List ResultVar):Kt
 | .normal,S=>finish P p E rs S
 | .ret,S=>finish P p E rs S
 |_,_=>none
section
variable {X:Ctx} {f:FuncId} {S:St}
variable {k:Kt} {D:AV}
theorem Wz{a b:Code}:Tp X f D (.seq a b) S k=Tp X f D a S (Cm X f b k):=by
 have h:Tj X f D (.seq a b) S=andThen (Tj X f D a S) (hZ X f b):=
  yt (F:=λn=>sy X f (aW X n) n D a S) (K:=λH n=>den X f (aW X n) n b H) (Jr (cv X) f (m:=λk=>k) (λk=>apd k) D a S) (λH=>dm b H)
 simp only[Tp,h,wi];congr 1;funext q;obtain⟨e,S1⟩:=q;cases e<;>rfl
end
def Ctx.over(X:Ctx)(H:bP):Ctx:={X with ov:=some H}
section
variable {X:Ctx} {H C:bP} {f:FuncId}
@[simp] theorem axJ:(X.over H).P=X.P:=rfl
@[simp] theorem ave:(X.over H).gl=X.gl:=rfl
@[simp] theorem aps:(X.over H).sj=X.sj:=rfl
@[simp] theorem avf:(X.over H).gh=X.gh:=rfl
@[simp] theorem avg:(X.over H).md=X.md:=rfl
@[simp] theorem avh:(X.over H).fp=X.fp:=rfl
@[simp] theorem avi:(X.over H).od=X.od:=rfl
@[simp] theorem avj:(X.over H).fl=X.fl:=rfl
@[simp] theorem alU:ai (X.over H)=H:=by
 funext g a c;unfold ai;rw[<-Jm (cv (X.over H) g a c)];have:(λn=>aW (X.over H) (n+1) g a c)=λ_=>H g a c:=rfl;rw[this,bn]
end
inductive PR(E D α:Type) where
 |ok (a:α) (s:D)
 |bad (e:E) (s:D)
 |out
section
variable {E D α β I:Type}
def PR.el(r:PR E D α)(f:α->D->Option β)(g:E->D->Option β):Option β:=
 match r with
 | .ok a s=>f a s
 | .bad e s=>g e s
 | .out=>none
@[simp] theorem az5{a:α}{s:D}{f:α->D->Option β}{g:E->D->Option β}:(PR.ok a s).el f g=f a s:=rfl
@[simp] theorem axK{e:E}{s:D}{f:α->D->Option β}{g:E->D->Option β}:(PR.bad e s).el f g=g e s:=rfl
@[simp] theorem axL{f:α->D->Option β}{g:E->D->Option β}:(PR.out:PR E D α).el f g=none:=rfl
@[simp] theorem axM{c:Prop}[Decidable c]{a b:PR E D α}{f:α->D->Option β}{g:E->D->Option β}:(if c then a else b).el f g=if c then a.el f g else b.el f g:=by split<;>rfl
def PR.bind(r:PR E D α)(k:α->D->PR E D I):PR E D I:=
 match r with
 | .ok a s=>k a s
 | .bad e s=>.bad e s
 | .out=>.out
@[simp] theorem avk{a:α}{s:D}{k:α->D->PR E D I}:(PR.ok a s).bind k=k a s:=rfl
@[simp] theorem arf{e:E}{s:D}{k:α->D->PR E D I}:(PR.bad e s:PR E D α).bind k=.bad e s:=rfl
@[simp] theorem arh{k:α->D->PR E D I}:(PR.out:PR E D α).bind k=.out:=rfl
@[simp] theorem avl{r:PR E D α}{k:α->D->PR E D I}{f:I->D->Option β}{g:E->D->Option β}:(r.bind k).el f g=r.el (λa s=>(k a s).el f g) g:=by cases r<;>rfl
@[simp] theorem az6{r:PR E D α}{f:α->D->Option β}{g:E->D->Option β}:r.el (λa s=>f a s) (λe s=>g e s)=r.el f g:=rfl
theorem ahd{J:Nat}{b:Bool}{r:PR E D α}{f:α->D->b7}{g:E->D->b7}:sx J b (r.el f g)=r.el (λa s=>sx J b (f a s)) (λe s=>sx J b (g e s)):=by cases r<;>rfl
theorem aeL{m:Mem}{M:Nat}{ρ B:List Nat}{r:PR E D α}{f:α->D->b7}{g:E->D->b7}:gm m M ρ B (r.el f g)=r.el (λa s=>gm m M ρ B (f a s)) (λe s=>gm m M ρ B (g e s)):=by cases r<;>rfl
theorem Z8{X:Ctx}{md:Bool}{S:St}{d:Option Nat}{all q:List Oper}{k:Kt}{r:PR E D α}{f:α->D->Option gU}{g:E->D->Option gU}:s7 X md S d all q k (r.el f g)=r.el (λa s=>s7 X md S d all q k (f a s)) (λe s=>s7 X md S d all q k (g e s)):=by cases r<;>rfl
theorem WA{X:Ctx}{md:Bool}{O:Nat×List (List Nat)}{S:St}{d:Option Nat}{all q:List Oper}{T:List bf}{k:Kt}{r:PR E D α}{f:α->D->Option gU}{g:E->D->Option gU}:nu X md O S d all q T k (r.el f g)=r.el (λa s=>nu X md O S d all q T k (f a s)) (λe s=>nu X md O S d all q T k (g e s)):=by cases r<;>rfl
def Le(a b:Option β):Prop:=∀r,a=some r->b=some r
theorem Le.refl(a:Option β):Le a a:=λ_ h=>h
theorem Le.trans{a b c:Option β}(h:Le a b)(k:Le b c):Le a c:=λr Y=>k r (h r Y)
theorem Le.none{b:Option β}:Le none b:=λ_ h=>by cases h
theorem Le.el{r:PR E D α}{f U:α->D->Option β}{g V:E->D->Option β}(Z:∀a s,Le (f a s) (U a s))(y:∀e s,Le (g e s) (V e s)):Le (r.el f g) (r.el U V):=by
 cases r with
 |ok a s=>exact Z a s
 |bad e s=>exact y e s
 |out=>exact Le.none
end
end Go.Am
end
section
namespace Go.Am
abbrev Tx:=List UInt8
def oG:List Tx:=[[80,82,79,71,82,65,77],[69,78,68,95,80,82,79,71,82,65,77],[86,65,82],[86,65,82,95,73,78,80,85,84],[86,65,82,95,79,85,84,80,85,84],[69,78,68,95,86,65,82],[73,78,84],[66,79,79,76],[65,82,82,65,89],[79,70],[84,82,85,69],[70,65,76,83,69],[73,70],[84,72,69,78],[69,76,83,73,70],[69,76,83,69],[69,78,68,95,73,70],[67,65,83,69],[69,78,68,95,67,65,83,69],[70,79,82],[84,79],[66,89],[68,79],[69,78,68,95,70,79,82],[87,72,73,76,69],[69,78,68,95,87,72,73,76,69],[82,69,80,69,65,84],[85,78,84,73,76],[69,78,68,95,82,69,80,69,65,84],[69,88,73,84],[82,69,84,85,82,78],[65,78,68],[79,82],[88,79,82],[78,79,84],[77,79,68]]
def Kz(s:Tx):Bool:=decide (s∈oG)
structure WB where
 kind:Int
 text:Tx
 n:Int
 line:Int
 col:Int
 deriving DecidableEq
end Go.Am
end
section
namespace Go.Am
open Go
inductive Ex where
 |mk (op n:Int) (name field:Tx) (sub:List Ex) (line:Int)
inductive Sm where
 |mk (op:Int) (name:Tx) (to val:Ex) (conds:List Ex) (E:List (List Int)) (fields:List Tx) (blocks:List (List Sm)) (line:Int)
instance:Inhabited Ex:=⟨.mk 0 0 [] [] [] 0⟩
instance:Inhabited Sm:=⟨.mk 0 [] default default [] [] [] [] 0⟩
structure Vr where
 name:Tx
 ty:Int
 sec:Int
 arr:Bool
 lo:Int
 hi:Int
 init:Int
 line:Int
 deriving DecidableEq
structure Pg where
 name:Tx
 vars:List Vr
 body:List Sm
mutual
def cj:Ex->D
 | .mk op n name field sub line=>.agg [.int .i64 op,.int .i64 n,.str name,.str field,.list (il sub),.int .i64 line]
def il:List Ex->List D
 |[]=>[]
 |x::r=>cj x::il r
end
theorem vq:∀l:List Ex,il l=l.map cj
 |[]=>rfl
 |x::r=>by simp[il,vq r]
def yY:Ex->List D
 | .mk op n name field sub line=>[.int .i64 op,.int .i64 n,.str name,.str field,.list (il sub),.int .i64 line]
theorem KA(x:Ex):cj x=.agg (yY x):=by cases x;rfl
def pt(l:List Int):D:=.list (l.map λn=>.int .i64 n)
mutual
def dc:Sm->D
 | .mk op name to val conds E fields blocks line=>.agg (.int .i64 op::.str name::(yY to++(yY val++[.list (il conds),.list (E.map pt),.list (fields.map .str),.list (nL blocks),.int .i64 line])))
def nM:List Sm->List D
 |[]=>[]
 |x::r=>dc x::nM r
def nL:List (List Sm)->List D
 |[]=>[]
 |b::r=>.list (nM b)::nL r
end
theorem yZ:∀l:List Sm,nM l=l.map dc
 |[]=>rfl
 |x::r=>by simp[nM,yZ r]
theorem Du:∀l:List (List Sm),nL l=l.map λb=>.list (b.map dc)
 |[]=>rfl
 |x::r=>by simp[nL,Du r,yZ]
def fB(v:Vr):List D:=[.str v.name,.int .i64 v.ty,.int .i64 v.sec,.bool v.arr,.int .i64 v.lo,.int .i64 v.hi,.int .i64 v.init,.int .i64 v.line]
def b8(v:Vr):D:=.agg (fB v)
structure PS where
 at_:Nat
 deep:Int
 vars:List Vr
structure Er where
 e:Int
 line:Int
 col:Int
 deriving DecidableEq
abbrev PM(α:Type):=PR Er PS α
section
variable (L:List WB)
def ari(s:PS):PM WB:=match L[s.at_]? with
 |some t=>.ok t s
 |none=>.out
def isW(t:WB)(w:Tx):Bool:=(decide (t.kind=2)||decide (t.kind=4))&&decide (t.text=w)
def isS(w:Tx)(s:PS):PM Bool:=(ari L s).bind λt s=>.ok (isW t w) s
structure Kd where
 at_:WB
 kind:Int
 arr:Bool
 lo:Int
 hi:Int
end
def cq:Ex->Int| .mk a _ _ _ _ _=>a
def jG:Ex->Int| .mk _ a _ _ _ _=>a
def ew:Ex->Tx| .mk _ _ a _ _ _=>a
def gK:Ex->Tx| .mk _ _ _ a _ _=>a
def dq:Ex->List Ex| .mk _ _ _ _ a _=>a
def lJ:Ex->Int| .mk _ _ _ _ _ a=>a
@[simp] theorem pO{a b c d e f}:cq (.mk a b c d e f)=a:=rfl
@[simp] theorem y9{a b c d e f}:jG (.mk a b c d e f)=b:=rfl
@[simp] theorem Cv{a b c d e f}:ew (.mk a b c d e f)=c:=rfl
@[simp] theorem MB{a b c d e f}:gK (.mk a b c d e f)=d:=rfl
@[simp] theorem rB{a b c d e f}:dq (.mk a b c d e f)=e:=rfl
@[simp] theorem WC{a b c d e f}:lJ (.mk a b c d e f)=f:=rfl
theorem acQ(x:Ex):yY x=[.int .i64 (cq x),.int .i64 (jG x),.str (ew x),.str (gK x),.list ((dq x).map cj),.int .i64 (lJ x)]:=by cases x;simp[yY,vq]
theorem aI(x:Ex):cj x=.agg [.int .i64 (cq x),.int .i64 (jG x),.str (ew x),.str (gK x),.list ((dq x).map cj),.int .i64 (lJ x)]:=by rw[KA,acQ]
def bJ:Sm->Int| .mk a _ _ _ _ _ _ _ _=>a
def jt:Sm->Tx| .mk _ a _ _ _ _ _ _ _=>a
def fG:Sm->Ex| .mk _ _ a _ _ _ _ _ _=>a
def eJ:Sm->Ex| .mk _ _ _ a _ _ _ _ _=>a
def cV:Sm->List Ex| .mk _ _ _ _ a _ _ _ _=>a
def ff:Sm->List (List Int)| .mk _ _ _ _ _ a _ _ _=>a
def eS:Sm->List Tx| .mk _ _ _ _ _ _ a _ _=>a
def bG:Sm->List (List Sm)| .mk _ _ _ _ _ _ _ a _=>a
def mJ:Sm->Int| .mk _ _ _ _ _ _ _ _ a=>a
@[simp] theorem WD{a b c d e f g h i}:bJ (.mk a b c d e f g h i)=a:=rfl
@[simp] theorem ahe{a b c d e f g h i}:jt (.mk a b c d e f g h i)=b:=rfl
@[simp] theorem axO{a b c d e f g h i}:fG (.mk a b c d e f g h i)=c:=rfl
@[simp] theorem axP{a b c d e f g h i}:eJ (.mk a b c d e f g h i)=d:=rfl
@[simp] theorem WE{a b c d e f g h i}:cV (.mk a b c d e f g h i)=e:=rfl
@[simp] theorem avm{a b c d e f g h i}:ff (.mk a b c d e f g h i)=f:=rfl
@[simp] theorem WG{a b c d e f g h i}:eS (.mk a b c d e f g h i)=g:=rfl
@[simp] theorem ahf{a b c d e f g h i}:bG (.mk a b c d e f g h i)=h:=rfl
@[simp] theorem axQ{a b c d e f g h i}:mJ (.mk a b c d e f g h i)=i:=rfl
def dR(l:List Sm):D:=.list (l.map dc)
theorem fR(x:Sm):dc x=.agg [.int .i64 (bJ x),.str (jt x),
 .int .i64 (cq (fG x)),.int .i64 (jG (fG x)),.str (ew (fG x)),.str (gK (fG x)),.list ((dq (fG x)).map cj),.int .i64 (lJ (fG x)),
 .int .i64 (cq (eJ x)),.int .i64 (jG (eJ x)),.str (ew (eJ x)),.str (gK (eJ x)),.list ((dq (eJ x)).map cj),.int .i64 (lJ (eJ x)),
 .list ((cV x).map cj),.list ((ff x).map pt),.list ((eS x).map .str),.list ((bG x).map dR),.int .i64 (mJ x)]:=by
 cases x;simp[dc,acQ,vq,Du,dR]
def Z9(c:UInt8):Bool:=(decide (65<=c.toNat)&&decide (c.toNat<=90))||(decide (97<=c.toNat)&&decide (c.toNat<=122))
def aaa(c:UInt8):Bool:=decide (48<=c.toNat)&&decide (c.toNat<=57)
def xA:List UInt8->Nat->Bool
 |[],_=>true
 |c::r,i=>(Z9 c||(!decide (i=0)&&(decide (c=95)||aaa c)))&&xA r (i+1)
def dK(s:Tx):Bool:=decide (1<=s.length)&&(decide (s.length<=16)&&(!Kz s&&xA s 0))
structure Pn where
 name:Tx
 ty:Int
 PH:Bool
 deriving DecidableEq
def dH(p:Pn):D:=.agg [.str p.name,.int .i64 p.ty,.bool p.PH]
def lX(ins outs:List (Tx×Bool))(n:Nat):List Pn:=ins.map (λx=>⟨x.1,if x.2 then 1 else 2,true⟩)++outs.map (λx=>⟨x.1,if x.2 then 1 else 2,false⟩)++List.replicate n ⟨[],1,false⟩
def Dv:List (Tx×Bool):=[([68,111,110,101],false),([66,117,115,121],false),([65,99,116,105,118,101],false),([67,111,109,109,97,110,100,65,98,111,114,116,101,100],false),([69,114,114,111,114],false)]
def MD:List (Int×List Pn):=[
 (10,lX [([73,78],false),([80,84],true)] [([81],false),([69,84],true)] 0),
 (11,lX [([73,78],false),([80,84],true)] [([81],false),([69,84],true)] 0),
 (12,lX [([73,78],false),([80,84],true)] [([81],false),([69,84],true)] 2),
 (13,lX [([67,85],false),([82],false),([80,86],true)] [([81],false),([67,86],true)] 1),
 (14,lX [([67,68],false),([76,68],false),([80,86],true)] [([81],false),([67,86],true)] 1),
 (15,lX [([67,76,75],false)] [([81],false)] 1),
 (16,lX [([67,76,75],false)] [([81],false)] 1),
 (17,lX [([83,49],false),([82],false)] [([81,49],false)] 0),
 (18,lX [([83],false),([82,49],false)] [([81,49],false)] 0),
 (20,lX [([65,120,105,115],true),([69,110,97,98,108,101],false)] [([83,116,97,116,117,115],false),([69,114,114,111,114],false)] 0),
 (21,lX [([65,120,105,115],true),([69,120,101,99,117,116,101],false)] Dv 2),
 (22,lX [([65,120,105,115],true),([69,120,101,99,117,116,101],false)] Dv 2),
 (23,lX [([65,120,105,115],true),([69,120,101,99,117,116,101],false)] Dv 2),
 (24,lX [([65,120,105,115],true),([69,120,101,99,117,116,101],false),([80,111,115,105,116,105,111,110],true),([86,101,108,111,99,105,116,121],true),([66,117,102,102,101,114,77,111,100,101],true)] Dv 2),
 (25,lX [([65,120,105,115],true),([69,120,101,99,117,116,101],false),([68,105,115,116,97,110,99,101],true),([86,101,108,111,99,105,116,121],true),([66,117,102,102,101,114,77,111,100,101],true)] Dv 2),
 (26,lX [([65,120,105,115],true),([69,120,101,99,117,116,101],false),([68,105,115,116,97,110,99,101],true),([86,101,108,111,99,105,116,121],true),([66,117,102,102,101,114,77,111,100,101],true)] Dv 2),
 (27,lX [([65,120,105,115],true),([69,120,101,99,117,116,101],false),([86,101,108,111,99,105,116,121],true)] [([73,110,86,101,108,111,99,105,116,121],false),([66,117,115,121],false),([65,99,116,105,118,101],false),([67,111,109,109,97,110,100,65,98,111,114,116,101,100],false),([69,114,114,111,114],false)] 2),
 (28,lX [([65,120,105,115],true),([69,120,101,99,117,116,101],false),([77,97,115,116,101,114],true),([78,117,109,101,114,97,116,111,114],true),([68,101,110,111,109,105,110,97,116,111,114],true)] [([73,110,71,101,97,114],false),([66,117,115,121],false),([65,99,116,105,118,101],false),([67,111,109,109,97,110,100,65,98,111,114,116,101,100],false),([69,114,114,111,114],false)] 2),
 (29,lX [([65,120,105,115],true),([69,120,101,99,117,116,101],false)] [([68,111,110,101],false),([69,114,114,111,114],false)] 1),
 (30,lX [([65,120,105,115],true),([69,120,101,99,117,116,101],false),([80,111,115,105,116,105,111,110],true)] [([68,111,110,101],false),([69,114,114,111,114],false)] 1),
 (31,lX [([65,120,105,115],true),([69,110,97,98,108,101],false),([80,101,114,99,101,110,116],true)] [([69,110,97,98,108,101,100],false)] 0)]
def u9:List (Int×List Pn)->Int->List Pn
 |[],_=>[]
 |(a,l)::r,k=>if a=k then l else u9 r k
def bI(k:Int):List Pn:=u9 MD k
def Ax:List Pn->Tx->Option Pn
 |[],_=>none
 |p::r,s=>if p.name=s/\s≠[]then some p else Ax r s
def nh(k:Int)(s:Tx):Option Pn:=Ax (bI k) s
def bq:List Vr->Tx->Option Vr
 |[],_=>none
 |v::r,s=>if v.name=s then some v else bq r s
def bX(v:Vr):Int:=if v.arr=true then v.hi-v.lo+1 else if 2<v.ty then (bI v.ty).length else 1
structure Te where
 t:Int
 e:Int
 line:Int
 deriving DecidableEq
def fT(t:Int):Te:=⟨t,0,0⟩
def db(e line:Int):Te:=⟨0,e,line⟩
def im(op t:Int):Int:=if op=6\/(8<=op/\op<=12)\/(15<=op/\op<=18)then 1 else if op=13\/op=14 then t else 2
def iS(op:Int):Int:=if op=6\/(8<=op/\op<=12)then 1 else 2
def cM(op line:Int)(a b:Te):Te:=
 if a.e≠0 then ⟨0,a.e,a.line⟩else if b.e≠0 then ⟨0,b.e,b.line⟩else
 if a.t≠im op a.t\/b.t≠im op a.t then db 10 line else fT (iS op)
theorem jy{op line:Int}{a b:Te}(h:(cM op line a b).e=0):a.e=0/\b.e=0/\a.t=im op a.t/\b.t=im op a.t/\cM op line a b=fT (iS op):=by
 unfold cM at h⊢;by_cases E:a.e≠0
 ·rw[acs E]at h;exact absurd h E
 ·rw[ach E]at h⊢;by_cases H:b.e≠0
  ·rw[acs H]at h;exact absurd h H
  ·rw[ach H]at h⊢;by_cases I:a.t≠im op a.t\/b.t≠im op a.t
   ·rw[acs I]at h;simp[db]at h
   ·rw[ach I];simp only[ne_eq,akN,Decidable.not_not]at E H I;exact⟨E,H,I.1,I.2,rfl⟩
mutual
def aK(vs:List Vr):Ex->Te
 | .mk op _ name field sub line=>
  if op=1\/op=2 then fT op
  else if op=3\/op=4\/op=5 then
   match bq vs name with
   |none=>db 9 line
   |some v=>
    if op=5 then (if v.ty<=2 then db 10 line else match nh v.ty field with
     |none=>db 9 line
     |some p=>fT p.ty)
    else if v.arr≠decide (op=4)\/2<v.ty then db 10 line
    else if op=4 then za vs v.ty sub
    else fT v.ty
  else uL vs op line sub
def za(vs:List Vr)(t:Int):List Ex->Te
 |[]=>fT t
 |x::_=>if (aK vs x).e≠0 then db (aK vs x).e (aK vs x).line else if (aK vs x).t≠1 then db 10 (lJ x)else fT t
def uL(vs:List Vr)(op line:Int):List Ex->Te
 |[]=>fT 0
 |[x]=>cM op line (aK vs x) (aK vs x)
 |x::y::_=>cM op line (aK vs x) (aK vs y)
end
def dZ(vs:List Vr)(x:Ex)(t:Int):Int×Int:=if (aK vs x).e≠0 then ((aK vs x).e,(aK vs x).line)else if (aK vs x).t≠t then (10,lJ x)else (0,0)
end Go.Am
end
