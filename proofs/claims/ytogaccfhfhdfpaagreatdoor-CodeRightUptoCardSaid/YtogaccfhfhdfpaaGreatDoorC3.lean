/-
  Texts of one proof, one behind the other.
-/
import Derived.Test.YtogaccfhfhdfpaaGreatDoorC1
import Derived.Test.YtogaccfhfhdfpaaGreatDoorC2
import Derived.Below
import Derived.Recover
import Derived.Orders
import Derived.Laws.BitsLemmas
import Derived.Laws.Bits64
import Derived.Lib.Mul64
import Derived.Lib.Bytealg
import Derived.Lib.Index
import Derived.Lib.Strings
set_option linter.all false
section
namespace Go.Am
open Go
set_option maxRecDepth 100000
set_option maxHeartbeats 8000000
abbrev Is(e:XE)(E:St):XE->St->Prop:=λe' Au=>e'=e/\Au=E
def Q8(P:Program)(S:St)(o:Oper)(e:XE)(E:St):Prop:=
 E.n=S.n/\E.gl=S.gl/\(e=.normal\/∃t x,e=.panic t x)/\∀φ G a w,Rel φ G S a w->∀(next:Act->World->Prop)(R:Exit->Act->World->Prop),
  (e=.normal->∀φ' A5 w',Rel φ' G E A5 w'->bj φ S.mem w φ' E.mem w'->next A5 w')->
  (∀t x,e=.panic t x->∀φ' A5 w' v,Rel φ' G E A5 w'->bj φ S.mem w φ' E.mem w'->aP w' (Fo G φ' E.mem) x v->R (.panic [{v:=.iface t v,recovered:=false}]) A5 w')->o.wp P a w next R
def nw(S:St)(d g x):(S.put d g x).gl=S.gl:=by cases d<;>rfl
section
variable {X:Ctx} {A2:bN} {S E:St} {o:Oper} {e:XE}
theorem El{c:Bool}{x:AV}{gb:Bool}(AA:dC X.P S o=.val c x)(AE:(iI S o&&c)=true)(I:∀t,o.dst=some t->t<S.n):Q8 X.P S o .normal (S.put o.dst gb x):=by
 simp at AE;have:=MU X.P S o AE.1;rw[AA]at this;refine⟨nW ..,nw ..,.inl rfl,λφ G a w H next R A7 _=>?_⟩;exact Yl this AE.2 H I (λA5 w' AG AK=>A7 rfl φ A5 w' AG (by rw[gm];grind))
theorem Q9{c:Bool}{x:AV}{Ab:cL}(AA:dC X.P S o=.dA c x Ab)(AE:(iI S o&&c)=true)(I:∀t,o.dst=some t->t<S.n):Q8 X.P S o .normal (({S with mem:=Mem.set S.mem Ab}:St).put o.dst true x):=by
 simp at AE;have:=MU X.P S o AE.1;rw[AA]at this;refine⟨nW ..,nw ..,.inl rfl,λφ G a w H next R A7 _=>?_⟩;exact Ym this AE.2 H I (λφ' A5 w' AG AK=>A7 rfl φ' A5 w' AG (by rw[gm];grind))
theorem Qs{m:Mem}{BK:Nat}{g:FuncId}{BL:List AV}{mt:List Nat}{out:Out}{es:List cL}{ks:List Nat}(h:eD A2 m BK g BL mt=some ⟨out,es,ks⟩):∀e∈es,e.key∈ks:=by
 unfold eD nG nF gB at h;split at h
 .split at h
  .obtain⟨_,rfl,rfl⟩:=h;intro e he;obtain⟨j,v,c,AN,rfl⟩:=xT.1 he;grind
  grind
 grind
mutual
theorem VB:∀{x y:D},Da x y=true->x=y
 |x,y,h=>by
  unfold Da at h;split at h
  .simp only[Ds,aaw]at h;obtain⟨rfl,rfl⟩:=h;rfl
  .rw[aa6 h]
  .rw[aa6 h]
  .rw[Em h]
  .rw[Em h]
  .rfl
  .cases h
theorem Em:∀{x y:List D},A9 x y=true->x=y
 |x,y,h=>by
  unfold A9 at h;split at h
  .rfl
  .simp only[Ds]at h;rw[VB h.1,Em h.2]
  .cases h
end
theorem abF{x y:AV}(h:Jt x y=true):x=y:=by
 unfold Jt at h;split at h
 .rw[VB h]
 .grind
 .grind
 grind
theorem Nz:∀{x y:List AV},Ek x y=true->x=y
 |[],[],_=>rfl
 |[],_::_,h=>by cases h
 |_::_,[],h=>by cases h
 |a::r,b::s,h=>by
  simp[Ek]at h;rw[abF h.1,Nz h.2]
theorem VC{x y:aE}(h:Db x y=true):x=y:=by
 unfold Db at h;split at h
 .rw[Nz h]
 .simp at h;rw[h.1,Em h.2]
 grind
theorem NA:∀{m:Mem}{e:cL},Mem.get m e.key=some e->Mem.set m e=m
 |[],_,_=>rfl
 |x::r,e,h=>by
  simp[Mem.get]at h;simp[Mem.set];split at h
  .grind
  .rename_i A0;rw[aaf A0,NA h]
theorem Fp:∀{es:List cL}{m m':Mem}{ks:List Nat},sO m es=true->(∀e∈es,e.key∈ks)->(∀k∈ks,Mem.get m' k=Mem.get m k)->bX m' es=m'
 |[],_,_,_,_,_,_=>rfl
 |e::r,m,m',ks,h,A0,hm=>by
  simp[sO]at h;have J:Mem.get m' e.key=some e:=by
   rw[hm _ (A0 e (by simp))];obtain⟨h,_⟩:=h;cases O:Mem.get m e.key with
   |none=>rw[O]at h;cases h
   |some x=>
    rw[O]at h;simp[LR,Ds]at h;have M:=(Mem.get_mem O).2;obtain⟨k,v,c⟩:=x;simp only at h M;rw[h.1,VC h.2,M]
  rw[bX,NA J];exact Fp h.2 (λe he=>A0 e (abq _ he)) hm
theorem oy{args:List Operand}{AD:Bool×AV}{out:Out}{es:List cL}{ks:List Nat}(h:cY X A2 S o args AD=some ⟨out,es,ks⟩):∃g AP AU,AD=(true,.fn g AP)/\jR S args=true/\
 eD A2 S.mem (keyOf o) (pw g) (jF g (dF S args) AP) (X.fp (pw g)).yV=some ⟨out,AU,ks⟩/\(∀e∈es,e.key∈ks)/\∀m',(∀k∈ks,Mem.get m' k=Mem.get S.mem k)->bX m' AU=bX m' es:=by
 unfold cY at h;split at h
 .rename_i g AP;split at h
  .rename_i AE;generalize (X.fp (pw g)).yV.contains 2000=b at h;cases AB:eD A2 S.mem (keyOf o) (pw g) (jF g (dF S args) AP) (X.fp (pw g)).yV with
   |none=>rw[AB]at h;cases b<;>cases h
   |some res=>
    obtain⟨Bn,AU,Bo⟩:=res;have A0:=Qs AB;rw[AB]at h;cases b with
    |false=>cases h;grind
    |true=>
     simp[Ba]at h;cases AA:sO S.mem AU with
     |false=>rw[AA]at h;cases h;grind
     |true=>rw[AA]at h;cases h;exact⟨g,AP,AU,rfl,AE,AB,by simp,λm' hm=>Fp AA A0 hm⟩
  grind
 grind
theorem YD(A8:kJ X A2){AD:Operand}{args:Array Operand}{AW:Array TypeId}(Z:o.op=.call {callee:=.value AD,args,argTypes:=AW})(A3:S.gl=X.gl)(I:∀t,o.dst=some t->t<S.n)
 (h:dS S o.dst (cY X A2 S o args.toList (S.au AD))=some (e,E)):Q8 X.P S o e E:=by
 cases AX:cY X A2 S o args.toList (S.au AD)with
 |none=>rw[AX]at h;cases h
 |some res=>
  rw[AX]at h;obtain⟨out,es,ks⟩:=res;obtain⟨g,AP,AU,Av,AE,Ah,_,AY⟩:=oy AX;have AY:=AY S.mem (λ_ _=>rfl);cases out with
  |ret x=>
   obtain⟨rfl,rfl⟩:=h;refine⟨nW ..,nw ..,.inl rfl,λφ G a w H next R A7 _=>?_⟩;refine yd A8 Z Av rfl AE Ah A3 H (λAf M φ' w' v AG AK AL=>?_) (λt Af M=>by cases M);cases M;rw[AY]at AG AK AL;exact A7 rfl φ' _ w' (AG.put o.dst I true x v (λ_=>AL)) (by rw[gm];grind)
  |panic t x=>
   obtain⟨rfl,rfl⟩:=h;refine⟨rfl,rfl,.inr ⟨t,x,rfl⟩,λφ G a w H next R _ AS=>?_⟩;refine yd A8 Z Av rfl AE Ah A3 H (λAf M=>by cases M) (λBM Af M φ' w' v AG AK AL=>?_);grind
theorem VD{x:Operand}(Z:o.op=.panic x)(h:F9 S (S.au x)=some (e,E)):Q8 X.P S o e E:=by
 cases M:S.au x with
 |mk g y=>
  rw[M]at h;unfold F9 at h;split at h
  .rename_i t d heq;cases heq;obtain⟨rfl,rfl⟩:=h;refine⟨rfl,rfl,.inr ⟨t,d,rfl⟩,λφ G a w H next R _ AS=>?_⟩;have AL:=H.au x (by rw[M]);rw[M]at AL;generalize BN:a.eval x=u at AL;cases AL with
   |jb _ _ v I=>
    have B':(execOp a.eval o).run X.P w=.halt (.panic (.iface t v)) w:=by
     simp[execOp,Z,BN,Instr.panic]
    unfold Oper.wp;rw[B'];exact AS t d rfl φ a w v H (bj.refl ..) I
  grind
theorem Dg(A8:kJ X A2)(A3:S.gl=X.gl)(I:∀t,o.dst=some t->t<S.n)(h:jl X A2 S o (dC X.P S o)=some (e,E)):Q8 X.P S o e E:=by
 generalize AA:dC X.P S o=r at h;cases r with
 |val c x=>
  simp only[jl]at h;split at h
  .rename_i AE;cases h;exact El AA AE I
  grind
 |dA c x Ab=>
  simp only[jl]at h;split at h
  .rename_i AE;cases h;exact Q9 AA AE I
  grind
 |no=>
  simp[jl,uu]at h;split at h
  .rename_i AD args AW Z;exact YD A8 Z A3 I h
  .rename_i x Z;exact VD Z h
  grind
def Dh(P:Program)(all:List Oper)(S:St)(o:Oper)(e:XE)(E:St):Prop:=
 E.n=S.n/\E.gl=S.gl/\(e=.normal\/∃t x,e=.panic t x)/\∀φ G a w,Rel φ G S a w->∀(next:Act->World->Prop)(R:Exit->Act->World->Prop),
  (e=.normal->∀φ' A5 w',Rel φ' G E A5 w'->bj φ S.mem w φ' E.mem w'->next A5 w')->
  (∀t x,e=.panic t x->∀φ' A5 w' v,Rel φ' G E A5 w'->bj φ S.mem w φ' E.mem w'->aP w' (Fo G φ' E.mem) x v->R (.panic [{v:=.iface t v,recovered:=false}]) A5 w')->
  if Region.wanted o (yielded all.toArray a.tmps)then o.wp P a w next R else next (a.put o.dst undef) w
theorem En{all:List Oper}(h:Q8 X.P S o e E)(hw:∀φ G a w,Rel φ G S a w->Region.wanted o (yielded all.toArray a.tmps)=true):Dh X.P all S o e E:=by
 obtain⟨J,U,AI,AO⟩:=h;refine⟨J,U,AI,λφ G a w H next R A7 AS=>?_⟩;grind
theorem Di{φ:cj}{w:World}{F:Nat->Prop}{x:AV}(M:x=.bC\/x=.bh []):aG φ w F x undef:=by
 rcases M with rfl|rfl
 .exact .bC _
 .exact .bh [] #[] rfl (λi c v h=>by grind)
theorem HZ{all:List Oper}{j:Nat}{φ G a w}(h:Rel φ G S a w)(O:ri all S j=some (true,.bh [])):yielded all.toArray a.tmps j=none:=by
 unfold ri at O;split at O
 .rename_i o Z;split at O
  .rename_i t AM;have J:=h.env t _ O;unfold yielded;simp[Z,AM];rw[abk]at J;cases A4:a.tmps[t]? with
   |none=>rfl
   |some v=>
    rw[A4]at J;cases J;rfl
  grind
 grind
theorem NB{all:List Oper}{gb:Bool}{x:AV}(M:gb=true->x=.bC\/x=.bh [])(I:∀t,o.dst=some t->t<S.n)(hw:∀φ G a w,Rel φ G S a w->Region.wanted o (yielded all.toArray a.tmps)=false):Dh X.P all S o .normal (S.put o.dst gb x):=by
 refine⟨nW ..,nw ..,.inl rfl,λφ G a w H next R A7 _=>?_⟩;rw[aaf (by grind)];exact A7 rfl φ _ w (H.put o.dst I gb x undef (λO=>Di (M O))) (by rw[gm];exact bj.refl ..)
theorem Ky{all:List Oper}{j:Nat}{AH t:Bool}(O:o.guard=some (j,AH))(AC:ri all S j=some (true,.d (.bool t))){φ G a w}(H:Rel φ G S a w):Region.wanted o (yielded all.toArray a.tmps)=(t == AH):=by
 have Aw:=Vg H AC;simp[Region.wanted];grind
theorem Gi(S:St)(d b):(S.cz d b).n=S.n:=nW ..
theorem Eo(S:St)(d b):(S.cz d b).gl=S.gl:=nw ..
theorem H0(S:St)(d b):(S.cz d b).mem=S.mem:=gm ..
theorem aax{all:List Oper}{S:St}{j:Nat}{t b:Bool}(AC:ri all S j=some (true,.d (.bool t)))(AQ:t=b)(u:Nat):Env.lk (S.cz (m6 all j) b).env u=Env.lk S.env u:=by
 unfold ri at AC;unfold St.cz m6;split at AC
 .rename_i BO AN;split at AC
  .rename_i d I;simp[AN,I,St.put,Env.lk];grind
  grind
 grind
theorem aeO{all:List Oper}{S:St}{j:Nat}{t b:Bool}(AC:ri all S j=some (true,.d (.bool t)))(AQ:t=b){φ G a w}(H:Rel φ G S a w):Rel φ G (S.cz (m6 all j) b) a w:=
 Rel.eqv H ⟨(Gi ..).symm,(Eo ..).symm,(H0 ..).symm,λu=>(aax AC AQ u).symm⟩
theorem wV{all:List Oper}(A8:kJ X A2)(A3:S.gl=X.gl)(I:∀t,o.dst=some t->t<S.n){md:Bool}(h:oV X A2 md all S o=some (e,E)):Dh X.P all S o e E:=by
 unfold oV at h;split at h
 .rename_i O;exact En (Dg A8 A3 I h) (λ_ _ _ _ _=>by simp[Region.wanted,O])
 .rename_i j AH O;split at h
  .rename_i t AC;replace AC:=Nj AC;have hw:∀φ G a w,Rel φ G S a w->Region.wanted o (yielded all.toArray a.tmps)=(t == AH):=λφ G a w H=>Ky O AC H;have other:∀{r:dO},dC X.P S o=r->(if (t == AH)=true then jl X A2 S o r else some (.normal,S.put o.dst true .bC))=some (e,E)->Dh X.P all S o e E:=by
    intro r AA h;split at h
    .exact En (Dg A8 A3 I (by grind)) (λφ G a w H=>by grind)
    .cases h;exact NB (λ_=>.inl rfl) I (λφ G a w H=>by grind)
   cases md with
   |true=>
    simp only at h;have B9:∀b,t=b->∀φ G a w,Rel φ G S a w->Rel φ G (S.cz (m6 all j) b) a w:=λb AQ φ G a w H=>aeO AC AQ H;split at h
    .have Ag:t=AH:=by grind
     have:=Dg (S:=S.cz (m6 all j) AH) A8 (by rw[Eo];grind) (λt AM=>by rw[Gi];grind) h;obtain⟨J,U,AI,AO⟩:=this;refine En ⟨by rw[J,Gi],by rw[U,Eo],AI,λφ G a w H next R A7 AS=>?_⟩ (λφ G a w H=>by grind);have BP:=AO φ G a w (B9 AH Ag φ G a w H) next R
     rw[H0]at BP;grind
    .have Ag:t=!AH:=by cases t<;>cases AH<;>simp_all
     cases h;refine⟨by rw[nW,Gi],by rw[nw,Eo],.inl rfl,λφ G a w H next R A7 _=>?_⟩;rw[aaf (by grind)];exact A7 rfl φ _ w ((B9 _ Ag φ G a w H).put o.dst (λt AM=>by rw[Gi];grind) true (.bh []) undef (λ_=>Di (.inr rfl))) (by rw[gm,H0];exact bj.refl ..)
   |false=>
   simp only at h;unfold qJ at h;split at h
   .rename_i c x AA;split at h
    .rename_i AB;cases h;cases AQ:(t == AH)
     .exact NB (by simp) I (λφ G a w H=>by grind)
     .exact En (El AA (AB AQ) I) (λφ G a w H=>by grind)
    grind
   grind
  .rename_i AC;replace AC:=Kw AC;cases h;exact NB (λ_=>.inr rfl) I (λφ G a w H=>by
    simp only[Region.wanted,O,HZ H AC];grind)
  grind
theorem iT{r:Option (XE×St)}{k:St->Option (XE×St)}{y:XE×St}(h:andThen r k=some y):(∃S1,r=some (.normal,S1)/\k S1=some y)\/(r=some y/\y.1≠.normal):=by
 unfold andThen at h;grind
theorem bj.post{n:Nat}{φ φ':cj}{G:Fr}{m:Mem}{w w':World}{e:XE}{E:St}{A5:Act}(A7:E.n=n)(H:Rel φ' G E A5 w')(A0:bj φ m w φ' E.mem w')(he:e=.normal):pt n φ G m w (Is e E) .normal A5 w':=
 ⟨φ',E,A7,⟨he.symm,rfl⟩,H,A0⟩
theorem Dj{md:Bool}{all:List Oper}(A8:kJ X A2):∀(ops:List Oper)(S:St)(e:XE)(E:St),iB X A2 md all ops S=some (e,E)->S.gl=X.gl->lh S.n ops=true->
 E.n=S.n/\E.gl=S.gl/\∀φ G a w,Rel φ G S a w->∀Q:Exit->Act->World->Prop,(∀e' A5 w',pt S.n φ G S.mem w (Is e E) e' A5 w'->Q e' A5 w')->wpList X.P all.toArray Q ops a w
 |[],S,e,E,h,A3,I=>by
  obtain⟨rfl,rfl⟩:=h;exact⟨rfl,rfl,λφ G a w H Q An=>An _ _ _ (bj.post rfl H (bj.refl ..) rfl)⟩
 |o::rest,S,e,E,h,A3,I=>by
  simp only[lh,ahP,Ds]at I;obtain⟨B0,I⟩:=I;have AT:∀t,o.dst=some t->t<S.n:=λt AM=>by grind
  rcases iT h with ⟨S1,J,U⟩|⟨J,U⟩
  .obtain⟨Ai,Ax,_,B2⟩:=wV A8 A3 AT J;obtain⟨BQ,BR,BS⟩:=Dj A8 rest S1 e E U (Ax.trans A3) (by rw[Ai];exact I);refine⟨BQ.trans Ai,BR.trans Ax,λφ G a w H Q An=>?_⟩;have:=B2 φ G a w H (wpList X.P all.toArray Q rest) Q
    (λ_ φ' A5 w' AG AK=>BS φ' G A5 w' AG Q (λe' a2 BT AS=>An e' a2 BT (by rw[<-Ai];exact AS.weaken AK))) (λt x he=>by cases he)
   unfold wpList;grind
  .obtain⟨Ai,Ax,Bp,B2⟩:=wV A8 A3 AT J;refine⟨Ai,Ax,λφ G a w H Q An=>?_⟩;have:=B2 φ G a w H (wpList X.P all.toArray Q rest) Q
    (λhe=>absurd he U) (λt x he φ' A5 w' v AG AK AL=>An _ _ _ ⟨φ',E,t,x,v,rfl,AL,Ai,⟨he.symm,rfl⟩,AG,AK⟩)
   unfold wpList;grind
theorem uw{all:List Oper}{ks:List Nat}{E S:St}(h:ma all o ks E S){x:Operand}(M:x∈o.op.operands.toList):E.au x=S.au x:=by
 cases x with
 |tmp t=>
  simp[St.au];rw[h.env t (by simp[looks];grind)]
 |global g=>simp[St.au,h.gl]
 |_=>rfl
theorem Kz{all:List Oper}{ks:List Nat}{E S:St}(h:ma all o ks E S){j AH}(O:o.guard=some (j,AH)):Am.ri all E j=Am.ri all S j:=by
 unfold Am.ri;split
 .rename_i BO AN;split
  .rename_i t AM;exact h.env t (by simp[looks,aau];grind)
  .rfl
 .rfl
theorem yf{E S:St}:∀{l:List Operand},(∀x∈l,E.au x=S.au x)->jR E l=jR S l
 |[],_=>rfl
 |x::r,h=>by simp[jR,h x (by simp),yf (l:=r) (λy Aw=>h y (abq _ Aw))]
theorem zm{E S:St}:∀{l:List Operand},(∀x∈l,E.au x=S.au x)->dF E l=dF S l
 |[],_=>rfl
 |x::r,h=>by simp[dF,h x (by simp),zm (l:=r) (λy Aw=>h y (abq _ Aw))]
theorem NC{E S:St}(h:∀x∈o.op.operands.toList,E.au x=S.au x):iI E o=iI S o:=by
 unfold iI;split
 .rfl
 .exact yf h
theorem KA{all:List Oper}{c:Bool}{x:AV}{gb:Bool}(I:∀t,o.dst=some t->t<S.n)(AA:dC X.P S o=.val c x)(AE:(iI S o&&c)=true)
 (hw:∀E,ma all o (kj S o) E S->∀φ G a w,Rel φ G E a w->Region.wanted o (yielded all.toArray a.tmps)=true):mb X.P all S o ⟨kj S o,[],gb,x⟩:=by
 intro E V φ G a w H next R A7
 rw[aav (hw E V φ G a w H)];have M:∀x∈o.op.operands.toList,E.au x=S.au x:=λx M=>uw V M;have Ao:dC X.P E o=.val c x:=by rw[Ko M V.mem];exact AA
 obtain⟨_,_,_,AO⟩:=El (gb:=gb) Ao (by rw[NC M];grind) (λt AM=>by rw[V.n];grind);exact AO φ G a w H next R (λ_ φ' A5 w' AG AK=>A7 φ' A5 w' AG AK) (λt x he=>by cases he)
theorem VE{all:List Oper}{c:Bool}{x:AV}{Ab:cL}(I:∀t,o.dst=some t->t<S.n)(AA:dC X.P S o=.dA c x Ab)(AE:(iI S o&&c)=true)
 (hw:∀E,ma all o (kj S o) E S->∀φ G a w,Rel φ G E a w->Region.wanted o (yielded all.toArray a.tmps)=true):mb X.P all S o ⟨kj S o,[Ab],true,x⟩:=by
 intro E V φ G a w H next R A7
 rw[aav (hw E V φ G a w H)];have M:∀x∈o.op.operands.toList,E.au x=S.au x:=λx M=>uw V M;have Ao:dC X.P E o=.dA c x Ab:=by rw[Ko M V.mem];exact AA
 obtain⟨_,_,_,AO⟩:=Q9 Ao (by rw[NC M];grind) (λt AM=>by rw[V.n];grind);exact AO φ G a w H next R (λ_ φ' A5 w' AG AK=>A7 φ' A5 w' AG AK) (λt x he=>by cases he)
theorem vE{all:List Oper}{ks:List Nat}{gb:Bool}{x:AV}(I:∀t,o.dst=some t->t<S.n)(M:gb=true->x=.bC\/x=.bh [])
 (hw:∀E,ma all o ks E S->∀φ G a w,Rel φ G E a w->Region.wanted o (yielded all.toArray a.tmps)=false):mb X.P all S o ⟨ks,[],gb,x⟩:=by
 intro E V φ G a w H next R A7
 rw[aaf (by grind)];exact A7 φ _ w (H.put o.dst (λt AM=>by rw[V.n];grind) gb x undef (λO=>Di (M O))) (by simp[bn.app,gm];exact bj.refl ..)
theorem Tn{all:List Oper}(A8:kJ X A2)(A3:S.gl=X.gl)(I:∀t,o.dst=some t->t<S.n){AD:Operand}{args:Array Operand}{AW:Array TypeId}(Z:o.op=.call {callee:=.value AD,args,argTypes:=AW})
 {x:AV} {es:List cL} {ks:List Nat} (h:cY X A2 S o args.toList (S.au AD)=some ⟨.ret x,es,ks⟩)
 (hw:∀E,ma all o ks E S->∀φ G a w,Rel φ G E a w->Region.wanted o (yielded all.toArray a.tmps)=true):mb X.P all S o ⟨ks,es,true,x⟩:=by
 intro E V φ G a w H next R A7
 rw[aav (hw E V φ G a w H)];have M:∀x∈o.op.operands.toList,E.au x=S.au x:=λx M=>uw V M;have Ap:∀x∈args.toList,E.au x=S.au x:=λx BU=>M x (by simp[Op.operands,Call.operands];grind);obtain⟨g,AP,AU,Av,AE,Ah,_,AY⟩:=oy h;have AY:=AY E.mem (λk A0=>V.mem k A0);have B3:E.au AD=(true,.fn g AP):=by rw[M AD (by simp[Z,Op.operands,Call.operands])];grind
 have B4:eD A2 E.mem (keyOf o) (pw g) (jF g (dF E args.toList) AP) (X.fp (pw g)).yV=some ⟨.ret x,AU,ks⟩:=by
  rw[zm Ap];exact HY V.keys Ah (λk A0=>V.mem k A0)
 refine yd A8 Z B3 rfl (by rw[yf Ap];grind) B4 (V.gl.trans A3) H (λAf Ay φ' w' v AG AK AL=>?_) (λt Af Ay=>by grind);cases Ay;rw[AY]at AG AK AL;exact A7 φ' _ w' (AG.put o.dst (λt AM=>by rw[V.n];grind) true x v (λ_=>AL)) (by simp[bn.app,gm];grind)
theorem NF{all:List Oper}{S1:St}{p:bn}(A8:kJ X A2)(A3:S.gl=X.gl)(I:∀t,o.dst=some t->t<S.n){r:dO}(AA:dC X.P S o=r)(h:fK X A2 S o r=some (S1,p))
 (hw:∀(ks:List Nat) E,ma all o ks E S->∀φ G a w,Rel φ G E a w->Region.wanted o (yielded all.toArray a.tmps)=true):S1=p.app o S/\(∀e∈p.es,e.key∈p.ks)/\mb X.P all S o p:=by
 cases r with
 |val c x=>
  simp only[fK]at h;split at h
  .rename_i AE;cases h;exact⟨rfl,by simp,KA I AA AE (hw _)⟩
  grind
 |dA c x Ab=>
  simp only[fK]at h;split at h
  .cases h;exact⟨rfl,by grind,VE I AA (by grind) (hw _)⟩
  grind
 |no=>
  simp[fK,m7]at h;split at h
  .rename_i AD args AW Z;cases AX:cY X A2 S o args.toList (S.au AD)with
   |none=>rw[AX]at h;cases h
   |some res=>
    rw[AX]at h;obtain⟨out,es,ks⟩:=res;cases out with
    |panic=>cases h
    |ret x=>
     cases h;refine⟨rfl,?_,Tn A8 A3 I Z AX (hw _)⟩;obtain⟨_,_,_,_,_,_,A0,_⟩:=oy AX;exact A0
  grind
theorem iQ.refl(S:St):iQ S S:=⟨rfl,rfl,rfl,λ_=>rfl⟩
theorem iQ.symm{S E:St}(h:iQ S E):iQ E S:=⟨h.n.symm,h.gl.symm,h.mem.symm,λt=>(h.env t).symm⟩
theorem iQ.trans{S E Au:St}(h:iQ S E)(k:iQ E Au):iQ S Au:=⟨h.n.trans k.n,h.gl.trans k.gl,h.mem.trans k.mem,λt=>(h.env t).trans (k.env t)⟩
theorem iQ.app{S E:St}(h:iQ S E)(p:bn)(o:Oper):iQ (p.app o S) (p.app o E):=
 ⟨by rw[xX,xX,h.n],by rw[uk,uk,h.gl],by simp[bn.app,gm,h.mem],λt=>by rw[wH,wH,h.env]⟩
theorem ma.eqv{all:List Oper}{ks:List Nat}{E S S0:St}(h:ma all o ks E S)(he:iQ S S0):ma all o ks E S0:=
 ⟨h.n.trans he.n,h.gl.trans he.gl,by rw[h.keys,he.mem],λt AM=>(h.env t AM).trans (he.env t),λk A0=>by rw[h.mem k A0,he.mem]⟩
theorem mb.eqv{P:Program}{all:List Oper}{S S0:St}{p:bn}(h:mb P all S o p)(he:iQ S S0):mb P all S0 o p:=λE V=>h E (V.eqv he.symm)
theorem vz.eqv{P:Program}{Ac:Mem->Prop}{all:List Oper}{S S0:St}{p:bn}(h:vz P Ac all S o p)(he:iQ S S0):vz P Ac all S0 o p:=λE V=>h E (V.eqv he.symm)
theorem Gk{P:Program}{Ac:Mem->Prop}{all ops:List Oper}{S S1:St}{ps:List bn}(h:Cert P Ac all ops S ps S1):∀{S0:St},iQ S S0->∃AJ,Cert P Ac all ops S0 ps AJ/\iQ S1 AJ:=by
 induction h with
 |nil S=>exact λhe=>⟨_,.nil _,he⟩
 |cons o rest S p ps S1 A0 Aj h H ih=>
  intro S0 he;obtain⟨AJ,U,AI⟩:=ih (he.app p o);exact⟨AJ,.cons o rest S0 p ps AJ A0 Aj (h.eqv he) U,AI⟩
theorem VF{all:List Oper}{S:St}{j:Nat}{t b:Bool}(AC:ri all S j=some (true,.d (.bool t)))(AQ:t=b):iQ (S.cz (m6 all j) b) S:=
 ⟨Gi ..,Eo ..,H0 ..,λu=>aax AC AQ u⟩
theorem Dk{md:Bool}{all:List Oper}{S1:St}{p:bn}(A8:kJ X A2)(A3:S.gl=X.gl)(I:∀t,o.dst=some t->t<S.n)(h:eT X A2 md all S o=some (S1,p)):iQ S1 (p.app o S)/\(∀e∈p.es,e.key∈p.ks)/\mb X.P all S o p:=by
 have yes:∀{r:dO},dC X.P S o=r->fK X A2 S o r=some (S1,p)->(∀(ks:List Nat) E,ma all o ks E S->∀φ G a w,Rel φ G E a w->Region.wanted o (yielded all.toArray a.tmps)=true)->iQ S1 (p.app o S)/\(∀e∈p.es,e.key∈p.ks)/\mb X.P all S o p:=by
  intro r AA h hw;obtain⟨J,U,AI⟩:=NF A8 A3 I AA h hw;exact⟨by rw[J];exact iQ.refl _,U,AI⟩
 unfold eT at h;split at h
 .rename_i O;exact yes rfl h (λ_ _ _ _ _ _ _ _=>by simp[Region.wanted,O])
 .rename_i j AH O;split at h
  .rename_i t AC;replace AC:=Nj AC;have hw:∀(ks:List Nat) E,ma all o ks E S->∀φ G a w,Rel φ G E a w->Region.wanted o (yielded all.toArray a.tmps)=(t == AH):=
    λks E V φ G a w H=>Ky O (by rw[Kz V O];grind) H
   have other:∀{r:dO},dC X.P S o=r->(if (t == AH)=true then fK X A2 S o r else some (S.put o.dst true .bC,⟨[],[],true,.bC⟩))=some (S1,p)->iQ S1 (p.app o S)/\(∀e∈p.es,e.key∈p.ks)/\mb X.P all S o p:=by
    intro r AA h;split at h
    .grind
    .cases h;exact⟨iQ.refl _,by simp,vE I (λ_=>.inl rfl) (λE V φ G a w H=>by grind)⟩
   cases md with
   |true=>
    simp only at h;split at h
    .rename_i AQ;have Ag:t=AH:=by grind
     have he:=VF AC Ag;obtain⟨J,U,AI⟩:=NF (S:=S.cz (m6 all j) AH) A8 (by rw[Eo];grind) (λt AM=>by rw[Gi];grind) rfl h
      (λks E V φ G a w H=>by rw[hw ks E (V.eqv he) φ G a w H];exact AQ)
     exact⟨by rw[J];exact he.app p o,U,AI.eqv he⟩
    .have Ag:t=!AH:=by cases t<;>cases AH<;>simp_all
     cases h;have he:=VF AC Ag;exact⟨he.app ⟨[],[],true,.bh []⟩ o,by simp,vE I (λ_=>.inr rfl) (λE V φ G a w H=>by grind)⟩
   |false=>
   simp only at h;unfold uv at h;split at h
   .rename_i c x AA;split at h
    .rename_i AB;cases h;refine⟨iQ.refl _,by simp,?_⟩;cases AQ:(t == AH)
     .exact vE I (by simp) (λE V φ G a w H=>by grind)
     .exact KA I AA (AB AQ) (λE V φ G a w H=>by grind)
    grind
   grind
  .rename_i AC;replace AC:=Kw AC;cases h;exact⟨iQ.refl _,by simp,vE I (λ_=>.inr rfl) (λE V φ G a w H=>by
    have:=HZ H (by rw[Kz V O];grind);simp[Region.wanted];grind)⟩
  grind
inductive lz(T:Nat->St->Oper->bn->Prop):Nat->List Oper->St->List bn->Prop
 |nil (i S):lz T i [] S []
 |cons (i o rest S p ps) (h:T i S o p) (H:lz T (i+1) rest (p.app o S) ps):lz T i (o::rest) S (p::ps)
theorem lz.eqv{T:Nat->St->Oper->bn->Prop}(Aq:∀i S S0 o p,iQ S S0->T i S o p->T i S0 o p){i:Nat}{ops:List Oper}{S:St}{ps:List bn}(h:lz T i ops S ps):∀{S0:St},iQ S S0->lz T i ops S0 ps:=by
 induction h with
 |nil i S=>exact λ_=>.nil _ _
 |cons i o rest S p ps h H ih=>exact λhe=>.cons _ _ _ _ _ _ (Aq _ _ _ _ _ he h) (ih (he.app p o))
theorem lz.mono{T BA:Nat->St->Oper->bn->Prop}{i:Nat}{ops:List Oper}{S:St}{ps:List bn}(h:lz T i ops S ps):(∀k S o p,i<=k->T k S o p->BA k S o p)->lz BA i ops S ps:=by
 induction h with
 |nil i S=>exact λ_=>.nil _ _
 |cons i o rest S p ps h H ih=>exact λA0=>.cons _ _ _ _ _ _ (A0 _ _ _ _ (aak _) h) (ih λk S o p hi=>A0 k S o p (by omega))
theorem lz.len{T:Nat->St->Oper->bn->Prop}{i:Nat}{ops:List Oper}{S:St}{ps:List bn}(h:lz T i ops S ps):ps.length=ops.length:=by
 induction h with
 |nil i S=>rfl
 |cons i o rest S p ps h H ih=>grind
theorem lz.at{T:Nat->St->Oper->bn->Prop}{all:List Oper}{ps:List bn}{i:Nat}{rest:List Oper}{S0 S:St}{AR:List bn}(h:lz T i rest S AR):∀(pre:List Oper)(pp:List bn),pre.length=i->pre.length=pp.length->all=pre++rest->ps=pp++AR->aQ all ps S0 (List.range pre.length)=S->
 ∀j o p,pre.length<=j->all[j]?=some o->ps[j]?=some p->T j (aQ all ps S0 (List.range j)) o p:=by
 induction h with
 |nil i S=>
  grind
 |cons i o rest S p AR Aq H ih=>
  intro pre pp hi AZ V Bq BV j BB BW AN BX BY;have Ak:all[pre.length]?=some o:=by grind
  have BC:ps[pre.length]?=some p:=by simp_all
  rcases Nat.eq_or_lt_of_le AN with rfl|AN
  .grind
  .exact ih (pre++[o]) (pp++[p]) (by simp[hi]) (by simp[AZ]) (by grind) (by grind) (by
    rw[aal,aeT,List.range_succ,uP,BV];simp[aQ,Ak,BC]) j BB BW (by grind) BX BY
theorem Ei.eqv{P:Program}{all:List Oper}{S S0:St}{p:bn}{t:TypeId}{x:D}(h:Ei P all S o p t x)(he:iQ S S0):Ei P all S0 o p t x:=λE V=>h E (V.eqv he.symm)
def TT(P:Program)(all:List Oper)(j:Nat)(Ad:List Nat)(t:TypeId)(x:D)(N:Nat)(S1:St)(i:Nat)(S:St)(o:Oper)(p:bn):Prop:=
 (∀e∈p.es,e.key∈p.ks)/\(i≠j->(i<j\/Ad.contains i=true)->mb P all S o p)/\(i=j->Ei P all S o p t x/\S1.n=S.n/\S1.gl=S.gl/\S1.mem=ly N (bX S.mem p.es))
theorem TT.eqv{P:Program}{all:List Oper}{j:Nat}{Ad:List Nat}{t:TypeId}{x:D}{N:Nat}{S1:St}(i:Nat)(S S0:St)(o:Oper)(p:bn)(he:iQ S S0)(h:TT P all j Ad t x N S1 i S o p):TT P all j Ad t x N S1 i S0 o p:=
 ⟨h.1,λa b=>(h.2.1 a b).eqv he,λa=>⟨(h.2.2 a).1.eqv he,(h.2.2 a).2.1.trans he.n,(h.2.2 a).2.2.1.trans he.gl,by rw[<-he.mem];exact (h.2.2 a).2.2.2⟩⟩
theorem aeP{X:Ctx}:kJ X (λ_ _ _=>none):=λg args cs out l h=>by cases h
theorem Dl{md:Bool}{all:List Oper}{Ad:List Nat}:∀(ops:List Oper)(i:Nat)(S:St)(A1 AR:List bn),uQ X md all Ad i ops S A1=some AR->S.gl=X.gl->lh S.n ops=true->
 ∃ps,AR=A1.reverse++ps/\lz (λi S o p=>(∀e∈p.es,e.key∈p.ks)/\(Ad.contains i=true->mb X.P all S o p)) i ops S ps
 |[],i,S,A1,AR,h,A3,I=>by
  simp[uQ]at h;exact⟨[],by simp[h],.nil _ _⟩
 |o::rest,i,S,A1,AR,h,A3,I=>by
  simp only[lh,ahP,Ds]at I;obtain⟨B0,I⟩:=I;have AT:∀t,o.dst=some t->t<S.n:=λt AM=>by grind
  simp only[uQ]at h;cases AN:Ad.contains i with
  |true=>
   rw[AN]at h;cases O:eT X (λ_ _ _=>none) md all S o with
   |none=>grind
   |some q=>
    obtain⟨AJ,p⟩:=q;rw[O]at h;obtain⟨heq,Al,A_⟩:=Dk aeP A3 AT O;obtain⟨ps,J,U⟩:=Dl rest (i+1) AJ (p::A1) AR h (by rw[heq.gl,uk];grind) (by rw[heq.n,xX];exact I);exact⟨p::ps,by grind,.cons _ _ _ _ _ _ ⟨Al,λ_=>A_⟩ (U.eqv (λ_ _ _ _ _ he h=>⟨h.1,λa=>(h.2 a).eqv he⟩) heq)⟩
  |false=>
   rw[AN]at h;obtain⟨ps,J,U⟩:=Dl rest (i+1) (S.put o.dst false .bC) _ AR h (by rw[nw];grind) (by rw[nW];exact I);exact⟨⟨[],[],false,.bC⟩::ps,by grind,.cons _ _ _ _ _ _ ⟨by simp,λhh=>by grind⟩ U⟩
theorem KB{q:Nk}(h:mz X A2 S o=some q):o.guard=none/\dC X.P S o=.no/\∃AD args AW,o.op=.call {callee:=.value AD,args,argTypes:=AW}/\cY X A2 S o args.toList (S.au AD)=some ⟨.panic q.t q.x,q.es,q.ks⟩/\q.S={S with mem:=bX S.mem q.es}:=by
 unfold mz at h;split at h
 .unfold Ga at h;split at h
  .unfold Nl at h;split at h
   .unfold yX at h;grind
   grind
  grind
 grind
theorem NG{args:List Operand}{AD:Bool×AV}{out:Out}{es:List cL}{ks:List Nat}(AX:cY X A2 S o args AD=some ⟨out,es,ks⟩):∀e∈es,e.key∈ks:=by
 obtain⟨_,_,_,_,_,_,A0,_⟩:=oy AX;exact A0
theorem To{all:List Oper}(A8:kJ X A2)(A3:S.gl=X.gl){AD:Operand}{args:Array Operand}{AW:Array TypeId}(O:o.guard=none)(Z:o.op=.call {callee:=.value AD,args,argTypes:=AW})
 {t:TypeId} {x:D} {es:List cL} {ks:List Nat} (h:cY X A2 S o args.toList (S.au AD)=some ⟨.panic t x,es,ks⟩):Ei X.P all S o ⟨ks,es,true,.bC⟩ t x:=by
 intro E V φ G a w H next R A7
 rw[aav (by simp[Region.wanted,O])];have M:∀x∈o.op.operands.toList,E.au x=S.au x:=λx M=>uw V M;have Ap:∀x∈args.toList,E.au x=S.au x:=λx BU=>M x (by simp[Op.operands,Call.operands];grind);obtain⟨g,AP,AU,Av,AE,Ah,_,AY⟩:=oy h;have AY:=AY E.mem (λk A0=>V.mem k A0);have B3:E.au AD=(true,.fn g AP):=by rw[M AD (by simp[Z,Op.operands,Call.operands])];grind
 have B4:eD A2 E.mem (keyOf o) (pw g) (jF g (dF E args.toList) AP) (X.fp (pw g)).yV=some ⟨.panic t x,AU,ks⟩:=by
  rw[zm Ap];exact HY V.keys Ah (λk A0=>V.mem k A0)
 refine yd A8 Z B3 rfl (by rw[yf Ap];grind) B4 (V.gl.trans A3) H (λAf Ay=>by grind) (λBM Af Ay φ' w' v AG AK AL=>?_);grind
theorem Fu{md:Bool}{AF:Nat×List (List Nat)}{all:List Oper}(A8:kJ X A2):∀(ops:List Oper)(S:St)(A1:List bn)(e:XE)(S1:St),jG X A2 md AF all ops S A1=some (e,S1)->S.gl=X.gl->lh S.n ops=true->
 (e=.normal/\∃ps AJ,Cert X.P (λ_=>True) all ops S ps AJ/\iQ S1 AJ/\pv AF.2 (A1.reverse++ps)=true)\/
 (∃t x j ps,e=.panic t x/\A1.length<=j/\j<A1.length+ops.length/\lz (TT X.P all j (AF.2.getD j []) t x (AF.1+hU (A1.reverse++ps)+1) S1) A1.length ops S ps/\pv AF.2 (A1.reverse++ps)=true/\C3 (A1.reverse++ps) (AF.2.getD j [])=true/\S1.env=[])
 |[],S,A1,e,S1,h,A3,I=>by
  simp only[jG]at h;split at h
  .cases h;exact .inl ⟨rfl,[],S,.nil S,iQ.refl _,by grind⟩
  grind
 |o::rest,S,A1,e,S1,h,A3,I=>by
  simp only[lh,ahP,Ds]at I;obtain⟨B0,I⟩:=I;have AT:∀t,o.dst=some t->t<S.n:=λt AM=>by grind
  simp[jG]at h;cases AS:mz X A2 S o with
  |some q=>
   right;rw[AS]at h;simp only[py,Tl]at h;obtain⟨O,AA,AD,args,AW,Z,AB,BD⟩:=KB AS;obtain⟨Br,t,x,es,ks⟩:=q;simp only at AB BD h;subst BD;cases B5:uQ X md all (AF.2.getD A1.length []) (A1.length+1) rest (({S with mem:=bX S.mem es}:St).put o.dst true .bC) (⟨ks,es,true,.bC⟩::A1)with
   |none=>rw[B5]at h;cases h
   |some AR=>
    rw[B5]at h;simp only[Tk]at h;split at h
    .rename_i Az;simp at Az;obtain⟨rfl,rfl⟩:XE.panic t x=e/\St.kill {S with mem:=bX S.mem es} (AF.1+hU AR+1)=S1:=by grind
     obtain⟨ps,rfl,BZ⟩:=Dl rest (A1.length+1) _ _ _ B5 (by rw[nw];grind) (by rw[nW];exact I);have Ak:(⟨ks,es,true,.bC⟩::A1:List bn).reverse++ps=A1.reverse++(⟨ks,es,true,.bC⟩::ps):=by simp
     rw[Ak]at Az⊢;refine⟨t,x,A1.length,⟨ks,es,true,.bC⟩::ps,rfl,aak _,by simp,.cons _ _ _ _ _ _ ⟨NG AB,λhh=>absurd rfl hh,λ_=>⟨To A8 A3 O Z AB,rfl,rfl,rfl⟩⟩ (BZ.mono λk S o p A0 Aq=>?_),Az.1,Az.2,rfl⟩;exact⟨Aq.1,λ_ hh=>Aq.2 (hh.resolve_left (by omega)),λhh=>by omega⟩
    grind
  |none=>
   rw[AS]at h;simp[py]at h;cases O:eT X A2 md all S o with
   |none=>rw[O]at h;cases h
   |some q=>
    obtain⟨AJ,p⟩:=q;rw[O]at h;obtain⟨heq,Al,A_⟩:=Dk A8 A3 AT O;rcases Fu A8 rest AJ (p::A1) e S1 h (by rw[heq.gl,uk];grind) (by rw[heq.n,xX];exact I)with ⟨he,ps,B6,AB,B7,Ar⟩|⟨t,x,j,ps,he,B_,Bb,AB,Ar,BE,Bc⟩
    .left;obtain⟨Ae,As,At⟩:=Gk AB heq;exact⟨he,p::ps,Ae,.cons o rest S p ps Ae Al (λ_ _=>trivial) A_.toI As,B7.trans At,by grind⟩
    .right;have Ak:(p::A1).reverse++ps=A1.reverse++(p::ps):=by simp
     rw[Ak]at Ar BE AB;simp at B_ Bb AB;exact⟨t,x,j,p::ps,he,by omega,by grind,.cons _ _ _ _ _ _ ⟨Al,λ_ _=>A_,λhh=>by omega⟩ (AB.eqv TT.eqv heq),Ar,BE,Bc⟩
def cellOf:Bool->aE->Nat->Option AV
 |false,.box cs,j=>cs[j]?
 |true,.vv aq (some x),j=>if aq.length=j then some x else none
 |_,_,_=>none
def uS(A':List Cl)(m:Mem):Prop:=∀q∈A',∃c,Mem.get m q.k=some ⟨q.k,q.v,c⟩/\cellOf q.vv c q.j=some q.x
theorem Tp{c:aE}{j:Nat}{x:AV}(h:cellOf false c j=some x):∃cs,c=.box cs/\cs[j]?=some x:=by
 cases c with
 |box cs=>exact⟨cs,rfl,h⟩
 |dead=>cases h
 |vec _ _=>cases h
 |vv _ _=>cases h
theorem VI{c:aE}{j:Nat}{x:AV}(h:cellOf true c j=some x):∃aq,c=.vv aq (some x)/\aq.length=j:=by
 cases c with
 |box cs=>cases h
 |dead=>cases h
 |vec _ _=>cases h
 |vv aq y=>
  cases y with
  |none=>cases h
  |some y=>
   simp[cellOf]at h;grind
theorem VJ:∀{x y:AV},Nn x y=true->x=y:=by
 intro x y h;unfold Nn at h;grind
theorem Bf{m:Mem}:∀{fl:List (Nat×Nat)}{A':List Cl},gg m fl=some A'->uS A' m
 |[],A',h=>by simp[gg]at h;exact λq A4=>by grind
 |(k,j)::r,A',h=>by
  unfold gg at h;split at h
  .rename_i key v cs l O AZ;split at h
   .rename_i x M;cases h;have A0:key=k:=(Mem.get_mem O).2;subst A0;intro q A4;rcases aam.1 A4 with rfl|A4
    .exact⟨.box cs,O,M⟩
    .exact Bf AZ q A4
   grind
  .rename_i key v aq x l O AZ;cases h;have A0:key=k:=(Mem.get_mem O).2;subst A0;intro q A4;rcases aam.1 A4 with rfl|A4
   .exact⟨.vv aq (some x),O,by simp[cellOf]⟩
   .exact Bf AZ q A4
  grind
theorem YE{q:Cl}{v:Nat}{c:aE}(h:Q6 q v c=true):v=q.v/\cellOf q.vv c q.j=some q.x:=by
 unfold Q6 at h;split at h
 .simp at h;obtain⟨⟨J,U⟩,AI⟩:=h;refine⟨U,?_⟩;rw[J];simp[cellOf];unfold Vy at AI;split at AI
  .rename_i x M;rw[M,VJ AI]
  grind
 .simp at h;obtain⟨⟨⟨J,U⟩,AI⟩,AO⟩:=h;refine⟨U,?_⟩;rw[J];simp[cellOf,AI,VJ AO]
 grind
theorem NI{e:cL}:∀{A':List Cl},Gb e A'=true->∀q∈A',e.key=q.k->∃c,e=⟨q.k,q.v,c⟩/\cellOf q.vv c q.j=some q.x
 |[],_,q,A4,_=>by grind
 |p::r,h,q,A4,A0=>by
  simp[Gb]at h;rcases aam.1 A4 with rfl|A4
  .have J:=h.1;simp[A0]at J;obtain⟨key,ar,cont⟩:=e;obtain⟨rfl,U⟩:=YE J;grind
  .exact NI h.2 q A4 A0
theorem KC{A':List Cl}:∀{es:List cL},x8 A' es=true->∀m,uS A' m->uS A' (bX m es)
 |[],_,m,hm=>hm
 |e::r,h,m,hm=>by
  simp[x8]at h;refine KC h.2 _ (λq A4=>?_);obtain⟨cs,J,U⟩:=hm q A4;by_cases A0:e.key=q.k
  .obtain⟨Bd,he,M⟩:=NI h.1 q A4 A0;refine⟨Bd,?_,M⟩;have Be:e.key∈m.map (·.key):=by
    obtain⟨AI,AO⟩:=Mem.get_mem J;grind
   rw[<-A0,Mem.qX Be,he]
  .exact⟨cs,by rw[Mem.qY A0];exact J,U⟩
theorem Dm{b:Bool}{k v j:Nat}{x:AV}:∀{A':List Cl},vA b k v j A'=some x->∃q∈A',q.vv=b/\q.k=k/\q.v=v/\q.j=j/\q.x=x
 |[],h=>by simp[vA]at h
 |q::r,h=>by
  unfold vA at h;split at h
  .grind
  .obtain⟨Bh,J,U⟩:=Dm h;grind
theorem Bg{b:Bool}{k v:Nat}:∀{A':List Cl},yY b k v A'=true->∃q∈A',q.vv=b/\q.k=k/\q.v=v
 |[],h=>by simp[yY]at h
 |q::r,h=>by
  unfold yY at h;split at h
  .grind
  .obtain⟨Bh,J,U⟩:=Bg h;grind
theorem Jx{A':List Cl}{m:Mem}(hm:uS A' m){q:Cl}(A4:q∈A')(AL:q.vv=false):∃cs,Mem.get m q.k=some ⟨q.k,q.v,.box cs⟩/\cs[q.j]?=some q.x:=by
 obtain⟨c,J,U⟩:=hm q A4;rw[AL]at U;obtain⟨cs,rfl,AI⟩:=Tp U;grind
theorem VK{A':List Cl}{m:Mem}(hm:uS A' m){q:Cl}(A4:q∈A')(AL:q.vv=true):∃aq,Mem.get m q.k=some ⟨q.k,q.v,.vv aq (some q.x)⟩/\aq.length=q.j:=by
 obtain⟨c,J,U⟩:=hm q A4;rw[AL]at U;obtain⟨cs,rfl,AI⟩:=VI U;grind
theorem YF{P:Program}{A':List Cl}{S:St}{x:AV}(h:vB P A' S o.op=some x)(hm:uS A' S.mem):∃c,dC P S o=.val c x/\(iI S o&&c)=true:=by
 unfold vB at h;split at h
 .rename_i t y Z;unfold HP at h;split at h
  .rename_i k v off heq;split at h
   .obtain⟨q,A4,Aa,rfl,rfl,rfl,rfl⟩:=Dm h;obtain⟨cs,J,U⟩:=Jx hm A4 Aa;refine⟨true,?_,by simp[iI,Z,jR,Op.operands,heq]⟩;unfold dC;simp[nQ];grind
   grind
  .rename_i k v i j heq;split at h
   .rename_i Bs Bt AN;obtain⟨q,A4,Aa,rfl,rfl,rfl,rfl⟩:=Dm h;obtain⟨aq,J,U⟩:=VK hm A4 Aa;refine⟨true,?_,by simp[iI,Z,jR,Op.operands,heq]⟩;unfold dC;simp[nQ];grind
   grind
  grind
 .rename_i s y f Z;unfold HQ at h;split at h
  .rename_i n k v off A7 heq;split at h
   .rename_i AB;cases h;obtain⟨q,A4,Aa,rfl,rfl⟩:=Bg AB;obtain⟨cs,J,U⟩:=Jx hm A4 Aa;refine⟨true,?_,by simp[iI,Z,jR,Op.operands,heq]⟩;unfold dC;rw[Z];simp[heq,qA,A7,J]
   grind
  grind
 .rename_i y Z;unfold HR at h;split at h
  .rename_i k v off heq;split at h
   .rename_i AB;cases h;obtain⟨q,A4,Aa,rfl,rfl⟩:=Bg AB;obtain⟨cs,J,U⟩:=Jx hm A4 Aa;refine⟨true,?_,by simp[iI,Z,jR,Op.operands,heq]⟩;unfold dC;rw[Z];simp[heq,kq,J]
   grind
  grind
 .rename_i t y z Z;unfold HS at h;split at h
  .rename_i e k v off len Bu n Bi heq BF;split at h
   .rename_i BG AB BH BI;cases h;simp at BG BH BI;obtain⟨q,A4,Aa,rfl,rfl⟩:=Bg AB;obtain⟨aq,J,U⟩:=VK hm A4 Aa;refine⟨true,?_,by simp[iI,Z,jR,Op.operands,heq,BF]⟩;unfold dC;rw[Z];simp[heq,BF,oc,Bi,BG,J,BH,BI]
   grind
  grind
 grind
theorem VL{P:Program}{A':List Cl}{E S:St}(h:∀x∈o.op.operands.toList,E.au x=S.au x):vB P A' E o.op=vB P A' S o.op:=by
 unfold vB;split
 .rename_i t y Z;rw[h y (by simp[Z,Op.operands])]
 .rename_i s y f Z;rw[h y (by simp[Z,Op.operands])]
 .rename_i y Z;rw[h y (by simp[Z,Op.operands])]
 .rename_i t y z Z;rw[h y (by simp[Z,Op.operands]),h z (by simp[Z,Op.operands])]
 .rfl
theorem Tq{all:List Oper}{A':List Cl}{x:AV}(I:∀t,o.dst=some t->t<S.n)(h:rC X.P A' S o=some x):vz X.P (uS A') all S o ⟨[],[],true,x⟩:=by
 intro E V Aj φ G a w H next R A7
 unfold rC at h;split at h
 .rename_i O;rw[aav (by simp[Region.wanted,O])];have M:∀x∈o.op.operands.toList,E.au x=S.au x:=λx M=>uw V M;obtain⟨c,Ao,AE⟩:=YF (by rw[VL M];exact h) Aj;obtain⟨_,_,_,AO⟩:=El (gb:=true) Ao AE (λt AM=>by rw[V.n];grind);exact AO φ G a w H next R (λ_ φ' A5 w' AG AK=>A7 φ' A5 w' AG AK) (λt x he=>by cases he)
 grind
theorem Qt{l:List Nat}{r:List Oper}(h:ou l r=true):l=[]/\r=[]:=by
 cases l<;>cases r<;>simp_all [ou]
theorem YG{all:List Oper}{AF:List (List Nat)}{ps:List bn}(AA:F7 all AF=true)(AZ:ps.length+1=all.length)(A7:AF.getD (all.length-1) []=[])(I:pv AF ps=true):rq all (ps++[Ku])=true:=by
 refine aaR.2 λj AN=>?_;have J:=aaR.1 AA j AN;have Bv:j<all.length:=abo.1 AN;unfold CZ at J;unfold LQ;have Bj:(ps++[Ku])[j]?=some ((ps++[Ku])[j]'(by grind)):=by grind
 rw[Bj];cases Z:all[j]? with
 |none=>grind
 |some o=>
  rw[Z]at J;simp at J⊢;refine⟨J.1,λi hi=>?_⟩;by_cases Bw:j+1=all.length
  .grind
  .rcases J.2 i hi with U|U
   .grind
   .have BJ:j<ps.length:=by omega
    cases Bk:all[i]? with
    |none=>grind
    |some BB=>
     rw[Bk]at U;simp at U;simp[CW];have Ak:=A6 (sM I i _ (ad4 (show i<ps.length by omega))) j (by grind) _ (ad4 BJ);have BC:=A6 (sM I j _ (ad4 BJ)) i (by grind) _ (ad4 (show i<ps.length by omega));have Bl:=U.1;simp[F6]at Bl;grind
def VM(P:Program)(Ac:Mem->Prop)(AF:List (List Nat))(all ops:List Oper)(S:St)(A1:List bn)(e:XE)(S1:St):Prop:=
 (e=.normal/\∃ps AJ,Cert P Ac all ops S ps AJ/\iQ S1 AJ/\pv AF (A1.reverse++ps)=true)\/
  (∃init ol ps AJ,ops=init++[ol]/\Cert P Ac all init S ps AJ/\AF.getD (all.length-1) []=[]/\pv AF (A1.reverse++ps)=true/\Dh P all AJ ol e S1)
theorem Dh.eqv{P:Program}{all:List Oper}{S S0 S1:St}{e:XE}(h:Dh P all S o e S1)(he:iQ S S0):Dh P all S0 o e S1:=by
 obtain⟨J,U,AI,AO⟩:=h;refine⟨J.trans he.n,U.trans he.gl,AI,λφ G a w H next R A7 AS=>?_⟩;have:=AO φ G a w (H.eqv he.symm) next R
 rw[he.mem]at this;grind
theorem KD{md:Bool}{AF:List (List Nat)}{A':List Cl}{all:List Oper}(A8:kJ X A2):∀(ops:List Oper)(S:St)(A1:List bn)(e:XE)(S1:St),A1.length+ops.length=all.length->pz X A2 md AF A' all ops S A1=some (e,S1)->S.gl=X.gl->lh S.n ops=true->
 VM X.P (uS A') AF all ops S A1 e S1
 |[],S,A1,e,S1,_,h,A3,I=>by
  simp only[pz]at h;split at h
  .cases h;exact .inl ⟨rfl,[],S,.nil S,iQ.refl _,by grind⟩
  grind
 |o::rest,S,A1,e,S1,Bx,h,A3,I=>by
  simp only[lh,ahP,Ds]at I;obtain⟨B0,I⟩:=I;have AT:∀t,o.dst=some t->t<S.n:=λt AM=>by grind
  simp only[pz]at h;cases B8:ou (AF.getD A1.length []) rest with
  |true=>
   rw[B8]at h;simp only[No]at h;obtain⟨By,rfl⟩:=Qt B8;split at h
   .right;refine⟨[],o,[],S,rfl,.nil S,?_,by grind,?_⟩
    .grind
    .rcases iT h with ⟨B6,J,U⟩|⟨J,U⟩
     .cases U;exact wV A8 A3 AT J
     .exact wV A8 A3 AT J
   grind
  |false=>
  rw[B8]at h;have glue:∀(p:bn)(E:St),(∀e∈p.es,e.key∈p.ks)->(∀m,uS A' m->uS A' (bX m p.es))->vz X.P (uS A') all S o p->iQ E (p.app o S)->pz X A2 md AF A' all rest E (p::A1)=some (e,S1)->VM X.P (uS A') AF all (o::rest) S A1 e S1:=by
   intro p E A0 Aj A_ heq B';rcases KD A8 rest E (p::A1) e S1 (by grind) B' (by rw[heq.gl,uk];grind) (by rw[heq.n,xX];exact I)with ⟨he,ps,B6,AB,B7,Ar⟩|⟨init,ol,ps,B6,H,AB,A7,Ar,Bm⟩
   .obtain⟨Ae,As,At⟩:=Gk AB heq;exact .inl ⟨he,p::ps,Ae,.cons o rest S p ps Ae A0 Aj A_ As,B7.trans At,by grind⟩
   .obtain⟨Ae,As,At⟩:=Gk AB heq;exact .inr ⟨o::init,ol,p::ps,Ae,by grind,.cons o init S p ps Ae A0 Aj A_ As,A7,by grind,Bm.eqv At⟩
  cases AZ:rC X.P A' S o with
  |some x=>
   rw[AZ]at h;exact glue ⟨[],[],true,x⟩ _ (by simp) (λ_ h=>h) (Tq (X:=X) (all:=all) AT AZ) (iQ.refl _) h
  |none=>
   rw[AZ]at h;simp[vC]at h;cases O:eT X A2 md all S o with
   |none=>rw[O]at h;cases h
   |some q=>
    obtain⟨AJ,p⟩:=q;rw[O]at h;simp[Ju]at h;split at h
    .rename_i hinv;obtain⟨heq,Al,A_⟩:=Dk A8 A3 AT O;exact glue p AJ Al (KC hinv) A_.toI heq h
    .cases h
end
def bF.YH{φ:cj}{G:Fr}{m:Mem}{w:World}(h:bF φ G m w){H I e1' e2':cL}(A7:H∈m)(A8:I∈m)(AO:H.key≠I.key){A' A0 L1' L2':Loc}(A9:φ H.key=some A')(AA:φ I.key=some A0)
 (A3:e1'.key=H.key) (A4:e2'.key=I.key) (AP:A'.ar<=L1'.ar) (AQ:A0.ar<=L2'.ar) (AR:L1'.ar=A'.ar->L1'={A' with ea:=L1'.ea}) (AS:L2'.ar=A0.ar->L2'={A0 with ea:=L2'.ea})
 (AT:L1'.ar=e1'.ar) (AU:L2'.ar=e2'.ar) (AB:∀b,e1'.cont.dw L1' b->H.cont.dw A' b\/I.cont.dw A0 b) (AC:∀b,e2'.cont.dw L2' b->H.cont.dw A' b\/I.cont.dw A0 b)
 (AJ:∀b,e1'.cont.dw L1' b->e2'.cont.dw L2' b->False)
 (AV:∀(φ':cj)(F':Nat->Prop),φ.le φ'->φ' H.key=some L1'->φ' I.key=some L2'->(∀b,F' b->Fo G φ m b)->eQ φ' w F' L1' e1'.cont/\eQ φ' w F' L2' e2'.cont):
 ∃φ',bF φ' G (Mem.set (Mem.set m e1') e2') w/\bj φ m w φ' (Mem.set (Mem.set m e1') e2') w:=by
 obtain⟨m',AD⟩:∃m',m'=Mem.set (Mem.set m e1') e2':=⟨_,rfl⟩;rw[<-AD];have AW:((Mem.set m e1').map (·.key)).Nodup:=by rw[Mem.iM];exact h.nodup
 have AK:m'.map (·.key)=m.map (·.key):=by rw[AD,Mem.iM,Mem.iM]
 have A5:∀y,y∈m'->y=e2'\/y=e1'\/(y∈m/\y.key≠H.key/\y.key≠I.key):=by
  intro y V;rw[AD]at V;rcases (Mem.mem_set AW).1 V with ⟨D,_⟩|⟨D,J⟩
  .exact .inl D
  .rcases (Mem.mem_set h.nodup).1 D with ⟨D,_⟩|⟨D,Z⟩
   .exact .inr (.inl D)
   .exact .inr (.inr ⟨D,by rw[<-A3];exact Z,by rw[<-A4];exact J⟩)
 obtain⟨φ',AE⟩:∃φ':cj,φ'=λj=>if j=H.key then some L1' else if j=I.key then some L2' else φ j:=⟨_,rfl⟩
 have f1:φ' H.key=some L1':=by simp[AE]
 have f2:φ' I.key=some L2':=by simp[AE,show ¬I.key=H.key from λh=>AO h.symm]
 have f3:∀j,j≠H.key->j≠I.key->φ' j=φ j:=λj D J=>by simp[AE,D,J]
 have hle:φ.le φ':=by
  intro j AF A1;by_cases D:j=H.key
  .subst D;rw[A9]at A1;cases A1;exact⟨_,f1,AP,AR⟩
  .by_cases J:j=I.key
   .subst J;rw[AA]at A1;cases A1;exact⟨_,f2,AQ,AS⟩
   .exact⟨AF,by rw[f3 j D J];exact A1,aak _,λ_=>rfl⟩
 have AL:∀b,H.cont.dw A' b\/I.cont.dw A0 b->jN φ m b:=λb M=>M.elim (λM=>⟨H,A7,A',A9,M⟩) (λM=>⟨I,A8,A0,AA,M⟩);have AG:∀b,jN φ' m' b->jN φ m b:=by
  rintro b ⟨y,V,U,E,N⟩;rcases A5 y V with rfl|rfl|⟨D,J,Z⟩
  .rw[A4,f2]at E;cases E;exact AL b (AC b N)
  .rw[A3,f1]at E;cases E;exact AL b (AB b N)
  .rw[f3 _ J Z]at E;exact⟨y,D,U,E,N⟩
 have AM:∀b,Fo G φ' m' b->Fo G φ m b:=λb=>Or.imp id (AG b);have AN:=AV φ' (Fo G φ' m') hle f1 f2 AM;have A6:∀y∈m,y.key≠H.key->y.key≠I.key->∀U,φ y.key=some U->∀b,y.cont.dw U b->H.cont.dw A' b\/I.cont.dw A0 b->False:=by
  intro y V J Z U E b N M;rcases M with M|M
  .exact J (h.apart y V H A7 U A' E A9 ⟨b,N,M⟩)
  .exact Z (h.apart y V I A8 U A0 E AA ⟨b,N,M⟩)
 refine⟨φ',⟨by rw[AK];exact h.nodup,?_,?_,?_,λb M=>h.mg b (AG b M),h.bound⟩,⟨hle,λ_ _ _=>rfl,λb _ M=>AG b M,aak _,rfl,rfl,rfl⟩⟩
 .intro j AF A1;rw[AK];by_cases D:j=H.key
  .subst D;exact abb A7
  .by_cases J:j=I.key
   .subst J;exact abb A8
   .rw[f3 j D J]at A1;exact h.rZ j AF A1
 .intro y V;rcases A5 y V with rfl|rfl|⟨D,J,Z⟩
  .exact⟨L2',by rw[A4];exact f2,AU,AN.2⟩
  .exact⟨L1',by rw[A3];exact f1,AT,AN.1⟩
  .obtain⟨U,E,AX,AY⟩:=h.gg y D;exact⟨U,by rw[f3 _ J Z];exact E,AX,AY.mono hle (λ_ _ _=>rfl) (aak _) (λb _=>AM b) (λ_ _=>rfl)⟩
 .rintro y V z AH U AI E O ⟨b,N,A2⟩;rcases A5 y V with rfl|rfl|⟨D,J,Z⟩
  .rw[A4,f2]at E;cases E;rcases A5 z AH with rfl|rfl|⟨g1,g2,g3⟩
   .rfl
   .rw[A3,f1]at O;cases O;exact (AJ b A2 N).elim
   .rw[f3 _ g2 g3]at O;exact (A6 z g1 g2 g3 AI O b A2 (AC b N)).elim
  .rw[A3,f1]at E;cases E;rcases A5 z AH with rfl|rfl|⟨g1,g2,g3⟩
   .rw[A4,f2]at O;cases O;exact (AJ b N A2).elim
   .rfl
   .rw[f3 _ g2 g3]at O;exact (A6 z g1 g2 g3 AI O b A2 (AB b N)).elim
  .rw[f3 _ J Z]at E;rcases A5 z AH with rfl|rfl|⟨g1,g2,g3⟩
   .rw[A4,f2]at O;cases O;exact (A6 y D J Z U E b N (AC b A2)).elim
   .rw[A3,f1]at O;cases O;exact (A6 y D J Z U E b N (AB b A2)).elim
   .rw[f3 _ g2 g3]at O;exact h.apart y D z g1 U AI E O ⟨b,N,A2⟩
def Ts(S:St)(Ag j k sz:Nat):eS S (S.iR Ag j k sz):=by
 unfold St.iR;split
 .rename_i key B' cs U v cont Bz A2;split
  .rename_i AD;split
   .exact eS.refl S
   .refine⟨rfl,rfl,λφ G a w E=>?_⟩;obtain⟨hm,AA,L,A8,AO,AX⟩:=E.mem.get A2;subst AA;obtain⟨BP,AZ,CS,DF,DG⟩:=E.mem.dA (e':=⟨U,v+1,.vec sz []⟩) hm A8 rfl (L':=⟨v+1,0,sz,0,0,[]⟩) (by grind) (λhh=>by grind) rfl
     (w':=w) (λ_ _ _=>rfl) (aak _) (λ_ AB=>absurd AB.1 (by simp)) rfl rfl rfl (λφ' Al BQ=>⟨rfl,by simp,by simp,λO=>by grind⟩)
    have CT:Mem.get (Mem.set S.mem ⟨U,v+1,.vec sz []⟩) Ag=some ⟨key,B',.box cs⟩:=by
     rw[Mem.qY (by grind)];grind
    obtain⟨BC,BR,B0,BD,BS,BT⟩:=AZ.get CT;subst BR;obtain⟨AK,An,AH,DH,DI⟩:=AZ.dA (e':=⟨key,B',.box (cs.set j (.vec U (v+1) 0 0))⟩) BC BD rfl (L':=B0) (aak _) (λ_=>rfl) BS
     (w':=w) (λ_ _ _=>rfl) (aak _) (λ_ AB=>.inl AB) rfl rfl rfl (λφ' Al BQ=>by
      obtain⟨g0,arr,elem,g1,g2,g3,g4⟩:=BT;have CU:∀b,Fo G φ' (Mem.set (Mem.set S.mem ⟨U,v+1,.vec sz []⟩) ⟨key,B',.box (cs.set j (.vec U (v+1) 0 0))⟩) b->Fo G BP (Mem.set S.mem ⟨U,v+1,.vec sz []⟩) b:=by
       rintro b (h|⟨x,AP,BU,A_,B2⟩)
       .exact .inl h
       .right;rcases (Mem.mem_set AZ.nodup).1 AP with ⟨rfl,_⟩|⟨BV,BW⟩
        .simp[Al]at A_;cases A_;exact⟨_,BC,B0,BD,B2⟩
        .simp[Al,BW]at A_;exact⟨x,BV,BU,A_,B2⟩
      refine⟨by grind,arr,elem,g1,by grind,g3,λi c u O hu=>?_⟩;rw[List.getElem?_set]at O;split at O
      .rename_i Ao;subst Ao;split at O
       .cases O;have:=g4 j _ u AD hu;cases this;refine .vec U (v+1) 0 0 _ ⟨v+1,0,sz,0,0,[]⟩ ?_ (aak _) (λ_=>⟨_,_,rfl,by simp,λh=>by omega⟩) rfl;grind
       grind
      .exact (g4 i c u O hu).mono BQ (λ_ _ _=>rfl) (aak _) (λb _=>CU b))
    have C':=CS.trans AH;exact⟨AK,E.Ct An C',C'⟩
  .exact eS.refl S
 .exact eS.refl S
def Dp(AL:AV->AV):∀m:Mem,(wP AL m).map (·.key)=m.map (·.key)
 |[]=>rfl
 |e::r=>by simp[wP,Dp AL r]
def NJ{AL:AV->AV}:∀{m:Mem}{x:cL},x∈wP AL m↔∃e∈m,x=⟨e.key,e.ar,sG AL e.cont⟩
 |[],x=>by simp[wP]
 |e::r,x=>by simp[wP,NJ (m:=r)]
def Tu(S:St)(k AQ:Nat):eS S (S.xZ k AQ):=by
 unfold St.xZ;split
 .rename_i key v sz aq U v2 cont A2 Aa;split
  .exact eS.refl S
  .refine⟨rfl,rfl,λφ G a w E=>?_⟩;obtain⟨hm,AA,L,A8,AO,AX⟩:=E.mem.get A2;obtain⟨An,AH,AS,At,BX,_⟩:=E.mem.get Aa;subst AA;subst AH;obtain⟨AL,C0⟩:∃AL,AL=Jv key v U (v2+1):=⟨_,rfl⟩;rw[<-C0];obtain⟨BE,AZ⟩:∃BE,BE=Mem.set (wP AL S.mem) ⟨key,v+1,.dead⟩:=⟨_,rfl⟩;have CW:((wP AL S.mem).map (·.key)).Nodup:=by rw[Dp];exact E.mem.nodup
   have AF:(BE.map (·.key)).Nodup:=by rw[AZ,Mem.iM];grind
   obtain⟨m',AR⟩:∃m',m'=Mem.set BE ⟨U,v2+1,.vec sz aq⟩:=⟨_,rfl⟩;rw[<-AZ,<-AR];have BF:m'.map (·.key)=S.mem.map (·.key):=by rw[AR,Mem.iM,AZ,Mem.iM,Dp]
   have B3:∀y,y∈m'->y=⟨U,v2+1,.vec sz aq⟩\/y=⟨key,v+1,.dead⟩\/(∃z∈S.mem,y=⟨z.key,z.ar,sG AL z.cont⟩/\z.key≠key/\z.key≠U):=by
    intro y AI;rw[AR]at AI;rcases (Mem.mem_set AF).1 AI with ⟨h,_⟩|⟨h,M⟩
    .grind
    .rw[AZ]at h;rcases (Mem.mem_set CW).1 h with ⟨h,_⟩|⟨h,V⟩
     .grind
     .obtain⟨z,BY,rfl⟩:=NJ.1 h;grind
   obtain⟨φ',Al⟩:∃φ':cj,φ'=λj=>if j=key then some {L with ar:=v+1} else if j=U then some {L with ar:=v2+1} else φ j:=⟨_,rfl⟩
   have f1:φ' key=some {L with ar:=v+1}:=by grind
   have f2:φ' U=some {L with ar:=v2+1}:=by grind
   have f3:∀j,j≠key->j≠U->φ' j=φ j:=λj I M=>by grind
   have hle:φ.le φ':=by
    intro j C1 AJ;grind
   have BZ:∀b,jN φ' m' b->jN φ S.mem b:=by
    rintro b ⟨y,AI,Au,AM,Ah⟩;rcases B3 y AI with rfl|rfl|⟨Ap,I,rfl,M,V⟩
    .rw[f2]at AM;cases AM;exact⟨_,hm,L,A8,Ah⟩
    .exact Ah.elim
    .rw[f3 _ M V]at AM;exact⟨Ap,I,Au,AM,mO.1 Ah⟩
   have A3:∀b,Fo G φ' m' b->Fo G φ S.mem b:=λb=>Or.imp id (BZ b);have B4:∀x u,aG φ w (Fo G φ S.mem) x u->aG φ' w (Fo G φ' m') (AL x) u:=by
    intro y u AJ;have DJ:=AJ.mono (φ':=φ') (F':=Fo G φ' m') hle (λ_ _ _=>rfl) (aak _) (λb _=>A3 b);rw[C0];unfold Jv;split
    .rename_i DK v0 o l;split
     .rename_i hh;obtain⟨rfl,rfl⟩:=hh;cases AJ with
      |vec _ _ _ _ _ L' Ai _ h I=>
       rw[A8]at Ai;cases Ai;exact .vec U (v2+1) o l _ _ f2 (aak _) (λ_=>h AO.symm) I
     grind
    grind
   refine⟨φ',⟨E.size,E.defers,?_,⟨?_,?_,?_,?_,?_,?_⟩,E.mh.mono (λ_ _ _=>rfl) (aak _) (λb _=>A3 b)⟩,MZ BZ hle⟩
   .intro t x AP;obtain⟨y,AI,rfl⟩:=CP _ S.env t true x AP;exact B4 _ _ (E.env t y AI)
   .rw[BF];exact E.mem.nodup
   .intro j C1 AJ;rw[BF];by_cases I:j=key
    .grind
    .by_cases M:j=U
     .grind
     .rw[f3 j I M]at AJ;exact E.mem.rZ j C1 AJ
   .intro y AI;rcases B3 y AI with rfl|rfl|⟨Ap,I,rfl,M,V⟩
    .refine⟨_,f2,rfl,?_⟩;have:=AX.mono (φ':=φ') (F':=Fo G φ' m') hle (λ_ _ _=>rfl) (aak _) (λb _=>A3 b) (λ_ _=>rfl);exact this
    .exact⟨_,f1,rfl,trivial⟩
    .obtain⟨Au,AM,CX,Av⟩:=E.mem.gg Ap I;refine⟨Au,by grind,CX,?_⟩;cases B_:Ap.cont with
     |dead=>trivial
     |box cs=>
      rw[B_]at Av;obtain⟨g0,arr,elem,g1,g2,g3,g4⟩:=Av;refine⟨by grind,arr,elem,g1,by grind,g3,λi c u DL hu=>?_⟩;grind
     |vec DM CY=>
      rw[B_]at Av;exact Av.mono hle (λ_ _ _=>rfl) (aak _) (λb _=>A3 b) (λ_ _=>rfl)
     |vv CY DN=>
      rw[B_]at Av;exact mf.mono AL Av (λ_ _ _ _ u hu=>hu.mono (λ_ _ _=>rfl) (aak _) (λb _=>A3 b)) (λx _ v AP=>B4 x v AP) (λ_ _=>rfl)
   .rintro y AI z BY Au C2 AM Aw ⟨b,Ah,B5⟩;rcases B3 y AI with rfl|rfl|⟨Ap,I,rfl,M,V⟩
    .rcases B3 z BY with rfl|rfl|⟨z0,g1,rfl,g2,g3⟩
     .rfl
     .exact B5.elim
     .rw[f2]at AM;cases AM;rw[f3 _ g2 g3]at Aw;exact absurd (E.mem.apart _ hm z0 g1 L C2 A8 Aw ⟨b,Ah,mO.1 B5⟩).symm g2
    .exact Ah.elim
    .rcases B3 z BY with rfl|rfl|⟨z0,g1,rfl,g2,g3⟩
     .rw[f2]at Aw;cases Aw;rw[f3 _ M V]at AM;exact absurd (E.mem.apart Ap I _ hm Au L AM A8 ⟨b,mO.1 Ah,B5⟩) M
     .exact B5.elim
     .rw[f3 _ M V]at AM;rw[f3 _ g2 g3]at Aw;exact E.mem.apart Ap I z0 g1 Au C2 AM Aw ⟨b,mO.1 Ah,mO.1 B5⟩
   .intro b H;exact E.mem.mg b (BZ b H)
   .exact E.mem.bound
 .exact eS.refl S
def VN{α:Type}{l:List α}{n:Nat}(h:l.length=n+1):∃(r:List α)(o:α),l=r++[o]/\r.length=n:=by
 refine⟨l.dropLast,l.getLast (by grind),(List.dropLast_concat_getLast _).symm,by simp[h]⟩
def YJ(S:St)(k AQ:Nat):eS S (S.eY k AQ):=by
 unfold St.eY;split
 .rename_i key v aq U v2 cont A2 Aa;split
  .rename_i xs C4;split
   .exact eS.refl S
   .rename_i Ax;refine⟨rfl,rfl,λφ G a w E=>?_⟩;obtain⟨hm,AA,L,A8,AO,AX⟩:=E.mem.get A2;obtain⟨An,AH,AS,At,BX,_⟩:=E.mem.get Aa;subst AA;subst AH;have C5:aq=aq.dropLast++[xs]:=by
     rcases aiu aq with rfl|⟨r,x,rfl⟩
     .grind
     grind
    obtain⟨r,C_⟩:∃r,r=aq.dropLast:=⟨_,rfl⟩;rw[<-C_]at C5⊢;subst C5;obtain⟨⟨AJ,I,M⟩,V,AN,Ab⟩:mf φ w (Fo G φ S.mem) L (r++[xs]) none:=AX;simp at I M;obtain⟨arr,elem,g1,g2,g3,g4,_⟩:=Ab (by omega);obtain⟨ea,o,Ca,Cb⟩:=VN M;have C6:=g4 r.length xs o (by simp) (by grind);have B6:∀b,some b∈ea->some b∈L.ea:=λb H=>by grind
    have Ba:∀(i:Nat)(x:Option Nat),ea[i]?=some x->L.ea[i]?=some x:=λi x AP=>by
     grind
    have DO:∀b,o=some b->some b∉ea:=λb H hm=>by
     obtain⟨i,hi⟩:=amS hm;grind
    have base:∀(L2':Loc)(x:Value),(L2'.ar=v2+1/\L2'.sz=1)->arr[L.base+r.length]?=some x->(∀(φ':cj)(F':Nat->Prop),φ' U=some L2'->aG φ' w F' (.vec U (v2+1) 0 xs.length) x)->
     (∀b,0<L2'.cap->L2'.dU=b->o=some b)->
     (∀(φ':cj)(F':Nat->Prop),φ.le φ'->(∀b,F' b->Fo G φ S.mem b)->eQ φ' w F' L2' (.vec 1 xs))->
     ∃φ',Rel φ' G {S with mem:=Mem.set (Mem.set S.mem ⟨key,v,.vv r (some (.vec U (v2+1) 0 xs.length))⟩) ⟨U,v2+1,.vec 1 xs⟩} a w/\bj φ S.mem w φ' (Mem.set (Mem.set S.mem ⟨key,v,.vv r (some (.vec U (v2+1) 0 xs.length))⟩) ⟨U,v2+1,.vec 1 xs⟩) w:=by
     intro L2' x Cc AP B4 C7 Cd;have Ay:∀(φ':cj)(F':Nat->Prop),φ.le φ'->φ' U=some L2'->(∀b,F' b->Fo G φ S.mem b)->eQ φ' w F' {L with ea:=ea} (.vv r (some (.vec U (v2+1) 0 xs.length))):=by
      intro φ' F' hle f2 A3;refine⟨⟨AJ,by grind,Cb⟩,λi j b hi AD=>V i j b (Ba _ _ hi) (Ba _ _ AD),λb H=>AN b (B6 b H),λ_=>⟨arr,elem,g1,g2,g3,λi Bb Bc hi AB=>?_,λy AI=>?_⟩⟩
      .exact (g4 i Bb Bc (by grind) (Ba _ _ AB)).mono (λd u _ hu=>hu.mono (λ_ _ _=>rfl) (aak _) (λb _=>A3 b)) (λ_ _=>rfl)
      grind
     obtain⟨φ',AR,A0⟩:=E.mem.YH (e1':=⟨key,v,.vv r (some (.vec U (v2+1) 0 xs.length))⟩) (e2':=⟨U,v2+1,.vec 1 xs⟩) hm An Ax A8 At (L1':={L with ea:=ea}) (L2':=L2') rfl rfl (aak _) (by grind)
      (λ_=>rfl) (λhh=>by grind) AO Cc.1 (λb H=>.inl (by
       rcases H with H|H
       .exact .inl H
       .exact .inr (B6 b H))) (λb H=>.inl (.inr (by rw[Ca,C7 b H.1 H.2];simp))) (λb Bd BG=>by
       have DP:=C7 b BG.1 BG.2;rcases Bd with ⟨_,Bd⟩|Bd
       .grind
       grind) (λφ' F' hle f1 f2 A3=>⟨Ay φ' F' hle f2 A3,Cd φ' F' hle A3⟩)
     exact⟨φ',E.Ct AR A0,A0⟩
    cases o with
    |none=>
     obtain⟨rfl,b,AG⟩:=C6;exact base ⟨v2+1,0,1,0,0,[]⟩ _ ⟨rfl,rfl⟩ AG (λφ' F' AT=>.vec U _ 0 0 _ _ AT (aak _) (λ_=>⟨_,_,rfl,by simp,λh=>by omega⟩) rfl) (λb H=>by simp at H) (λφ' F' hle A3=>⟨rfl,by simp,by simp,λO=>by simp at O⟩)
    |some b=>
     obtain⟨row,Ce,off,cap,q1,q2,q3,DQ,Cf,Cg,Ch⟩:=C6;refine base ⟨v2+1,b,1,row.size-off,off,[]⟩ _ ⟨rfl,rfl⟩ q1 (λφ' F' AT=>.vec U _ 0 _ _ _ AT (aak _) (λ_=>⟨_,cap,rfl,q3,λh=>⟨by simp,by grind⟩⟩) rfl) (λDR _ H=>by grind) (λφ' F' hle A3=>?_);refine⟨rfl,by simp only;omega,λd Z=>?_,λO=>⟨row,Ce,Cf,by simp only;omega,Cg,λi d hi=>?_⟩⟩
     .obtain⟨i,hi⟩:=amS Z;grind
     .obtain⟨_,u,hu,AD⟩:=Ch i d hi;exact⟨u,hu.mono (λ_ _ _=>rfl) (aak _) (λb _=>A3 b),AD⟩
  .exact eS.refl S
 .exact eS.refl S
def YK(S:St)(k AQ:Nat):eS S (S.cls k AQ):=by
 unfold St.cls;split
 .rename_i key v aq DS v3 len U v2 xs A2 Aa;split
  .grind
  .rename_i Ax;split
   .rename_i Ci;obtain⟨rfl,rfl,rfl⟩:=Ci;refine⟨rfl,rfl,λφ G a w E=>?_⟩;obtain⟨hm,AA,L,A8,AO,AX⟩:=E.mem.get A2;obtain⟨An,AH,AS,At,BX,Cj⟩:=E.mem.get Aa;subst AA;subst AH;obtain⟨⟨AJ,I,M⟩,V,AN,Ab⟩:mf φ w (Fo G φ S.mem) L aq (some (.vec U v3 0 xs.length)):=AX;simp at I;obtain⟨arr,elem,g1,g2,g3,g4,g5⟩:=Ab (by omega);obtain⟨y,DT,Ck⟩:=g5 _ rfl;obtain⟨z0,DU,z2,z3⟩:=Cj;have DV:∀b,0<AS.cap->AS.dU=b->(L.dU=b\/some b∈L.ea)->False:=by
     intro b O H hh;refine Ax (E.mem.apart _ hm _ An L AS A8 At ⟨b,?_,⟨O,H⟩⟩);rcases hh with hh|hh
     .exact .inl ⟨by omega,hh⟩
     .exact .inr hh
    have base:∀(o:Option Nat),(∀b,o=some b->0<AS.cap/\AS.dU=b)->(∀F':Nat->Prop,(∀b,F' b->Fo G φ S.mem b)->Cp w F' (some y) xs o)->
     ∃φ',Rel φ' G {S with mem:=Mem.set (Mem.set S.mem ⟨key,v,.vv (aq++[xs]) none⟩) ⟨U,v3+1,.dead⟩} a w/\bj φ S.mem w φ' (Mem.set (Mem.set S.mem ⟨key,v,.vv (aq++[xs]) none⟩) ⟨U,v3+1,.dead⟩) w:=by
     intro o AB DW;have Ay:∀(φ':cj)(F':Nat->Prop),(∀b,F' b->Fo G φ S.mem b)->eQ φ' w F' {L with ea:=L.ea++[o]} (.vv (aq++[xs]) none):=by
      intro φ' F' A3;refine⟨⟨AJ,by grind,by grind⟩,λi j b hi AD=>?_,λb H=>?_,λ_=>⟨arr,elem,g1,g2,g3,λi Bb Bc hi C8=>?_,λy AI=>by cases AI⟩⟩
      .grind
      .grind
      .rcases Nat.lt_or_ge i aq.length with Be|DX
       .rw[aaC Be]at hi;rw[aaC (by omega)]at C8;exact (g4 i Bb Bc hi C8).mono (λd u _ hu=>hu.mono (λ_ _ _=>rfl) (aak _) (λb _=>A3 b)) (λ_ _=>rfl)
       grind
     obtain⟨φ',AR,A0⟩:=E.mem.YH (e1':=⟨key,v,.vv (aq++[xs]) none⟩) (e2':=⟨U,v3+1,.dead⟩) hm An Ax A8 At (L1':={L with ea:=L.ea++[o]}) (L2':={AS with ar:=v3+1}) rfl rfl (aak _) (by grind)
      (λ_=>rfl) (λhh=>by grind) AO rfl (λb H=>by
       rcases H with H|H
       .exact .inl (.inl H)
       .simp at H;rcases H with H|H
        .exact .inl (.inr H)
        .exact .inr (AB b H.symm)) (λb H=>H.elim) (λb _ BG=>BG) (λφ' F' hle f1 f2 A3=>⟨Ay φ' F' A3,trivial⟩)
     exact⟨φ',E.Ct AR A0,A0⟩
    cases Ck with
    |vec _ _ _ _ _ L' Ai DY AU Ay=>
     rw[At]at Ai;cases Ai;obtain⟨Cl,cap,rfl,Cm,Cn⟩:=AU BX.symm;by_cases C9:0<cap
     .obtain⟨rfl,Az⟩:=Cn C9;obtain⟨Co,Cr,t1,t2,t3,t4⟩:=z3 (by omega);refine base (some AS.dU) (λb H=>by grind) (λF' A3=>⟨Co,Cr,AS.base,cap,by simp,C9,Cm,by grind,t1,t3,λi d Z=>?_⟩);obtain⟨u,hu,AD⟩:=t4 i d Z;rw[z0]at AD;exact⟨by grind,u,hu.mono (λ_ _ _=>rfl) (aak _) (λb _=>A3 b),AD⟩
     .have Cs:xs=[]:=List.length_eq_zero_iff.1 (by omega);refine base none (λb H=>by cases H) (λF' A3=>⟨Cs,Cl,by grind⟩)
   .exact eS.refl S
 .exact eS.refl S
def VO(S:St)(k:Nat):eS S (S.shut k):=by
 unfold St.shut;split
 .rename_i key v aq y A2;refine⟨rfl,rfl,λφ G a w E=>?_⟩;obtain⟨hm,AA,L,A8,AO,AX⟩:=E.mem.get A2;subst AA;obtain⟨φ',AR,A0,_,_⟩:=E.mem.dA (e':=⟨key,v,.vv aq none⟩) hm A8 rfl (L':=L) (aak _) (λ_=>rfl) AO
   (w':=w) (λ_ _ _=>rfl) (aak _) (λ_ AB=>.inl AB) rfl rfl rfl (λφ' Al BQ=>by
    obtain⟨⟨AJ,I,M⟩,V,AN,Ab⟩:mf φ w (Fo G φ S.mem) L aq (some y):=AX;refine⟨⟨AJ,by grind,M⟩,V,AN,λO=>?_⟩;obtain⟨arr,elem,g1,g2,g3,g4,g5⟩:=Ab O;refine⟨arr,elem,g1,g2,g3,λi xs o hi AB=>(g4 i xs o hi AB).mono (λd u _ hu=>hu.mono (λ_ _ _=>rfl) (aak _) (λb _ H=>?_)) (λ_ _=>rfl),λy AI=>by cases AI⟩;rcases H with H|⟨x,AP,BU,A_,B2⟩
    .exact .inl H
    .right;rcases (Mem.mem_set E.mem.nodup).1 AP with ⟨rfl,_⟩|⟨BV,BW⟩
     .simp[Al]at A_;cases A_;exact⟨_,hm,L,A8,B2⟩
     .simp[Al,BW]at A_;exact⟨x,BV,BU,A_,B2⟩)
  exact⟨φ',E.Ct AR A0,A0⟩
 .exact eS.refl S
def Qu(S:St)(Ag j k:Nat):eS S (S.ur Ag j k):=by
 unfold St.ur;split
 .rename_i key B' cs U v cont Bz A2;split
  .rename_i AD;split
   .exact eS.refl S
   .rename_i Ax;refine⟨rfl,rfl,λφ G a w E=>?_⟩;obtain⟨BC,BR,B0,BD,BS,BT⟩:=E.mem.get Bz;obtain⟨hm,AA,L,A8,AO,AX⟩:=E.mem.get A2;subst BR;subst AA;have Ay:∀(φ':cj)(F':Nat->Prop),φ.le φ'->φ' U=some ⟨v+1,0,1,0,0,[]⟩->(∀b,F' b->Fo G φ S.mem b)->eQ φ' w F' B0 (.box (cs.set j (.vec U (v+1) 0 0))):=by
     intro φ' F' hle f2 A3;obtain⟨g0,arr,elem,g1,g2,g3,g4⟩:=BT;refine⟨by grind,arr,elem,g1,by grind,g3,λi c u O hu=>?_⟩;rw[List.getElem?_set]at O;split at O
     .rename_i Ao;subst Ao;split at O
      .cases O;have:=g4 j _ u AD hu;cases this;exact .vec U (v+1) 0 0 _ _ f2 (aak _) (λ_=>⟨_,_,rfl,by simp,λh=>by omega⟩) rfl
      grind
     .exact (g4 i c u O hu).mono hle (λ_ _ _=>rfl) (aak _) (λb _=>A3 b)
    obtain⟨φ',AR,A0⟩:=E.mem.YH (e1':=⟨key,B',.box (cs.set j (.vec U (v+1) 0 0))⟩) (e2':=⟨U,v+1,.vv [] none⟩) BC hm Ax BD A8 (L1':=B0) (L2':=⟨v+1,0,1,0,0,[]⟩) rfl rfl (aak _) (by grind)
     (λ_=>rfl) (λhh=>by grind) BS rfl (λb H=>.inl H) (λb H=>by
      rcases H with ⟨H,_⟩|H
      .grind
      grind) (λb _ H=>by
      rcases H with ⟨H,_⟩|H
      .grind
      grind) (λφ' F' hle f1 f2 A3=>⟨Ay φ' F' hle f2 A3,⟨⟨rfl,by simp,rfl⟩,λi j b hi=>by grind,λb H=>by grind,λO=>by grind⟩⟩)
    exact⟨φ',E.Ct AR A0,A0⟩
  .exact eS.refl S
 .exact eS.refl S
def abG(S:St)(g:Gh):eS S (g.go S):=by
 cases g with
 |trim k=>exact Hy S k
 |freeze k=>exact Ql S k
 |iR Ag j k sz=>exact Ts S Ag j k sz
 |xZ k AQ=>exact Tu S k AQ
 |eY k AQ=>exact YJ S k AQ
 |cls k AQ=>exact YK S k AQ
 |shut k=>exact VO S k
 |ur Ag j k=>exact Qu S Ag j k
def Bh:∀(l:List Gh)(S:St),eS S (HU S l)
 |[],S=>eS.refl S
 |g::r,S=>(abG S g).trans (Bh r _)
def vF(X:Ctx)(f:FuncId)(id:Nat)(S:St):eS S (S.leave X f id):=(SW S _).trans (Bh _ _)
def fH(X:Ctx)(f:FuncId)(n:Nat):Code->Bool
 | .region id ops draw=>lh n ops.toList&&(!draw||F7 ops.toList (X.od f id))
 | .seq a b=>fH X f n a&&fH X f n b
 | .cond _ a b=>fH X f n a&&fH X f n b
 | .block _ c=>fH X f n c
 | .loop c=>fH X f n c
 |_=>true
structure lA(X:Ctx):Prop where
 ov:X.ov=none
 names:∀(g:FuncId)(fn:Func),X.P.funcs[g]?=some fn->fn.name≠ "runtime.NumGoroutine"
 YL:∀(g:FuncId)(fn:Func)(c:Code),X.P.funcs[g]?=some fn->fn.body=some c->(∀k∈(X.fp g).sites,100<=k)->fH X g fn.ntmps c=true
 mixed:X.P.follows .mixedOrders=true
 zT:∀(g:FuncId)(h:List AV->Option AV),X.zT g=some h->iS X.P g=true/\∀(Bg:List AV)(a:AV),h Bg=some a->∀(φ:cj)(F:Nat->Prop)(w:World)(vs:Array Value),fG w F X.gl->(∀b,F b->b<w.heap.size)->Bg.length=vs.size->
  (∀(i:Nat) x v,Bg[i]?=some x->vs[i]?=some v->aG φ w F x v)->Calls X.P g vs w λe w'=>∃v,e=.returned v/\Go.RowKit.Below w.heap.size w w'/\aG φ w' F a v
def pt.is{n:Nat}{φ:cj}{G:Fr}{m:Mem}{w:World}{e:XE}{J:St}{e':Exit}{A':Act}{w':World}(h:pt n φ G m w (Is e J) e' A' w'):
 ∃φ',J.n=n/\Rel φ' G J A' w'/\bj φ m w φ' J.mem w'/\(match e' with
  | .normal=>e=.normal
  | .exit id=>e=.exit id
  | .ret=>e=.ret
  | .panic chain=>∃t x v,e=.panic t x/\chain=[{v:=.iface t v,recovered:=false}]/\aP w' (Fo G φ' J.mem) x v
  |_=>False):=by
 cases e' with
 |normal=>obtain⟨φ',A9,A5,⟨I,rfl⟩,M,V⟩:=h;grind
 |exit id=>obtain⟨φ',A9,A5,⟨I,rfl⟩,M,V⟩:=h;grind
 |ret=>obtain⟨φ',A9,A5,⟨I,rfl⟩,M,V⟩:=h;grind
 |panic chain=>obtain⟨φ',A9,t,x,v,O,Z,A5,⟨I,rfl⟩,M,V⟩:=h;grind
 |_=>exact h.elim
section
variable {X:Ctx} {Aj:bN} {f:FuncId} {n:Nat}
theorem abH{P:Program}{c:Code}{S S1:St}{Q:XE->St->Prop}(t:eS S S1)(h:oh P c S1 Q):oh P c S Q:=λφ G a w E=>by
 obtain⟨BP,Cu,AA⟩:=t.2.2 φ G a w E;exact wp_mono (h BP G a w Cu) λe a2 B7 AC=>by rw[t.1]at AC;exact AC.weaken AA
theorem NK{P:Program}{S:St}{e:XE}{c:Code}{k:St->St}(AA:∀S,eS S (k S)){r:Option (XE×St)}{J:St}(h:y9 k r=some (e,J))
 (E:∀A6 S1,r=some (A6,S1)->S1.n=S.n/\S1.gl=S.gl/\oh P c S (Is A6 S1)):J.n=S.n/\J.gl=S.gl/\oh P c S (Is e J):=by
 unfold y9 at h;split at h
 .rename_i S1;cases h;obtain⟨I,M,V⟩:=E _ _ rfl;obtain⟨t1,t2,t3⟩:=AA S1;refine⟨t1.trans I,t2.trans M,λφ G a w Bj=>wp_mono (V φ G a w Bj) λe' A' w' AC=>?_⟩;obtain⟨φ',A5,A4,A0,he⟩:=AC.is;cases e' with
  |normal=>
   obtain⟨AK,Aq,AH⟩:=t3 φ' G A' w' A4;exact⟨AK,k S1,t1.trans A5,⟨rfl,rfl⟩,Aq,A0.trans AH⟩
  |exit id=>cases he
  |ret=>cases he
  |panic chain=>grind
  |_=>grind
 grind
theorem abI{P:Program}{Ar:Mem->Prop}{all:List Oper}{ops:List Oper}{S:St}{ps:List bn}{S1:St}(h:Cert P Ar all ops S ps S1):S1.n=S.n/\S1.gl=S.gl:=by
 induction h with
 |nil S=>grind
 |cons o rest S p ps S1 _ _ _ _ ih=>exact⟨ih.1.trans (xX ..),ih.2.trans (uk ..)⟩
theorem NL{P:Program}{Ar:Mem->Prop}{all:List Oper}:∀{ops:List Oper}{S:St}{ps:List bn}{S1:St},Cert P Ar all ops S ps S1->ps.length=ops.length:=by
 intro ops S ps S1 h;induction h with
 |nil S=>rfl
 |cons o rest S p ps S1 _ _ _ _ ih=>grind
theorem KI:∀{es:List cL},Jr es=true->∀e∈es,100<=e.key
 |_::r,h,e,he=>by
  simp[Jr]at h;rcases aam.1 he with rfl|he
  .grind
  .exact KI h.2 e he
theorem KJ{ps:List bn}:∀{CA:List Nat},C3 ps CA=true->∀i∈CA,∀p,ps[i]?=some p->∀e∈p.es,100<=e.key
 |k::r,h,i,hi,p,AC,e,he=>by
  simp[C3]at h;rcases aam.1 hi with rfl|hi
  .have:=h.1;rw[AC]at this;exact KI this e he
  .exact KJ h.2 i hi p AC e he
theorem Dq{all:List Oper}{Ac:List (List Nat)}(h:F7 all Ac=true){i j:Nat}(Ao:i<j)(AD:j<all.length)(A5:i∉(jg all []).getD j []):(Ac.getD i []).contains j=true/\(Ac.getD j []).contains i=true:=by
 have I:=aaR.1 h j (abo.2 AD);unfold CZ at I;simp at I;grind
theorem Tw{P:Program}{S S1:St}{id:Nat}{ops:List Oper}{Ac:List (List Nat)}{ps:List bn}{j N:Nat}{t:TypeId}{x:D}(hm:P.follows .mixedOrders=true)(Ad:F7 ops Ac=true)
 (O:lz (TT P ops j (Ac.getD j []) t x N S1) 0 ops S ps) (Cv:pv Ac ps=true) (CB:C3 ps (Ac.getD j [])=true) (Bk:S1.env=[]) (CC:j<ops.length) (DZ:N=ia S.mem+hU ps+1):
 S1.n=S.n/\S1.gl=S.gl/\∀{φ:cj}{G:Fr}{a:Act}{w:World},Rel φ G S a w->∀{Q:Exit->Act->World->Prop},
 (∀φ' A' w' v,Rel φ' G S1 A' w'->bj φ S.mem w φ' S1.mem w'->aP w' (Fo G φ' S1.mem) x v->Q (.panic [{v:=.iface t v,recovered:=false}]) A' w')->(Code.region id ops.toArray true).wp P Q a w:=by
 have BH:=O.len;have Bl:=lz.at (ps:=ps) (S0:=S) O [] [] rfl rfl rfl rfl rfl;have Ae:=Vv Ad Cv BH;obtain⟨Bm,CD⟩:∃Bm,ops[j]?=some Bm:=⟨ops[j],by grind⟩;obtain⟨Bn,CE⟩:∃Bn,ps[j]?=some Bn:=⟨ps[j]'(by omega),by grind⟩
 obtain⟨Cw,AF,AE,AZ⟩:=(Bl j Bm Bn (by simp) CD CE).2.2 rfl;rw[qk]at AF;rw[oq]at AE;refine⟨AF,AE,λ{φ G a w} E {Q} Bo=>wp_region_any hm ?_⟩;have Cx:∀(i:Nat)(p:bn),ps[i]?=some p->∀e∈p.es,e.key∈p.ks:=λi p AC=>by
  have BI:i<ps.length:=(aai.1 AC).1;exact (Bl i (ops[i]'(by omega)) p (by simp) (by grind) AC).1
 have Cy:Rel φ G S a {w with drawn:=w.drawn+1}:=E.grow (λ_ _=>rfl) (aak _);have CF:(jy ops.length λi=>(Array.replicate ops.length false).getD i false)=[]:=by
  rw[jy,afv];simp_all
 refine Vw (S0:=S) (S1:=S1) (φ0:=φ) (w0:=w) (G:=G) (j:=j) BH Ae E.mem.nodup Cx ?_ CD CE Cw ?_ AF AE Bk (by grind) (λφ' A' w' v A4 A0 AG=>Bo φ' A' w' v A4 A0 AG) _ _ φ a _ (by simp) ?_ ?_ ?_ ?_ ?_
 .intro i o p AB AC Ao Bp;have BI:i<ops.length:=(aai.1 AB).1;refine (Bl i o p (by simp) AB AC).2.1 Ao ?_;rcases Nat.lt_or_ge i j with h|h
  .grind
  .exact .inr (Dq Ad (by omega) BI Bp).1
 .intro i p AC Ao hi Bp e he;have BI:i<ops.length:=by grind
  have B6:(Ac.getD j []).contains i=true:=by
   rcases Nat.lt_or_ge i j with h|h
   .exact (Dq Ad h CC hi).2
   .exact (Dq Ad (by omega) BI Bp).1
  exact KJ CB i (by grind) p AC e he
 .intro j o _ AD;simp at AD;grind
 .simp_all
 .simp only[aeu];rw[CF];exact Cy
 .simp only[aeu];rw[CF];exact bj.grow (λ_ _=>rfl) (aak _) rfl rfl rfl
 grind
theorem NM(Ak:lA X)(Az:kJ X Aj):∀(c:Code)(S:St)(e:XE)(J:St),den X f Aj n c S=some (e,J)->S.gl=X.gl->fH X f S.n c=true->
 J.n=S.n/\J.gl=S.gl/\oh X.P c S (Is e J):=by
 intro c;induction c with
 |skip=>
  intro S e J h A7 Z;obtain⟨rfl,rfl⟩:=h;exact⟨rfl,rfl,Yn ⟨rfl,rfl⟩⟩
 |region id ops draw=>
  intro S e J h A7 Z;simp[fH]at Z;cases draw with
  |false=>
   refine NK (vF X f id) h (λA6 S1 I=>?_);obtain⟨M,V,AN⟩:=Dj Az ops.toList S A6 S1 I A7 Z.1;exact⟨M,V,λφ G a w E=>wp_region_lit (AN φ G a w E _ (λ_ _ _ h=>h))⟩
  |true=>
   refine NK (vF X f id) h (λA6 S1 I=>?_);have Ad:F7 ops.toList (X.od f id)=true:=by grind
   have key:(∃Ar:Mem->Prop,Ar S.mem/\A6=.normal/\∃ps A9,Cert X.P Ar ops.toList ops.toList S ps A9/\iQ S1 A9/\pv (X.od f id) ps=true)\/
    (S1.n=S.n/\S1.gl=S.gl/\∀φ G a w,Rel φ G S a w->∀Q:Exit->Act->World->Prop,(A6=.normal->∀φ' A' w',Rel φ' G S1 A' w'->bj φ S.mem w φ' S1.mem w'->Q .normal A' w')->
     (∀t x,A6=.panic t x->∀φ' A' w' v,Rel φ' G S1 A' w'->bj φ S.mem w φ' S1.mem w'->aP w' (Fo G φ' S1.mem) x v->Q (.panic [{v:=.iface t v,recovered:=false}]) A' w')->(Code.region id ops true).wp X.P Q a w)/\(A6=.normal\/∃t x,A6=.panic t x):=by
    cases CG:X.fl f id with
    |nil=>
     rw[CG]at I;rcases Fu Az ops.toList S [] A6 S1 I A7 Z.1 with ⟨he,ps,A9,O,heq,Ae⟩|⟨t,x,j,ps,he,D_,Da,O,Ae,CB,Bk⟩
     .grind
     .right;obtain⟨M,V,AN⟩:=Tw (id:=id) Ak.mixed Ad O (by grind) (by grind) Bk (by grind) rfl;exact⟨⟨M,V,λφ G a w E Q _ Bo=>AN E (λφ' A' w' v Ab Cz D'=>Bo t x he φ' A' w' v Ab Cz D')⟩,.inr ⟨t,x,he⟩⟩
    |cons q r=>
     rw[CG]at I;simp[yZ]at I;cases BJ:gg S.mem (q::r)with
     |none=>rw[BJ]at I;cases I
     |some Db=>
      rw[BJ]at I;rcases KD Az ops.toList S [] A6 S1 (by simp) I A7 Z.1 with ⟨he,ps,A9,O,heq,Ae⟩|⟨init,ol,ps,A9,D0,O,A5,Ae,M,V,AN,Ab⟩
      .exact .inl ⟨_,Bf BJ,he,ps,A9,O,heq,by grind⟩
      .obtain⟨Bq,Aa⟩:=abI O;refine .inr ⟨⟨M.trans Bq,V.trans Aa,λφ G a w E Q D1 D2=>?_⟩,AN⟩;have BH:ps.length+1=ops.toList.length:=by
        have:=NL O;grind
       refine Qq (ops:=ops.toList) D0 (Qp Ad A5) (Bf BJ) Ak.mixed O (YG Ad BH A5 (by grind)) E (λφ' A' w' A4 A0 next D3=>?_);exact Ab φ' G A' w' A4 next Q (λhe AK a2 B7 Aq AH=>D3 a2 B7 (D1 he AK a2 B7 Aq (A0.trans AH))) (λt x he AK a2 B7 v Aq AH AG=>D2 t x he AK a2 B7 v Aq (A0.trans AH) AG)
   rcases key with ⟨Ar,D4,rfl,ps,A9,O,heq,Ae⟩|⟨⟨AF,AE,D5⟩,_⟩;rotate_left
   .exact⟨AF,AE,λφ G a w E=>D5 φ G a w E _ (λhe φ' A' w' A4 A0=>⟨φ',S1,AF,⟨he.symm,rfl⟩,A4,A0⟩) (λt x he φ' A' w' v A4 A0 AG=>⟨φ',S1,t,x,v,rfl,AG,AF,⟨he.symm,rfl⟩,A4,A0⟩)⟩
   obtain⟨AF,AE⟩:=aeD O;have Ae:=Vv Ad Ae (NL O);refine⟨heq.n.trans AF,heq.gl.trans AE,λφ G a w E=>?_⟩;exact Qo (ops:=ops.toList) D4 Ak.mixed O Ae E (λφ' A' w' A4 A0=>⟨φ',S1,heq.n.trans AF,⟨rfl,rfl⟩,A4.eqv heq.symm,by rw[heq.mem];grind⟩)
 |seq a b BK Br=>
  intro S e J h A7 Z;simp[fH]at Z;rcases iT h with ⟨S1,I,M⟩|⟨I,M⟩
  .obtain⟨AF,AE,Bs⟩:=BK S _ S1 I A7 Z.1;obtain⟨Bq,Aa,Dc⟩:=Br S1 e J M (AE.trans A7) (by grind);refine⟨Bq.trans AF,Aa.trans AE,Q0 (Bs.mono λA6 A9 AU=>?_)⟩;grind
  .obtain⟨AF,AE,Bs⟩:=BK S _ J I A7 Z.1;refine⟨AF,AE,Q0 (Bs.mono λA6 A9 AU=>?_)⟩;grind
 |cond c a b BK Br=>
  intro S e J h A7 Z;simp[fH]at Z;simp[den]at h;cases O:S.au c with
  |mk g y=>
   rw[O]at h;unfold HW at h;split at h
   .rename_i t heq;cases heq;cases t with
    |true=>
     obtain⟨I,M,V⟩:=BK S e J (by grind) A7 Z.1;exact⟨I,M,MV O (λ_=>V) (λAT=>by cases AT)⟩
    |false=>
     obtain⟨I,M,V⟩:=Br S e J (by grind) A7 Z.2;exact⟨I,M,MV O (λAT=>by cases AT) (λ_=>V)⟩
   grind
 |block id c ih=>
  intro S e J h A7 Z;simp[den]at h;have B8:=Bh (X.gh f (id+2000000)) S;have ih:∀e J,den X f Aj n c (S.enter X f id)=some (e,J)->J.n=S.n/\J.gl=S.gl/\oh X.P c S (Is e J):=λe J h=>by
   obtain⟨Bt,a2,a3⟩:=ih (S.enter X f id) e J h (B8.2.1.trans A7) (by simp[St.enter];rw[B8.1];exact Z);exact⟨Bt.trans B8.1,a2.trans B8.2.1,abH B8 a3⟩
  unfold HV at h;split at h
  .rename_i CH S1 I;obtain⟨A5,A2,AW⟩:=ih _ S1 I;split at h
   .cases h;refine⟨A5,A2,CN (AW.mono λA6 A9 AU=>?_)⟩;grind
   .cases h;refine⟨A5,A2,CN (AW.mono λA6 A9 AU=>?_)⟩;grind
  .obtain⟨A5,A2,AW⟩:=ih _ J h;refine⟨A5,A2,CN (AW.mono λA6 A9 AU=>?_)⟩;obtain⟨rfl,rfl⟩:=AU;cases A6 with
   |exit CH=>grind
   |_=>grind
 |loop c ih=>
  intro S e J h A7 Z;have B6:∀(k:Nat)(S1:St),iter (den X f Aj n c) k S1=some (e,J)->S1.gl=X.gl->fH X f S1.n c=true->J.n=S1.n/\J.gl=S1.gl:=by
   intro k;induction k with
   |zero=>intro S1 I;cases I
   |succ k Dd=>
    intro S1 I AE Bu;rcases iT I with ⟨A9,M,V⟩|⟨M,V⟩
    .grind
    grind
  obtain⟨A5,A2⟩:=B6 n S h A7 Z;refine⟨A5,A2,?_⟩;refine Yp (α:=Nat×St) (λx=>x.2) (λx=>iter (den X f Aj n c) x.1 x.2=some (e,J)/\x.2.gl=X.gl/\fH X f x.2.n c=true) (λx=>x.1) (n,S) rfl ⟨h,A7,Z⟩ ?_;rintro ⟨k,S1⟩ ⟨I,AE,Bu⟩;cases k with
  |zero=>cases I
  |succ k=>
   rcases iT I with ⟨A9,M,V⟩|⟨M,V⟩
   .obtain⟨Bt,a2,AW⟩:=ih S1 _ A9 M AE Bu;refine AW.mono λA6 CI AU=>?_;obtain⟨rfl,rfl⟩:=AU;exact⟨(k,CI),rfl,⟨V,a2.trans AE,by grind⟩,Nat.lt_succ_self k⟩
   .obtain⟨Bt,a2,AW⟩:=ih S1 _ J M AE Bu;refine AW.mono λA6 CI AU=>?_;grind
 |exit id=>
  intro S e J h A7 Z;obtain⟨rfl,rfl⟩:=h;obtain⟨t1,t2,t3⟩:=Bh (X.gh f (id+1000000)) S;refine⟨t1,t2,λφ G a w Bj=>wp_mono ((Yo (Q:=Is (.exit id) S) ⟨rfl,rfl⟩:oh X.P (.exit id) S (Is (.exit id) S)) φ G a w Bj) λe' A' w' AC=>?_⟩;obtain⟨φ',A5,A4,A0,he⟩:=AC.is;cases e' with
  |exit CH=>
   cases he;obtain⟨AK,Aq,AH⟩:=t3 φ' G A' w' A4;exact⟨AK,_,t1.trans A5,⟨rfl,rfl⟩,Aq,A0.trans AH⟩
  |normal=>cases he
  |ret=>cases he
  |panic chain=>grind
  |_=>grind
 |ret=>
  intro S e J h A7 Z;obtain⟨rfl,rfl⟩:=h;exact⟨rfl,rfl,abB ⟨rfl,rfl⟩⟩
 |rangeFunc _ _ _ _=>intro S e J h;simp[den]at h
 |scope _ _=>intro S e J h;simp[den]at h
 |label _=>intro S e J h;simp[den]at h
 |goto _=>intro S e J h;simp[den]at h
 |refuse _=>intro S e J h;simp[den]at h
theorem Gl:∀(cs:List aE)(i:Nat),(eB i cs).map (·.key)=List.range' i cs.length
 |[],i=>rfl
 |c::r,i=>by simp[eB,Gl r,ah2]
theorem Jy:∀(cs:List aE)(i:Nat)(e:cL),e∈eB i cs->e.ar=0
 |[],i,e,he=>by simp[eB]at he
 |c::r,i,e,he=>by
  simp[eB]at he;rcases he with rfl|he
  .rfl
  .exact Jy r (i+1) e he
theorem bF.dv{φ:cj}{G:Fr}{m:Mem}{w:World}(h:bF φ G m w)(dv:List Deferred):bF φ ⟨G.g,dv⟩ m w:=
 ⟨h.nodup,h.rZ,h.gg,h.apart,h.mg,h.bound⟩
theorem Ev.dv{P:Program}{gl f args m K}(h:∀φ G w (vs:Array Value),G.dv=[]->bF φ G m w->fG w (Fo G φ m) gl->args.length=vs.size->(∀(i:Nat) x v,args[i]?=some x->vs[i]?=some v->aG φ w (Fo G φ m) x v)->
 Calls P f vs w λe w'=>∃φ' m' out,K out m'/\bF φ' G m' w'/\bj φ m w φ' m' w'/\pL φ' w' (Fo G φ' m') out e):Ev P gl f args m K:=by
 intro φ G w vs hm A2 BL B9;refine (h φ ⟨G.g,[]⟩ w vs rfl (hm.dv []) A2 BL B9).mono ?_;rintro e w' ⟨φ',m',out,I,M,V,AN⟩;exact⟨φ',m',out,I,M.dv G.dv,V,AN⟩
theorem Bi(Ak:lA X)(Az:kJ X Aj){fn:Func}{c:Code}{args:List AV}{cs:List aE}{out:Out}{l:List (Nat×aE)}(AT:X.P.funcs[f]?=some fn)(H:fn.body=some c)
 (h:tK X f Aj n fn c args cs=some (out,l)):Ev X.P X.gl f args (eB 0 cs) λo m=>o=out/\m=dX 0 l:=by
 unfold tK at h;split at h
 .rename_i O;simp at O;obtain⟨⟨⟨De,Df⟩,D6⟩,D7⟩:=O;refine Ev.dv ?_;intro φ G w vs BA hm D8 Dg B4;have BF:∀k,k∈(eB 0 cs).map (·.key)↔k<cs.length:=λk=>by rw[Gl];simp
  have Bv:∀k∈(X.fp f).sites,k∉(eB 0 cs).map (·.key):=by
   grind
  have CJ:∀k L,φ k=some L->k<cs.length/\L.ar=0:=λk L A8=>by
   have AA:=hm.rZ k L A8;obtain⟨e,he,rfl⟩:=aaD.1 AA;obtain⟨L',Ai,AO,_⟩:=hm.gg e he;rw[A8]at Ai;cases Ai;exact⟨(BF _).1 AA,by rw[AO];exact Jy cs 0 e he⟩
  have D9:=hm.add D7 Bv;have Bw:bj φ (eB 0 cs) w (φ.add (X.fp f).sites) (eB 0 cs++(X.fp f).sites.map dead) w:=⟨Na hm Bv,λ_ _ _=>rfl,λb _ AB=>(Ef Bv b).1 AB,aak _,rfl,rfl,rfl⟩;refine calls_of_wp AT H ?_;obtain⟨S0,BB⟩:∃S0,S0=entry fn.ntmps X.gl args cs (X.fp f).sites:=⟨_,rfl⟩;have E:Rel (φ.add (X.fp f).sites) G S0 {tmps:=vs++Array.replicate (fn.ntmps-vs.size) undef,defers:=[]} w:=by
   rw[BB];refine⟨by simp[entry];omega,BA.symm,λt x AP=>?_,D9,?_⟩
   .obtain⟨j,rfl,AD⟩:=A1 0 args t _ AP;have CC:j<vs.size:=by grind
    have e:(vs++Array.replicate (fn.ntmps-vs.size) undef).getD (0+j) undef=vs[j]:=by
     simp;grind
    exact Bw.av (B4 j x _ AD (by grind))
   .exact Bw.mh D8
  rw[<-BB]at h;cases Bx:den X f Aj n c S0 with
  |none=>rw[Bx]at h;cases h
  |some q=>
   obtain⟨e,J⟩:=q;rw[Bx]at h;obtain⟨Dh,Di,AW⟩:=NM Ak Az c S0 e J Bx (by rw[BB];rfl) (by rw[BB];exact Ak.YL f fn c AT H D6);refine wp_mono (AW _ G _ w E) λe' A' w' AC=>?_;obtain⟨φ',_,A4,A0,he⟩:=AC.is;have CK:bj φ (eB 0 cs) w φ' J.mem w':=by
    have:S0.mem=eB 0 cs++(X.fp f).sites.map dead:=by rw[BB];rfl
    rw[this]at A0;exact Bw.trans A0
   have CL:finish X.P (X.fp f) cs.length fn.results.toList J=some (out,l)->
    A'.defers=[]/\∃v,(results fn A'.tmps).run X.P w'=.ok v w'/\∃BM m' CM,(CM=out/\m'=dX 0 l)/\bF BM G m' w'/\bj φ (eB 0 cs) w BM m' w'/\pL BM w' (Fo G BM m') CM (.returned v):=by
    intro BN;unfold finish at BN;split at BN
    .rename_i DA xs C4;split at BN
     .rename_i DB;obtain⟨As,I,M,V⟩:=AY A4 fn.results.toList DA xs C4 DB;obtain⟨AK,Af,rfl,g1,g2,g3,g4,_⟩:=vy BN A4.mem A4.mh M V CK CJ;have DC:(results fn A'.tmps).run X.P w'=.ok (if h:As.toArray.size=1 then As.toArray[0]else .tuple As.toArray) w':=by
       have e:results fn A'.tmps=(do let vs <-fn.results.mapM (CV A'.tmps);pure (if h:vs.size=1 then vs[0]else .tuple vs)):=by
        congr 1
       rw[e,Array.mapM_eq_mapM_toList];simp_all
      refine⟨A4.defers.trans BA,_,DC,AK,_,_,⟨rfl,rfl⟩,g1,g2,?_⟩;show aG AK w' _ (oneOf Af) _;by_cases Dk:As.length=1
      .obtain⟨v,rfl⟩:∃v,As=[v]:=by
        cases As with
        |nil=>grind
        |cons v r=>grind
       obtain⟨y,rfl⟩:∃y,Af=[y]:=by
        cases Af with
        |nil=>grind
        |cons v r=>grind
       simpa [oneOf]using g4 0 y v (by simp) (by simp)
      .have e:oneOf Af=.bh Af:=by
        cases Af with
        |nil=>rfl
        |cons y r=>cases r with|nil=>grind|cons _ _=>rfl
       rw[e,dif_neg (by grind)];exact .bh Af As.toArray (by grind) (λi y v h CO=>g4 i y v h (by grind))
     grind
    grind
   cases e' with
   |normal=>cases he;exact CL h
   |ret=>cases he;exact CL h
   |exit id=>cases he;cases h
   |panic chain=>
    obtain⟨t,x,v,rfl,rfl,Z⟩:=he;have CO:sI (X.fp f) cs.length J [] (λ_=>.panic t x)=some (out,l):=h;obtain⟨AK,Af,rfl,g1,g2,_,_,g5⟩:=vy (vs:=[]) CO A4.mem A4.mh rfl (by simp) CK CJ;exact⟨A4.defers.trans BA,AK,_,_,⟨rfl,rfl⟩,g1,g2,v,rfl,Z.mono (λ_ _ _=>rfl) (aak _) (λb _=>g5 b)⟩
   |_=>grind
 grind
theorem Ev.split{P:Program}{gl f r m K}(I:Ev P gl f (.lit (.slice none 0 0)::r) m K)(M:Ev P gl f (.nn::r) m K):Ev P gl f (.d (.list [])::r) m K:=by
 intro φ G w vs hm A2 BL B9;have go:∀y,(∀v,vs[0]?=some v->aG φ w (Fo G φ m) y v)->∀(i:Nat) x v,(y::r)[i]?=some x->vs[i]?=some v->aG φ w (Fo G φ m) x v:=by
  grind
 have Dl:0<vs.size:=by grind
 have AJ:=B9 0 (.d (.list [])) vs[0] (by simp) (by grind);generalize Dm:vs[0]=v0 at AJ;have By:vs[0]?=some v0:=by grind
 cases AJ with
 |d _ _ Z=>
  cases Z with
  |nil a cap A5=>
   cases a with
   |none=>
    have:=A5 rfl;subst this;exact I φ G w vs hm A2 (by grind) (go _ (λv AG=>by rw[By]at AG;cases AG;exact .lit _ rfl))
   |some a=>exact M φ G w vs hm A2 (by grind) (go _ (λv AG=>by rw[By]at AG;cases AG;exact .nn a cap))
  |list _ b off cap sz Dn=>exact M φ G w vs hm A2 (by grind) (go _ (λv AG=>by rw[By]at AG;cases AG;exact .nn _ cap))
theorem gE{r:Option (Out×List (Nat×aE))}{sz:Nat}(h:sP r=some sz):r=some (.ret (.vec 0 0 0 0),[(0,.vec sz [])]):=by
 unfold sP at h;grind
theorem Qv{h:List AV->Option AV}{args:List AV}{cs:List aE}{r:Out×List (Nat×aE)}(E:ow h args cs=some r):cs=[]/\∃d,h args=some d/\r=(.ret d,[]):=by
 unfold ow at E;grind
theorem toDs_eq:∀{args:List AV}{BO:List D},toDs args=some BO->args=BO.map .d
 |[],BO,h=>by
  simp[toDs]at h;grind
 |y::r,BO,h=>by
  cases E:toDs r with
  |none=>unfold toDs at h;grind
  |some Af=>
   unfold toDs at h;rw[E]at h;cases y<;>cases h;rw[toDs_eq E];rfl
theorem aeU(Ak:lA X){g:FuncId}{h:List AV->Option AV}(A2:X.zT g=some h){args:List AV}{cs:List aE}{out:Out}{l:List (Nat×aE)}(E:ow h args cs=some (out,l)):
 iS X.P g=true/\Ev X.P X.gl g args (eB 0 cs) λo m=>o=out/\m=dX 0 l:=by
 obtain⟨O,DD⟩:=Ak.zT g h A2;refine⟨O,?_⟩;obtain⟨rfl,d,Z,he⟩:=Qv E;cases he;intro φ G w vs hm A7 BL B9;have CQ:∀b,jN φ (eB 0 []) b->False:=by
  rintro b ⟨e,he,_⟩;simp[eB]at he
 refine (DD args d Z φ (Fo G φ (eB 0 [])) w vs A7 (λb H=>H.elim (hm.bound b) λh=>(CQ b h).elim) BL B9).mono ?_;rintro e w' ⟨v,rfl,H,BA⟩;refine⟨φ,eB 0 [],.ret d,⟨rfl,rfl⟩,⟨hm.nodup,hm.rZ,λe he=>by simp[eB]at he,λe he=>by simp[eB]at he,λb H=>(CQ b H).elim,λb DE=>afO (hm.bound b DE) H.size⟩,⟨cj.le_refl _,λb Be _=>H.block b Be,λb _ AB=>AB,H.size,H.os,H.tape,H.output⟩,?_⟩;exact BA
end
def aj0(φ:cj)(w:World)(F:Nat->Prop)(x:DF)(d:Deferred):Prop:=
 ∃A1:Array Value,d.target=.fn (.func x.1) A1/\x.2.length=(d.args++A1).size/\∀(i:Nat) y v,x.2[i]?=some y->(d.args++A1)[i]?=some v->aG φ w F y v
def pQ(φ:cj)(w:World)(F:Nat->Prop):List DF->List Deferred->Prop
 |[],[]=>True
 |x::xs,d::E=>aj0 φ w F x d/\pQ φ w F xs E
 |_,_=>False
def pQ.keeps{φ m w φ' m' w'}{G:Fr}(h:bj φ m w φ' m' w'):∀{xs:List DF}{E:List Deferred},pQ φ w (Fo G φ m) xs E->pQ φ' w' (Fo G φ' m') xs E
 |[],[],_=>trivial
 |x::xs,d::E,⟨⟨A1,A9,A6,A7⟩,AB⟩=>⟨⟨A1,A9,A6,λi y v AC A3=>h.av (A7 i y v AC A3)⟩,pQ.keeps h AB⟩
 |[],_::_,AQ=>AQ.elim
 |_::_,[],AQ=>AQ.elim
def Bj(n:Nat)(φ:cj)(g:Nat->Prop)(m:Mem)(w:World)(e:XE)(D:St)(H:List DF)(e':Exit)(M:Act)(w':World):Prop:=
 ∃φ' A2,D.n=n/\Rel φ' ⟨g,A2⟩ D M w'/\bj φ m w φ' D.mem w'/\pQ φ' w' (Fo ⟨g,A2⟩ φ' D.mem) H A2/\(match e' with
  | .normal=>e=.normal
  | .exit id=>e=.exit id
  | .ret=>e=.ret
  | .panic chain=>∃t x v,e=.panic t x/\chain=[{v:=.iface t v,recovered:=false}]/\aP w' (Fo ⟨g,A2⟩ φ' D.mem) x v
  |_=>False)
def Bj.weaken{n:Nat}{φ AZ:cj}{g:Nat->Prop}{m A_:Mem}{w Aa:World}{e D H e' M w'}(h:Bj n AZ g A_ Aa e D H e' M w')(An:bj φ m w AZ A_ Aa):Bj n φ g m w e D H e' M w':=by
 obtain⟨φ',A2,A9,A6,A7,AB,V⟩:=h;exact⟨φ',A2,A9,A6,An.trans A7,AB,V⟩
def NQ{S:St}{o:Oper}{d:DF}(h:oW S o=some d):o.guard=none/\∃c AD args AL g AG,o.op=.defer c/\c={callee:=.value AD,args,argTypes:=AL}/\S.au AD=(true,.fn g AG)/\g<uY/\jR S args.toList=true/\d=(g,dF S args.toList++AG):=by
 unfold oW at h;split at h
 .rename_i AD args AL AR AS;unfold dfv at h;split at h
  .rename_i g AG AM;split at h
   .rename_i AH;cases h;simp only[Ds,aaw]at AH;exact⟨AR,_,AD,args,AL,g,AG,AS,rfl,AM,AH.2,AH.1,rfl⟩
   .cases h
  .cases h
 .cases h
section
variable {X:Ctx} {A4:bN} {f:FuncId} {n:Nat}
theorem Bk{md:Bool}{all:List Oper}(A8:kJ X A4):∀(ops:List Oper)(S:St)(E:List DF)(e:XE)(D:St)(H:List DF),gJ X A4 md all ops S E=some (e,D,H)->S.gl=X.gl->lh S.n ops=true->
 D.n=S.n/\D.gl=S.gl/\∀φ g dv a w,Rel φ ⟨g,dv⟩ S a w->pQ φ w (Fo ⟨g,dv⟩ φ S.mem) E dv->∀Q:Exit->Act->World->Prop,(∀e' M w',Bj S.n φ g S.mem w e D H e' M w'->Q e' M w')->wpList X.P all.toArray Q ops a w
 |[],S,E,e,D,H,h,O,J=>by
  simp only[gJ,aaT,abn]at h;obtain⟨rfl,rfl,rfl⟩:=h;exact⟨rfl,rfl,λφ g dv a w I N Q AE=>AE .normal _ _ ⟨φ,dv,rfl,I,bj.refl ..,N,rfl⟩⟩
 |o::rest,S,E,e,D,H,h,O,J=>by
  simp only[lh,ahP,Ds]at J;obtain⟨Ab,J⟩:=J;have Ac:∀t,o.dst=some t->t<S.n:=λt Ao=>by rw[Ao]at Ab;simpa using Ab
  simp only[gJ]at h;cases AT:oW S o with
  |some d=>
   rw[AT]at h;simp only at h;obtain⟨AR,c,AD,args,AL,g0,AG,AS,Ap,AM,Aq,AH,rfl⟩:=NQ AT;obtain⟨AI,AJ,AU⟩:=Bk A8 rest (S.put o.dst true .bC) _ e D H h ((nw ..).trans O) (by rw[nW];exact J);refine⟨AI.trans (nW ..),AJ.trans (nw ..),λφ g dv a w I N Q AE=>?_⟩;have AV:=I.au AD (by rw[AM]);rw[AM]at AV;generalize Ar:a.eval AD=B0 at AV;cases AV with
   |uZ _ _ A1 Ad Ae=>exact absurd Aq (Nat.not_lt.2 (ajm _ _))
   |fn _ _ A1 B2 Ad Ae=>
    have As:(execOp a.eval o).run X.P w=.ok (.defer {target:=.fn (.func g0) A1,args:=args.map a.eval}) w:=by
     simp[execOp,AS,Ap,resolve,Ar,Deferred.ofValue]
    have hw:Region.wanted o (yielded all.toArray a.tmps)=true:=by simp[Region.wanted,AR]
    unfold wpList;rw[aav hw];left;unfold Oper.wp;rw[As,Oper.upon_defer];have At:Rel φ ⟨g,{target:=.fn (.func g0) A1,args:=args.map a.eval}::dv⟩ S {a with defers:={target:=.fn (.func g0) A1,args:=args.map a.eval}::a.defers} w:=
     ⟨I.size,by rw[I.defers],I.env,I.mem.dv _,I.mh⟩
    have AW:=At.put o.dst Ac true .bC undef (λ_=>.bC _);refine AU φ g _ _ w AW ⟨⟨A1,rfl,?_,?_⟩,?_⟩ Q (λe' a2 AN Z=>AE e' a2 AN ?_)
    .rw[aal,kz];simp[Ad]
    .intro i y v AC A3;rw[gm];by_cases hi:i<args.size
     .rw[aaC (by rw[kz];simpa using hi),zj]at AC;rw[afK (by simpa using hi)]at A3;simp only[Array.getElem?_map,aap]at A3;obtain⟨z,Af,rfl⟩:=A3;obtain⟨B3,Ag,rfl⟩:=aap.1 AC;rw[aeV,Af]at Ag;cases Ag;exact I.au z (xM AH z (by simpa using Array.mem_of_getElem? Af))
     .rw[aaJ (by rw[kz];simpa using hi),kz]at AC;rw[Array.getElem?_append_right (by simpa using hi)]at A3;simp only[Array.size_map,aa5]at AC A3;exact Ae _ _ v AC A3
    .rw[gm];exact N
    .rw[nW,gm]at Z;exact Z
  |none=>
   rw[AT]at h;simp only at h;cases AX:oV X A4 md all S o with
   |none=>rw[AX]at h;cases h
   |some p=>
    obtain⟨U,S1⟩:=p;rw[AX]at h;obtain⟨A',A5,Au,Ah⟩:=wV A8 O Ac AX;rcases Au with rfl|⟨t0,B4,rfl⟩
    .simp only[LU]at h;obtain⟨AI,AJ,AU⟩:=Bk A8 rest S1 E e D H h (A5.trans O) (by rw[A'];exact J);refine⟨AI.trans A',AJ.trans A5,λφ g dv a w I N Q AE=>?_⟩;have:=Ah φ ⟨g,dv⟩ a w I (wpList X.P all.toArray Q rest) Q
      (λ_ φ' M w' AK AA=>AU φ' g dv M w' AK (N.keeps AA) Q (λe' a2 AN Z=>AE e' a2 AN (by rw[<-A'];exact Z.weaken AA))) (λt x he=>by cases he)
     unfold wpList;split
     .rename_i hw;rw[aav hw]at this;exact .inl this
     .rename_i hw;rw[aaf hw]at this;exact this
    .simp only[LU,aaT,abn]at h;obtain⟨rfl,rfl,rfl⟩:=h;refine⟨A',A5,λφ g dv a w I N Q AE=>?_⟩;have:=Ah φ ⟨g,dv⟩ a w I (wpList X.P all.toArray Q rest) Q
      (λhe=>by cases he) (λt x he φ' M w' v AK AA A3=>AE (.panic _) M w' ⟨φ',dv,A',AK,AA,N.keeps AA,t,x,v,he,rfl,A3⟩)
     unfold wpList;split
     .rename_i hw;rw[aav hw]at this;exact .inl this
     .rename_i hw;rw[aaf hw]at this;exact this
theorem Rb(AO:lA X)(A8:kJ X A4){c:Code}{S:St}{E:List DF}{e:XE}{D:St}{H:List DF}(h:Bb E (den X f A4 n c S)=some (e,D,H))(O:S.gl=X.gl)(J:fH X f S.n c=true):
 D.n=S.n/\D.gl=S.gl/\∀φ g dv a w,Rel φ ⟨g,dv⟩ S a w->pQ φ w (Fo ⟨g,dv⟩ φ S.mem) E dv->c.wp X.P (Bj S.n φ g S.mem w e D H) a w:=by
 cases A0:den X f A4 n c S with
 |none=>rw[A0]at h;cases h
 |some p=>
  obtain⟨U,S1⟩:=p;rw[A0]at h;simp only[Bb,aaT,abn]at h;obtain⟨rfl,rfl,rfl⟩:=h;obtain⟨A9,A6,A7⟩:=NM AO A8 c S U S1 A0 O J;refine⟨A9,A6,λφ g dv a w I N=>wp_mono (A7 φ ⟨g,dv⟩ a w I) λe' M w' Z=>?_⟩;obtain⟨φ',Av,AK,AA,he⟩:=Z.is;exact⟨φ',dv,Av,AK,AA,N.keeps AA,by cases e'<;>exact he⟩
theorem abJ(AO:lA X)(A8:kJ X A4)(c:Code):∀(S:St)(E:List DF)(e:XE)(D:St)(H:List DF),j0 X f A4 n c S E=some (e,D,H)->S.gl=X.gl->fH X f S.n c=true->
 D.n=S.n/\D.gl=S.gl/\∀φ g dv a w,Rel φ ⟨g,dv⟩ S a w->pQ φ w (Fo ⟨g,dv⟩ φ S.mem) E dv->c.wp X.P (Bj S.n φ g S.mem w e D H) a w:=by
 induction c with
 |seq a b Aw Ax=>
  intro S E e D H h O J;simp only[fH,Ds]at J;simp only[j0]at h;cases A0:j0 X f A4 n a S E with
  |none=>rw[A0]at h;cases h
  |some p=>
   obtain⟨U,S1,AF⟩:=p;obtain⟨A',A5,AP⟩:=Aw S E U S1 AF A0 O J.1;have stop:U≠.normal->e=U/\D=S1/\H=AF:=λhe=>by
    rw[A0]at h;cases U with
    |normal=>exact absurd rfl he
    |_=>simp only[Np,aaT,abn]at h;exact⟨h.1.symm,h.2.1.symm,h.2.2.symm⟩
   by_cases he:U=.normal
   .subst he;rw[A0]at h;simp only[Np]at h;obtain⟨AI,AJ,Ay⟩:=Ax S1 AF e D H h (A5.trans O) (by rw[A'];exact J.2);refine⟨AI.trans A',AJ.trans A5,λφ g dv ac w I N=>wp_seq (wp_mono (AP φ g dv ac w I N) λe' M w' Z=>?_)⟩;obtain⟨φ',A2,A9,A6,A7,AB,V⟩:=Z;cases e' with
    |normal=>exact wp_mono (Ay φ' g A2 M w' A6 AB) λB5 a2 AN Ai=>by rw[A']at Ai;exact Ai.weaken A7
    |exit id=>cases V
    |ret=>cases V
    |panic chain=>obtain⟨t,x,v,AY,_⟩:=V;cases AY
    |_=>exact V.elim
   .obtain⟨rfl,rfl,rfl⟩:=stop he;refine⟨A',A5,λφ g dv ac w I N=>wp_seq (wp_mono (AP φ g dv ac w I N) λe' M w' Z=>?_)⟩;cases e' with
    |normal=>obtain⟨_,_,_,_,_,_,V⟩:=Z;exact absurd V he
    |_=>exact Z
 |region id ops draw=>
  intro S E e D H h O J;simp only[j0]at h;split at h
  .rename_i Aj;simp only[Ds,afz]at Aj;obtain⟨rfl,_⟩:=Aj;simp only[fH,Ds]at J;have Az:lh S.n ops.toList=true:=J.1;cases A0:gJ X A4 (X.md f id) ops.toList ops.toList S E with
   |none=>rw[A0]at h;cases h
   |some p=>
    obtain⟨U,S1,AF⟩:=p;rw[A0]at h;obtain⟨A',A5,AP⟩:=Bk A8 ops.toList S E U S1 AF A0 O Az;have Ak:∀φ g dv a w,Rel φ ⟨g,dv⟩ S a w->pQ φ w (Fo ⟨g,dv⟩ φ S.mem) E dv->(Code.region id ops false).wp X.P (Bj S.n φ g S.mem w U S1 AF) a w:=
     λφ g dv a w I N=>wp_region_lit (AP φ g dv a w I N _ (λ_ _ _ h=>h))
    by_cases he:U=.normal
    .subst he;simp only[Dd,aaT,abn]at h;obtain⟨rfl,rfl,rfl⟩:=h;obtain⟨t1,t2,t3⟩:=vF X f id S1;refine⟨t1.trans A',t2.trans A5,λφ g dv a w I N=>wp_mono (Ak φ g dv a w I N) λe' M w' Z=>?_⟩;obtain⟨φ',A2,A9,A6,A7,AB,V⟩:=Z;cases e' with
     |normal=>
      obtain⟨B',AW,Al⟩:=t3 φ' ⟨g,A2⟩ M w' A6;exact⟨B',A2,t1.trans A9,AW,A7.trans Al,AB.keeps Al,rfl⟩
     |exit id=>cases V
     |ret=>cases V
     |panic chain=>obtain⟨t,x,v,AY,_⟩:=V;cases AY
     |_=>exact V.elim
    .have:e=U/\D=S1/\H=AF:=by
      cases U with
      |normal=>exact absurd rfl he
      |_=>simp only[Dd,aaT,abn]at h;exact⟨h.1.symm,h.2.1.symm,h.2.2.symm⟩
     obtain⟨rfl,rfl,rfl⟩:=this;exact⟨A',A5,Ak⟩
  .exact Rb AO A8 h O J
 |_=>intro S E e D H h O J;exact Rb AO A8 (by simpa only[j0]using h) O J
end
abbrev Ru:=FuncId->Array Value->World->(Ending->World->Prop)->Prop
def NR(C:Ru):Prop:=∀f vs w R A5,C f vs w R->(∀e w',R e w'->A5 e w')->C f vs w A5
def NS(C:Ru)(gl:List (Nat×D))(f:FuncId)(args:List AV)(m:Mem)(K:Out->Mem->Prop):Prop:=
 ∀φ G w (vs:Array Value),bF φ G m w->fG w (Fo G φ m) gl->args.length=vs.size->(∀(i:Nat) x v,args[i]?=some x->vs[i]?=some v->aG φ w (Fo G φ m) x v)->
  C f vs w λe w'=>∃φ' m' out,K out m'/\bF φ' G m' w'/\bj φ m w φ' m' w'/\pL φ' w' (Fo G φ' m') out e
def NS.frz{C:Ru}(V:NR C){gl f args}{cs:List aE}{out:Out}{E:List (Nat×aE)}(h:NS C gl f args (eB 0 cs) λo m=>o=out/\m=dX 0 E)(A6:cs.length<=E.length):
 NS C gl f args (eB 0 cs) λo m=>o=Js cs.length E out/\m=dX 0 (fh (dX 0 E) (List.range cs.length) (λ_=>true) (λ_ v=>v) 0 (List.range cs.length)):=by
 intro φ G w vs hm Z AH AI;refine V _ _ _ _ _ (h φ G w vs hm Z AH AI) ?_;rintro e w' ⟨φ',m',A',⟨rfl,rfl⟩,N,H,I⟩;obtain⟨s1,s2,AJ⟩:=Ee (G1:=G) (ρ:=List.range cs.length) (bor:=λ_=>true) (nv:=λ_ v=>v) N List.nodup_range (λk O=>zY E 0 k (amO _) (by simp at O;omega)) (λb h=>.inl h) (λb h=>N.mg b h.own)
  (λk e L b Z _ _ A0 A2=>N.mg _ ⟨e,(Mem.get_mem Z).1,L,by rw[(Mem.get_mem Z).2];exact A0,A2⟩)
 refine⟨_,_,_,⟨rfl,rfl⟩,s1,⟨?_,H.Cq,?_,H.size,H.os,H.tape,H.output⟩,?_⟩
 .intro k L A0;have O:k<cs.length:=by
   have:=hm.rZ k L A0;rw[Nb,sE]at this;simpa using this
  obtain⟨L',A3,AK,AL⟩:=H.le k L A0;exact⟨L',by simp[cj.jx,O,A3],AK,AL⟩
 .intro b AM A2;exact H.own b AM ((zN (φ:=φ') (nv:=λ_ v=>v) (bor:=λ_=>true) (λk O=>zY E 0 k (amO _) (by simp at O;omega)) b).1 A2).own
 .cases A' with
  |ret x=>
   cases e with
   |returned v=>exact (s2 x v I).norm
   |_=>exact I.elim
  |panic t x=>
   cases e with
   |panicked chain=>
    obtain⟨v,A1,M⟩:=I;exact⟨v,A1,M.mono (λ_ _ _=>rfl) (aak _) (λb _=>AJ b)⟩
   |_=>exact I.elim
def Qw{C:Ru}(V:NR C){gl:List (Nat×D)}{A7:bN}(AN:∀g args cs out l,A7 g args cs=some (out,l)->NS C gl g args (eB 0 cs) λo m=>o=out/\m=dX 0 l)
 {m:Mem} {A8:Nat} {g:FuncId} {J:List AV} {mt:List Nat} {res:gA} (h:eD A7 m A8 g J mt=some res) {φ:cj} {G:Fr} {w:World} (hm:bF φ G m w) (AO:fG w (Fo G φ m) gl)
 {vs:Array Value} (A6:J.length=vs.size) (AP:∀(i:Nat) x v,J[i]?=some x->vs[i]?=some v->aG φ w (Fo G φ m) x v):
 C g vs w λe w'=>∃φ',bF φ' G (bX m res.es) w'/\bj φ m w φ' (bX m res.es) w'/\pL φ' w' (Fo G φ' (bX m res.es)) res.out e:=by
 unfold eD nG nF at h;obtain⟨ρ,A9⟩:∃ρ,ρ=collect m 64 (nE mt 0 J) []:=⟨_,rfl⟩;have AA:=rp m 64 (nE mt 0 J) [] List.nodup_nil (by simp);rw[<-A9]at h AA;generalize (wO mt 0 J).filter (λk=>!ρ.contains k)=B at h;clear A9;obtain⟨AB,AC⟩:=AA;unfold gB at h;split at h
 .rename_i out E AQ;split at h
  .rename_i A1;cases h;have AD:NS C gl g (jk (mt.contains 1000) m ρ B J) (eB 0 (qe (fh m ρ (λk=>B.contains k) jj 0 ρ))) λo m=>o=out/\m=dX 0 E:=by
    obtain⟨Ab,Ac,AR,A3⟩:=Df AQ;have AE:=AN _ _ _ _ _ AR;rcases A3 with ⟨rfl,rfl⟩|⟨Ad,rfl,rfl⟩
    .exact AE
    .have AF:(qe (fh m ρ (λk=>B.contains k) jj 0 ρ)).length=ρ.length:=by rw[wU,tF]
     have:=AE.frz V (by rw[AF];omega);rw[AF]at this;exact this
   simp only[Ds,aiB,aaw]at A1;obtain⟨⟨Ae,AS⟩,AT⟩:=A1;rw[De]at AD;obtain⟨v1,v2,v3⟩:=Kh (B:=B) hm AB AC;have AU:∀(i:Nat) x v,(jk (mt.contains 1000) m ρ B J)[i]?=some x->vs[i]?=some v->aG (φ.jx ρ jj) w (Fo (mZ φ G m ρ B) (φ.jx ρ jj) (dX 0 (fh m ρ (λk=>B.contains k) jj 0 ρ))) x v:=by
    intro i x v M AW;rw[Bc]at M;obtain⟨y,AX,rfl⟩:=aap.1 M;exact (v2 y v (AP i y v AX AW)).Ff
   have AY:fG w (Fo (mZ φ G m ρ B) (φ.jx ρ jj) (dX 0 (fh m ρ (λk=>B.contains k) jj 0 ρ))) gl:=
    AO.mono (λ_ _ _=>rfl) (aak _) (λb _=>v3 b)
   refine V _ _ _ _ _ (AD (φ.jx ρ jj) (mZ φ G m ρ B) w _ v1 AY (by rw[uR];exact A6) AU) ?_;rintro e w' ⟨Af,Ag,A',⟨rfl,rfl⟩,AZ,A_,I⟩;have A4:B=[]\/(C9 A'=true/\pO E=true):=AT.imp (by simp) id;obtain⟨φ',N,H,AG⟩:=Ki (B:=B) hm AB AC (fr:=List.range' (A8+1) (E.length-ρ.length)) List.nodup_range' (Gf AS) AZ A_ (by simp;omega) (A4.imp id λU=>Be U.2);refine⟨φ',N,H,?_⟩;cases A' with
   |ret x=>
    cases e with
    |returned v=>exact AG x v (A4.imp id λU=>U.1) I
    |_=>exact I.elim
   |panic t x=>
    cases e with
    |panicked chain=>
     obtain⟨v,rfl,M⟩:=I;have:=AG (.d x) v (A4.imp id λU=>U.1) (.d _ _ M);cases this with
     |d _ _ Aa=>exact⟨v,rfl,Aa⟩
    |_=>exact I.elim
  .cases h
 .cases h
def KK{P:Program}{ops:Array Oper}{Q:Exit->Act->List Frame->World->Prop}{cs:List Frame}(AE:∀a w,¬Q .outgrown a cs w):∀(l:List Nat)(a:Act)(w:World),
 wpOps P ops (λe a w=>Q e a cs w) l a w->wpOpsS P ops Q l a cs w
 |[],a,w,h=>h
 |i::rest,a,w,h=>by
  have ih:=KK (P:=P) (ops:=ops) AE rest;unfold wpOps at h;unfold wpOpsS;split at h
  .rename_i A';simp only[A'];exact ih a w h
  .rename_i o A';simp only[A'];split at h
   .rename_i hw;rw[aav hw];rcases h with h|⟨_,a0,w0,h⟩
    .have Z:=Oper.wp_mono (K':=λI w'=>wpOpsS P ops Q rest I cs w') ih h;unfold Oper.wp at Z;split
     .rename_i w' J;rw[J]at Z;exact Z.elim
     .exact Z
    .exact absurd h (AE a0 w0)
   .rename_i hw;rw[aaf hw];exact ih _ w h
def Ty(D:Frame)(E:List Frame)(v:Value)(H:FrameMode):Prop:=
 recoverD (D::E)=some (v,{D with mode:=H}::E)\/(recoverD (D::E)=none/\v=.nilIface/\H=D.mode)
def Jz{o:Oper}(h:yb o=true):o.guard=none/\∃A7,o.op=.call {callee:=.builtin .recover,args:=#[],argTypes:=A7}:=by
 unfold yb at h;split at h
 .rename_i args A7 A9 A';refine⟨A9,A7,?_⟩;rw[A'];have:args=#[]:=by
   cases args with
   |mk l=>cases l with
    |nil=>rfl
    |cons a r=>simp at h
  rw[this]
 .cases h
abbrev LW(D:Frame)(E:List Frame)(H:FrameMode)(n:Nat)(φ:cj)(G:Fr)(m:Mem)(w:World)(e:XE)(M:St):Exit->Act->List Frame->World->Prop:=
 λe' I A3 w'=>A3={D with mode:=H}::E/\pt n φ G m w (Is e M) e' I w'
def Bl{P:Program}{c:Code}{Q AF:Exit->Act->List Frame->World->Prop}{a:Act}{cs:List Frame}{w:World}(h:c.wpS P Q a cs w)(AO:∀e a cs w,Q e a cs w->AF e a cs w):c.wpS P AF a cs w:=
 λb k AP J=>let ⟨e,I,A3,w',q,r⟩:=h b k AP J;⟨e,I,A3,w',AO _ _ _ _ q,r⟩
section
variable {X:Ctx} {AA:bN} {f:FuncId} {n:Nat}
theorem abK(AQ:lA X)(AG:kJ X AA)(A4:AV)(c:Code):∀(S:St)(e:XE)(M:St),ql X f AA n A4 c S=some (e,M)->S.gl=X.gl->fH X f S.n c=true->
 M.n=S.n/\M.gl=S.gl/\∀φ G a w D E v H,Ty D E v H->aG φ w (Fo G φ S.mem) A4 v->Rel φ G S a w->c.wpS X.P (LW D E H S.n φ G S.mem w e M) a (D::E) w:=by
 induction c with
 |seq a b AH Ah=>
  intro S e M h A6 A0;simp only[fH,Ds]at A0;simp only[ql]at h;rcases iT h with ⟨S1,A1,Z⟩|⟨A1,Z⟩
  .obtain⟨O,U,V⟩:=AH S .normal S1 A1 A6 A0.1;obtain⟨AR,AS,AT⟩:=NM AQ AG b S1 e M Z (U.trans A6) (by rw[O];exact A0.2);refine⟨AR.trans O,AS.trans U,λφ G ac w D E v H N A2 J=>wpS_seq (Bl (V φ G ac w D E v H N A2 J) ?_)⟩;rintro e' I A3 w' ⟨rfl,y⟩;obtain⟨φ',AI,AB,AC,he⟩:=y.is;cases e' with
   |normal=>
    refine wpS_of_wp (wp_mono (AT φ' G I w' AB) λAi a2 Aj AJ=>⟨rfl,?_⟩);rw[O]at AJ;exact AJ.weaken AC
   |exit id=>cases he
   |ret=>cases he
   |panic chain=>obtain⟨t,x,v,AU,_⟩:=he;cases AU
   |_=>exact he.elim
  .obtain⟨O,U,V⟩:=AH S e M A1 A6 A0.1;refine⟨O,U,λφ G ac w D E v H N A2 J=>wpS_seq (Bl (V φ G ac w D E v H N A2 J) ?_)⟩;rintro e' I A3 w' ⟨rfl,y⟩;cases e' with
   |normal=>obtain⟨φ',_,_,_,he⟩:=y.is;exact absurd he Z
   |_=>exact⟨rfl,y⟩
 |region id ops draw=>
  intro S e M h A6 A0;simp only[ql]at h;split at h
  .rename_i o r AK;split at h
   .rename_i AW;obtain⟨A9,A7,A'⟩:=Jz AW;simp only[fH,Ds]at A0;have AD:lh S.n ops.toList=true:=A0.1;rw[AK]at AD;simp only[lh,ahP,Ds]at AD;obtain⟨AL,AX⟩:=AD;have AY:∀t,o.dst=some t->t<S.n:=λt AZ=>by rw[AZ]at AL;simpa using AL
    have A8:(o::r).toArray=ops:=by rw[<-AK]
    have key:∀A5 S1,iB X AA (X.md f id) (o::r) r (S.put o.dst true A4)=some (A5,S1)->S1.n=S.n/\S1.gl=S.gl/\∀φ G a w D E v H,Ty D E v H->aG φ w (Fo G φ S.mem) A4 v->Rel φ G S a w->
     (Code.region id ops false).wpS X.P (LW D E H S.n φ G S.mem w A5 S1) a (D::E) w:=by
     intro A5 S1 A1;obtain⟨O,U,V⟩:=Dj AG r (S.put o.dst true A4) A5 S1 A1 ((nw ..).trans A6) (by rw[nW];exact AX);rw[nW]at O V;rw[nw]at U;rw[gm]at V;refine⟨O,U,λφ G a w D E v H N A2 J=>wpS_region ?_⟩;have A_:List.range ops.size=0::List.range' 1 r.length:=by
      rw[<-A8];simp[List.range_eq_range',ah2]
     have Aa:ops[0]?=some o:=by rw[<-A8];simp
     have Ab:(execOp a.eval o).run X.P w=.ok .recover w:=by
      simp[execOp,A',resolve,Deferred.ofValue,invoke,builtin]
     have Ac:=J.put o.dst AY true A4 v (λ_=>A2);have AM:=V φ G _ w Ac (λe a w'=>LW D E H S.n φ G S.mem w A5 S1 e a ({D with mode:=H}::E) w') (λe' I w' y=>⟨rfl,y⟩);rw[A8,<-wpOps_eq_wpList r 1 (λj=>by rw[<-A8];simp[Nat.add_comm])]at AM;have AN:=KK (Q:=LW D E H S.n φ G S.mem w A5 S1) (cs:={D with mode:=H}::E) (λ_ _ hh=>hh.2) _ _ _ AM;rw[A_];unfold wpOpsS;simp only[Aa];rw[aav (by simp[Region.wanted,A9])];simp only[Ab];rcases N with N|⟨N,rfl,rfl⟩
     .rw[N];exact AN
     .rw[N];exact AN
    unfold y9 at h;split at h
    .rename_i S1 A1;cases h;obtain⟨O,U,V⟩:=key _ _ A1;obtain⟨t1,t2,t3⟩:=vF X f id S1;refine⟨t1.trans O,t2.trans U,λφ G a w D E v H N A2 J=>Bl (V φ G a w D E v H N A2 J) ?_⟩;rintro e' I A3 w' ⟨rfl,y⟩;refine⟨rfl,?_⟩;obtain⟨φ',AI,AB,AC,he⟩:=y.is;cases e' with
     |normal=>
      obtain⟨Ad,Ae,Af⟩:=t3 φ' G I w' AB;exact⟨Ad,_,t1.trans AI,⟨rfl,rfl⟩,Ae,AC.trans Af⟩
     |exit id=>cases he
     |ret=>cases he
     |panic chain=>obtain⟨t,x,v,Ag,_⟩:=he;cases Ag
     |_=>exact he.elim
    .exact key _ _ h
   .cases h
  .cases h
 |_=>intro S e M h;simp[ql]at h
end
section
variable {X:Ctx} {AB:bN} {f:FuncId} {n:Nat}
theorem NT{fn:Func}{args:List AV}{cs:List aE}(AP:args.length<=fn.ntmps)(AQ:cs.length<=100)(A2:∀k∈(X.fp f).sites,100<=k)(AC:(X.fp f).sites.Nodup)
 {φ:cj} {G:Fr} {w:World} {vs:Array Value} (AD:G.dv=[]) (hm:bF φ G (eB 0 cs) w) (AE:fG w (Fo G φ (eB 0 cs)) X.gl) (AF:args.length=vs.size)
 (AG:∀(i:Nat) x v,args[i]?=some x->vs[i]?=some v->aG φ w (Fo G φ (eB 0 cs)) x v):
 Rel (φ.add (X.fp f).sites) G (entry fn.ntmps X.gl args cs (X.fp f).sites) {tmps:=vs++Array.replicate (fn.ntmps-vs.size) undef,defers:=[]} w/\
  bj φ (eB 0 cs) w (φ.add (X.fp f).sites) (entry fn.ntmps X.gl args cs (X.fp f).sites).mem w/\(∀k L,φ k=some L->k<cs.length/\L.ar=0):=by
 have AR:∀k,k∈(eB 0 cs).map (·.key)↔k<cs.length:=λk=>by rw[Gl];simp
 have AH:∀k∈(X.fp f).sites,k∉(eB 0 cs).map (·.key):=by
  intro k A3 Af;have A4:=A2 k A3;have A5:=(AR k).1 Af;omega
 have V:∀k L,φ k=some L->k<cs.length/\L.ar=0:=λk L AS=>by
  have A3:=hm.rZ k L AS;obtain⟨e,he,rfl⟩:=aaD.1 A3;obtain⟨L',AT,Ag,_⟩:=hm.gg e he;rw[AS]at AT;cases AT;exact⟨(AR _).1 A3,by rw[Ag];exact Jy cs 0 e he⟩
 have AI:=hm.add AC AH;have AJ:bj φ (eB 0 cs) w (φ.add (X.fp f).sites) (eB 0 cs++(X.fp f).sites.map dead) w:=⟨Na hm AH,λ_ _ _=>rfl,λb _ Ah=>(Ef AH b).1 Ah,aak _,rfl,rfl,rfl⟩;refine⟨⟨by simp[entry];omega,AD.symm,λt x Z=>?_,AI,AJ.mh AE⟩,AJ,V⟩;obtain⟨j,rfl,AU⟩:=A1 0 args t _ Z;have AK:j<vs.size:=by rw[<-AF];exact (aai.1 AU).1
 have e:(vs++Array.replicate (fn.ntmps-vs.size) undef).getD (0+j) undef=vs[j]:=by
  simp only[aeF,abk];rw[afK AK];simp[AK]
 rw[e];exact AJ.av (AG j x _ AU (by simp[AK]))
theorem KL{fn:Func}{cs:List aE}{out:Out}{l:List (Nat×aE)}{φ φ':cj}{G:Fr}{O:St}{H:Act}{w w':World}(U:Rel φ' G O H w')(AL:bj φ (eB 0 cs) w φ' O.mem w')
 (V:∀k L,φ k=some L->k<cs.length/\L.ar=0) (I:finish X.P (X.fp f) cs.length fn.results.toList O=some (out,l)):
 ∃v,(results fn H.tmps).run X.P w'=.ok v w'/\∃D m' A',(A'=out/\m'=dX 0 l)/\bF D G m' w'/\bj φ (eB 0 cs) w D m' w'/\pL D w' (Fo G D m') A' (.returned v):=by
 unfold finish at I;split at I
 .rename_i Ai xs Aj;split at I
  .rename_i Ak;obtain⟨M,A4,A5,AM⟩:=AY U fn.results.toList Ai xs Aj Ak;obtain⟨A6,N,rfl,g1,g2,g3,g4,_⟩:=vy I U.mem U.mh A5 AM AL V;have Al:(results fn H.tmps).run X.P w'=.ok (if h:M.toArray.size=1 then M.toArray[0]else .tuple M.toArray) w':=by
    have e:results fn H.tmps=(do let vs <-fn.results.mapM (CV H.tmps);pure (if h:vs.size=1 then vs[0]else .tuple vs)):=by
     unfold results;congr 1
    rw[e,Array.mapM_eq_mapM_toList];simp only[Sem.run_bind,Sem.run_map,A4,Result.andThen_ok,Sem.run_pure]
   refine⟨_,Al,A6,_,_,⟨rfl,rfl⟩,g1,g2,?_⟩;show aG A6 w' _ (oneOf N) _;by_cases AN:M.length=1
   .obtain⟨v,rfl⟩:∃v,M=[v]:=by
     cases M with
     |nil=>simp at AN
     |cons v r=>exact⟨v,by cases r with|nil=>rfl|cons _ _=>simp at AN⟩
    obtain⟨y,rfl⟩:∃y,N=[y]:=by
     cases N with
     |nil=>simp at g3
     |cons v r=>exact⟨v,by cases r with|nil=>rfl|cons _ _=>simp at g3⟩
    simpa [oneOf]using g4 0 y v (by simp) (by simp)
   .have e:oneOf N=.bh N:=by
     cases N with
     |nil=>rfl
     |cons y r=>cases r with|nil=>simp at g3;omega|cons _ _=>rfl
    rw[e,dif_neg (by simpa using AN)];exact .bh N M.toArray (by simpa using g3) (λi y v h An=>g4 i y v h (by simpa using An))
  .cases I
 .cases I
def VS(u:FrameMode)(v:Value):Prop:=(v=.nilIface/\u=.returning)\/∃t x,v=.iface t x/\u=.panicking [{v:=.iface t x,recovered:=false}]
def RuR(P:Program):Ru:=λf vs w R=>∀u v,vs.back?=some v->VS u v->CallsD P f vs.pop u w λe E w'=>settle E=.returning/\R e w'
theorem YN(P:Program):NR (RuR P):=λf vs w R B5 h Ao u v J hm=>(h u v J hm).mono λe E w' hh=>⟨hh.1,Ao e w' hh.2⟩
theorem VT(AW:lA X)(Ap:kJ X AB){fn:Func}{c:Code}{args:List AV}{cs:List aE}{out:Out}{l:List (Nat×aE)}(AX:X.P.funcs[f]?=some fn)(AZ:fn.body=some c)
 (h:zU X f AB n fn c args cs=some (out,l)):NS (RuR X.P) X.gl f args (eB 0 cs) λo m=>o=out/\m=dX 0 l:=by
 unfold zU at h;split at h
 .rename_i A7 A_;split at h
  .rename_i Aa;simp only[Ds,aaw,aaR]at Aa;obtain⟨⟨⟨AP,AQ⟩,A2⟩,AC⟩:=Aa;intro φ A8 w vs AI AE AF AG u v J Aq;obtain⟨G,A0⟩:∃G:Fr,G=⟨A8.g,[]⟩:=⟨_,rfl⟩;have AD:G.dv=[]:=by rw[A0]
   have hm:bF φ G (eB 0 cs) w:=by rw[A0];exact AI.dv []
   have Ar:fG w (Fo G φ (eB 0 cs)) X.gl:=by rw[A0];exact AE
   have Ab:∀(i:Nat) x v,args[i]?=some x->vs[i]?=some v->aG φ w (Fo G φ (eB 0 cs)) x v:=by rw[A0];exact AG
   have As:args≠[]:=by rintro rfl;cases A_
   have B6:0<args.length:=List.length_pos_iff.2 As;have At:args.dropLast.length=vs.pop.size:=by simp;omega
   obtain⟨Au,Ac,V⟩:=NT (fn:=fn) AP AQ A2 AC AD hm Ar At (λi x v Z J=>by
    have hi:i<args.length-1:=by have:=(aai.1 Z).1;simpa using this
    refine Ab i x v ?_ ?_
    .rw[List.dropLast_eq_take,List.getElem?_take_of_lt (by omega)]at Z;exact Z
    .rw[Array.getElem?_pop]at J;rw[aav (by omega)]at J;exact J)
   have Av:aG (φ.add (X.fp f).sites) w (Fo G (φ.add (X.fp f).sites) (entry fn.ntmps X.gl args.dropLast cs (X.fp f).sites).mem) A7 v:=by
    refine Ac.av (Ab (args.length-1) A7 v ?_ ?_)
    .rw[<-List.getLast?_eq_getElem?];exact A_
    .rw[Array.back?]at J;rw[AF];exact J
   cases AO:ql X f AB n A7 c (entry fn.ntmps X.gl args.dropLast cs (X.fp f).sites)with
   |none=>rw[AO]at h;cases h
   |some p=>
    obtain⟨e,O⟩:=p;rw[AO]at h;obtain⟨B7,B8,Aw⟩:=abK AW Ap A7 c _ e O AO rfl (AW.YL f fn c AX AZ A2);refine callsD_of_wpS AX AZ λA9 AA hu=>?_;obtain⟨E,Ax,Ay⟩:∃E,Ty A9 AA v E/\settle E=.returning:=by
     rcases Aq with ⟨rfl,rfl⟩|⟨t,x,rfl,rfl⟩
     .exact⟨.returning,.inr ⟨by simp[recoverD,hu],rfl,hu.symm⟩,rfl⟩
     .exact⟨.panicking [{v:=.iface t x,recovered:=true}],.inl (by simp[recoverD,hu]),by simp[settle]⟩
    refine Bl (Aw _ G _ w A9 AA v E Ax Av Au) ?_;rintro e' H B9 w' ⟨rfl,Az⟩;obtain⟨φ',_,U,B',he⟩:=Az.is;have AL:=Ac.trans B';have Ad:finish X.P (X.fp f) cs.length fn.results.toList O=some (out,l)->H.defers=[]/\∃Ae,({A9 with mode:=E}::AA)={A9 with mode:=Ae}::AA/\∃v,(results fn H.tmps).run X.P w'=.ok v w'/\(settle Ae=.returning/\
     ∃D m' A',(A'=out/\m'=dX 0 l)/\bF D A8 m' w'/\bj φ (eB 0 cs) w D m' w'/\pL D w' (Fo A8 D m') A' (.returned v)):=by
     intro I;obtain⟨v,A4,A6,B0,B2,A5,AM,B3,B4⟩:=KL U AL V I;subst A0;exact⟨U.defers,E,rfl,v,A4,Ay,A6,B0,B2,A5,AM.dv A8.dv,B3,B4⟩
    cases e' with
    |normal=>cases he;exact Ad h
    |ret=>cases he;exact Ad h
    |exit id=>cases he;cases h
    |panic chain=>obtain⟨t,x,v,rfl,_⟩:=he;cases h
    |_=>exact he.elim
  .cases h
 .cases h
end
def aaF(X:Ctx)(A':bN):Prop:=∀g args cs out l,A' g args cs=some (out,l)->iS X.P g=true/\NS (RuR X.P) X.gl g args (eB 0 cs) λo m=>o=out/\m=dX 0 l
def LK{N:bN}{m:Mem}{AS:Nat}{g:FuncId}{AH:List AV}{mt:List Nat}{res:gA}(h:eD N m AS g AH mt=some res):∃args cs out l,N g args cs=some (out,l):=by
 unfold eD nG nF gB at h;split at h
 .rename_i out B6 O;obtain⟨B7,B8,AI,_⟩:=Df O;exact⟨_,_,_,_,AI⟩
 .cases h
section
variable {X:Ctx} {N A':bN} {f:FuncId} {n:Nat}
theorem VU(D:lA X)(AC:kJ X N)(AJ:aaF X A'){fn:Func}{c:Code}{args:List AV}{cs:List aE}{out:Out}{l:List (Nat×aE)}(E:X.P.funcs[f]?=some fn)(H:fn.body=some c)
 (h:zV X f N A' n fn c args cs=some (out,l)):Ev X.P X.gl f args (eB 0 cs) λo m=>o=out/\m=dX 0 l:=by
 unfold zV at h;split at h
 .rename_i AK;simp only[Ds,aaw,aaR]at AK;obtain⟨⟨⟨AT,AU⟩,AL⟩,AW⟩:=AK;refine Ev.dv ?_;intro φ G w vs AD hm AX AY AZ;obtain⟨A4,A0,AM⟩:=NT (fn:=fn) AT AU AL AW AD hm AX AY AZ;obtain⟨g,B9⟩:=G;simp only at AD;subst AD;cases AE:j0 X f N n c (entry fn.ntmps X.gl args cs (X.fp f).sites) []with
  |none=>rw[AE]at h;cases h
  |some p=>
   obtain⟨e,A1,AN⟩:=p;rw[AE]at h;obtain⟨BA,A_,Aa⟩:=abJ D AC c _ _ e A1 AN AE rfl (D.YL f fn c E H AL);refine calls_of_wp_defers E H (wp_mono (Aa _ g [] _ w A4 trivial) λe' I w' Ab=>?_);obtain⟨φ',AO,_,M,Ac,A5,he⟩:=Ab;have A6:=A0.trans Ac;have Ad:A1.gl=X.gl:=A_;have back:∀{V:cj}{A7:St}{J:World},Rel V ⟨g,AO⟩ A7 I J->bj φ (eB 0 cs) w V A7.mem J->finish X.P (X.fp f) cs.length fn.results.toList A7=some (out,l)->
    ∃v,(results fn I.tmps).run X.P J=.ok v J/\∃A8 m' A2,(A2=out/\m'=dX 0 l)/\bF A8 ⟨g,[]⟩ m' J/\bj φ (eB 0 cs) w A8 m' J/\pL A8 J (Fo ⟨g,[]⟩ A8 m') A2 (.returned v):=by
    intro V A7 J Ae A9 Af;obtain⟨v,Ag,Ah,Ai,Aj,Ak,Al,An,Ao⟩:=KL Ae A9 AM Af;exact⟨v,Ag,Ah,Ai,Aj,Ak,Al.dv [],An,Ao⟩
   match AN,AO,A5 with
   |[],[],_=>
    have U:I.defers=[]:=M.defers;simp only[zb]at h;cases e' with
    |normal=>cases he;show Leaves _ _ _ _ I.defers _ _;rw[U];exact back M A6 h
    |ret=>cases he;show Leaves _ _ _ _ I.defers _ _;rw[U];exact back M A6 h
    |exit id=>cases he;cases h
    |panic chain=>
     obtain⟨t,x,v,rfl,rfl,AF⟩:=he;have Ap:sI (X.fp f) cs.length A1 [] (λ_=>.panic t x)=some (out,l):=h;obtain⟨V,AH,rfl,g1,g2,_,_,g5⟩:=vy (vs:=[]) Ap M.mem M.mh rfl (by simp) A6 AM;show Leaves _ _ _ _ I.defers _ _;rw[U];exact⟨V,_,_,⟨rfl,rfl⟩,g1,g2,v,rfl,AF.mono (λ_ _ _=>rfl) (aak _) (λb _=>g5 b)⟩
    |_=>exact he.elim
   |[d],[Z],⟨Aq,_⟩=>
    have U:I.defers=[Z]:=M.defers;simp only[zb]at h;have one:∀u AA A3,u≠FrameMode.run->VS u A3->aG φ' w' (Fo ⟨g,[Z]⟩ φ' A1.mem) AA A3->Gc e=some AA->
     Leaves X.P fn I.tmps (λe w'=>∃φ' m' A2,(A2=out/\m'=dX 0 l)/\bF φ' ⟨g,[]⟩ m' w'/\bj φ (eB 0 cs) w φ' m' w'/\pL φ' w' (Fo ⟨g,[]⟩ φ' m') A2 e) [Z] u w':=by
     intro u AA A3 hu Ar As At;rw[At]at h;simp only[vD]at h;cases O:eD A' A1.mem 0 d.1 (d.2++[AA]) (X.fp d.1).yV with
     |none=>rw[O]at h;cases h
     |some res=>
      rw[O]at h;obtain⟨AG,AP,AQ,Au⟩:=Aq;obtain⟨_,_,_,_,Av⟩:=LK O;have Aw:=(AJ _ _ _ _ _ Av).1;have Ax:=Qw (YN X.P) (gl:=X.gl) (λg args cs out l hh=>(AJ g args cs out l hh).2) O (φ:=φ') (G:=⟨g,[Z]⟩) (w:=w') (vs:=(Z.args++AG).push A3) M.mem (by rw[<-Ad];exact M.mh)
       (by simp[AQ];omega) (λi x v y AB=>by
        by_cases hi:i<d.2.length
        .rw[aaC hi]at y;rw[Array.getElem?_push,aaf (by omega)]at AB;exact Au i x v y AB
        .have:i=d.2.length:=by
          have:=(aai.1 y).1;simp at this;omega
         subst this;rw[aaJ (aak _)]at y;simp at y;subst y;rw[Array.getElem?_push,aav AQ]at AB;cases AB;exact As)
      have AR:=Ax u A3 (by simp) Ar;rw[Array.pop_push]at AR;refine⟨hu,.func d.1,AG,d.1,Z.args++AG,AP,by rw[AP];simp[invoke,wS Aw],AR.mono ?_⟩;rintro A0 Ay J ⟨Az,V,B',A9,B0⟩;unfold wR at h;split at h
      .rename_i x es ks heq;cases heq;cases A0 with
       |returned v2=>
        show Leaves _ _ _ _ [] (settle Ay) J;rw[Az];exact back (M.Ct B' A9) (A6.trans A9) h
       |_=>exact B0.elim
      .cases h
    cases e' with
    |normal=>cases he;show Leaves _ _ _ _ I.defers _ _;rw[U];exact one .returning _ .nilIface (by simp) (.inl ⟨rfl,rfl⟩) (.lit _ rfl) rfl
    |ret=>cases he;show Leaves _ _ _ _ I.defers _ _;rw[U];exact one .returning _ .nilIface (by simp) (.inl ⟨rfl,rfl⟩) (.lit _ rfl) rfl
    |exit id=>cases he;cases h
    |panic chain=>
     obtain⟨t,x,v,rfl,rfl,AF⟩:=he;show Leaves _ _ _ _ I.defers _ _;rw[U];exact one (.panicking [{v:=.iface t v,recovered:=false}]) _ (.iface t v) (by simp) (.inr ⟨t,v,rfl,rfl⟩) (.jb _ _ _ AF) rfl
    |_=>exact he.elim
   |_::_::_,_,_=>cases h
 .cases h
theorem YO(D:lA X)(AC:kJ X N):aaF X (oX X n N):=by
 intro g args cs out l h;unfold oX at h;split at h
 .rename_i fn E;split at h
  .rename_i c H;refine⟨?_,VT D AC E H h⟩;unfold iS;rw[E];simp[H,D.names g fn E]
  .cases h
 .cases h
theorem NU(D:lA X):∀n,kJ X (bm X n)
 |0=>λg args cs out l h=>by cases h
 |n+1=>λg args cs out l h=>by
  have ih:=NU D n;simp only[bm,D.ov]at h;split at h
  .rename_i AI B2;exact aeU D B2 h
  split at h
  .rename_i fn E;split at h
   .rename_i c H;have O:iS X.P g=true:=by
     unfold iS;rw[E];simp[H,D.names g fn E]
    refine⟨O,?_⟩;cases A5:zc c with
    |true=>
     rw[A5]at h;exact VU D ih (YO D ih) E H h
    |false=>
    rw[A5]at h;simp only[zW]at h;unfold kH at h;split at h
    .split at h
     .rename_i r;unfold m8 at h;split at h
      .rename_i a b B3 B4;split at h
       .rename_i B5;subst B5;have A4:=gE B3;have A0:=gE B4;rw[A4]at h;cases h;exact Ev.split (Bi D ih E H A4) (Bi D ih E H A0)
       .cases h
      .cases h
     .exact Bi D ih E H h
    .exact Bi D ih E H h
   .cases h
  .cases h
end
def aO{α:Type}(f:Nat->Option α):Prop:=∀n r,f n=some r->f (n+1)=some r
def aO.le{α:Type}{f:Nat->Option α}(h:aO f){n m:Nat}(AZ:n<=m){r:α}(Z:f n=some r):f m=some r:=by
 induction AZ with
 |refl=>exact Z
 |step _ ih=>exact h _ _ ih
def aO.const{α:Type}(x:Option α):aO λ_=>x:=λ_ _ h=>h
def aO.bind{α β:Type}{f:Nat->Option α}{g:α->Nat->Option β}(U:aO f)(A':∀x,aO (g x)):aO λn=>(f n).bind λx=>g x n:=by
 intro n r h;obtain⟨x,AE,Z⟩:=ai8.1 h;simp[U n x AE];exact A' x n r Z
open Classical in
noncomputable def iJ{α:Type}(f:Nat->Option α):Option α:=if h:∃n,(f n).isSome=true then f (Classical.choose h)else none
def eh{α:Type}{f:Nat->Option α}(U:aO f){r:α}:iJ f=some r↔∃n,f n=some r:=by
 unfold iJ;constructor
 .intro h;split at h
  .grind
  grind
 .rintro ⟨n,A0⟩;have hex:∃n,(f n).isSome=true:=⟨n,by grind⟩;rw[dif_pos hex];have AM:=Classical.choose_spec hex;obtain⟨An,AN⟩:=ai3.1 AM;rw[AN];rcases Nat.le_total n (Classical.choose hex)with J|J
  .rw[<-AN];exact U.le J A0
  .have:=U.le J AN;grind
def bg{α:Type}(x:Option α):iJ (λ_=>x)=x:=by
 cases x with
 |some r=>exact (eh (aO.const _)).2 ⟨0,rfl⟩
 |none=>unfold iJ;grind
def eJ{α β:Type}{f:Nat->Option α}{g:α->Nat->Option β}(U:aO f)(A':∀x,aO (g x)):iJ (λn=>(f n).bind λx=>g x n)=(iJ f).bind λx=>iJ (g x):=by
 apply Option.ext;intro r;rw[eh (U.bind A'),ai8];constructor
 .rintro ⟨n,A0⟩;obtain⟨x,AE,Z⟩:=ai8.1 A0;exact⟨x,(eh U).2 ⟨n,AE⟩,(eh (A' x)).2 ⟨n,Z⟩⟩
 .rintro ⟨x,AE,Z⟩;obtain⟨n,A0⟩:=(eh U).1 AE;obtain⟨m,hm⟩:=(eh (A' x)).1 Z;exact⟨max n m,by rw[U.le (Nat.le_max_left n m) A0];exact (A' x).le (Nat.le_max_right n m) hm⟩
def yi{α:Type}{f:Nat->Option α}(U:aO f):iJ (λn=>f (n+1))=iJ f:=by
 have A_:aO λn=>f (n+1):=λn r h=>U (n+1) r h;apply Option.ext;intro r;rw[eh A_,eh U];exact⟨λ⟨n,h⟩=>⟨n+1,h⟩,λ⟨n,h⟩=>⟨n,U n r h⟩⟩
def aT(k:St->Option (XE×St)):XE×St->Option (XE×St)
 |(.normal,S)=>k S
 |r=>some r
def Bm(r:Option (XE×St))(k:St->Option (XE×St)):andThen r k=r.bind (aT k):=by
 rcases r with _|⟨e,S⟩
 .rfl
 .cases e<;>rfl
def mT(k:St->St):XE×St->Option (XE×St)
 |(.normal,S)=>some (.normal,k S)
 |r=>some r
def sR(k:St->St)(r:Option (XE×St)):y9 k r=r.bind (mT k):=by
 rcases r with _|⟨e,S⟩
 .rfl
 .cases e<;>rfl
def bT(id:Nat):XE×St->Option (XE×St)
 |(.exit AS,S)=>if AS=id then some (.normal,S)else some (.exit AS,S)
 |r=>some r
def NV(id:Nat)(r:Option (XE×St)):HV id r=r.bind (bT id):=by
 rcases r with _|⟨e,S⟩
 .rfl
 .cases e<;>rfl
def cT(m:Mem)(A2:Nat)(ρ B:List Nat)(O:Nat)(b:Bool)(p:Out×List (Nat×aE)):Option gA:=gB m A2 ρ B (sN O b (some p))
def zn(m:Mem)(A2:Nat)(ρ B:List Nat)(O:Nat)(b:Bool)(r:Option (Out×List (Nat×aE))):gB m A2 ρ B (sN O b r)=r.bind (cT m A2 ρ B O b):=by cases r<;>rfl
def JA(S:St)(d:Option Nat)(r:Option gA):dS S d r=r.bind λc=>dS S d (some c):=by cases r<;>rfl
def NW(b:Bool)(m:Mem)(r:Option gA):Ba b m r=r.bind λc=>Ba b m (some c):=by cases r<;>cases b<;>rfl
def Gn(S:St)(o:Oper)(r:Option gA):tJ S o r=r.bind λc=>tJ S o (some c):=by cases r<;>rfl
def qm(E:List bn)(r:Option (St×bn))(k:St->List bn->Option (XE×St)):LS E r k=r.bind λp=>k p.1 (p.2::E):=by cases r<;>rfl
def NX(P:Program)(p:gu)(O:Nat)(rs:List ResultVar)(r:Option (XE×St)):fin P p O rs r=r.bind λq=>fin P p O rs (some q):=by cases r<;>rfl
def fC(C:Nat->bN):Prop:=∀g a c,aO λk=>C k g a c
section
variable {X:Ctx} {C:Nat->bN} {S:St} {o:Oper} {md:Bool}
theorem pR(D:fC C)(m:Mem)(A2:Nat)(g:FuncId)(AI:List AV)(mt:List Nat):aO (λk=>eD (C k) m A2 g AI mt):=by
 unfold eD nG nF;simp[zn];exact (D _ _ _).bind λ_=>aO.const _
theorem mA(D:fC C)(args:List Operand)(M:Bool×AV):aO (λk=>cY X (C k) S o args M):=by
 unfold cY;split
 .split
  .simp[NW _ _ (eD _ _ _ _ _ _)];exact (pR D _ _ _ _ _).bind λ_=>aO.const _
  .exact aO.const _
 .exact aO.const _
theorem Qx(D:fC C):aO (λk=>uu X (C k) S o):=by
 unfold uu;split
 .rename_i M args AB A8;have J:(λk=>dS S o.dst (cY X (C k) S o args.toList (S.au M)))=λk=>(cY X (C k) S o args.toList (S.au M)).bind λc=>dS S o.dst (some c):=by
   funext k;exact JA ..
  rw[J];exact (mA D args.toList (S.au M)).bind (λ_=>aO.const _)
 .exact aO.const _
 .exact aO.const _
theorem zp(D:fC C)(r:dO):aO (λk=>jl X (C k) S o r):=by
 cases r with
 |no=>exact Qx D
 |val c x=>exact aO.const _
 |dA c x e=>exact aO.const _
theorem NY(D:fC C)(b:Bool)(r:dO):aO (λk=>qJ X (C k) S o b r):=by
 have other:∀r,aO (λk=>if b=true then jl X (C k) S o r else some (.normal,S.put o.dst true .bC)):=by
  intro r;split
  .exact zp D r
  .exact aO.const _
 cases r with
 |no=>exact other .no
 |val c x=>exact aO.const _
 |dA c x e=>exact other (.dA c x e)
theorem vH(D:fC C)(all:List Oper):aO (λk=>oV X (C k) md all S o):=by
 unfold oV;split
 .exact zp D _
 .split
  .split
   .exact NY D _ _
   .split
    .exact zp D _
    .exact aO.const _
  .exact aO.const _
  .exact aO.const _
theorem rE{F:Nat->Option (XE×St)}{K:St->Nat->Option (XE×St)}(A3:aO F)(AF:∀S,aO (K S)):aO (λn=>andThen (F n) (λS=>K S n)):=by
 simp[Bm];refine A3.bind (g:=λx n=>aT (λS=>K S n) x) λx=>?_;obtain⟨e,S⟩:=x;cases e with
 |normal=>exact AF S
 |_=>exact aO.const _
theorem lM(D:fC C)(all:List Oper):∀(ops:List Oper)(S:St),aO (λk=>iB X (C k) md all ops S)
 |[],S=>aO.const _
 |o::r,S=>rE (vH D all) (λA1=>lM D all r A1)
theorem TB(D:fC C):aO (λk=>m7 X (C k) S o):=by
 unfold m7;split
 .rename_i M args AB A8;have J:(λk=>tJ S o (cY X (C k) S o args.toList (S.au M)))=λk=>(cY X (C k) S o args.toList (S.au M)).bind λc=>tJ S o (some c):=by
   funext k;exact Gn ..
  rw[J];exact (mA D args.toList (S.au M)).bind (λ_=>aO.const _)
 .exact aO.const _
theorem Bn(D:fC C)(r:dO):aO (λk=>fK X (C k) S o r):=by
 cases r with
 |no=>exact TB D
 |val c x=>exact aO.const _
 |dA c x e=>exact aO.const _
theorem Qy(D:fC C)(b:Bool)(r:dO):aO (λk=>uv X (C k) S o b r):=by
 have other:∀r,aO (λk=>if b=true then fK X (C k) S o r else some (S.put o.dst true .bC,⟨[],[],true,.bC⟩)):=by
  intro r;split
  .exact Bn D r
  .exact aO.const _
 cases r with
 |no=>exact other .no
 |val c x=>exact aO.const _
 |dA c x e=>exact other (.dA c x e)
theorem nH(D:fC C)(all:List Oper):aO (λk=>eT X (C k) md all S o):=by
 unfold eT;split
 .exact Bn D _
 .split
  .split
   .exact Qy D _ _
   .split
    .exact Bn D _
    .exact aO.const _
  .exact aO.const _
  .exact aO.const _
theorem JB(S:St)(r:Option gA):yX S r=r.bind λc=>yX S (some c):=by cases r<;>rfl
theorem KM(D:fC C):aO (λk=>mz X (C k) S o):=by
 unfold mz;split
 .unfold Ga;split
  .unfold Nl;split
   .rename_i M args AB A8;have J:(λk=>yX S (cY X (C k) S o args.toList (S.au M)))=λk=>(cY X (C k) S o args.toList (S.au M)).bind λc=>yX S (some c):=by
     funext k;exact JB ..
    rw[J];exact (mA D args.toList (S.au M)).bind (λ_=>aO.const _)
   .exact aO.const _
  .exact aO.const _
 .exact aO.const _
theorem NZ{AO:bN}{all:List Oper}{q:St×bn}(h:eT X AO md all S o=some q):mz X AO S o=none:=by
 cases A4:mz X AO S o with
 |none=>rfl
 |some p=>
  obtain⟨A',Aa,M,args,AB,A8,AM,_⟩:=KB A4;unfold eT at h;rw[A']at h;simp[fK,m7,Aa,A8,AM]at h;cases h
theorem VW(D:fC C)(H:Nat×List (List Nat))(all r:List Oper)(E:List bn){K:Nat->St->List bn->Option (XE×St)}(AF:∀S E,aO λk=>K k S E):aO (λk=>py X (C k) md H all r S o E (K k) (mz X (C k) S o)):=by
 intro n y h;simp only at h⊢;cases A4:mz X (C n) S o with
 |some q=>
  rw[A4]at h;have Ab:mz X (C (n+1)) S o=some q:=KM D n q A4;rw[Ab];exact h
 |none=>
  rw[A4]at h;simp[py,qm]at h;cases A':eT X (C n) md all S o with
  |none=>grind
  |some p=>
   have AT:eT X (C (n+1)) md all S o=some p:=nH D all n p A';rw[NZ AT];simp[py];rw[A']at h;rw[AT];exact AF _ _ n y h
theorem pS(D:fC C)(H:Nat×List (List Nat))(all:List Oper):∀(ops:List Oper)(S:St)(E:List bn),aO (λk=>jG X (C k) md H all ops S E)
 |[],S,E=>aO.const _
 |o::r,S,E=>VW D H all r E λS E=>pS D H all r S E
def TC(N:List Cl)(p:St×bn):Option (St×bn):=if x8 N p.2.es=true then some p else none
theorem Rc(N:List Cl)(r:Option (St×bn)):Ju N r=r.bind (TC N):=by
 rcases r with _|⟨S,p⟩<;>rfl
theorem yj(D:fC C)(H:List (List Nat))(N:List Cl)(all:List Oper):∀(ops:List Oper)(S:St)(E:List bn),aO (λk=>pz X (C k) md H N all ops S E)
 |[],S,E=>aO.const _
 |o::r,S,E=>by
  simp only[pz,qm];cases ou (H.getD E.length []) r with
  |true=>
   simp[No];split
   .exact lM D all [o] S
   .exact aO.const _
  |false=>
  cases rC X.P N S o with
  |some x=>
   exact yj D H N all r _ _
  |none=>
   simp[vC,Rc];exact ((nH D all).bind (g:=λp _=>TC N p) λp=>aO.const _).bind (g:=λp n=>pz X (C n) md H N all r p.1 (p.2::E)) λp=>yj D H N all r p.1 (p.2::E)
theorem KN(D:fC C)(H:List (List Nat))(all:List Oper)(S:St)(fl:List (Nat×Nat)):aO (λk=>yZ X (C k) md H all S fl):=by
 cases fl with
 |nil=>exact pS D _ all all S []
 |cons q r=>
  simp[yZ];cases gg S.mem (q::r)with
  |none=>exact aO.const _
  |some N=>exact yj D H N all all S []
theorem KO(f:St->Option (XE×St)):∀(j:Nat)(S:St)(r:XE×St),iter f j S=some r->iter f (j+1) S=some r
 |0,S,r,h=>by cases h
 |j+1,S,r,h=>by
  rw[iter];rcases iT h with ⟨S1,J,A5⟩|⟨J,A5⟩
  .rw[J];exact KO f j S1 r A5
  .rw[J];obtain⟨e,S1⟩:=r;cases e with
   |normal=>grind
   |_=>rfl
theorem wY(f:St->Option (XE×St)){j k:Nat}(h:j<=k){S:St}{r:XE×St}(Z:iter f j S=some r):iter f k S=some r:=by
 induction h with
 |refl=>exact Z
 |step _ ih=>exact KO f _ S r ih
theorem yk{F:Nat->St->Option (XE×St)}(A3:∀S,aO (λk=>F k S)):∀(j:Nat)(S:St),aO (λk=>iter (F k) j S)
 |0,S=>aO.const _
 |j+1,S=>rE (A3 S) (λA1=>yk A3 j A1)
theorem Bo(D:fC C)(f:FuncId){m:Nat->Nat}(hm:∀k,m k<=m (k+1)):∀(c:Code)(S:St),aO (λk=>den X f (C k) (m k) c S):=by
 intro c;induction c with
 |region id ops draw=>
  intro S;cases draw with
  |false=>
   simp[den,sR];exact (lM D _ _ _).bind λ_=>aO.const _
  |true=>
   simp[den,sR];exact (KN D _ _ _ _).bind λ_=>aO.const _
 |seq a b A9 AG=>intro S;exact rE (A9 S) (λA1=>AG A1)
 |cond c a b A9 AG=>
  intro S;simp[den];unfold HW;split
  .split
   .exact A9 S
   simp_all
  .exact aO.const _
 |block id c ih=>
  intro S;simp[den,NV];exact (ih _).bind λ_=>aO.const _
 |loop c ih=>
  intro S n r h;have J:=yk (F:=λk=>den X f (C k) (m k) c) ih (m n) S n r h;exact wY _ (hm n) J
 |skip=>intro S;exact aO.const _
 |exit id=>intro S;exact aO.const _
 |ret=>intro S;exact aO.const _
 |rangeFunc _ _ _ _=>intro S;exact aO.const _
 |scope _ _=>intro S;exact aO.const _
 |label _=>intro S;exact aO.const _
 |goto _=>intro S;exact aO.const _
 |refuse _=>intro S;exact aO.const _
theorem H9(D:fC C)(f:FuncId){m:Nat->Nat}(hm:∀k,m k<=m (k+1))(fn:Func)(c:Code)(args:List AV)(cs:List aE):aO (λk=>tK X f (C k) (m k) fn c args cs):=by
 unfold tK;split
 .simp[NX X.P (X.fp f) cs.length fn.results.toList (den _ _ _ _ _ _)];exact (Bo D f hm c _).bind λ_=>aO.const _
 .exact aO.const _
theorem Cc{F G:Nat->Option (Out×List (Nat×aE))}(A3:aO F)(Ac:aO G):aO (λn=>m8 (F n) (G n)):=by
 intro n r h;replace h:m8 (F n) (G n)=some r:=h;show m8 (F (n+1)) (G (n+1))=some r;unfold m8 at h;split at h
 .rename_i a b AA AC;have AD:=gE AA;have Ad:=gE AC;have f1:=A3 n _ AD;have f2:=Ac n _ Ad;rw[AD]at h;rw[f1,f2];exact h
 grind
theorem LL{R:Nat->List AV->Option (Out×List (Nat×aE))}(AJ:∀a,aO (λn=>R n a))(args:List AV)(b:Bool):aO (λn=>kH (R n) args b):=by
 unfold kH;split
 .split
  .exact Cc (AJ _) (AJ _)
  simp_all
 simp_all
def nT(k:St->XD)(I:List DF):XE×St->XD
 |(.normal,S)=>k S
 |(e,S)=>some (e,S,I)
theorem Gp(k:St->XD)(I:List DF)(r:Option (XE×St)):LU k I r=r.bind (nT k I):=by
 rcases r with _|⟨e,S⟩
 .rfl
 .cases e<;>rfl
def lT(k:St->St):XE×St×List DF->XD
 |(.normal,S,I)=>some (.normal,k S,I)
 |r=>some r
theorem Dr(k:St->St)(r:XD):Dd k r=r.bind (lT k):=by
 rcases r with _|⟨e,S,I⟩
 .rfl
 .cases e<;>rfl
def dT(I:List DF)(p:XE×St):XD:=some (p.1,p.2,I)
theorem JC(I:List DF)(r:Option (XE×St)):Bb I r=r.bind (dT I):=by
 rcases r with _|⟨e,S⟩<;>rfl
def sT(k:St->List DF->XD):XE×St×List DF->XD
 |(.normal,S,I)=>k S I
 |r=>some r
theorem Rd(k:St->List DF->XD)(r:XD):Np k r=r.bind (sT k):=by
 rcases r with _|⟨e,S,I⟩
 .rfl
 .cases e<;>rfl
theorem oz(D:fC C)(all:List Oper):∀(ops:List Oper)(S:St)(I:List DF),aO (λk=>gJ X (C k) md all ops S I)
 |[],S,I=>aO.const _
 |o::r,S,I=>by
  simp[gJ];cases oW S o with
  |some d=>exact oz D all r _ _
  |none=>
   simp[Gp];refine (vH D all).bind (g:=λx n=>nT (λS1=>gJ X (C n) md all r S1 I) I x) λx=>?_;obtain⟨e,S1⟩:=x;cases e with
   |normal=>exact oz D all r S1 I
   |_=>exact aO.const _
theorem KP(D:fC C)(f:FuncId){m:Nat->Nat}(hm:∀k,m k<=m (k+1)):∀(c:Code)(S:St)(I:List DF),aO (λk=>j0 X f (C k) (m k) c S I):=by
 have add:∀(c:Code)(S:St)(I:List DF),aO (λk=>Bb I (den X f (C k) (m k) c S)):=λc S I=>by
  simp[JC];exact (Bo D f hm c S).bind λ_=>aO.const _
 intro c;induction c with
 |seq a b A9 AG=>
  intro S I;simp[j0,Rd];refine (A9 S I).bind (g:=λx n=>sT (j0 X f (C n) (m n) b) x) λx=>?_;obtain⟨e,S1,Ae⟩:=x;cases e with
  |normal=>exact AG S1 Ae
  |_=>exact aO.const _
 |region id ops draw=>
  intro S I;simp[j0];split
  .simp[Dr];exact (oz D _ _ _ _).bind λ_=>aO.const _
  simp_all
 |_=>simp[j0];simp_all
theorem Dt(D:fC C)(f:FuncId){m:Nat->Nat}(hm:∀k,m k<=m (k+1))(AH:AV):∀(c:Code)(S:St),aO (λk=>ql X f (C k) (m k) AH c S):=by
 intro c;induction c with
 |seq a b A9 AG=>intro S;exact rE (A9 S) (λA1=>Bo D f hm b A1)
 |region id ops draw=>
  intro S;simp[ql];split
  .split
   .simp[sR];exact (lM D _ _ _).bind λ_=>aO.const _
   .exact aO.const _
  .exact aO.const _
 |_=>intro S;exact aO.const _
theorem Re(P:Program)(p:gu)(O:Nat)(rs:List ResultVar)(r:Option (XE×St)):Tm P p O rs r=r.bind λq=>Tm P p O rs (some q):=by cases r<;>rfl
theorem Qz(D:fC C)(f:FuncId){m:Nat->Nat}(hm:∀k,m k<=m (k+1))(fn:Func)(c:Code)(args:List AV)(cs:List aE):aO (λk=>zU X f (C k) (m k) fn c args cs):=by
 unfold zU;split
 .split
  .simp[Re X.P (X.fp f) cs.length fn.results.toList (ql _ _ _ _ _ _ _)];exact (Dt D f hm _ c _).bind λ_=>aO.const _
  .exact aO.const _
 .exact aO.const _
theorem Ia(D:fC C){m:Nat->Nat}(hm:∀k,m k<=m (k+1)):fC (λk=>oX X (m k) (C k)):=by
 intro g args cs;simp[oX];split
 .split
  .exact Qz D g hm _ _ _ _
  .exact aO.const _
 .exact aO.const _
theorem Rf(S:St)(r:Option gA):wR S r=r.bind λc=>wR S (some c):=by cases r<;>rfl
theorem Rg(X:Ctx)(p:gu)(O:Nat)(rs:List ResultVar)(r:Option St):Gd X p O rs r=r.bind λS=>finish X.P p O rs S:=by cases r<;>rfl
theorem Rh(X:Ctx)(p:gu)(O:Nat)(rs:List ResultVar)(AU:bN)(r:XD):zb X p O rs AU r=r.bind λq=>zb X p O rs AU (some q):=by cases r<;>rfl
theorem TD{CR:Nat->bN}(D:fC CR)(p:gu)(O:Nat)(rs:List ResultVar)(S:St)(d:DF)(AH:Option AV):aO (λk=>vD X p O rs (CR k) S d AH):=by
 cases AH with
 |none=>exact aO.const _
 |some AH=>
  simp[vD,Rg,Rf S (eD _ _ _ _ _ _)];exact ((pR D _ _ _ _ _).bind (g:=λc _=>wR S (some c)) λ_=>aO.const _).bind (g:=λS _=>finish X.P p O rs S) λ_=>aO.const _
theorem Ib{CR:Nat->bN}(D:fC CR)(p:gu)(O:Nat)(rs:List ResultVar)(q:XE×St×List DF):aO (λk=>zb X p O rs (CR k) (some q)):=by
 obtain⟨e,S,I⟩:=q;match I with
 |[]=>exact aO.const _
 |[d]=>exact TD D p O rs S d (Gc e)
 |_::_::_=>exact aO.const _
theorem QA(D:fC C){CR:Nat->bN}(AJ:fC CR)(f:FuncId){m:Nat->Nat}(hm:∀k,m k<=m (k+1))(fn:Func)(c:Code)(args:List AV)(cs:List aE):aO (λk=>zV X f (C k) (CR k) (m k) fn c args cs):=by
 unfold zV;split
 .simp[Rh X (X.fp f) cs.length fn.results.toList _ (j0 _ _ _ _ _ _ _)];exact (KP D f hm c _ _).bind (g:=λq n=>zb X (X.fp f) cs.length fn.results.toList (CR n) (some q)) λq=>Ib AJ _ _ _ q
 .exact aO.const _
theorem Ic(X:Ctx):∀n g a c r,bm X n g a c=some r->bm X (n+1) g a c=some r
 |0,g,a,c,r,h=>by cases h
 |n+1,g,a,c,r,h=>by
  have ih:=Ic X n;have D:fC λk=>if k=0 then bm X n else bm X (n+1):=by
   intro g a c k r h;grind
  have hm:∀k,(if k=0 then n else n+1)<=(if k+1=0 then n else n+1):=by
   grind
  cases A6:X.ov with
  |some Ao=>simp[bm,A6]at h⊢;exact h
  |none=>
  cases A7:X.zT g with
  |some Ap=>simp[bm,A7]at h⊢;exact h
  |none=>
  cases U:X.P.funcs[g]? with
  |none=>simp only[bm,A6,A7,U]at h;cases h
  |some fn=>
   cases AC:fn.body with
   |none=>simp only[bm,A6,A7,U,AC]at h;cases h
   |some code=>
    have AD:∀k,bm X (k+1) g a c=zW X g (bm X k) k fn code a c (zc code):=by
     simp[bm,A6,A7,U,AC]
    rw[AD]at h⊢;cases AK:zc code with
    |true=>
     rw[AK]at h;exact QA (X:=X) (C:=λk=>if k=0 then bm X n else bm X (n+1)) (CR:=λk=>oX X (if k=0 then n else n+1) (if k=0 then bm X n else bm X (n+1))) D (Ia D hm) g hm fn code a c 0 r h
    |false=>
    rw[AK]at h;exact LL (R:=λk args=>tK X g ((λk=>if k=0 then bm X n else bm X (n+1)) k) ((λk=>if k=0 then n else n+1) k) fn code args c) (λargs=>H9 D g hm fn code args c) a _ 0 r h
theorem bV(X:Ctx):fC (bm X):=λg a c n r h=>Ic X n g a c r h
end
noncomputable def ak(X:Ctx):bN:=λg a c=>iJ λk=>bm X k g a c
noncomputable def ib(X:Ctx)(f:FuncId)(c:Code)(S:St):Option (XE×St):=iJ λk=>den X f (bm X k) k c S
def sS{X:Ctx}{g a c r}(n:Nat)(h:bm X n g a c=some r):ak X g a c=some r:=(eh (bV X g a c)).2 ⟨n,h⟩
def YP{X:Ctx}(Af:lA X):kJ X (ak X):=λg args cs out l h=>by
 obtain⟨n,A0⟩:=(eh (bV X g args cs)).1 h;exact NU Af n g args cs out l A0
section
variable {X:Ctx} {S:St} {o:Oper} {f:FuncId} {md:Bool}
theorem dm(c:Code)(S:St):aO (λk=>den X f (bm X k) k c S):=Bo (bV X) f (m:=λk=>k) (λk=>ajb k) c S
theorem TE(m:Mem)(A2:Nat)(g:FuncId)(AI:List AV)(mt:List Nat):iJ (λk=>eD (bm X k) m A2 g AI mt)=eD (ak X) m A2 g AI mt:=by
 unfold eD nG nF;simp[zn];rw[eJ (bV X _ _ _) (λ_=>aO.const _)];simp[bg];rfl
theorem zq(args:List Operand)(M:Bool×AV):iJ (λk=>cY X (bm X k) S o args M)=cY X (ak X) S o args M:=by
 unfold cY;split
 .split
  .simp[NW _ _ (eD _ _ _ _ _ _)];rw[eJ (pR (bV X) _ _ _ _ _) (λ_=>aO.const _),TE];simp[bg]
  .exact bg _
 .exact bg _
theorem TF:iJ (λk=>uu X (bm X k) S o)=uu X (ak X) S o:=by
 unfold uu;split
 .rename_i M args AB A8;have J:(λk=>dS S o.dst (cY X (bm X k) S o args.toList (S.au M)))=λk=>(cY X (bm X k) S o args.toList (S.au M)).bind λc=>dS S o.dst (some c):=by
   funext k;exact JA ..
  rw[J,eJ (mA (bV X) _ _) (λ_=>aO.const _),zq,JA];simp[bg]
 .exact bg _
 .exact bg _
theorem Bp(r:dO):iJ (λk=>jl X (bm X k) S o r)=jl X (ak X) S o r:=by
 cases r with
 |no=>exact TF
 |val c x=>exact bg _
 |dA c x e=>exact bg _
theorem QB(b:Bool)(r:dO):iJ (λk=>qJ X (bm X k) S o b r)=qJ X (ak X) S o b r:=by
 have other:∀r,iJ (λk=>if b=true then jl X (bm X k) S o r else some (.normal,S.put o.dst true .bC))=if b=true then jl X (ak X) S o r else some (.normal,S.put o.dst true .bC):=by
  intro r;split
  .exact Bp r
  .exact bg _
 cases r with
 |no=>exact other .no
 |val c x=>exact bg _
 |dA c x e=>exact other (.dA c x e)
theorem KQ(all:List Oper):iJ (λk=>oV X (bm X k) md all S o)=oV X (ak X) md all S o:=by
 unfold oV;split
 .exact Bp _
 .split
  .split
   .exact QB _ _
   .split
    .exact Bp _
    .exact bg _
  .exact bg _
  .exact bg _
theorem zr{F:Nat->Option (XE×St)}{K:St->Nat->Option (XE×St)}(A3:aO F)(AF:∀S,aO (K S)):iJ (λn=>andThen (F n) (λS=>K S n))=andThen (iJ F) (λS=>iJ (K S)):=by
 simp[Bm];rw[eJ (g:=λx n=>aT (λS=>K S n) x) A3 (λx=>by
  obtain⟨e,S⟩:=x;cases e with
  |normal=>exact AF S
  |_=>exact aO.const _)]
 congr 1;funext x;obtain⟨e,S⟩:=x;cases e<;>first|rfl|exact bg _
theorem vI(all:List Oper):∀(ops:List Oper)(S:St),iJ (λk=>iB X (bm X k) md all ops S)=iB X (ak X) md all ops S
 |[],S=>bg _
 |o::r,S=>by
  simp[iB];have:=zr (F:=λk=>oV X (bm X k) md all S o) (K:=λA1 k=>iB X (bm X k) md all r A1) (vH (bV X) all) (λA1=>lM (bV X) all r A1);rw[KQ]at this;simp[vI all r]at this;grind
theorem VX:iJ (λk=>m7 X (bm X k) S o)=m7 X (ak X) S o:=by
 unfold m7;split
 .rename_i M args AB A8;have J:(λk=>tJ S o (cY X (bm X k) S o args.toList (S.au M)))=λk=>(cY X (bm X k) S o args.toList (S.au M)).bind λc=>tJ S o (some c):=by
   funext k;exact Gn ..
  rw[J,eJ (mA (bV X) _ _) (λ_=>aO.const _),zq,Gn];simp[bg]
 .exact bg _
theorem Du(r:dO):iJ (λk=>fK X (bm X k) S o r)=fK X (ak X) S o r:=by
 cases r with
 |no=>exact VX
 |val c x=>exact bg _
 |dA c x e=>exact bg _
theorem TG(b:Bool)(r:dO):iJ (λk=>uv X (bm X k) S o b r)=uv X (ak X) S o b r:=by
 have other:∀r,iJ (λk=>if b=true then fK X (bm X k) S o r else some (S.put o.dst true .bC,(⟨[],[],true,.bC⟩:bn)))=if b=true then fK X (ak X) S o r else some (S.put o.dst true .bC,⟨[],[],true,.bC⟩):=by
  intro r;split
  .exact Du r
  .exact bg _
 cases r with
 |no=>exact other .no
 |val c x=>exact bg _
 |dA c x e=>exact other (.dA c x e)
theorem Ie(all:List Oper):iJ (λk=>eT X (bm X k) md all S o)=eT X (ak X) md all S o:=by
 unfold eT;split
 .exact Du _
 .split
  .split
   .exact TG _ _
   .split
    .exact Du _
    .exact bg _
  .exact bg _
  .exact bg _
theorem YQ:iJ (λk=>mz X (bm X k) S o)=mz X (ak X) S o:=by
 unfold mz;split
 .unfold Ga;split
  .unfold Nl;split
   .rename_i M args AB A8;have J:(λk=>yX S (cY X (bm X k) S o args.toList (S.au M)))=λk=>(cY X (bm X k) S o args.toList (S.au M)).bind λc=>yX S (some c):=by
     funext k;exact JB ..
    rw[J,eJ (mA (bV X) _ _) (λ_=>aO.const _),zq,JB];simp[bg]
   .exact bg _
  .exact bg _
 .exact bg _
theorem Ig(H:Nat×List (List Nat))(all:List Oper):∀(ops:List Oper)(S:St)(E:List bn),iJ (λk=>jG X (bm X k) md H all ops S E)=jG X (ak X) md H all ops S E
 |[],S,E=>bg _
 |o::r,S,E=>by
  have A4:∀q,mz X (ak X) S o=some q↔∃k,mz X (bm X k) S o=some q:=λq=>by rw[<-YQ];exact eh (KM (bV X))
  have A':∀q,eT X (ak X) md all S o=some q↔∃k,eT X (bm X k) md all S o=some q:=λq=>by rw[<-Ie];exact eh (nH (bV X) all)
  have Z:∀S E y,jG X (ak X) md H all r S E=some y↔∃k,jG X (bm X k) md H all r S E=some y:=λS E y=>by rw[<-Ig H all r S E];exact eh (pS (bV X) H all r S E)
  apply Option.ext;intro y;rw[eh (pS (bV X) H all (o::r) S E)];simp[jG];constructor
  .rintro ⟨k,V⟩;cases AW:mz X (bm X k) S o with
   |some q=>
    rw[AW]at V;rw[(A4 q).2 ⟨k,AW⟩];exact V
   |none=>
    simp[py,qm]at V;cases Ag:eT X (bm X k) md all S o with
    |none=>grind
    |some p=>
     have AL:=(A' p).2 ⟨k,Ag⟩;rw[NZ AL];simp[py,qm]at V⊢;grind
  .intro h;cases AP:mz X (ak X) S o with
   |some q=>
    rw[AP]at h;obtain⟨k,V⟩:=(A4 q).1 AP;exact⟨k,by rw[V];exact h⟩
   |none=>
    rw[AP]at h;simp[py,qm]at h;cases AL:eT X (ak X) md all S o with
    |none=>grind
    |some p=>
     rw[AL]at h;obtain⟨AX,Ah⟩:=(A' p).1 AL;obtain⟨AY,Ai⟩:=(Z _ _ y).1 h;have Aq:=(nH (X:=X) (S:=S) (o:=o) (md:=md) (bV X) all).le (Nat.le_max_left AX AY) Ah;have Ar:=(pS (X:=X) (md:=md) (bV X) H all r p.1 (p.2::E)).le (Nat.le_max_right AX AY) Ai;simp[py,qm];grind
theorem Gq(H:List (List Nat))(N:List Cl)(all:List Oper):∀(ops:List Oper)(S:St)(E:List bn),iJ (λk=>pz X (bm X k) md H N all ops S E)=pz X (ak X) md H N all ops S E
 |[],S,E=>bg _
 |o::r,S,E=>by
  simp only[pz,qm];cases ou (H.getD E.length []) r with
  |true=>
   simp[No];split
   .exact vI all [o] S
   .exact bg _
  |false=>
  cases rC X.P N S o with
  |some x=>
   exact Gq H N all r _ _
  |none=>
   simp[vC,Rc];rw[eJ (g:=λp n=>pz X (bm X n) md H N all r p.1 (p.2::E)) ((nH (bV X) all).bind (g:=λp _=>TC N p) λp=>aO.const _) (λp=>yj (bV X) H N all r p.1 (p.2::E)),
    eJ (g:=λp _=>TC N p) (nH (bV X) all) (λp=>aO.const _),Ie]
   simp[Gq H N all r,bg]
theorem YR(H:List (List Nat))(all:List Oper)(S:St)(fl:List (Nat×Nat)):iJ (λk=>yZ X (bm X k) md H all S fl)=yZ X (ak X) md H all S fl:=by
 cases fl with
 |nil=>exact Ig _ all all S []
 |cons q r=>
  simp[yZ];cases gg S.mem (q::r)with
  |none=>exact bg _
  |some N=>exact Gq H N all all S []
theorem VY:ib X f .skip S=some (.normal,S):=bg _
theorem VZ{id:Nat}:ib X f (.exit id) S=some (.exit id,HU S (X.gh f (id+1000000))):=bg _
theorem YS:ib X f .ret S=some (.ret,S):=bg _
theorem YT{a b:Code}:ib X f (.seq a b) S=andThen (ib X f a S) (ib X f b):=zr (dm a S) (λA1=>dm b A1)
theorem V0{c:Operand}{a b:Code}:ib X f (.cond c a b) S=HW (ib X f a S) (ib X f b S) (S.au c):=by
 unfold ib;simp[den];unfold HW;split
 .grind
 .exact bg _
theorem TH{id:Nat}{c:Code}:ib X f (.block id c) S=HV id (ib X f c (S.enter X f id)):=by
 unfold ib;simp[den,NV];rw[eJ (dm c _) (λ_=>aO.const _)];simp[bg]
theorem QC{id:Nat}{ops:Array Oper}:ib X f (.region id ops false) S=y9 (St.leave X f id) (iB X (ak X) (X.md f id) ops.toList ops.toList S):=by
 unfold ib;simp[den,sR];rw[eJ (lM (bV X) _ _ _) (λ_=>aO.const _),vI];simp[bg]
theorem V1{id:Nat}{ops:Array Oper}:ib X f (.region id ops true) S=y9 (St.leave X f id) (yZ X (ak X) (X.md f id) (X.od f id) ops.toList S (X.fl f id)):=by
 unfold ib;simp[den,sR];rw[eJ (KN (bV X) _ _ _ _) (λ_=>aO.const _),YR];simp[bg]
theorem V2{c:Code}:ib X f (.loop c) S=andThen (ib X f c S) (ib X f (.loop c)):=by
 apply Option.ext;intro r;have AQ:∀S r,ib X f (.loop c) S=some r↔∃k,iter (den X f (bm X k) k c) k S=some r:=λS r=>eh (dm (.loop c) S);have hi:∀{k j i:Nat}{S r},k<=j->i<=j->iter (den X f (bm X k) k c) i S=some r->iter (den X f (bm X j) j c) j S=some r:=by
  intro k j i S r V Aj h;exact wY _ Aj ((yk (F:=λk=>den X f (bm X k) k c) (λS=>dm c S) i S).le V h)
 rw[AQ];constructor
 .rintro ⟨k,V⟩;cases k with
  |zero=>cases V
  |succ k=>
   rcases iT V with ⟨S1,J,A5⟩|⟨J,A5⟩
   .have:ib X f c S=some (.normal,S1):=(eh (dm c S)).2 ⟨k+1,J⟩;rw[this];exact (AQ S1 r).2 ⟨k+1,hi (aak _) (ajb k) A5⟩
   .have:ib X f c S=some r:=(eh (dm c S)).2 ⟨k+1,J⟩;rw[this];obtain⟨e,S1⟩:=r;cases e with
    |normal=>grind
    |_=>rfl
 .intro h;rcases iT h with ⟨S1,J,A5⟩|⟨J,A5⟩
  .obtain⟨k,V⟩:=(eh (dm c S)).1 J;obtain⟨j,Ak⟩:=(AQ S1 r).1 A5;refine⟨max k j+1,?_⟩;rw[iter,(dm c S).le (show k<=max k j+1 by omega) V];have:=(yk (F:=λk=>den X f (bm X k) k c) (λS=>dm c S) j S1).le (show j<=max k j+1 by omega) Ak;exact wY _ (show j<=max k j by omega) this
  .obtain⟨k,V⟩:=(eh (dm c S)).1 J;refine⟨k+1,?_⟩;rw[iter,(dm c S).le (ajb k) V];obtain⟨e,S1⟩:=r;cases e with
   |normal=>grind
   |_=>rfl
noncomputable def Ih(X:Ctx)(f:FuncId)(fn:Func)(c:Code)(cs:List aE)(args:List AV):Option (Out×List (Nat×aE)):=
 if (decide (args.length<=fn.ntmps)&&decide (cs.length<=100)&&(X.fp f).sites.all (λk=>decide (100<=k))&&decide (X.fp f).sites.Nodup)=true then
  fin X.P (X.fp f) cs.length fn.results.toList (ib X f c (entry fn.ntmps X.gl args cs (X.fp f).sites))
 else none
theorem Dv{h:List AV->Option AV}{args:List AV}{cs:List aE}(A6:X.ov=none)(A7:X.zT f=some h):ak X f args cs=ow h args cs:=by
 unfold ak;rw[<-yi (bV X f args cs)];have:(λn=>bm X (n+1) f args cs)=λ_=>ow h args cs:=by simp[bm,A6,A7]
 rw[this,bg]
theorem YU{fn:Func}{c:Code}{args:List AV}{cs:List aE}(A6:X.ov=none)(A7:X.zT f=none)(U:X.P.funcs[f]?=some fn)(AC:fn.body=some c)(AK:zc c=false):
 ak X f args cs=kH (Ih X f fn c cs) args (X.fp f).split:=by
 have hm:∀args,aO (λk=>tK X f (bm X k) k fn c args cs):=λargs=>H9 (bV X) f (m:=λk=>k) (λk=>ajb k) fn c args cs;have Z:∀args,iJ (λk=>tK X f (bm X k) k fn c args cs)=Ih X f fn c cs args:=by
  intro args;unfold tK Ih;split
  .have J:(λk=>fin X.P (X.fp f) cs.length fn.results.toList (den X f (bm X k) k c (entry fn.ntmps X.gl args cs (X.fp f).sites)))=λk=>(den X f (bm X k) k c (entry fn.ntmps X.gl args cs (X.fp f).sites)).bind λq=>fin X.P (X.fp f) cs.length fn.results.toList (some q):=by
    funext k;exact NX ..
   rw[J,eJ (dm c _) (λ_=>aO.const _),NX];simp[bg];rfl
  .exact bg _
 have AD:ak X f args cs=iJ (λk=>kH (λargs=>tK X f (bm X k) k fn c args cs) args (X.fp f).split):=by
  unfold ak;rw[<-yi (bV X f args cs)];congr 1;funext k;rw[bm,A6,A7,U];simp[AC,AK,zW]
 rw[AD];unfold kH;split
 .split
  .apply Option.ext;intro y;rw[eh (Cc (hm _) (hm _)),<-Z,<-Z];constructor
   .rintro ⟨n,A0⟩;unfold m8 at A0⊢;split at A0
    .rename_i a b AA AR;have f1:=(eh (hm _)).2 ⟨n,gE AA⟩;have f2:=(eh (hm _)).2 ⟨n,gE AR⟩;rw[f1,f2];rw[gE AA]at A0;exact A0
    grind
   .intro h;unfold m8 at h;split at h
    .rename_i a b AA AR;obtain⟨n,A0⟩:=(eh (hm _)).1 (gE AA);obtain⟨m,Al⟩:=(eh (hm _)).1 (gE AR);refine⟨max n m,?_⟩;rw[(hm _).le (Nat.le_max_left n m) A0,(hm _).le (Nat.le_max_right n m) Al];rw[gE AA]at h;exact h
    grind
  grind
 grind
end
abbrev bU:=Option (Out×List (Nat×aE))
abbrev Kt:=XE->St->bU
noncomputable def aK(X:Ctx)(f:FuncId)(c:Code)(S:St)(k:Kt):bU:=(ib X f c S).bind λp=>k p.1 p.2
noncomputable def runK(X:Ctx)(md:Bool)(all ops:List Oper)(S:St)(k:Kt):bU:=(iB X (ak X) md all ops S).bind λp=>k p.1 p.2
noncomputable def mB(X:Ctx)(md:Bool)(E:Nat×List (List Nat))(all ops:List Oper)(S:St)(H:List bn)(k:Kt):bU:=(jG X (ak X) md E all ops S H).bind λp=>k p.1 p.2
noncomputable def Dw(X:Ctx)(f:FuncId)(b:Code)(k:Kt):Kt
 | .normal,S=>aK X f b S k
 |e,S=>k e S
def Gr(id:Nat)(k:Kt):Kt
 | .exit U,S=>if U=id then k .normal S else k (.exit U) S
 |e,S=>k e S
noncomputable def Ii(X:Ctx)(f:FuncId)(c:Code)(k:Kt):Kt
 | .normal,S=>aK X f (.loop c) S k
 |e,S=>k e S
def Dx(X:Ctx)(f:FuncId)(id:Nat)(k:Kt):Kt
 | .normal,S=>k .normal (S.leave X f id)
 |e,S=>k e S
def Gs(P:Program)(p:gu)(N:Nat)(rs:List ResultVar):Kt
 | .normal,S=>finish P p N rs S
 | .ret,S=>finish P p N rs S
 | .panic t x,S=>A3 p N t x S
 | .exit _,_=>none
def V3:Bool×AV->Bool
 |(true,.d (.bool _))=>true
 |_=>false
def Dy:Bool×AV->Bool
 |(_,.d (.bool b))=>b
 |_=>false
def Env.kn:Env->Nat->Bool->Env
 |[],_,_=>[]
 |(t,x)::r,c,b=>if t=c then (t,true,.d (.bool b))::r else (t,x)::Env.kn r c b
def St.kn(S:St)(c:Nat)(b:Bool):St:={S with env:=Env.kn S.env c b}
section
variable {X:Ctx} {f:FuncId} {S:St} {k:Kt}
theorem wZ(r:Option (XE×St))(g:St->Option (XE×St)):(andThen r g).bind (λp=>k p.1 p.2)=r.bind λp=>match p with
 |(.normal,S)=>(g S).bind λp=>k p.1 p.2
 |(e,S)=>k e S:=by
 rcases r with _|⟨e,S⟩
 .rfl
 .cases e<;>rfl
theorem V4:aK X f .skip S k=k .normal S:=by simp only[aK,VY,aek]
theorem V5{id:Nat}:aK X f (.exit id) S k=k (.exit id) (HU S (X.gh f (id+1000000))):=by simp only[aK,VZ,aek]
theorem YV:aK X f .ret S k=k .ret S:=by simp only[aK,YS,aek]
theorem ir{a b:Code}:aK X f (.seq a b) S k=aK X f a S (Dw X f b k):=by
 simp only[aK,YT,wZ];congr 1;funext p;obtain⟨e,S⟩:=p;cases e<;>rfl
theorem ag{c:Code}:aK X f (.loop c) S k=aK X f c S (Ii X f c k):=by
 rw[aK,V2,wZ,aK];congr 1;funext p;obtain⟨e,S⟩:=p;cases e<;>rfl
theorem TJ{id:Nat}{c:Code}:aK X f (.block id c) S k=aK X f c (S.enter X f id) (Gr id k):=by
 simp only[aK,TH];rcases ib X f c (S.enter X f id)with _|⟨e,S⟩
 .rfl
 .cases e with
  |exit U=>
   simp only[HV,aek,Gr];split<;>rfl
  |_=>rfl
theorem KT{c:Operand}{a b:Code}:aK X f (.cond c a b) S k=if V3 (S.au c)=true then (if Dy (S.au c)=true then aK X f a S k else aK X f b S k)else none:=by
 simp only[aK,V0];generalize S.au c=v;obtain⟨g,x⟩:=v;cases g with
 |false=>rfl
 |true=>
  cases x with
  |d x=>
   cases x with
   |bool t=>cases t<;>rfl
   |_=>rfl
  |_=>rfl
theorem aaI{b:Bool}:∀{env:Env}{c:Nat},Env.lk env c=some (true,.d (.bool b))->Env.kn env c b=env
 |[],c,h=>by cases h
 |(t,x)::r,c,h=>by
  simp only[Env.lk]at h;simp only[Env.kn];split
  .rename_i A1;rw[aav A1]at h;cases h;rfl
  .rename_i A1;rw[aaf A1]at h;rw[aaI h]
theorem ae1{c:Tmp}{b:Bool}(h:S.au (.tmp c)=(true,.d (.bool b))):Env.lk S.env c=some (true,.d (.bool b)):=by
 simp only[St.au]at h;cases A5:Env.lk S.env c with
 |none=>rw[A5]at h;simp at h
 |some x=>rw[A5]at h;simp only[aeX]at h;rw[h]
theorem TL{c:Tmp}{a b:Code}:aK X f (.cond (.tmp c) a b) S k=if V3 (S.au (.tmp c))=true then (if Dy (S.au (.tmp c))=true then aK X f a (S.kn c true) k else aK X f b (S.kn c false) k)else none:=by
 rw[KT];generalize A8:S.au (.tmp c)=v;obtain⟨g,x⟩:=v;cases g with
 |false=>rfl
 |true=>
  cases x with
  |d x=>
   cases x with
   |bool t=>
    have:S.kn c t=S:=by
     unfold St.kn;rw[aaI (ae1 A8)]
    cases t with
    |true=>rw[this];rfl
    |false=>rw[this];rfl
   |_=>rfl
  |_=>rfl
theorem TM{v:Value}{a b:Code}:aK X f (.cond (.const v) a b) S k=if V3 (S.au (.const v))=true then (if Dy (S.au (.const v))=true then aK X f a S k else aK X f b S k)else none:=KT
theorem QD{id:Nat}{l:List Oper}:aK X f (.region id ⟨l⟩ false) S k=runK X (X.md f id) l l S (Dx X f id k):=by
 simp only[aK,QC,runK];rcases iB X (ak X) (X.md f id) l l S with _|⟨e,S⟩
 .rfl
 .cases e<;>rfl
noncomputable def Ep(X:Ctx)(md:Bool)(E:List (List Nat))(l:List Oper)(S:St)(k:Kt):List (Nat×Nat)->bU
 |[]=>mB X md (ia S.mem,E) l l S [] k
 |q::r=>(YC X (ak X) md E l S (gg S.mem (q::r))).bind λp=>k p.1 p.2
theorem V6{id:Nat}{l:List Oper}:aK X f (.region id ⟨l⟩ true) S k=Ep X (X.md f id) (X.od f id) l S (Dx X f id k) (X.fl f id):=by
 simp only[aK,V1];cases X.fl f id with
 |nil=>
  simp only[yZ,Ep,mB];rcases jG X (ak X) (X.md f id) (ia S.mem,X.od f id) l l S []with _|⟨e,S⟩
  .rfl
  .cases e<;>rfl
 |cons q r=>
  simp only[yZ,Ep];rcases YC X (ak X) (X.md f id) (X.od f id) l S (gg S.mem (q::r))with _|⟨e,S⟩
  .rfl
  .cases e<;>rfl
noncomputable def Es(X:Ctx)(md:Bool)(E:List (List Nat))(I:List Cl)(all ops:List Oper)(S:St)(H:List bn)(k:Kt):bU:=(pz X (ak X) md E I all ops S H).bind λp=>k p.1 p.2
noncomputable def LY(X:Ctx)(md:Bool)(E:List (List Nat))(I:List Cl)(all r:List Oper)(H:List bn)(k:Kt):Option (St×bn)->bU
 |some (S,p)=>Es X md E I all r S (p::H) k
 |none=>none
theorem abL{md:Bool}{E:List (List Nat)}{l:List Oper}:Ep X md E l S k []=mB X md (ia S.mem,E) l l S [] k:=rfl
noncomputable def LZ(X:Ctx)(md:Bool)(E:List (List Nat))(l:List Oper)(S:St)(k:Kt):Option (List Cl)->bU
 |some I=>Es X md E I l l S [] k
 |none=>none
theorem JD{md:Bool}{E:List (List Nat)}{l:List Oper}{q:Nat×Nat}{r:List (Nat×Nat)}:Ep X md E l S k (q::r)=LZ X md E l S k (gg S.mem (q::r)):=by
 simp only[Ep];cases gg S.mem (q::r)<;>rfl
noncomputable def Et(X:Ctx)(md:Bool)(E:List (List Nat))(I:List Cl)(all r:List Oper)(S:St)(o:Oper)(H:List bn)(k:Kt):Bool->bU
 |true=>if pv E H.reverse=true then runK X md all [o] S k else none
 |false=>LY X md E I all r H k (vC X (ak X) md I all S o (rC X.P I S o))
theorem Bq{md:Bool}{E:List (List Nat)}{I:List Cl}{all r:List Oper}{o:Oper}{H:List bn}:Es X md E I all (o::r) S H k=Et X md E I all r S o H k (ou (E.getD H.length []) r):=by
 simp only[Es,pz];cases ou (E.getD H.length []) r with
 |true=>
  simp only[No,Et];split
  .rfl
  .rfl
 |false=>
  simp only[Et];rcases vC X (ak X) md I all S o (rC X.P I S o)with _|⟨S1,p⟩<;>rfl
theorem kK{b:Code}:Dw X f b k .normal S=aK X f b S k:=rfl
theorem ae2{b:Code}{id:Nat}:Dw X f b k (.exit id) S=k (.exit id) S:=rfl
theorem ae3{b:Code}:Dw X f b k .ret S=k .ret S:=rfl
theorem ae4{b:Code}{t:TypeId}{x:D}:Dw X f b k (.panic t x) S=k (.panic t x) S:=rfl
theorem ae5{id:Nat}:Gr id k .normal S=k .normal S:=rfl
theorem ae6{id U:Nat}:Gr id k (.exit U) S=if U=id then k .normal S else k (.exit U) S:=rfl
theorem ae7{id:Nat}:Gr id k .ret S=k .ret S:=rfl
theorem ae8{id:Nat}{t:TypeId}{x:D}:Gr id k (.panic t x) S=k (.panic t x) S:=rfl
theorem abM{c:Code}:Ii X f c k .normal S=aK X f (.loop c) S k:=rfl
theorem abN{c:Code}{id:Nat}:Ii X f c k (.exit id) S=k (.exit id) S:=rfl
theorem abO{c:Code}:Ii X f c k .ret S=k .ret S:=rfl
theorem abP{c:Code}{t:TypeId}{x:D}:Ii X f c k (.panic t x) S=k (.panic t x) S:=rfl
theorem YW{id:Nat}:Dx X f id k .normal S=k .normal (S.leave X f id):=rfl
theorem YX{id:Nat}{t:TypeId}{x:D}:Dx X f id k (.panic t x) S=k (.panic t x) S:=rfl
theorem ae9{P:Program}{p:gu}{N:Nat}{rs:List ResultVar}:Gs P p N rs .normal S=finish P p N rs S:=rfl
theorem afa{P:Program}{p:gu}{N:Nat}{rs:List ResultVar}:Gs P p N rs .ret S=finish P p N rs S:=rfl
theorem afb{P:Program}{p:gu}{N:Nat}{rs:List ResultVar}{t:TypeId}{x:D}:Gs P p N rs (.panic t x) S=A3 p N t x S:=rfl
end
def Br(all:List Oper)(o:Oper):Option Nat:=
 match o.guard with
 |some (j,_)=>m6 all j
 |none=>none
noncomputable def tL(X:Ctx)(md:Bool)(S:St)(d:Option Nat)(all r:List Oper)(k:Kt):Option gA->bU
 |some ⟨.ret x,es,_⟩=>runK X md all r (({S with mem:=bX S.mem es}:St).put d true x) k
 |some ⟨.panic t x,es,_⟩=>k (.panic t x) {S with mem:=bX S.mem es}
 |none=>none
def N0(S:St)(k:Kt):Bool×AV->bU
 |(true,.jb t d)=>k (.panic t d) S
 |_=>none
noncomputable def yl(X:Ctx)(md:Bool)(S:St)(o:Oper)(all r:List Oper)(k:Kt):Op->bU
 | .call {callee:=.value O,args,..}=>tL X md S o.dst all r k (cY X (ak X) S o args.toList (S.au O))
 | .panic x=>N0 S k (S.au x)
 |_=>none
noncomputable def tM(X:Ctx)(md:Bool)(S:St)(o:Oper)(all r:List Oper)(k:Kt):dO->bU
 | .val c x=>if (iI S o&&c)=true then runK X md all r (S.put o.dst true x) k else none
 | .dA c x e=>if (iI S o&&c)=true then runK X md all r (({S with mem:=Mem.set S.mem e}:St).put o.dst true x) k else none
 | .no=>yl X md S o all r k o.op
noncomputable def xc(X:Ctx)(md:Bool)(S:St)(o:Oper)(all r:List Oper)(k:Kt)(b:Bool):dO->bU
 | .val c x=>if b=true->(iI S o&&c)=true then runK X md all r (S.put o.dst b x) k else none
 | .dA c x e=>if b=true then tM X md S o all r k (.dA c x e)else runK X md all r (S.put o.dst true .bC) k
 | .no=>if b=true then yl X md S o all r k o.op else runK X md all r (S.put o.dst true .bC) k
noncomputable def Ij(X:Ctx)(S:St)(o:Oper)(all r:List Oper)(k:Kt)(J t:Bool):Bool->bU
 |false=>xc X false S o all r k (t == J) (dC X.P S o)
 |true=>if (t == J)=true then tM X true (S.cz (Br all o) J) o all r k (dC X.P (S.cz (Br all o) J) o)else runK X true all r ((S.cz (Br all o) (!J)).put o.dst true (.bh [])) k
noncomputable def N1(X:Ctx)(md:Bool)(S:St)(o:Oper)(all r:List Oper)(k:Kt)(J:Bool):GV->bU
 | .sk t=>Ij X S o all r k J t md
 | .skip=>runK X md all r (S.put o.dst true (.bh [])) k
 | .bad=>none
section
variable {X:Ctx} {f:FuncId} {S:St} {k:Kt} {all r:List Oper} {md:Bool}
theorem Bs(o:Oper)(res:dO):(andThen (jl X (ak X) S o res) (iB X (ak X) md all r)).bind (λp=>k p.1 p.2)=tM X md S o all r k res:=by
 cases res with
 |val c x=>simp only[jl,tM];split<;>rfl
 |dA c x e=>simp only[jl,tM];split<;>rfl
 |no=>
  simp only[jl,tM,uu];split
  .rename_i O args A6 V;rw[V];simp only[yl];rcases cY X (ak X) S o args.toList (S.au O)with _|⟨out,es,ks⟩
   .rfl
   .cases out<;>rfl
  .rename_i x V;rw[V];simp only[yl];generalize S.au x=v;obtain⟨g,y⟩:=v;cases g<;>cases y<;>rfl
  .rename_i A' A9;unfold yl;split
   .rename_i heq;exact absurd heq (A' _ _ _)
   .rename_i heq;exact absurd heq (A9 _)
   .rfl
theorem YY:runK X md all [] S k=k .normal S:=rfl
theorem V7{d:Option Tmp}{op:Op}{ty:TypeId}{pos:String}{M:Array Edge}:runK X md all (⟨d,op,ty,pos,M,none⟩::r) S k=tM X md S ⟨d,op,ty,pos,M,none⟩ all r k (dC X.P S ⟨d,op,ty,pos,M,none⟩):=
 Bs _ _
theorem TN{d:Option Tmp}{op:Op}{ty:TypeId}{pos:String}{M:Array Edge}{j:Nat}{w:Bool}:runK X md all (⟨d,op,ty,pos,M,some (j,w)⟩::r) S k=N1 X md S ⟨d,op,ty,pos,M,some (j,w)⟩ all r k w (rB (ri all S j)):=by
 simp only[runK,iB,oV];generalize rB (ri all S j)=g;cases g with
 |skip=>rfl
 |bad=>rfl
 |sk t=>
  simp only[N1];cases md with
  |true=>
   simp only[Ij,Br];split
   .exact Bs _ _
   .rfl
  |false=>
  simp only[Ij];generalize A0:dC X.P S _=res;cases res with
  |val c x=>simp only[qJ,xc];split<;>rfl
  |dA c x e=>
   simp only[qJ,xc];split
   .exact Bs _ (.dA c x e)
   .rfl
  |no=>
   simp only[qJ,xc];split
   .exact Bs _ .no
   .rfl
theorem V8{d:Option Nat}{c:Prop}[Decidable c]{a b:Option gA}:tL X md S d all r k (if c then a else b)=if c then tL X md S d all r k a else tL X md S d all r k b:=by split<;>rfl
end
def N3{m:Mem}{A2:Nat}{ρ B:List Nat}{c:Prop}[Decidable c]{a b:Option (Out×List (Nat×aE))}:gB m A2 ρ B (if c then a else b)=if c then gB m A2 ρ B a else gB m A2 ρ B b:=by split<;>rfl
noncomputable def nx(X:Ctx)(md:Bool)(E:Nat×List (List Nat))(S:St)(d:Option Nat)(all r:List Oper)(H:List bn)(k:Kt):Option gA->bU
 |some ⟨.ret x,es,ks⟩=>mB X md E all r (({S with mem:=bX S.mem es}:St).put d true x) (⟨ks,es,true,x⟩::H) k
 |some ⟨.panic t x,es,ks⟩=>(Tl X md E all r d H ⟨{S with mem:=bX S.mem es},t,x,es,ks⟩).bind λp=>k p.1 p.2
 |none=>none
noncomputable def Dz(X:Ctx)(md:Bool)(E:Nat×List (List Nat))(S:St)(o:Oper)(all r:List Oper)(H:List bn)(k:Kt):Op->bU
 | .call {callee:=.value O,args,..}=>nx X md E S o.dst all r H k (cY X (ak X) S o args.toList (S.au O))
 |_=>none
noncomputable def xe(X:Ctx)(md:Bool)(E:Nat×List (List Nat))(S:St)(o:Oper)(all r:List Oper)(H:List bn)(k:Kt):dO->bU
 | .val c x=>if (iI S o&&c)=true then mB X md E all r (S.put o.dst true x) (⟨kj S o,[],true,x⟩::H) k else none
 | .dA c x e=>if (iI S o&&c&&(kj S o).contains e.key)=true then mB X md E all r (({S with mem:=Mem.set S.mem e}:St).put o.dst true x) (⟨kj S o,[e],true,x⟩::H) k else none
 | .no=>Dz X md E S o all r H k o.op
noncomputable def rF(X:Ctx)(md:Bool)(E:Nat×List (List Nat))(S:St)(d:Option Nat)(all r:List Oper)(H:List bn)(k:Kt):Option gA->bU
 |some ⟨.ret x,es,ks⟩=>mB X md E all r (({S with mem:=bX S.mem es}:St).put d true x) (⟨ks,es,true,x⟩::H) k
 |_=>none
noncomputable def zZ(X:Ctx)(md:Bool)(E:Nat×List (List Nat))(S:St)(o:Oper)(all r:List Oper)(H:List bn)(k:Kt):Op->bU
 | .call {callee:=.value O,args,..}=>rF X md E S o.dst all r H k (cY X (ak X) S o args.toList (S.au O))
 |_=>none
noncomputable def rG(X:Ctx)(md:Bool)(E:Nat×List (List Nat))(S:St)(o:Oper)(all r:List Oper)(H:List bn)(k:Kt):dO->bU
 | .val c x=>if (iI S o&&c)=true then mB X md E all r (S.put o.dst true x) (⟨kj S o,[],true,x⟩::H) k else none
 | .dA c x e=>if (iI S o&&c&&(kj S o).contains e.key)=true then mB X md E all r (({S with mem:=Mem.set S.mem e}:St).put o.dst true x) (⟨kj S o,[e],true,x⟩::H) k else none
 | .no=>zZ X md E S o all r H k o.op
noncomputable def sU(X:Ctx)(md:Bool)(E:Nat×List (List Nat))(S:St)(o:Oper)(all r:List Oper)(H:List bn)(k:Kt)(b:Bool):dO->bU
 | .val c x=>if b=true->(iI S o&&c)=true then mB X md E all r (S.put o.dst b x) (⟨kj S o,[],b,x⟩::H) k else none
 | .dA c x e=>if b=true then rG X md E S o all r H k (.dA c x e)else mB X md E all r (S.put o.dst true .bC) (⟨[],[],true,.bC⟩::H) k
 | .no=>if b=true then zZ X md E S o all r H k o.op else mB X md E all r (S.put o.dst true .bC) (⟨[],[],true,.bC⟩::H) k
noncomputable def DA(X:Ctx)(E:Nat×List (List Nat))(S:St)(o:Oper)(all r:List Oper)(H:List bn)(k:Kt)(J t:Bool):Bool->bU
 |false=>sU X false E S o all r H k (t == J) (dC X.P S o)
 |true=>if (t == J)=true then rG X true E (S.cz (Br all o) J) o all r H k (dC X.P (S.cz (Br all o) J) o)else mB X true E all r ((S.cz (Br all o) (!J)).put o.dst true (.bh [])) (⟨[],[],true,.bh []⟩::H) k
noncomputable def Ik(X:Ctx)(md:Bool)(E:Nat×List (List Nat))(S:St)(o:Oper)(all r:List Oper)(H:List bn)(k:Kt)(J:Bool):GV->bU
 | .sk t=>DA X E S o all r H k J t md
 | .skip=>mB X md E all r (S.put o.dst true (.bh [])) (⟨[],[],true,.bh []⟩::H) k
 | .bad=>none
section
variable {X:Ctx} {f:FuncId} {S:St} {k:Kt} {all r:List Oper} {md:Bool} {E:Nat×List (List Nat)} {H:List bn}
theorem uy(o:Oper)(res:dO):(LS H (fK X (ak X) S o res) (jG X (ak X) md E all r)).bind (λp=>k p.1 p.2)=rG X md E S o all r H k res:=by
 cases res with
 |val c x=>simp only[fK,rG];split<;>rfl
 |dA c x e=>simp only[fK,rG];split<;>rfl
 |no=>
  simp only[fK,rG,m7];split
  .rename_i O args A6 V;rw[V];simp only[zZ];rcases cY X (ak X) S o args.toList (S.au O)with _|⟨out,es,ks⟩
   .rfl
   .cases out<;>rfl
  .rename_i A';unfold zZ;split
   .rename_i heq;exact absurd heq (A' _ _ _)
   .rfl
def DB:List bn->List bn->List bn
 |[],r=>r
 |x::l,r=>DB l (x::r)
theorem Eu:∀(l r:List bn),DB l r=l.reverse++r
 |[],_=>rfl
 |x::l,r=>by rw[DB,Eu l];simp
theorem DC{E:List (List Nat)}{I:List Cl}:Es X md E I all [] S H k=if pv E (DB H [])=true then k .normal S else none:=by
 simp only[Es,pz];rw[Eu,aee];split<;>rfl
theorem ai:mB X md E all [] S H k=if pv E.2 (DB H [])=true then k .normal S else none:=by
 rw[Eu,aee];simp only[mB,jG];split<;>rfl
theorem V9{d:Option Tmp}{op:Op}{ty:TypeId}{pos:String}{M:Array Edge}:mB X md E all (⟨d,op,ty,pos,M,none⟩::r) S H k=xe X md E S ⟨d,op,ty,pos,M,none⟩ all r H k (dC X.P S ⟨d,op,ty,pos,M,none⟩):=by
 simp only[mB,jG,mz];generalize V:(⟨d,op,ty,pos,M,none⟩:Oper)=o;have AA:o.guard=none:=by subst V;rfl
 have Z:eT X (ak X) md all S o=fK X (ak X) S o (dC X.P S o):=by unfold eT;rw[AA]
 generalize A0:dC X.P S o=res;rw[A0]at Z;cases res with
 |val c x=>simp only[Ga,py,Z,xe];exact uy _ (.val c x)
 |dA c x e=>simp only[Ga,py,Z,xe];exact uy _ (.dA c x e)
 |no=>
  simp only[Ga,Nl,xe];split
  .rename_i O args A6 A4;rw[A4];simp only[Dz];cases A7:cY X (ak X) S o args.toList (S.au O)with
   |none=>
    simp only[yX,py,Z,fK,m7,A4,A7,nx];rfl
   |some res=>
    obtain⟨out,es,ks⟩:=res;cases out with
    |ret x=>
     simp only[yX,py,Z,fK,m7,A4,A7,nx];rfl
    |panic t x=>rfl
  .rename_i A';simp only[py,Z,fK,m7];unfold Dz;split
   .rename_i heq;exact absurd heq (A' _ _ _)
   .rfl
theorem TO{d:Option Tmp}{op:Op}{ty:TypeId}{pos:String}{M:Array Edge}{j:Nat}{w:Bool}:mB X md E all (⟨d,op,ty,pos,M,some (j,w)⟩::r) S H k=Ik X md E S ⟨d,op,ty,pos,M,some (j,w)⟩ all r H k w (rB (ri all S j)):=by
 simp only[mB,jG,mz,py,eT];generalize rB (ri all S j)=g;cases g with
 |skip=>rfl
 |bad=>rfl
 |sk t=>
  simp only[Ik];cases md with
  |true=>
   simp only[DA,Br];split
   .exact uy _ _
   .rfl
  |false=>
  simp only[DA];generalize A0:dC X.P S _=res;cases res with
  |val c x=>simp only[uv,sU];split<;>rfl
  |dA c x e=>
   simp only[uv,sU];split
   .exact uy _ (.dA c x e)
   .rfl
  |no=>
   simp only[uv,sU];split
   .exact uy _ .no
   .rfl
theorem TP{d:Option Nat}{c:Prop}[Decidable c]{a b:Option gA}:nx X md E S d all r H k (if c then a else b)=if c then nx X md E S d all r H k a else nx X md E S d all r H k b:=by split<;>rfl
theorem TQ{d:Option Nat}{c:Prop}[Decidable c]{a b:Option gA}:rF X md E S d all r H k (if c then a else b)=if c then rF X md E S d all r H k a else rF X md E S d all r H k b:=by split<;>rfl
end
def pT(n:Nat)(p:gu)(args:List AV)(cs:List aE):Bool:=
 decide (args.length<=n)&&decide (cs.length<=100)&&p.sites.all (λk=>decide (100<=k))&&decide p.sites.Nodup
def YZ{X:Ctx}{f:FuncId}{fn:Func}{c:Code}{args:List AV}{cs:List aE}{n:Nat}{rs:List ResultVar}{p:gu}(AB:X.ov=none)(AC:X.zT f=none)(AD:X.P.funcs[f]?=some fn)(AE:fn.body=some c)(AF:zc c=false)(AG:fn.ntmps=n)(AH:fn.results.toList=rs)
 (AI:X.fp f=p) (A0:p.split=false) (AJ:pT n p args cs=true):ak X f args cs=aK X f c (entry n X.gl args cs p.sites) (Gs X.P p cs.length rs):=by
 subst AI;rw[YU AB AC AD AE AF,A0];simp only[kH,Ih];subst AG;subst AH;rw[aav (by simpa only[pT]using AJ)];simp only[aK];rcases ib X f c _ with _|⟨e,S⟩
 .rfl
 .cases e<;>rfl
attribute [simp] dC.eq_1
attribute [simp] iI.eq_1
attribute [simp] jR.eq_1 jR.eq_2
attribute [simp] Go.Op.operands.eq_1 Go.Op.operands.eq_2 Go.Op.operands.eq_3 Go.Op.operands.eq_4 Go.Op.operands.eq_5 Go.Op.operands.eq_6 Go.Op.operands.eq_7 Go.Op.operands.eq_8 Go.Op.operands.eq_9 Go.Op.operands.eq_10 Go.Op.operands.eq_11 Go.Op.operands.eq_12 Go.Op.operands.eq_13 Go.Op.operands.eq_14 Go.Op.operands.eq_15 Go.Op.operands.eq_16 Go.Op.operands.eq_17 Go.Op.operands.eq_18 Go.Op.operands.eq_19 Go.Op.operands.eq_20 Go.Op.operands.eq_21 Go.Op.operands.eq_22 Go.Op.operands.eq_23 Go.Op.operands.eq_24 Go.Op.operands.eq_25 Go.Op.operands.eq_26 Go.Op.operands.eq_27 Go.Op.operands.eq_28 Go.Op.operands.eq_29 Go.Op.operands.eq_30 Go.Op.operands.eq_31 Go.Op.operands.eq_32 Go.Op.operands.eq_33 Go.Op.operands.eq_34 Go.Op.operands.eq_35 Go.Op.operands.eq_36 Go.Op.operands.eq_37 Go.Op.operands.eq_38 Go.Op.operands.eq_39 Go.Op.operands.eq_40 Go.Op.operands.eq_41 Go.Op.operands.eq_42 Go.Op.operands.eq_43
attribute [simp] St.au.eq_1 St.au.eq_2 St.au.eq_3 St.au.eq_4
attribute [simp] Env.lk.eq_1 Env.lk.eq_2
attribute [simp] St.put.eq_1 St.put.eq_2
attribute [simp] Mem.get.eq_1 Mem.get.eq_2
attribute [simp] Mem.set.eq_1 Mem.set.eq_2
attribute [simp] AV.mU.eq_1 AV.mU.eq_2 AV.mU.eq_3
attribute [simp] oQ.eq_1 oQ.eq_2 oQ.eq_3 oQ.eq_4 oQ.eq_5 oQ.eq_6
attribute [simp] AV.cells.eq_1 AV.cells.eq_2 AV.cells.eq_3
attribute [simp] nQ.eq_1 nQ.eq_2 nQ.eq_3 nQ.eq_4 nQ.eq_5
attribute [simp] q8.eq_1 q8.eq_2 q8.eq_3
attribute [simp] qA.eq_1 kq.eq_1 kq.eq_2 kq.eq_3
attribute [simp] oc.eq_1 oc.eq_2
attribute [simp] ue.eq_1 ue.eq_2 ue.eq_3 ue.eq_4
attribute [simp] CM.eq_1 CM.eq_2 CM.eq_3 CM.eq_4
attribute [simp] sC.eq_1 sC.eq_2 sC.eq_3 sC.eq_4 sC.eq_5 sC.eq_6 sC.eq_7 sC.eq_8 sC.eq_9
attribute [simp] fY.eq_1 fY.eq_2 fY.eq_3 fY.eq_4 fY.eq_5 fY.eq_6 fY.eq_7 fY.eq_8 fY.eq_9 fY.eq_10 fY.eq_11 fY.eq_12 fY.eq_13 fY.eq_14 fY.eq_15 fY.eq_16
attribute [simp] og.eq_1 og.eq_2 og.eq_3 og.eq_4 og.eq_5 og.eq_6 og.eq_7 og.eq_8
attribute [simp] LP.eq_1
attribute [simp] wu.eq_1 wu.eq_2
attribute [simp] Hi.eq_1 Hi.eq_2
attribute [simp] ri.eq_1
attribute [simp] Ec.eq_1
def TR{α:Type}(y:α):Option (List α)->Option (List α)
 |some H=>some (y::H)
 |none=>none
@[simp] def aj4{α:Type}(y:α)(H:List α):TR y (some H)=some (y::H):=rfl
@[simp] def aj5{α:Type}(y:α):TR y none=none:=rfl
@[simp] def toDs_nil:toDs []=some []:=rfl
@[simp] def toDs_d(y r):toDs (.d y::r)=TR y (toDs r):=by
 cases h:toDs r with
 |none=>exact toDs.eq_3 _ _ (λ_ _ _ I=>by rw[h]at I;cases I)
 |some H=>exact toDs.eq_2 _ _ _ h
@[simp] def toDs_vec(a b c d r):toDs (.vec a b c d::r)=none:=by rw[toDs.eq_def]
@[simp] def toDs_ptr(a b c r):toDs (.ptr a b c::r)=none:=by rw[toDs.eq_def]
@[simp] def toDs_lit(a r):toDs (.lit a::r)=none:=by rw[toDs.eq_def]
@[simp] def toDs_fn(a b r):toDs (.fn a b::r)=none:=by rw[toDs.eq_def]
@[simp] def toDs_nn(r):toDs (.nn::r)=none:=by rw[toDs.eq_def]
@[simp] def toDs_junk(r):toDs (.bC::r)=none:=by rw[toDs.eq_def]
attribute [simp] vr.eq_1 vr.eq_2
attribute [simp] MJ.eq_1 MJ.eq_2 MJ.eq_3 MJ.eq_4
attribute [simp] mW.eq_1 mW.eq_2 mW.eq_3 mW.eq_4 mW.eq_5 mW.eq_6 SP.eq_1
attribute [simp] qa.eq_1 qa.eq_2 qa.eq_3 qa.eq_4 qa.eq_5
attribute [simp] uO.eq_1
attribute [simp] Cy.eq_1 SB.eq_1 SB.eq_2 Yc.eq_1 Yc.eq_2
attribute [simp] xN.eq_1 xN.eq_2
attribute [simp] ja.eq_1 ja.eq_2 ja.eq_3 ja.eq_4 ja.eq_5
attribute [simp] AS.eq_1
attribute [simp] AT.eq_1
attribute [simp] Jm.eq_1 Jm.eq_2
attribute [simp] oR.eq_1 oR.eq_2 oR.eq_3 oR.eq_4
attribute [simp] Hj.eq_1
attribute [simp] tD.eq_1 tD.eq_2
attribute [simp] lI.eq_1
attribute [simp] uc.eq_1 uc.eq_2
attribute [simp] vt.eq_1 vt.eq_2
attribute [simp] nV.eq_1 nV.eq_2 nV.eq_3 nV.eq_4 nV.eq_5 nV.eq_6
attribute [simp] vq.eq_1
attribute [simp] qC.eq_1 qC.eq_2 qC.eq_3
attribute [simp] wA.eq_1 wA.eq_2 zM.eq_1 zM.eq_2 Ed.eq_1
attribute [simp] sD.eq_1 sD.eq_2 sD.eq_3 sD.eq_4
attribute [simp] mm.eq_1 mm.eq_2 mm.eq_3 mm.eq_4 mm.eq_5
attribute [simp] bound.eq_1 bound.eq_2 bound.eq_3
attribute [simp] bL.eq_1 bL.eq_2
attribute [simp] kT.eq_1 kT.eq_2 kT.eq_3 kT.eq_4 kT.eq_5 kT.eq_6 kT.eq_7 kT.eq_8 kT.eq_9 kT.eq_10 kT.eq_11 kT.eq_12
attribute [simp] D.cells.eq_1 D.cells.eq_2
attribute [simp] D.size.eq_1 D.size.eq_2
attribute [simp] D.flat.eq_1 D.flat.eq_2
mutual
@[simp] def Y0:∀x:D,Da x x=true
 | .int ..=>by simp[Da]
 | .bool _=>by simp[Da]
 | .str _=>by simp[Da]
 | .list xs=>by simp[Da,DD xs]
 | .agg xs=>by simp[Da,DD xs]
 | .B1=>by simp[Da]
@[simp] def DD:∀x:List D,A9 x x=true
 |[]=>by simp[A9]
 |x::r=>by simp[A9,Y0 x,DD r]
end
attribute [simp] Jt.eq_1 Jt.eq_2 Jt.eq_3 Ek.eq_1 Ek.eq_2 Db.eq_1 Db.eq_2 LR.eq_1 LR.eq_2 sO.eq_1 sO.eq_2 Tj.eq_1 Tj.eq_2 Ba.eq_1 Ba.eq_2 Ba.eq_3
attribute [simp] cY.eq_1 cY.eq_2
attribute [simp] dF.eq_1 dF.eq_2 pw.eq_1 jF.eq_1 Ej.eq_1 vT.eq_1 uY.eq_1
attribute [simp] collect.eq_1 collect.eq_2 collect.eq_3
attribute [simp] nE.eq_1 nE.eq_2
attribute [simp] wO.eq_1 wO.eq_2
attribute [simp] ke.eq_1 ke.eq_2 ke.eq_3 ke.eq_4 ke.eq_5 ke.eq_6 ke.eq_7 ke.eq_8 ke.eq_9 ke.eq_10 ke.eq_11 ke.eq_12
attribute [simp] oU.eq_1 oU.eq_2 oU.eq_3 oU.eq_4 oU.eq_5 oU.eq_6 oU.eq_7
attribute [simp] vS.eq_1 vS.eq_2 vS.eq_3 vS.eq_4
attribute [simp] m5.eq_1 m5.eq_2
attribute [simp] jk.eq_1 jk.eq_2 Ff.eq_1 Ff.eq_2
attribute [simp] qe.eq_1 qe.eq_2
attribute [simp] yT.eq_1 yT.eq_2 yT.eq_3
attribute [simp] yU.eq_1 yU.eq_2
attribute [simp] lZ.eq_1 lZ.eq_2
attribute [simp] gB.eq_1 gB.eq_2
attribute [simp] A8.eq_1 A8.eq_2
attribute [simp] C9.eq_1 C9.eq_2
attribute [simp] pO.eq_1 pO.eq_2 pO.eq_1 pO.eq_2
attribute [simp] nu.eq_1 nu.eq_2 nu.eq_3
attribute [simp] ep.eq_1 ep.eq_2 ep.eq_3 ep.eq_4 ep.eq_5 ep.eq_6 ep.eq_7 ep.eq_8 ep.eq_9 ep.eq_10 ep.eq_11 ep.eq_12
attribute [simp] ka.eq_1 ka.eq_2 ka.eq_3 ka.eq_4 ka.eq_5 ka.eq_6
attribute [simp] upO.eq_1 upO.eq_2
attribute [simp] up.eq_1 up.eq_2 up.eq_3 up.eq_4 up.eq_5 up.eq_6 up.eq_7 up.eq_8 up.eq_9 up.eq_10 up.eq_11 up.eq_12
attribute [simp] Hs.eq_1 Hs.eq_2 Hs.eq_3
attribute [simp] jS.eq_1 jS.eq_2
attribute [simp] base.eq_1 base.eq_2
attribute [simp] bX.eq_1 bX.eq_2
attribute [simp] HU.eq_1 HU.eq_2
attribute [simp] Gh.go.eq_1 Gh.go.eq_2 Gh.go.eq_3 Gh.go.eq_4
attribute [simp] St.xZ.eq_1 Jv.eq_1 Jv.eq_2 wP.eq_1 wP.eq_2 Yq.eq_1 Yq.eq_2 xP.eq_1 xP.eq_2
attribute [simp] finish.eq_1
attribute [simp] wG.eq_1 wG.eq_2
attribute [simp] CU.eq_1 CU.eq_2
attribute [simp] sH.eq_1
attribute [simp] St.AZ.eq_1
attribute [simp] zO.eq_1 zO.eq_2 zO.eq_3
attribute [simp] Hx.eq_1 Hx.eq_2
attribute [simp] nX.eq_1 nX.eq_2 nX.eq_3 nX.eq_4 nX.eq_5 nX.eq_6 nX.eq_7 nX.eq_8 nX.eq_9 nX.eq_10 nX.eq_11 nX.eq_12
attribute [simp] St.trim.eq_1
attribute [simp] pM.eq_1 pM.eq_2
attribute [simp] mapM.eq_1 mapM.eq_2
attribute [simp] sG.eq_1 sG.eq_2 sG.eq_3
attribute [simp] m4.eq_1 m4.eq_2 m4.eq_3 m4.eq_4 m4.eq_5 m4.eq_6 m4.eq_7 m4.eq_8 m4.eq_9 m4.eq_10 m4.eq_11 m4.eq_12
attribute [simp] nD.eq_1 nD.eq_2
attribute [simp] oneOf.eq_1 oneOf.eq_2
attribute [simp] AV.norm.eq_1 AV.norm.eq_2 AV.norm.eq_3 AV.norm.eq_4
attribute [simp] toD1.eq_1 toD1.eq_2 toD1.eq_3 toD1.eq_4
attribute [simp] toDsN.eq_1 toDsN.eq_2
attribute [simp] vw.eq_1 vw.eq_2 vw.eq_3 vw.eq_4 vw.eq_5 vw.eq_6 vw.eq_7 vw.eq_8 vw.eq_9 vw.eq_10 vw.eq_11 vw.eq_12
attribute [simp] fh.eq_1 fh.eq_2
attribute [simp] TK.agg.eq_1 TK.agg.eq_2 TK.agg.eq_3
attribute [simp] tM.eq_1 tM.eq_2 tM.eq_3
attribute [simp] xc.eq_1 xc.eq_2 xc.eq_3
attribute [simp] N1.eq_1 N1.eq_2 N1.eq_3
attribute [simp] yl.eq_1 yl.eq_2 yl.eq_3
attribute [simp] tL.eq_1 tL.eq_2 tL.eq_3
attribute [simp] N0.eq_1 N0.eq_2
attribute [simp] V3.eq_1 V3.eq_2
attribute [simp] Dy.eq_1 Dy.eq_2
attribute [simp] sx.eq_1
attribute [simp] wD.eq_1 MR.eq_1 Vb.eq_1 Vb.eq_2 zeroOf.eq_1 zeroOf.eq_2 zeroOf.eq_3
attribute [simp] St.A0.eq_1 St.A0.eq_2
attribute [simp] ug.eq_1 ug.eq_2
attribute [simp] lK.eq_1 lK.eq_2
attribute [simp] nC.eq_1 nC.eq_2
attribute [simp] xS.eq_1 xS.eq_2
attribute [simp] uj.eq_1 uj.eq_2
attribute [simp] oS.eq_1 oS.eq_2
attribute [simp] mw.eq_1 mw.eq_2
attribute [simp] wK.eq_1 wK.eq_2
attribute [simp] wL.eq_1 wL.eq_2
attribute [simp] jo.eq_1 jo.eq_2
attribute [simp] eB.eq_1 eB.eq_2
attribute [simp] kH.eq_1 kH.eq_2 kH.eq_3
attribute [simp] sP.eq_1 sP.eq_2
attribute [simp] m8.eq_1
attribute [simp] kj.eq_1 HF.eq_1 HF.eq_2 HF.eq_3
attribute [simp] vR.eq_1 vR.eq_2
attribute [simp] cD.eq_1 cD.eq_2 cD.eq_3 cD.eq_4
attribute [simp] xe.eq_1 xe.eq_2 xe.eq_3
attribute [simp] sU.eq_1 sU.eq_2 sU.eq_3
attribute [simp] Ik.eq_1 Ik.eq_2 Ik.eq_3
attribute [simp] Dz.eq_1 Dz.eq_2 rG.eq_1 rG.eq_2 rG.eq_3 zZ.eq_1 zZ.eq_2 rF.eq_1 rF.eq_2
attribute [simp] nx.eq_1 nx.eq_2 nx.eq_3
attribute [simp] mu.eq_1 mu.eq_2 mu.eq_3 mu.eq_4 mu.eq_5 mu.eq_6 mu.eq_7 mu.eq_8 mu.eq_9 mu.eq_10 mu.eq_11 mu.eq_12
attribute [simp] qb.eq_1 qb.eq_2
attribute [simp] St.freeze.eq_1
attribute [simp] St.iR.eq_1
attribute [simp] Go.Call.operands.eq_1
attribute [simp] D.isByte.eq_1 D.isByte.eq_2
attribute [simp] wj.eq_1 wj.eq_2 wj.eq_3 wj.eq_4
attribute [simp] eV.eq_1 eV.eq_2 eV.eq_3
attribute [simp] J6.eq_1 J6.eq_2
attribute [simp] V4 V5 YV ir TJ TL TM QD V6 abL kK ae2 ae3 ae4 ae5 ae6 ae7 ae8 abM abN abO abP YW YX ae9 afa afb YY V7 TN V8 N3 V9 TO TP TQ
attribute [simp] Js.eq_1 Js.eq_2 sN.eq_1 sN.eq_2 dX.eq_1 dX.eq_2
attribute [simp] Ij.eq_1 Ij.eq_2
attribute [simp] DA.eq_1 DA.eq_2
attribute [simp] Br.eq_1
attribute [simp] Env.kn.eq_1 Env.kn.eq_2 St.kn.eq_1
attribute [simp] pv.eq_1 A5.eq_1 A5.eq_2 A5.eq_3 Jq.eq_1 Jq.eq_2 Jp.eq_1 Jp.eq_2 DB.eq_1 DB.eq_2 sK.eq_1
attribute [simp] ow.eq_1 ow.eq_2 qf.eq_1
@[simp] def aqX(t:Bool):rB (some (true,.d (.bool t)))=.sk t:=rfl
@[simp] def aqY:rB (some (true,.bh []))=.skip:=rfl
attribute [simp] m6.eq_1
attribute [simp] St.cz St.prune keyOf St.leave St.enter sI Eg Nc St.CS HA jj pT entry dead eD nG nF D.at D.cell D.setCells A3
@[simp] def aj6(m ρ bor nv):∀E:List D,ug m ρ bor nv (E.map .d)=E.map .d
 |[]=>rfl
 |d::r=>by simp[aj6 m ρ bor nv r]
@[simp] def aj7(ρ bs):∀E:List D,xS ρ bs (E.map .d)=E.map .d
 |[]=>rfl
 |d::r=>by simp[aj7 ρ bs r]
@[simp] def Wa:∀E:List D,mw (E.map .d)=[]
 |[]=>rfl
 |d::r=>by simp[Wa r]
@[simp] def Y1(k v):∀E:List D,uj k v (E.map .d)=none
 |[]=>rfl
 |d::r=>by simp[Y1 k v r]
@[simp] def abQ(k v o l):∀E:List D,oS k v o l (E.map .d)=E.map .d
 |[]=>rfl
 |d::r=>by simp[abQ k v o l r]
@[simp] def TU:∀E:List D,lK (E.map .d)=nC E
 |[]=>rfl
 |d::r=>by simp[TU r]
attribute [simp] List.take_of_length_le
@[simp] def Code.at:Code->List Nat->Code
 |c,[]=>c
 | .seq a b,i::p=>if i=0 then Code.at a p else Code.at b p
 | .cond _ a b,i::p=>if i=0 then Code.at a p else Code.at b p
 | .block _ c,_::p=>Code.at c p
 | .loop c,_::p=>Code.at c p
 |c,_=>c
@[simp] def apQ:List.range 2=[0,1]:=rfl
@[simp] def apR:List.range 3=[0,1,2]:=rfl
@[simp] def apS:List.range 4=[0,1,2,3]:=rfl
@[simp] def apT:List.range 5=[0,1,2,3,4]:=rfl
@[simp] def apU:List.range 6=[0,1,2,3,4,5]:=rfl
@[simp] def apV(a b:Int):(a == b)=decide (a=b):=by by_cases h:a=b<;>simp[h]
def dE(n:Int):Prop:= -9223372036854775808<=n/\n<=9223372036854775807
def qL{n:Int}(h:dE n):IntKind.i64.wrap n=n:=IntWalk.i64_in _ (by unfold dE at h;omega)
def bu(n:Int)(h:dE n:=by unfold dE;omega):IntKind.i64.wrap n=n:=qL h
def q1(m:Nat):Nat:=m/4294967296%4294967296
def q2(m:Nat):Nat:=m/18446744073709551616%4294967296
def q3(m:Nat):Nat:=m/79228162514264337593543950336%4294967296
def q0(m:Nat):Nat:=m%4294967296
def qn(m:Nat):q0 m<4294967296/\q1 m<4294967296/\q2 m<4294967296/\q3 m<4294967296:=by unfold q0 q1 q2 q3;omega
def Gt{m:Nat}(h:m<340282366920938463463374607431768211456):m=q0 m+4294967296*q1 m+18446744073709551616*q2 m+79228162514264337593543950336*q3 m:=by
 unfold q0 q1 q2 q3;omega
def TV{a b c d:Nat}(M:a<4294967296)(D:b<4294967296)(A4:c<4294967296)(AF:d<4294967296){m:Nat}(h:m=a+4294967296*b+18446744073709551616*c+79228162514264337593543950336*d):
 q0 m=a/\q1 m=b/\q2 m=c/\q3 m=d:=by
 unfold q0 q1 q2 q3;omega
def aod(m n:Nat)(h:m+n<340282366920938463463374607431768211456):
 (q0 m+q0 n)%4294967296=q0 (m+n)/\
 (q1 m+q1 n+(q0 m+q0 n)/4294967296)%4294967296=q1 (m+n)/\
 (q2 m+q2 n+(q1 m+q1 n+(q0 m+q0 n)/4294967296)/4294967296)%4294967296=q2 (m+n)/\
 (q3 m+q3 n+(q2 m+q2 n+(q1 m+q1 n+(q0 m+q0 n)/4294967296)/4294967296)/4294967296)%4294967296=q3 (m+n):=by
 have Z:=Gt (m:=m) (by omega);have y:=Gt (m:=n) (by omega);have V:=qn m;have a2:=qn n;have:=TV (m:=m+n) (a:=(q0 m+q0 n)%4294967296) (b:=(q1 m+q1 n+(q0 m+q0 n)/4294967296)%4294967296) (c:=(q2 m+q2 n+(q1 m+q1 n+(q0 m+q0 n)/4294967296)/4294967296)%4294967296)
  (d:=(q3 m+q3 n+(q2 m+q2 n+(q1 m+q1 n+(q0 m+q0 n)/4294967296)/4294967296)/4294967296)%4294967296) (by omega) (by omega) (by omega) (by omega) (by omega)
 omega
def aj8(m n E H I J:Nat)(hm:m<340282366920938463463374607431768211456)(h:n<=m)(AA:q0 m+4294967296-q0 n=E)(AB:q1 m+4294967296-q1 n-(1-E/4294967296)=H)
 (AC:q2 m+4294967296-q2 n-(1-H/4294967296)=I) (AD:q3 m+4294967296-q3 n-(1-I/4294967296)=J):
 E%4294967296=q0 (m-n)/\H%4294967296=q1 (m-n)/\I%4294967296=q2 (m-n)/\J%4294967296=q3 (m-n):=by
 have Z:=Gt (m:=m) (by omega);have y:=Gt (m:=n) (by omega);have V:=qn m;have a2:=qn n;have key:∀a b c d A' A0 A1 A2:Nat,m=a+4294967296*b+18446744073709551616*c+79228162514264337593543950336*d->n=A'+4294967296*A0+18446744073709551616*A1+79228162514264337593543950336*A2->
  a<4294967296->b<4294967296->c<4294967296->d<4294967296->A'<4294967296->A0<4294967296->A1<4294967296->A2<4294967296->a+4294967296-A'=E->b+4294967296-A0-(1-E/4294967296)=H->c+4294967296-A1-(1-H/4294967296)=I->d+4294967296-A2-(1-I/4294967296)=J->
  m-n=E%4294967296+4294967296*(H%4294967296)+18446744073709551616*(I%4294967296)+79228162514264337593543950336*(J%4294967296):=by
  intro a b c d A' A0 A1 A2 AG AH AI AJ AK AL AM AN AO AP AQ A5 A6 A7;have N:E/4294967296=0\/E/4294967296=1:=by omega
  have O:H/4294967296=0\/H/4294967296=1:=by omega
  have U:I/4294967296=0\/I/4294967296=1:=by omega
  have z0:E%4294967296=E-4294967296*(E/4294967296):=by omega
  have A8:H%4294967296=H-4294967296*(H/4294967296):=by omega
  have z2:I%4294967296=I-4294967296*(I/4294967296):=by omega
  have AE:J/4294967296=1:=by rcases N with N|N<;>rcases O with O|O<;>rcases U with U|U<;>rw[N]at A5 z0<;>rw[O]at A6 A8<;>rw[U]at A7 z2<;>omega
  have z3:J%4294967296=J-4294967296*(J/4294967296):=by omega
  rw[z0,A8,z2,z3,AE];rcases N with N|N<;>rcases O with O|O<;>rcases U with U|U<;>rw[N]at A5⊢<;>rw[O]at A6⊢<;>rw[U]at A7⊢<;>omega
 have:=TV (m:=m-n) (a:=E%4294967296) (b:=H%4294967296) (c:=I%4294967296) (d:=J%4294967296) (by omega) (by omega) (by omega) (by omega)
  (key _ _ _ _ _ _ _ _ Z y V.1 V.2.1 V.2.2.1 V.2.2.2 a2.1 a2.2.1 a2.2.2.1 a2.2.2.2 AA AB AC AD)
 exact⟨this.1.symm,this.2.1.symm,this.2.2.1.symm,this.2.2.2.symm⟩
def afc(m n:Nat)(hm:m<340282366920938463463374607431768211456)(A3:n<340282366920938463463374607431768211456):
 (m<n↔q3 m<q3 n\/(q3 m=q3 n/\(q2 m<q2 n\/(q2 m=q2 n/\(q1 m<q1 n\/(q1 m=q1 n/\q0 m<q0 n)))))):=by
 have Z:=Gt (m:=m) (by omega);have y:=Gt (m:=n) (by omega);have V:=qn m;have a2:=qn n;constructor
 .intro h;omega
 .intro h;omega
def half{Y n b:Nat}(A3:0<n)(D:b<=1):
 (2*Y+b)/n=2*(Y/n)+(if n<=2*(Y%n)+b then 1 else 0)/\(2*Y+b)%n=2*(Y%n)+b-(if n<=2*(Y%n)+b then n else 0):=by
 have Z:=Nat.div_add_mod Y n;have y:=Nat.mod_lt Y A3;have key:∀q r:Nat,r<n->2*Y+b=n*q+r->(2*Y+b)/n=q/\(2*Y+b)%n=r:=by
  intro q r A9 he;rw[he,Nat.mul_add_div A3,Nat.mul_add_mod,Nat.div_eq_of_lt A9,Nat.mod_eq_of_lt A9];simp
 split
 .rename_i A4;refine key (2*(Y/n)+1) _ (by omega) ?_;rw[Nat.mul_add,aiK 2 (Y/n),<-Nat.mul_assoc];omega
 .rename_i A4;have:=key (2*(Y/n)) (2*(Y%n)+b) (by omega) (by
   rw[aiK 2 (Y/n),<-Nat.mul_assoc];omega)
  simpa using this
def gj(z:Int):Int×Bool:=if-9223372036854775808<=z/\z<=9223372036854775807 then (z,true)else (0,false)
def sV(a b:Int):Int×Int:=if b=0 then (0,3)else if a= -9223372036854775808/\b= -1 then (0,2)else (a.tdiv b,0)
def zu(a b:Int):Int×Int:=if b=0 then (0,3)else (a.tmod b,0)
def Bt(a b:Int):a.tdiv b=(if decide (a<0)=decide (b<0)then ((a.natAbs/b.natAbs:Nat):Int)else-((a.natAbs/b.natAbs:Nat):Int)):=by
 rcases Int.lt_or_le a 0 with M|M<;>rcases Int.lt_or_le b 0 with D|D
 .rw[aav (by simp[M,D])];obtain⟨m,rfl⟩:∃m:Nat,a= -(m:Int):=⟨a.natAbs,by omega⟩;obtain⟨n,rfl⟩:∃n:Nat,b= -(n:Int):=⟨b.natAbs,by omega⟩;simp[Int.neg_tdiv,Int.tdiv_neg]
 .rw[aaf (by simp[M];omega)];obtain⟨m,rfl⟩:∃m:Nat,a= -(m:Int):=⟨a.natAbs,by omega⟩;obtain⟨n,rfl⟩:∃n:Nat,b=(n:Int):=⟨b.natAbs,by omega⟩;simp[Int.neg_tdiv]
 .rw[aaf (by simp[D];omega)];obtain⟨m,rfl⟩:∃m:Nat,a=(m:Int):=⟨a.natAbs,by omega⟩;obtain⟨n,rfl⟩:∃n:Nat,b= -(n:Int):=⟨b.natAbs,by omega⟩;simp[Int.tdiv_neg]
 .rw[aav (by simp;omega)];obtain⟨m,rfl⟩:∃m:Nat,a=(m:Int):=⟨a.natAbs,by omega⟩;obtain⟨n,rfl⟩:∃n:Nat,b=(n:Int):=⟨b.natAbs,by omega⟩;simp
def Y2(a b:Int):a.tmod b=(if a<0 then-((a.natAbs%b.natAbs:Nat):Int)else ((a.natAbs%b.natAbs:Nat):Int)):=by
 have D:a.tmod b=a.tmod (b.natAbs:Int):=by
  rcases Int.lt_or_le b 0 with D|D
  .obtain⟨n,rfl⟩:∃n:Nat,b= -(n:Int):=⟨b.natAbs,by omega⟩;simp[Int.tmod_neg]
  .obtain⟨n,rfl⟩:∃n:Nat,b=(n:Int):=⟨b.natAbs,by omega⟩;simp
 rw[D];split
 .obtain⟨m,rfl⟩:∃m:Nat,a= -(m:Int):=⟨a.natAbs,by omega⟩;rw[Int.neg_tmod,Int.natAbs_neg];simp only[Int.natAbs_natCast];rw[<-Int.ofNat_tmod]
 .obtain⟨m,rfl⟩:∃m:Nat,a=(m:Int):=⟨a.natAbs,by omega⟩;simp only[Int.natAbs_natCast];rw[<-Int.ofNat_tmod]
def Ri(a b:Int):a*b=(if decide (a<0)=decide (b<0)then ((a.natAbs*b.natAbs:Nat):Int)else-((a.natAbs*b.natAbs:Nat):Int)):=by
 rcases Int.lt_or_le a 0 with M|M<;>rcases Int.lt_or_le b 0 with D|D
 .rw[aav (by simp[M,D])];obtain⟨m,rfl⟩:∃m:Nat,a= -(m:Int):=⟨a.natAbs,by omega⟩;obtain⟨n,rfl⟩:∃n:Nat,b= -(n:Int):=⟨b.natAbs,by omega⟩;simp[Int.neg_mul,Int.mul_neg]
 .rw[aaf (by simp[M];omega)];obtain⟨m,rfl⟩:∃m:Nat,a= -(m:Int):=⟨a.natAbs,by omega⟩;obtain⟨n,rfl⟩:∃n:Nat,b=(n:Int):=⟨b.natAbs,by omega⟩;simp[Int.neg_mul]
 .rw[aaf (by simp[D];omega)];obtain⟨m,rfl⟩:∃m:Nat,a=(m:Int):=⟨a.natAbs,by omega⟩;obtain⟨n,rfl⟩:∃n:Nat,b= -(n:Int):=⟨b.natAbs,by omega⟩;simp[Int.mul_neg]
 .rw[aav (by simp;omega)];obtain⟨m,rfl⟩:∃m:Nat,a=(m:Int):=⟨a.natAbs,by omega⟩;obtain⟨n,rfl⟩:∃n:Nat,b=(n:Int):=⟨b.natAbs,by omega⟩;simp
def ei(b:Bool):Int:=if b=true then 1 else 0
@[simp] def KU(p:Int×Bool×Int):AV:=.bh [.d (.int .i64 p.1),.d (.bool p.2.1),.d (.int .i64 p.2.2)]
def gC:Int×Bool×Int:=(0,false, -1)
def oA(p:Int×Bool):Int×Bool×Int:=if p.2=true then (p.1,false,0)else (0,false,2)
def m9(p:Int×Int):Int×Bool×Int:=if p.2=3 then (0,false,1)else if p.2=0 then (p.1,false,0)else (0,false,2)
def mC(op a:Int)(t:Bool):Int×Bool×Int:=
 if t=true then (if a≠0/\a≠1 then gC else if op=7 then (ei (decide (a=0)),true,0)else gC)
 else if op=6 then oA (gj (0-a))else gC
def Gu(op a b:Int):Int×Bool×Int:=
 if op=13 then (ei (decide (a=b)),true,0)else if op=14\/op=20 then (ei (decide (a≠b)),true,0)
 else if op=19 then (ei (decide (a=1/\b=1)),true,0)else if op=21 then (ei (decide (a=1\/b=1)),true,0)else gC
def DE(op a b:Int):Int×Bool×Int:=
 if op=8 then oA (gj (a+b))else if op=9 then oA (gj (a-b))else if op=10 then oA (gj (a*b))else if op=11 then m9 (sV a b)else if op=12 then m9 (zu a b)
 else if op=13 then (ei (decide (a=b)),true,0)else if op=14 then (ei (decide (a≠b)),true,0)else if op=15 then (ei (decide (a<b)),true,0)
 else if op=16 then (ei (decide (b<a)),true,0)else if op=17 then (ei (decide (a<=b)),true,0)else if op=18 then (ei (decide (b<=a)),true,0)else gC
def nZ(op a b:Int)(t:Bool):Int×Bool×Int:=
 if t=true then (if (a≠0/\a≠1)\/(b≠0/\b≠1)then gC else Gu op a b)else DE op a b
def Wb(e b:Int):Int:=if e<b then e+1 else e
def aj9(k a b q e:Int):List Int:=
 if k=10 then (if a=0 then [a,b,0,0]else [a,b,ei (decide (b<=Wb e b)),Wb e b])
 else if k=11 then (if a=0 then (if q=0 then [a,b,q,e]else [a,b,ei (decide (Wb e b<b)),Wb e b])else [a,b,1,0])
 else [a,b,q,e]
def tpS(a b q e p r:Int):List Int:=
 let H:=if a≠0/\p=0/\r=0 then 1 else r
 let E:=if a≠0/\p=0/\r=0 then 0 else e
 if H=0 then [a,b,q,E,ei (decide (a≠0)),H]else [a,b,ei (decide (E<b)),Wb E b,ei (decide (a≠0)),ei (decide (E<b))]
def cuS(a s v q c p:Int):List Int:=
 let D:=if s≠0 then 0 else if a≠0/\p=0/\c<9223372036854775807 then c+1 else c
 [a,s,v,ei (decide (v<=D)),D,ei (decide (a≠0))]
def cdS(a s v q c p:Int):List Int:=
 let D:=if s≠0 then v else if a≠0/\p=0/\ -9223372036854775808<c then c-1 else c
 [a,s,v,ei (decide (D<=0)),D,ei (decide (a≠0))]
def aka(k a b q e p r:Int):List Int:=
 if k=12 then tpS a b q e p r else if k=13 then cuS a b q e p r else if k=14 then cdS a b q e p r else [a,b,q,e,p,r]
def akb(k a b q:Int):List Int:=
 if k=15 then [a,ei (decide (a≠0/\q=0)),ei (decide (a≠0))]else if k=16 then [a,ei (decide (a=0/\q≠0)),ei (decide (a≠0))]
 else if k=17 then [a,b,ei (decide (a≠0\/(q≠0/\b=0)))]else if k=18 then [a,b,ei (decide (b=0/\(q≠0\/a≠0)))]else [a,b,q]
def akc(k:Int):List Int->List Int
 |[a,b,q]=>akb k a b q
 |[a,b,q,e]=>aj9 k a b q e
 |[a,b,q,e,p,r]=>aka k a b q e p r
 |c=>c
inductive Ends(succ:Nat->List Nat):Nat->Prop
 |mk (i:Nat) (h:∀j∈succ i,Ends succ j):Ends succ i
inductive Way(succ:Nat->List Nat):Nat->Nat->Prop
 |one {i j} (h:j∈succ i):Way succ i j
 |more {i j k} (h:Way succ i j) (M:k∈succ j):Way succ i k
def Way.trans{succ:Nat->List Nat}{i j k:Nat}(h:Way succ i j)(M:Way succ j k):Way succ i k:=by
 induction M with
 |one N=>exact .more h N
 |more _ N ih=>exact .more ih N
def fresh(D:List Nat):Nat:=D.countP (·== 0)
structure Ew(succ:Nat->List Nat)(D I:List Nat):Prop where
 len:I.length=D.length
 afd:∀i,I.getD i 0=1↔D.getD i 0=1
 black:∀i,D.getD i 0=2->I.getD i 0=2
 afe:(∀i,D.getD i 0<=2)->∀i,I.getD i 0<=2
 ends:(∀i,D.getD i 0=2->Ends succ i)->∀i,I.getD i 0=2->Ends succ i
 fresh:fresh I<=fresh D
def Ew.refl(succ:Nat->List Nat)(s:List Nat):Ew succ s s:=⟨rfl,λ_=>amK,λ_ h=>h,λh=>h,λh=>h,aak _⟩
def Ew.trans{succ:Nat->List Nat}{a b c:List Nat}(h:Ew succ a b)(k:Ew succ b c):Ew succ a c:=
 ⟨by rw[k.len,h.len],λi=>(k.afd i).trans (h.afd i),λi hi=>k.black i (h.black i hi),λO=>k.afe (h.afe O),λhe=>k.ends (h.ends he),ajf k.fresh h.fresh⟩
def left(g:List Bool):Nat:=g.countP (·== false)
structure Bu(succ:Nat->List Nat)(s E:List Bool×Bool):Prop where
 len:E.1.length=s.1.length
 ends:(∀i<s.1.length,s.1.getD i true=true->Ends succ i)->∀i<s.1.length,E.1.getD i true=true->Ends succ i
 less:E.2=true->s.2=false->left E.1<left s.1
 le:left E.1<=left s.1
 more:s.2=true->E.2=true
 same:E.2=false->E=s
def Bu.trans{succ:Nat->List Nat}{a b c:List Bool×Bool}(h:Bu succ a b)(k:Bu succ b c):Bu succ a c:=
 ⟨by
  rw[k.len,h.len],λhe=>by have:=k.ends;rw[h.len]at this;exact this (h.ends he),λH M=>by
  cases J:b.2 with
  |true=>exact Nat.lt_of_le_of_lt k.le (h.less J M)
  |false=>exact afO (k.less H J) h.le,ajf k.le h.le,λH=>k.more (h.more H),λH=>by
  cases J:b.2 with
  |true=>rw[k.more J]at H;cases H
  |false=>rw[k.same H,h.same J]⟩
structure ax where
 op:Int
 a:Int
 b:Int
 n:Int
 m:Int
def iV(cells at_ n:Int):Bool:=decide (0<=at_)&&decide (0<=n)&&decide (n<=cells)&&decide (at_<=cells-n)
def Bv(x:ax):Bool:=
 if x.a=0 then decide (x.b=6)||decide (8<=x.b)&&decide (x.b<=18)
 else if x.a=1 then decide (x.b=7)||decide (x.b=13)||decide (x.b=14)||decide (19<=x.b)&&decide (x.b<=21)
 else false
def N4(cells:Int)(x:ax):Bool:=decide (0<=x.n)&&decide (x.n<=x.m)&&decide (x.m<=255)&&iV cells x.a (x.m-x.n+1)
def fZ(D:Int->Nat)(cells last at_:Int)(x:ax):Bool:=
 if x.op=1\/x.op=11 then true
 else if x.op=2\/x.op=3\/x.op=6\/x.op=14 then iV cells x.a 1
 else if x.op=13 then iV cells x.a 1&&iV cells x.b 2
 else if x.op=4\/x.op=5\/x.op=7 then N4 cells x
 else if x.op=8 then Bv x
 else if x.op=9\/x.op=10 then decide (0<=x.a)&&decide (x.a<=last)
 else if x.op=12 then decide (0<D x.b)&&iV cells x.a (D x.b)
 else if x.op=15 then decide (at_=last)
 else false
def pA(n:Nat)(t:Bool)(S:List Bool):Option (List Bool):=
 if S.length<n then none else if t&&(S.drop (S.length-n)).any (λb=>!b)then none else some (S.take (S.length-n))
def qg(t:Bool)(S:List Bool):Option (List Bool):=if S.length<64 then some (S++[t])else none
def mD(S:List Bool):Option (List Bool):=if S=[]then some []else none
def dH(x:ax)(S:List Bool):Option (List Bool):=
 if x.op=1 then qg (decide (x.n=0)||decide (x.n=1)) S
 else if x.op=2 then qg false S
 else if x.op=3\/x.op=13\/x.op=14 then qg true S
 else if x.op=4 then (pA 1 false S).bind (qg false)
 else if x.op=5 then (pA 1 false S).bind (qg true)
 else if x.op=6 then pA 1 false S
 else if x.op=7 then pA 2 false S
 else if x.op=8 then (pA (if x.b=6\/x.b=7 then 1 else 2) (decide (x.a=1)) S).bind (qg (decide (x.b=7)||decide (13<=x.b)))
 else if x.op=10 then (pA 1 true S).bind mD
 else mD S
def akd(ins:List ax)(i:Nat):List Nat:=
 match ins[i]? with
 |none=>[]
 |some x=>if x.op=9 then [x.a.toNat]else if x.op=10 then [i+1,x.a.toNat]else if x.op=15 then []else [i+1]
noncomputable def rH(X:Ctx)(f:FuncId)(c:Code)(S:St)(D:List DF):XD:=iJ λk=>j0 X f (bm X k) k c S D
noncomputable def Il(X:Ctx)(f:FuncId)(H:AV)(c:Code)(S:St):Option (XE×St):=iJ λk=>ql X f (bm X k) k H c S
noncomputable def JE(X:Ctx):bN:=λg args cs=>iJ λk=>oX X k (bm X k) g args cs
abbrev DH:=XE->St->List DF->bU
noncomputable def lB(X:Ctx)(f:FuncId)(c:Code)(S:St)(D:List DF)(k:DH):bU:=(rH X f c S D).bind λp=>k p.1 p.2.1 p.2.2
noncomputable def Bw(X:Ctx)(md:Bool)(all ops:List Oper)(S:St)(D:List DF)(k:DH):bU:=(gJ X (ak X) md all ops S D).bind λp=>k p.1 p.2.1 p.2.2
noncomputable def Im(X:Ctx)(f:FuncId)(b:Code)(k:DH):DH
 | .normal,S,D=>lB X f b S D k
 |e,S,D=>k e S D
def JF(X:Ctx)(f:FuncId)(id:Nat)(k:DH):DH
 | .normal,S,D=>k .normal (S.leave X f id) D
 |e,S,D=>k e S D
noncomputable def N5(X:Ctx)(md:Bool)(all r:List Oper)(D:List DF)(k:DH):Kt
 | .normal,S=>Bw X md all r S D k
 |e,S=>k e S D
noncomputable def L3(X:Ctx)(md:Bool)(all r:List Oper)(o:Oper)(S:St)(D:List DF)(k:DH):Option DF->bU
 |some d=>Bw X md all r (S.put o.dst true .bC) (d::D) k
 |none=>runK X md all [o] S (N5 X md all r D k)
section
variable {X:Ctx} {f:FuncId} {S:St} {D:List DF} {md:Bool}
theorem zv(all:List Oper):∀(ops:List Oper)(S:St)(D:List DF),iJ (λk=>gJ X (bm X k) md all ops S D)=gJ X (ak X) md all ops S D
 |[],S,D=>bg _
 |o::r,S,D=>by
  simp only[gJ];cases oW S o with
  |some d=>exact zv all r _ _
  |none=>
   simp only[Gp];rw[eJ (g:=λx n=>nT (λS1=>gJ X (bm X n) md all r S1 D) D x) (vH (bV X) all) (λx=>by
    obtain⟨e,S1⟩:=x;cases e with
    |normal=>exact oz (bV X) all r S1 D
    |_=>exact aO.const _),KQ]
   congr 1;funext x;obtain⟨e,S1⟩:=x;cases e with
   |normal=>exact zv all r S1 D
   |_=>exact bg _
theorem dmD(c:Code)(S:St)(D:List DF):aO (λk=>j0 X f (bm X k) k c S D):=KP (bV X) f (m:=λk=>k) (λk=>ajb k) c S D
theorem Wc{a b:Code}:rH X f (.seq a b) S D=Np (rH X f b) (rH X f a S D):=by
 unfold rH;simp only[j0,Rd];rw[eJ (g:=λx n=>sT (j0 X f (bm X n) n b) x) (dmD a S D) (λx=>by
  obtain⟨e,S1,E⟩:=x;cases e with
  |normal=>exact dmD b S1 E
  |_=>exact aO.const _)]
 congr 1;funext x;obtain⟨e,S1,E⟩:=x;cases e<;>first|rfl|exact bg _
theorem oB{c:Code}(h:∀k,j0 X f (bm X k) k c S D=Bb D (den X f (bm X k) k c S)):rH X f c S D=Bb D (ib X f c S):=by
 unfold rH ib;have:(λk=>j0 X f (bm X k) k c S D)=λk=>(den X f (bm X k) k c S).bind λq=>dT D q:=by
  funext k;rw[h,JC]
 rw[this,eJ (dm c S) (λ_=>aO.const _),JC];simp only[bg]
theorem Wd{id:Nat}{ops:Array Oper}(h:Dc ops.toList=true):rH X f (.region id ops false) S D=Dd (St.leave X f id) (gJ X (ak X) (X.md f id) ops.toList ops.toList S D):=by
 unfold rH;have:(λk=>j0 X f (bm X k) k (.region id ops false) S D)=λk=>(gJ X (bm X k) (X.md f id) ops.toList ops.toList S D).bind λq=>lT (St.leave X f id) q:=by
  funext k;simp only[j0,h,Bool.not_false,Bool.and_self,Dr]
 rw[this,eJ (oz (bV X) _ _ _ _) (λ_=>aO.const _),zv,Dr];simp only[bg]
variable {k:DH}
theorem We{a b:Code}:lB X f (.seq a b) S D k=lB X f a S D (Im X f b k):=by
 simp only[lB,Wc];rcases rH X f a S D with _|⟨e,S1,E⟩
 .rfl
 .cases e<;>rfl
theorem oC{c:Code}(h:rH X f c S D=Bb D (ib X f c S)):lB X f c S D k=aK X f c S λe S=>k e S D:=by
 simp only[lB,aK,h];rcases ib X f c S with _|⟨e,S1⟩<;>rfl
theorem TX{o:Operand}{a b:Code}:lB X f (.cond o a b) S D k=aK X f (.cond o a b) S λe S=>k e S D:=oC (oB λ_=>rfl)
theorem Wf:lB X f .ret S D k=aK X f .ret S λe S=>k e S D:=oC (oB λ_=>rfl)
theorem TY:lB X f .skip S D k=aK X f .skip S λe S=>k e S D:=oC (oB λ_=>rfl)
theorem TZ{c:Code}:lB X f (.loop c) S D k=aK X f (.loop c) S λe S=>k e S D:=oC (oB λ_=>rfl)
theorem QE{id:Nat}{c:Code}:lB X f (.block id c) S D k=aK X f (.block id c) S λe S=>k e S D:=oC (oB λ_=>rfl)
theorem T0{id:Nat}{ops:Array Oper}:lB X f (.region id ops true) S D k=aK X f (.region id ops true) S λe S=>k e S D:=oC (oB λ_=>rfl)
theorem Wg{id:Nat}{l:List Oper}:lB X f (.region id ⟨l⟩ false) S D k=if Dc l=true then Bw X (X.md f id) l l S D (JF X f id k)else aK X f (.region id ⟨l⟩ false) S λe S=>k e S D:=by
 split
 .rename_i h;simp only[lB,Bw,Wd (ops:=⟨l⟩) h];rcases gJ X (ak X) (X.md f id) l l S D with _|⟨e,S1,E⟩
  .rfl
  .cases e<;>rfl
 .rename_i h;exact oC (oB λ_=>by simp[j0,h])
theorem Wh{all:List Oper}:Bw X md all [] S D k=k .normal S D:=rfl
theorem T4{all r:List Oper}{o:Oper}:Bw X md all (o::r) S D k=L3 X md all r o S D k (oW S o):=by
 simp only[Bw,gJ];cases oW S o with
 |some d=>rfl
 |none=>
  simp only[L3,runK,iB,Gp,Bm];rcases oV X (ak X) md all S o with _|⟨e,S1⟩
  .rfl
  .cases e<;>rfl
end
noncomputable def Io(X:Ctx)(p:gu)(E:Nat)(rs:List ResultVar):DH
 |e,S,[]=>Gs X.P p E rs e S
 |e,S,[d]=>vD X p E rs (JE X) S d (Gc e)
 |_,_,_=>none
noncomputable def ym(X:Ctx)(f:FuncId)(D:AV)(c:Code)(S:St)(k:Kt):bU:=(Il X f D c S).bind λp=>k p.1 p.2
def L4(P:Program)(p:gu)(E:Nat)(rs:List ResultVar):Kt
 | .normal,S=>finish P p E rs S
 | .ret,S=>finish P p E rs S
 |_,_=>none
section
variable {X:Ctx} {f:FuncId} {S:St}
theorem tN(X:Ctx):fC λk=>oX X k (bm X k):=Ia (bV X) (m:=λk=>k) (λk=>ajb k)
theorem QF{C:Nat->bN}(A':fC C)(m:Mem)(y:Nat)(g:FuncId)(H:List AV)(mt:List Nat):iJ (λk=>eD (C k) m y g H mt)=eD (λg a c=>iJ λk=>C k g a c) m y g H mt:=by
 unfold eD nG nF;simp only[zn];rw[eJ (A' _ _ _) (λ_=>aO.const _)];simp only[bg]
theorem Wi(p:gu)(E:Nat)(rs:List ResultVar)(d:DF)(D:Option AV):iJ (λk=>vD X p E rs (oX X k (bm X k)) S d D)=vD X p E rs (JE X) S d D:=by
 cases D with
 |none=>exact bg _
 |some D=>
  simp only[vD,Rg,Rf S (eD _ _ _ _ _ _)];rw[eJ (g:=λS _=>finish X.P p E rs S) ((pR (tN X) _ _ _ _ _).bind (g:=λc _=>wR S (some c)) λ_=>aO.const _) (λ_=>aO.const _),
   eJ (g:=λc _=>wR S (some c)) (pR (tN X) _ _ _ _ _) (λ_=>aO.const _),QF (tN X)]
  simp only[bg];rfl
theorem Wj{fn:Func}{c:Code}{args:List AV}{cs:List aE}{n:Nat}{rs:List ResultVar}{p:gu}(A0:X.ov=none)(A1:X.zT f=none)(I:X.P.funcs[f]?=some fn)(J:fn.body=some c)(A2:zc c=true)(M:fn.ntmps=n)(N:fn.results.toList=rs)
 (O:X.fp f=p) (U:pT n p args cs=true):ak X f args cs=lB X f c (entry n X.gl args cs p.sites) [] (Io X p cs.length rs):=by
 subst O;subst M;subst N;unfold ak;rw[<-yi (bV X f args cs)];have V:(λk=>bm X (k+1) f args cs)=λk=>(j0 X f (bm X k) k c (entry fn.ntmps X.gl args cs (X.fp f).sites) []).bind λq=>zb X (X.fp f) cs.length fn.results.toList (oX X k (bm X k)) (some q):=by
  funext k;rw[bm,A0,A1,I];simp only[J,A2,zW,zV];rw[aav (by simpa only[pT]using U),Rh]
 rw[V,eJ (g:=λq k=>zb X (X.fp f) cs.length fn.results.toList (oX X k (bm X k)) (some q)) (dmD c _ _) (λq=>Ib (tN X) _ _ _ q)];simp only[lB];congr 1;funext q;obtain⟨e,S1,A3⟩:=q;match A3 with
 |[]=>
  simp only[zb,Io,bg];cases e<;>rfl
 |[d]=>exact Wi _ _ _ _ _
 |_::_::_=>exact bg _
theorem abR{fn:Func}{c:Code}{args H:List AV}{D:AV}{cs:List aE}{n:Nat}{rs:List ResultVar}{p:gu}(I:X.P.funcs[f]?=some fn)(J:fn.body=some c)(M:fn.ntmps=n)(N:fn.results.toList=rs)
 (O:X.fp f=p) (A4:args.getLast?=some D) (A5:args.dropLast=H) (U:pT n p H cs=true):JE X f args cs=ym X f D c (entry n X.gl H cs p.sites) (L4 X.P p cs.length rs):=by
 subst O;subst M;subst N;subst A5;unfold JE;have V:(λk=>oX X k (bm X k) f args cs)=λk=>(ql X f (bm X k) k D c (entry fn.ntmps X.gl args.dropLast cs (X.fp f).sites)).bind λq=>Tm X.P (X.fp f) cs.length fn.results.toList (some q):=by
  funext k;simp only[oX,I,J,zU,A4];rw[aav (by simpa only[pT]using U),Re]
 rw[V,eJ (Dt (bV X) f (m:=λk=>k) (λk=>ajb k) D c _) (λ_=>aO.const _)];simp only[ym,bg];congr 1;funext q;obtain⟨e,S1⟩:=q;cases e<;>rfl
variable {k:Kt} {D:AV}
theorem Wk{a b:Code}:ym X f D (.seq a b) S k=ym X f D a S (Dw X f b k):=by
 have h:Il X f D (.seq a b) S=andThen (Il X f D a S) (ib X f b):=
  zr (F:=λn=>ql X f (bm X n) n D a S) (K:=λZ n=>den X f (bm X n) n b Z) (Dt (bV X) f (m:=λk=>k) (λk=>ajb k) D a S) (λZ=>dm b Z)
 simp only[ym,h,wZ];congr 1;funext q;obtain⟨e,S1⟩:=q;cases e<;>rfl
theorem Wl{id:Nat}{o:Oper}{r:List Oper}(h:yb o=true):ym X f D (.region id ⟨o::r⟩ false) S k=runK X (X.md f id) (o::r) r (S.put o.dst true D) (Dx X f id k):=by
 have A6:Il X f D (.region id ⟨o::r⟩ false) S=y9 (St.leave X f id) (iB X (ak X) (X.md f id) (o::r) r (S.put o.dst true D)):=by
  unfold Il;have:(λk=>ql X f (bm X k) k D (.region id ⟨o::r⟩ false) S)=λk=>(iB X (bm X k) (X.md f id) (o::r) r (S.put o.dst true D)).bind λq=>mT (St.leave X f id) q:=by
   funext k;simp only[ql,h,ad1,sR]
  rw[this,eJ (lM (bV X) _ _ _) (λ_=>aO.const _),vI,sR];simp only[bg]
 simp only[ym,runK,A6];rcases iB X (ak X) (X.md f id) (o::r) r (S.put o.dst true D)with _|⟨e,S1⟩
 .rfl
 .cases e<;>rfl
end
def Ctx.over(X:Ctx)(H:bN):Ctx:={X with ov:=some H}
section
variable {X:Ctx} {H C:bN} {f:FuncId}
@[simp] theorem aq2:(X.over H).P=X.P:=rfl
@[simp] theorem apW:(X.over H).gl=X.gl:=rfl
@[simp] theorem amX:(X.over H).rk=X.rk:=rfl
@[simp] theorem apX:(X.over H).gh=X.gh:=rfl
@[simp] theorem apY:(X.over H).md=X.md:=rfl
@[simp] theorem apZ:(X.over H).fp=X.fp:=rfl
@[simp] theorem ap0:(X.over H).od=X.od:=rfl
@[simp] theorem ap1:(X.over H).fl=X.fl:=rfl
@[simp] theorem ake:ak (X.over H)=H:=by
 funext g a c;unfold ak;rw[<-yi (bV (X.over H) g a c)];have:(λn=>bm (X.over H) (n+1) g a c)=λ_=>H g a c:=rfl;rw[this,bg]
end
inductive PR(E D α:Type) where
 |ok (a:α) (s:D)
 |bad (e:E) (s:D)
 |out
section
variable {E D α β I:Type}
def PR.el(r:PR E D α)(f:α->D->Option β)(g:E->D->Option β):Option β:=
 match r with
 | .ok a s=>f a s
 | .bad e s=>g e s
 | .out=>none
@[simp] theorem auf{a:α}{s:D}{f:α->D->Option β}{g:E->D->Option β}:(PR.ok a s).el f g=f a s:=rfl
@[simp] theorem aq3{e:E}{s:D}{f:α->D->Option β}{g:E->D->Option β}:(PR.bad e s).el f g=g e s:=rfl
@[simp] theorem aq4{f:α->D->Option β}{g:E->D->Option β}:(PR.out:PR E D α).el f g=none:=rfl
@[simp] theorem aq5{c:Prop}[Decidable c]{a b:PR E D α}{f:α->D->Option β}{g:E->D->Option β}:(if c then a else b).el f g=if c then a.el f g else b.el f g:=by split<;>rfl
def PR.bind(r:PR E D α)(k:α->D->PR E D I):PR E D I:=
 match r with
 | .ok a s=>k a s
 | .bad e s=>.bad e s
 | .out=>.out
@[simp] theorem ap2{a:α}{s:D}{k:α->D->PR E D I}:(PR.ok a s).bind k=k a s:=rfl
@[simp] theorem aoe{e:E}{s:D}{k:α->D->PR E D I}:(PR.bad e s:PR E D α).bind k=.bad e s:=rfl
@[simp] theorem aof{k:α->D->PR E D I}:(PR.out:PR E D α).bind k=.out:=rfl
@[simp] theorem ap3{r:PR E D α}{k:α->D->PR E D I}{f:I->D->Option β}{g:E->D->Option β}:(r.bind k).el f g=r.el (λa s=>(k a s).el f g) g:=by cases r<;>rfl
@[simp] theorem aug{r:PR E D α}{f:α->D->Option β}{g:E->D->Option β}:r.el (λa s=>f a s) (λe s=>g e s)=r.el f g:=rfl
theorem afg{J:Nat}{b:Bool}{r:PR E D α}{f:α->D->bU}{g:E->D->bU}:sN J b (r.el f g)=r.el (λa s=>sN J b (f a s)) (λe s=>sN J b (g e s)):=by cases r<;>rfl
theorem abS{m:Mem}{M:Nat}{ρ B:List Nat}{r:PR E D α}{f:α->D->bU}{g:E->D->bU}:gB m M ρ B (r.el f g)=r.el (λa s=>gB m M ρ B (f a s)) (λe s=>gB m M ρ B (g e s)):=by cases r<;>rfl
theorem Y3{X:Ctx}{md:Bool}{S:St}{d:Option Nat}{all q:List Oper}{k:Kt}{r:PR E D α}{f:α->D->Option gA}{g:E->D->Option gA}:tL X md S d all q k (r.el f g)=r.el (λa s=>tL X md S d all q k (f a s)) (λe s=>tL X md S d all q k (g e s)):=by cases r<;>rfl
theorem Wm{X:Ctx}{md:Bool}{N:Nat×List (List Nat)}{S:St}{d:Option Nat}{all q:List Oper}{O:List bn}{k:Kt}{r:PR E D α}{f:α->D->Option gA}{g:E->D->Option gA}:nx X md N S d all q O k (r.el f g)=r.el (λa s=>nx X md N S d all q O k (f a s)) (λe s=>nx X md N S d all q O k (g e s)):=by cases r<;>rfl
def Le(a b:Option β):Prop:=∀r,a=some r->b=some r
theorem Le.refl(a:Option β):Le a a:=λ_ h=>h
theorem Le.trans{a b c:Option β}(h:Le a b)(k:Le b c):Le a c:=λr Z=>k r (h r Z)
theorem Le.none{b:Option β}:Le none b:=λ_ h=>by cases h
theorem Le.el{r:PR E D α}{f U:α->D->Option β}{g V:E->D->Option β}(y:∀a s,Le (f a s) (U a s))(A':∀e s,Le (g e s) (V e s)):Le (r.el f g) (r.el U V):=by
 cases r with
 |ok a s=>exact y a s
 |bad e s=>exact A' e s
 |out=>exact Le.none
end
abbrev Tx:=List UInt8
def sW(c:UInt8):Bool:=decide (65<=c.toNat)&&decide (c.toNat<=90)||decide (97<=c.toNat)&&decide (c.toNat<=122)
def rI(c:UInt8):Bool:=decide (48<=c.toNat)&&decide (c.toNat<=57)
def ga(c:UInt8):Bool:=sW c||rI c||decide (c.toNat=95)
def z6(c:UInt8):Bool:=decide (c.toNat=32)||decide (c.toNat=10)||decide (c.toNat=9)
def ic(c:UInt8):Nat:=if rI c then c.toNat-48 else if 65<=c.toNat/\c.toNat<=70 then c.toNat-65+10 else 99
def lC(p:Int×Int)(c:UInt8):Int×Int:=if c=10 then (p.1+1,1)else (p.1,p.2+1)
def ie(s:Tx):Int×Int:=s.foldl lC (1,1)
def Ip:∀(s:Tx)(p:Int×Int)(n:Nat),1<=p.1->p.1<=n->1<=p.2->p.2<=n->1<=(s.foldl lC p).1/\(s.foldl lC p).1<=n+s.length/\1<=(s.foldl lC p).2/\(s.foldl lC p).2<=n+s.length
 |[],p,n,E,J,M,N=>by simp;omega
 |c::r,p,n,E,J,M,N=>by
  have h:=Ip r (lC p c) (n+1) (by unfold lC;split<;>simp<;>omega) (by unfold lC;split<;>simp<;>omega) (by unfold lC;split<;>simp<;>omega) (by unfold lC;split<;>simp<;>omega);simp only[ajp,aao];omega
def Wn{s:Tx}{i:Nat}:1<=(ie (s.take i)).1/\(ie (s.take i)).1<=s.length+1/\1<=(ie (s.take i)).2/\(ie (s.take i)).2<=s.length+1:=by
 have h:=Ip (s.take i) (1,1) 1 (by simp) (by simp) (by simp) (by simp);have O:(s.take i).length<=s.length:=by simp;omega
 unfold ie;omega
def DI{s:Tx}{i:Nat}(h:i<s.length):ie (s.take (i+1))=lC (ie (s.take i)) s[i]:=by
 unfold ie;rw[List.take_add_one,ad4 h,List.foldl_append];rfl
def oY:Tx->Option Nat
 |[]=>none
 |c::r=>if c=42/\r.head?=some 41 then some 0 else (oY r).map (·+1)
def jU(s:Tx):Nat:=(s.takeWhile (·≠10)).length
def N6(s:Tx):jU s<=s.length:=by unfold jU;exact (aiq _).length_le
def aaL(a c:UInt8):(a == c)=decide (c=a):=by
 by_cases h:c=a
 .simp[h]
 .simp[h];exact λe=>h e.symm
def z7:∀(t:Tx),Go.Lib.indexByte t 10=if jU t<t.length then (jU t:Int)else-1
 |[]=>rfl
 |c::r=>by
  have ih:=z7 r;unfold Go.Lib.indexByte;by_cases D:c=10
  .subst D;simp[jU]
  .have e:jU (c::r)=jU r+1:=by simp[jU,D]
   rw[e,ih];simp only[beq_iff_eq,D,abc,aao];by_cases h:jU r<r.length
   .simp only[aav h];rw[aaf (by omega),aav (by omega)];omega
   .simp[h]
def Bx:∀{t:Tx}{m:Nat},oY t=some m->m+2<=t.length
 |[],m,h=>by cases h
 |c::r,m,h=>by
  unfold oY at h;split at h
  .rename_i D;cases h;cases r with
   |nil=>simp at D
   |cons d r=>simp
  .cases H:oY r with
   |none=>rw[H]at h;cases h
   |some n=>
    rw[H]at h;cases h;have:=Bx H;simp;omega
def KV:∀(t:Tx),Go.Lib.index t [42,41]=match oY t with|none=> -1|some m=>(m:Int)
 |[]=>rfl
 |c::r=>by
  have ih:=KV r;unfold Go.Lib.index oY;have e:(([42,41]:Tx).isPrefixOf (c::r))=decide (c=42/\r.head?=some 41):=by
   cases r with
   |nil=>simp[List.isPrefixOf]
   |cons d r=>simp[List.isPrefixOf,aaL]
  rw[e,ih];by_cases D:c=42/\r.head?=some 41
  .simp[D]
  .rw[aaf D];simp only[D,decide_false,aeC,abc];cases H:oY r with
   |none=>simp
   |some n=>simp
def Iq(a b c:UInt8)(r:Tx):Go.Lib.hasPrefix (c::r) [a,b]=(decide (c=a)&&decide (r.head?=some b)):=by
 unfold Go.Lib.hasPrefix;cases r with
 |nil=>simp[List.isPrefixOf]
 |cons d r=>simp[List.isPrefixOf,aaL]
def gK:Nat->Tx->Nat×Bool
 |0,_=>(0,true)
 |_+1,[]=>(0,true)
 |f+1,c::r=>
  if z6 c then (1+(gK f r).1,(gK f r).2)
  else if c=47/\r.head?=some 47 then (jU (c::r)+(gK f ((c::r).drop (jU (c::r)))).1,(gK f ((c::r).drop (jU (c::r)))).2)
  else if c=40/\r.head?=some 42 then match oY r.tail with
   |none=>(0,false)
   |some m=>(m+4+(gK f ((c::r).drop (m+4))).1,(gK f ((c::r).drop (m+4))).2)
  else (0,true)
def qh(s:Tx):Nat×Nat:=if [49,54,35].isPrefixOf s then (16,3)else if [56,35].isPrefixOf s then (8,2)else if [50,35].isPrefixOf s then (2,2)else (10,0)
def JG(base:Nat):Nat->Tx->Option Nat
 |x,[]=>some x
 |x,c::r=>if (9223372036854775807-ic c)/base<x then none else JG base (x*base+ic c) r
def Gv(s:Tx)(b h:Nat)(I:Tx):Nat×Nat×Nat:=
 if I=[]\/(∃c,s[h+I.length]?=some c/\(ga c=true\/c=35))then (0,0,5)
 else match JG b 0 I with
  |none=>(0,0,2)
  |some x=>(h+I.length,x,0)
def pD(s:Tx):Nat×Nat×Nat:=Gv s (qh s).1 (qh s).2 ((s.drop (qh s).2).takeWhile (λc=>decide (ic c<(qh s).1)))
def DJ:Tx:=[43,45,42,47,40,41,91,93,46,44,59,58,60,62,61]
def N7:List Tx:=[[58,61],[60,61],[62,61],[60,62],[46,46]]
def vJ(s:Tx):Nat:=if N7.any (λp=>p.isPrefixOf s)then 2 else match s with
 |[]=>0
 |c::_=>if c∈DJ then 1 else 0
def Ez:∀(f:Nat)(t:Tx),(gK f t).1<=t.length
 |0,_=>by simp[gK]
 |_+1,[]=>by simp[gK]
 |f+1,c::r=>by
  unfold gK;split
  .have:=Ez f r;simp;omega
  .split
   .have E:=Ez f ((c::r).drop (jU (c::r)));have J:=N6 (c::r);simp only[aeQ]at E;simp only;omega
   .split
    .split
     .simp
     .rename_i m hm;have E:=Ez f ((c::r).drop (m+4));have J:=Bx hm;have M:r.tail.length=r.length-1:=by simp
      simp only[aeQ,aao]at E⊢;omega
    .simp
def Wo:Tx:=[80,82,79,71,82,65,77,32,69,78,68,95,80,82,79,71,82,65,77,32,86,65,82,32,86,65,82,95,73,78,80,85,84,32,86,65,82,95,79,85,84,80,85,84,32,69,78,68,95,86,65,82,32,73,78,84,32,66,79,79,76,32,65,82,82,65,89,32,79,70,32,84,82,85,69,32,70,65,76,83,69,32,73,70,32,84,72,69,78,32,69,76,83,73,70,32,69,76,83,69,32,69,78,68,95,73,70,32,67,65,83,69,32,69,78,68,95,67,65,83,69,32,70,79,82,32,84,79,32,66,89,32,68,79,32,69,78,68,95,70,79,82,32,87,72,73,76,69,32,69,78,68,95,87,72,73,76,69,32,82,69,80,69,65,84,32,85,78,84,73,76,32,69,78,68,95,82,69,80,69,65,84,32,69,88,73,84,32,82,69,84,85,82,78,32,65,78,68,32,79,82,32,88,79,82,32,78,79,84,32,77,79,68]
def lD:List Tx:=[[80,82,79,71,82,65,77],[69,78,68,95,80,82,79,71,82,65,77],[86,65,82],[86,65,82,95,73,78,80,85,84],[86,65,82,95,79,85,84,80,85,84],[69,78,68,95,86,65,82],[73,78,84],[66,79,79,76],[65,82,82,65,89],[79,70],[84,82,85,69],[70,65,76,83,69],[73,70],[84,72,69,78],[69,76,83,73,70],[69,76,83,69],[69,78,68,95,73,70],[67,65,83,69],[69,78,68,95,67,65,83,69],[70,79,82],[84,79],[66,89],[68,79],[69,78,68,95,70,79,82],[87,72,73,76,69],[69,78,68,95,87,72,73,76,69],[82,69,80,69,65,84],[85,78,84,73,76],[69,78,68,95,82,69,80,69,65,84],[69,88,73,84],[82,69,84,85,82,78],[65,78,68],[79,82],[88,79,82],[78,79,84],[77,79,68]]
def yn(s:Tx):Bool:=decide (s∈lD)
structure gn where
 kind:Int
 text:Tx
 n:Int
 line:Int
 Ir:Int
 deriving DecidableEq
def mc(s:Tx):Nat×Nat×Nat×Nat:=
 match s with
 |[]=>(5,0,0,0)
 |c::_=>
  if sW c then
   if yn (s.take (s.takeWhile ga).length)then (0,2,(s.takeWhile ga).length,0)
   else if 16<(s.takeWhile ga).length then (9,1,0,0)else (0,1,(s.takeWhile ga).length,0)
  else if rI c then
   if (pD s).2.2=0 then (0,3,(pD s).1,(pD s).2.1)else ((pD s).2.2,0,0,0)
  else if vJ s=0 then (5,0,0,0)else (0,4,vJ s,0)
def here(p:Int×Int):gn:=⟨0,[],0,p.1,p.2⟩
def Gw(s:Tx):Nat->Nat->List gn->List gn×Nat×gn
 |0,_,_=>([],5,⟨0,[],0,0,0⟩)
 |f+1,i,out=>
  if (gK (s.length+1) (s.drop i)).2=false then ([],5,here (ie (s.take (i+(gK (s.length+1) (s.drop i)).1))))
  else if s.drop (i+(gK (s.length+1) (s.drop i)).1)=[]then (out++[here (ie (s.take (i+(gK (s.length+1) (s.drop i)).1)))],0,⟨0,[],0,0,0⟩)
  else if (mc (s.drop (i+(gK (s.length+1) (s.drop i)).1))).1≠0 then ([],(mc (s.drop (i+(gK (s.length+1) (s.drop i)).1))).1,here (ie (s.take (i+(gK (s.length+1) (s.drop i)).1))))
  else Gw s f (i+(gK (s.length+1) (s.drop i)).1+(mc (s.drop (i+(gK (s.length+1) (s.drop i)).1))).2.2.1)
   (out++[⟨(mc (s.drop (i+(gK (s.length+1) (s.drop i)).1))).2.1,(s.drop (i+(gK (s.length+1) (s.drop i)).1)).take (mc (s.drop (i+(gK (s.length+1) (s.drop i)).1))).2.2.1,(mc (s.drop (i+(gK (s.length+1) (s.drop i)).1))).2.2.2,
    (ie (s.take (i+(gK (s.length+1) (s.drop i)).1))).1,(ie (s.take (i+(gK (s.length+1) (s.drop i)).1))).2⟩])
def JH(s:Tx):List gn×Nat×gn:=if 16384<s.length then ([],13,⟨0,[],0,1,1⟩)else Gw s (s.length+1) 0 []
inductive Ex where
 |mk (op n:Int) (name field:Tx) (sub:List Ex) (line:Int)
inductive Sm where
 |mk (op:Int) (name:Tx) (to val:Ex) (conds:List Ex) (H:List (List Int)) (fields:List Tx) (blocks:List (List Sm)) (line:Int)
instance:Inhabited Ex:=⟨.mk 0 0 [] [] [] 0⟩
instance:Inhabited Sm:=⟨.mk 0 [] default default [] [] [] [] 0⟩
structure Vr where
 name:Tx
 ty:Int
 sec:Int
 arr:Bool
 lo:Int
 hi:Int
 init:Int
 line:Int
 deriving DecidableEq
structure Pg where
 name:Tx
 vars:List Vr
 body:List Sm
mutual
def bJ:Ex->D
 | .mk op n name field sub line=>.agg [.int .i64 op,.int .i64 n,.str name,.str field,.list (iu sub),.int .i64 line]
def iu:List Ex->List D
 |[]=>[]
 |x::r=>bJ x::iu r
end
def vU:∀l:List Ex,iu l=l.map bJ
 |[]=>rfl
 |x::r=>by simp[iu,vU r]
def z8:Ex->List D
 | .mk op n name field sub line=>[.int .i64 op,.int .i64 n,.str name,.str field,.list (iu sub),.int .i64 line]
def L5(x:Ex):bJ x=.agg (z8 x):=by cases x;rfl
def mQ(l:List Int):D:=.list (l.map λn=>.int .i64 n)
mutual
def bZ:Sm->D
 | .mk op name to val conds H fields blocks line=>.agg (.int .i64 op::.str name::(z8 to++(z8 val++[.list (iu conds),.list (H.map mQ),.list (fields.map .str),.list (nN blocks),.int .i64 line])))
def nO:List Sm->List D
 |[]=>[]
 |x::r=>bZ x::nO r
def nN:List (List Sm)->List D
 |[]=>[]
 |b::r=>.list (nO b)::nN r
end
def Aa:∀l:List Sm,nO l=l.map bZ
 |[]=>rfl
 |x::r=>by simp[nO,Aa r]
def EA:∀l:List (List Sm),nN l=l.map λb=>.list (b.map bZ)
 |[]=>rfl
 |x::r=>by simp[nN,EA r,Aa]
def cZ(v:Vr):List D:=[.str v.name,.int .i64 v.ty,.int .i64 v.sec,.bool v.arr,.int .i64 v.lo,.int .i64 v.hi,.int .i64 v.init,.int .i64 v.line]
def bx(v:Vr):D:=.agg (cZ v)
structure PS where
 at_:Nat
 deep:Int
 vars:List Vr
structure Er where
 e:Int
 line:Int
 Ir:Int
 deriving DecidableEq
abbrev PM(α:Type):=PR Er PS α
abbrev wr(n:Int):Int:=IntKind.i64.wrap n
section
variable (L:List gn)
def xf(s:PS):PM gn:=match L[s.at_]? with
 |some t=>.ok t s
 |none=>.out
def T7{α:Type}(e:Int)(t:gn)(s:PS):PM α:=.bad ⟨e,t.line,t.Ir⟩ s
def isW(t:gn)(w:Tx):Bool:=(decide (t.kind=2)||decide (t.kind=4))&&decide (t.text=w)
def isS(w:Tx)(s:PS):PM Bool:=(xf L s).bind λt s=>.ok (isW t w) s
def anyS:List Tx->PS->PM Bool
 |[],s=>.ok false s
 |w::r,s=>(isS L w s).bind λb s=>if b=true then .ok true s else anyS r s
def EB(s:PS):PM gn:=(xf L s).bind λt s=>.ok t (if t.kind=0 then s else {s with at_:=s.at_+1})
def lN(w:Tx)(s:PS):PM Bool:=(isS L w s).bind λb s=>if b=true then (EB L s).bind λ_ s=>.ok true s else .ok false s
def jV(w:Tx)(s:PS):PM Unit:=(lN L w s).bind λb s=>if b=true then .ok () s else (xf L s).bind λt s=>T7 5 t s
def By(k:Int)(s:PS):PM gn:=(xf L s).bind λt s=>if t.kind=k then EB L s else (xf L s).bind λt s=>T7 5 t s
def inS(s:PS):PM Unit:=if 32<wr (s.deep+1)then (xf L {s with deep:=wr (s.deep+1)}).bind λt s=>T7 13 t s else .ok () {s with deep:=wr (s.deep+1)}
def T8(s:PS):PM Unit:=.ok () {s with deep:=wr (s.deep-1)}
structure Kd where
 at_:gn
 kind:Int
 arr:Bool
 lo:Int
 hi:Int
def Rj(s:PS):PM Int:=(lN L [45] s).bind λb s=>if b=true then (By L 3 s).bind λt s=>.ok (wr (-t.n)) s else (By L 3 s).bind λt s=>.ok t.n s
def lvT:List (List Tx):=[[[79,82]],[[88,79,82]],[[65,78,68]],[[61],[60,62],[60],[62],[60,61],[62,61]],[[43],[45]],[[42],[47],[77,79,68]]]
def opT:List Tx:=[[43],[45],[42],[47],[77,79,68],[61],[60,62],[60],[62],[60,61],[62,61],[65,78,68],[88,79,82],[79,82]]
def afh(w:Tx):List Tx->Nat->Int
 |[],_=> -1
 |x::r,i=>if w=x then i else afh w r (i+1)
def opI(w:Tx):Int:=8+afh w opT 0
def Ab:Ex:=.mk 0 0 [] [] [] 0
def aaN(t:gn):Ex:=.mk 3 0 t.text [] [] t.line
def It(op:Int)(E:Tx)(l:List Ex)(line:Int):Ex:=.mk op 0 E [] l line
def KW(s:PS):PM Bool:=(xf L s).bind λt s=>if t.kind=3 then .ok true s else isS L [45] s
def Rk:Nat->List Int->PS->PM (List Int)
 |0,_,_=>.out
 |f+1,l,s=>(Rj L s).bind λlo s=>(lN L [46,46] s).bind λb s=>(if b=true then Rj L s else .ok lo s).bind λhi s=>
  if l.length<100000 then (lN L [44] s).bind λb s=>if b=true then Rk f (l++[lo,hi]) s else (jV L [58] s).bind λ_ s=>.ok (l++[lo,hi]) s else .out
def Y4(s:PS):PM Bool:=(KW L s).bind λb s=>if b=true then .ok true s else (isS L [69,76,83,69] s).bind λb s=>if b=true then .ok true s else isS L [69,78,68,95,67,65,83,69] s
mutual
def xg:Nat->Nat->PS->PM Ex
 |0,_,_=>.out
 |f+1,n,s=>if n=6 then Ac f s else if n<6 then (xg f (n+1) s).bind λx s=>DK f n x s else .out
def DK:Nat->Nat->Ex->PS->PM Ex
 |0,_,_,_=>.out
 |f+1,n,x,s=>(anyS L (lvT.getD n []) s).bind λb s=>if b=true then (EB L s).bind λt s=>(xg f (n+1) s).bind λy s=>
  if n=3 then .ok (It (opI t.text) [] [x,y] t.line) s else DK f n (It (opI t.text) [] [x,y] t.line) s
  else .ok x s
def Ac:Nat->PS->PM Ex
 |0,_=>.out
 |f+1,s=>(xf L s).bind λt s=>(isS L [45] s).bind λb s=>
  if b=true then Iu f 6 t s else (isS L [78,79,84] s).bind λb s=>if b=true then Iu f 7 t s else Ad f s
def Iu:Nat->Int->gn->PS->PM Ex
 |0,_,_,_=>.out
 |f+1,op,t,s=>(inS L s).bind λ_ s=>(EB L s).bind λ_ s=>(Ac f s).bind λx s=>(T8 s).bind λ_ s=>.ok (It op [] [x] t.line) s
def nb:Nat->PS->PM Ex
 |0,_=>.out
 |f+1,s=>xg f 0 s
def Ae:Nat->PS->PM Ex
 |0,_=>.out
 |f+1,s=>(inS L s).bind λ_ s=>(jV L [91] s).bind λ_ s=>(nb f s).bind λx s=>(jV L [93] s).bind λ_ s=>(T8 s).bind λ_ s=>.ok x s
def Ad:Nat->PS->PM Ex
 |0,_=>.out
 |f+1,s=>(xf L s).bind λt s=>
  if t.kind=3 then (EB L s).bind λu s=>.ok (.mk 1 u.n [] [] [] t.line) s else
  (lN L [84,82,85,69] s).bind λb s=>if b=true then .ok (.mk 2 1 [] [] [] t.line) s else
  (lN L [70,65,76,83,69] s).bind λb s=>if b=true then .ok (.mk 2 0 [] [] [] t.line) s else
  (isS L [40] s).bind λb s=>if b=true then (inS L s).bind λ_ s=>(EB L s).bind λ_ s=>(nb f s).bind λx s=>(jV L [41] s).bind λ_ s=>(T8 s).bind λ_ s=>.ok x s else
  (By L 1 s).bind λ_ s=>
  (isS L [91] s).bind λb s=>if b=true then (Ae f s).bind λx s=>.ok (It 4 t.text [x] t.line) s else
  (lN L [46] s).bind λb s=>if b=true then (By L 1 s).bind λu s=>.ok (.mk 5 0 t.text u.text [] t.line) s else .ok (aaN t) s
end
def afi(op:Int):Sm:=.mk op [] Ab Ab [] [] [] [] 0
def aog(line:Int):Sm->Sm
 | .mk op name to val conds H fields blocks _=>.mk op name to val conds H fields blocks line
mutual
def pU:Nat->List Tx->PS->PM (List Sm)
 |0,_,_=>.out
 |f+1,ends,s=>Af f ends [] s
def Af:Nat->List Tx->List Sm->PS->PM (List Sm)
 |0,_,_,_=>.out
 |f+1,ends,l,s=>(anyS L ends s).bind λb s=>if b=true then .ok l s else (EC f s).bind λx s=>if l.length<100000 then Af f ends (l++[x]) s else .out
def EC:Nat->PS->PM Sm
 |0,_=>.out
 |f+1,s=>(xf L s).bind λt s=>(inS L s).bind λ_ s=>(Iw f s).bind λx s=>(jV L [59] s).bind λ_ s=>(T8 s).bind λ_ s=>.ok (aog t.line x) s
def Iw:Nat->PS->PM Sm
 |0,_=>.out
 |f+1,s=>
  (lN L [73,70] s).bind λb s=>if b=true then uz f s else
  (lN L [67,65,83,69] s).bind λb s=>if b=true then DL f s else
  (lN L [70,79,82] s).bind λb s=>if b=true then xh f s else
  (lN L [87,72,73,76,69] s).bind λb s=>if b=true then (nb L f s).bind λv s=>(jV L [68,79] s).bind λ_ s=>(pU f [[69,78,68,95,87,72,73,76,69]] s).bind λl s=>(jV L [69,78,68,95,87,72,73,76,69] s).bind λ_ s=>.ok (.mk 5 [] Ab v [] [] [] [l] 0) s else
  (lN L [82,69,80,69,65,84] s).bind λb s=>if b=true then (pU f [[85,78,84,73,76]] s).bind λl s=>(jV L [85,78,84,73,76] s).bind λ_ s=>(nb L f s).bind λv s=>(jV L [69,78,68,95,82,69,80,69,65,84] s).bind λ_ s=>.ok (.mk 6 [] Ab v [] [] [] [l] 0) s else
  (lN L [69,88,73,84] s).bind λb s=>if b=true then .ok (afi 7) s else
  (lN L [82,69,84,85,82,78] s).bind λb s=>if b=true then .ok (afi 8) s else
  (By L 1 s).bind λE s=>(lN L [40] s).bind λb s=>if b=true then Ix f E.text s else
  (isS L [91] s).bind λb s=>(if b=true then (Ae L f s).bind λx s=>.ok (It 4 E.text [x] E.line) s else .ok (aaN E) s).bind λto s=>
  (jV L [58,61] s).bind λ_ s=>(nb L f s).bind λv s=>.ok (.mk 1 [] to v [] [] [] [] 0) s
def uz:Nat->PS->PM Sm
 |0,_=>.out
 |f+1,s=>oD f [] [] s
def oD:Nat->List Ex->List (List Sm)->PS->PM Sm
 |0,_,_,_=>.out
 |f+1,c,l,s=>(nb L f s).bind λx s=>(jV L [84,72,69,78] s).bind λ_ s=>(pU f [[69,76,83,73,70],[69,76,83,69],[69,78,68,95,73,70]] s).bind λb s=>
  if c.length<100000/\l.length<100000 then (lN L [69,76,83,73,70] s).bind λm s=>if m=true then oD f (c++[x]) (l++[b]) s else
   (lN L [69,76,83,69] s).bind λm s=>(if m=true then (pU f [[69,78,68,95,73,70]] s).bind λz s=>.ok (l++[b]++[z]) s else .ok (l++[b]) s).bind λl s=>(jV L [69,78,68,95,73,70] s).bind λ_ s=>.ok (.mk 2 [] Ab Ab (c++[x]) [] [] l 0) s
  else .out
def DL:Nat->PS->PM Sm
 |0,_=>.out
 |f+1,s=>(nb L f s).bind λv s=>(jV L [79,70] s).bind λ_ s=>xj f v [] [] s
def xj:Nat->Ex->List (List Int)->List (List Sm)->PS->PM Sm
 |0,_,_,_,_=>.out
 |f+1,v,c,l,s=>(KW L s).bind λb s=>
  if b=true then (Rk L f [] s).bind λx s=>(Bz f [] s).bind λb s=>if c.length<100000/\l.length<100000 then xj f v (c++[x]) (l++[b]) s else .out
  else (lN L [69,76,83,69] s).bind λm s=>(if m=true then (pU f [[69,78,68,95,67,65,83,69]] s).bind λz s=>if l.length<100000 then .ok (l++[z]) s else .out else .ok l s).bind λl s=>(jV L [69,78,68,95,67,65,83,69] s).bind λ_ s=>.ok (.mk 3 [] Ab v [] c [] l 0) s
def Bz:Nat->List Sm->PS->PM (List Sm)
 |0,_,_=>.out
 |f+1,l,s=>(Y4 L s).bind λb s=>if b=true then .ok l s else (EC f s).bind λx s=>if l.length<100000 then Bz f (l++[x]) s else .out
def xh:Nat->PS->PM Sm
 |0,_=>.out
 |f+1,s=>(By L 1 s).bind λE s=>(jV L [58,61] s).bind λ_ s=>(nb L f s).bind λa s=>(jV L [84,79] s).bind λ_ s=>(nb L f s).bind λb s=>
  (xf L s).bind λt s=>(lN L [66,89] s).bind λm s=>(if m=true then nb L f s else .ok (.mk 1 1 [] [] [] t.line) s).bind λc s=>
  (jV L [68,79] s).bind λ_ s=>(pU f [[69,78,68,95,70,79,82]] s).bind λl s=>(jV L [69,78,68,95,70,79,82] s).bind λ_ s=>.ok (.mk 4 E.text Ab Ab [a,b,c] [] [] [l] 0) s
def Ix:Nat->Tx->PS->PM Sm
 |0,_,_=>.out
 |f+1,E,s=>(lN L [41] s).bind λb s=>if b=true then .ok (.mk 9 E Ab Ab [] [] [] [] 0) s else BA f E [] [] s
def BA:Nat->Tx->List Tx->List Ex->PS->PM Sm
 |0,_,_,_,_=>.out
 |f+1,E,c,l,s=>(By L 1 s).bind λt s=>(jV L [58,61] s).bind λ_ s=>(nb L f s).bind λx s=>
  if c.length<100000/\l.length<100000 then (lN L [44] s).bind λb s=>if b=true then BA f E (c++[t.text]) (l++[x]) s else (jV L [41] s).bind λ_ s=>.ok (.mk 9 E Ab Ab (l++[x]) [] (c++[t.text]) [] 0) s
  else .out
end
end
def bO:Ex->Int| .mk a _ _ _ _ _=>a
def il:Ex->Int| .mk _ a _ _ _ _=>a
def dI:Ex->Tx| .mk _ _ a _ _ _=>a
def fQ:Ex->Tx| .mk _ _ _ a _ _=>a
def da:Ex->List Ex| .mk _ _ _ _ a _=>a
def jH:Ex->Int| .mk _ _ _ _ _ a=>a
@[simp] def pV{a b c d e f}:bO (.mk a b c d e f)=a:=rfl
@[simp] def Ag{a b c d e f}:il (.mk a b c d e f)=b:=rfl
@[simp] def DM{a b c d e f}:dI (.mk a b c d e f)=c:=rfl
@[simp] def N8{a b c d e f}:fQ (.mk a b c d e f)=d:=rfl
@[simp] def pW{a b c d e f}:da (.mk a b c d e f)=e:=rfl
@[simp] def Wp{a b c d e f}:jH (.mk a b c d e f)=f:=rfl
def aaO(x:Ex):z8 x=[.int .i64 (bO x),.int .i64 (il x),.str (dI x),.str (fQ x),.list ((da x).map bJ),.int .i64 (jH x)]:=by cases x;simp[z8,vU]
def aw(x:Ex):bJ x=.agg [.int .i64 (bO x),.int .i64 (il x),.str (dI x),.str (fQ x),.list ((da x).map bJ),.int .i64 (jH x)]:=by rw[L5,aaO]
def bM:Sm->Int| .mk a _ _ _ _ _ _ _ _=>a
def eG:Sm->Tx| .mk _ a _ _ _ _ _ _ _=>a
def dJ:Sm->Ex| .mk _ _ a _ _ _ _ _ _=>a
def dq:Sm->Ex| .mk _ _ _ a _ _ _ _ _=>a
def bS:Sm->List Ex| .mk _ _ _ _ a _ _ _ _=>a
def dn:Sm->List (List Int)| .mk _ _ _ _ _ a _ _ _=>a
def dy:Sm->List Tx| .mk _ _ _ _ _ _ a _ _=>a
def aV:Sm->List (List Sm)| .mk _ _ _ _ _ _ _ a _=>a
def jA:Sm->Int| .mk _ _ _ _ _ _ _ _ a=>a
@[simp] def Wq{a b c d e f g h i}:bM (.mk a b c d e f g h i)=a:=rfl
@[simp] def afj{a b c d e f g h i}:eG (.mk a b c d e f g h i)=b:=rfl
@[simp] def aq9{a b c d e f g h i}:dJ (.mk a b c d e f g h i)=c:=rfl
@[simp] def ara{a b c d e f g h i}:dq (.mk a b c d e f g h i)=d:=rfl
@[simp] def Wr{a b c d e f g h i}:bS (.mk a b c d e f g h i)=e:=rfl
@[simp] def ap4{a b c d e f g h i}:dn (.mk a b c d e f g h i)=f:=rfl
@[simp] def Ws{a b c d e f g h i}:dy (.mk a b c d e f g h i)=g:=rfl
@[simp] def afk{a b c d e f g h i}:aV (.mk a b c d e f g h i)=h:=rfl
@[simp] def arb{a b c d e f g h i}:jA (.mk a b c d e f g h i)=i:=rfl
def dr(l:List Sm):D:=.list (l.map bZ)
def dk(x:Sm):bZ x=.agg [.int .i64 (bM x),.str (eG x),
 .int .i64 (bO (dJ x)),.int .i64 (il (dJ x)),.str (dI (dJ x)),.str (fQ (dJ x)),.list ((da (dJ x)).map bJ),.int .i64 (jH (dJ x)),
 .int .i64 (bO (dq x)),.int .i64 (il (dq x)),.str (dI (dq x)),.str (fQ (dq x)),.list ((da (dq x)).map bJ),.int .i64 (jH (dq x)),
 .list ((bS x).map bJ),.list ((dn x).map mQ),.list ((dy x).map .str),.list ((aV x).map dr),.int .i64 (jA x)]:=by
 cases x;simp[bZ,aaO,vU,EA,dr]
end Go.Am
end
