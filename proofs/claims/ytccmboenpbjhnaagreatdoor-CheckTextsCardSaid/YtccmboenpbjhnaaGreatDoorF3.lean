/-
  Texts of one proof, one behind the other.
-/
import Derived.Test.YtccmboenpbjhnaaGreatDoorF2
import Derived.Below
import Derived.Recover
import Derived.Orders
import Derived.Test.YtccmboenpbjhnaaGreatDoorProg
import Derived.KernelRfl
import Derived.Lib.Bytealg
import Derived.Lib.Index
import Derived.Lib.Strings
set_option linter.all false
section
namespace Go.Am
open Go
abbrev Is(e:XE)(E:St):XE->St->Prop:=λe' B1=>e'=e/\B1=E
def Rw(P:Program)(S:St)(o:Oper)(e:XE)(E:St):Prop:=
 E.n=S.n/\E.gl=S.gl/\(e=.normal\/∃t x,e=.panic t x)/\∀φ G a w,Rel φ G S a w->∀(next:Act->World->Prop)(R:Exit->Act->World->Prop),
  (e=.normal->∀φ' AE w',Rel φ' G E AE w'->bk φ S.mem w φ' E.mem w'->next AE w')->
  (∀t x,e=.panic t x->∀φ' AE w' v,Rel φ' G E AE w'->bk φ S.mem w φ' E.mem w'->aQ w' (Fo G φ' E.mem) x v->R (.panic [{v:=.iface t v,recovered:=false}]) AE w')->o.wp P a w next R
theorem nM(S:St)(d g x):(S.put d g x).gl=S.gl:=by cases d<;>rfl
section
variable {X:Ctx} {A5:bj} {S E:St} {o:Oper} {e:XE}
theorem Et{c:Bool}{x:AV}{gb:Bool}(AC:dy X.P S o=.val c x)(AA:(iy S o&&c)=true)(I:∀t,o.dst=some t->t<S.n):Rw X.P S o .normal (S.put o.dst gb x):=by
 simp only[Ds]at AA;have:=Nj X.P S o AA.1;rw[AC]at this;refine⟨ou ..,nM ..,.inl rfl,λφ G a w H next R A6 _=>?_⟩;exact adr this AA.2 H I (λAE w' AI AJ=>A6 rfl φ AE w' AI (by rw[gm];exact AJ))
theorem Rx{c:Bool}{x:AV}{Af:cq}(AC:dy X.P S o=.dq c x Af)(AA:(iy S o&&c)=true)(I:∀t,o.dst=some t->t<S.n):Rw X.P S o .normal (({S with mem:=Mem.set S.mem Af}:St).put o.dst true x):=by
 simp only[Ds]at AA;have:=Nj X.P S o AA.1;rw[AC]at this;refine⟨ou ..,nM ..,.inl rfl,λφ G a w H next R A6 _=>?_⟩;exact ads this AA.2 H I (λφ' AE w' AI AJ=>A6 rfl φ' AE w' AI (by rw[gm];exact AJ))
theorem QK{m:Mem}{B2:Nat}{g:FuncId}{BO:List AV}{mt:List Nat}{out:Out}{es:List cq}{ks:List Nat}(h:eA A5 m B2 g BO mt=some ⟨out,es,ks⟩):∀e∈es,e.key∈ks:=by
 unfold eA nZ nY gv at h;split at h
 ·rename_i out B7 _;split at h
  ·rename_i A7;simp only[Ds,aak]at A7;simp only[aa1,gi.mk.injEq]at h;obtain⟨_,rfl,rfl⟩:=h;intro e he;obtain⟨j,v,c,AN,rfl⟩:=yd.1 he;have B8:=(D1.1 AN).1;simp only[ahI];generalize collect m 64 (mQ mt 0 BO) []=ρ at A7 B8⊢;have B3:j<(ρ++List.range' (B2+1) (B7.length-ρ.length)).length:=by simp;omega
   have hm:=ahV B3;have Ao:(ρ++List.range' (B2+1) (B7.length-ρ.length)).getD j 0=(ρ++List.range' (B2+1) (B7.length-ρ.length))[j]:=by
    rw[acb,abJ B3];rfl
   rw[Ao];rcases aa0.1 hm with J|J
   ·exact akX _ (akX _ J)
   ·exact List.mem_append_right _ J
  ·cases h
 ·cases h
mutual
theorem aag:∀{x y:D},eqD x y=true->x=y
 |x,y,h=>by
  unfold eqD at h;split at h
  ·simp only[Ds,aak]at h;obtain⟨rfl,rfl⟩:=h;rfl
  ·rw[acV h]
  ·rw[acV h]
  ·rw[Eu h]
  ·rw[Eu h]
  ·rfl
  ·cases h
theorem Eu:∀{x y:List D},Js x y=true->x=y
 |x,y,h=>by
  unfold Js at h;split at h
  ·rfl
  ·simp only[Ds]at h;rw[aag h.1,Eu h.2]
  ·cases h
end
theorem ais{x y:AV}(h:Jt x y=true):x=y:=by
 unfold Jt at h;split at h
 ·rw[aag h]
 ·simp only[Ds,aak]at h;obtain⟨rfl,rfl,rfl⟩:=h;rfl
 ·simp only[Ds,aak]at h;obtain⟨rfl,rfl,rfl,rfl⟩:=h;rfl
 ·cases h
theorem NO:∀{x y:List AV},Ep x y=true->x=y
 |[],[],_=>rfl
 |[],_::_,h=>by cases h
 |_::_,[],h=>by cases h
 |a::r,b::s,h=>by
  simp only[Ep,Ds]at h;rw[ais h.1,NO h.2]
theorem aah{x y:aD}(h:CZ x y=true):x=y:=by
 unfold CZ at h;split at h
 ·rw[NO h]
 ·simp only[Ds,aak]at h;rw[h.1,Eu h.2]
 ·cases h
theorem NP:∀{m:Mem}{e:cq},Mem.get m e.key=some e->Mem.set m e=m
 |[],_,_=>rfl
 |x::r,e,h=>by
  simp only[Mem.get]at h;simp only[Mem.set];split at h
  ·rename_i Y;cases h;rw[aat rfl]
  ·rename_i Y;rw[aab Y,NP h]
theorem FJ:∀{es:List cq}{m m':Mem}{ks:List Nat},ta m es=true->(∀e∈es,e.key∈ks)->(∀k∈ks,Mem.get m' k=Mem.get m k)->bH m' es=m'
 |[],_,_,_,_,_,_=>rfl
 |e::r,m,m',ks,h,Y,hm=>by
  simp only[ta,Ds]at h;have J:Mem.get m' e.key=some e:=by
   rw[hm _ (Y e (by simp))];obtain⟨h,_⟩:=h;cases U:Mem.get m e.key with
   |none=>rw[U]at h;cases h
   |some x=>
    rw[U]at h;simp only[Mf,Ds,aak]at h;have W:=(Mem.get_mem U).2;obtain⟨k,v,c⟩:=x;obtain⟨By,Bz,C'⟩:=e;simp only at h W;rw[h.1,aah h.2,W]
  rw[bH,NP J];exact FJ h.2 (λe he=>Y e (afT _ he)) hm
theorem pa{args:List Operand}{AH:Bool×AV}{out:Out}{es:List cq}{ks:List Nat}(h:cJ X A5 S o args AH=some ⟨out,es,ks⟩):∃g AR Ab,AH=(true,.fn g AR)/\jV S args=true/\
 eA A5 S.mem (keyOf o) (qb g) (jC g (dC S args) AR) (X.fp (qb g)).za=some ⟨out,Ab,ks⟩/\(∀e∈es,e.key∈ks)/\∀m',(∀k∈ks,Mem.get m' k=Mem.get S.mem k)->bH m' Ab=bH m' es:=by
 unfold cJ at h;split at h
 ·rename_i g AR;split at h
  ·rename_i AA;generalize (X.fp (qb g)).za.contains 2000=b at h;cases A7:eA A5 S.mem (keyOf o) (qb g) (jC g (dC S args) AR) (X.fp (qb g)).za with
   |none=>rw[A7]at h;cases b<;>cases h
   |some res=>
    obtain⟨C0,Ab,C1⟩:=res;have Y:=QK A7;rw[A7]at h;cases b with
    |false=>cases h;exact⟨g,AR,es,rfl,AA,A7,Y,λ_ _=>rfl⟩
    |true=>
     simp only[A1,aa1]at h;cases AC:ta S.mem Ab with
     |false=>rw[AC]at h;cases h;exact⟨g,AR,es,rfl,AA,A7,Y,λ_ _=>rfl⟩
     |true=>rw[AC]at h;cases h;exact⟨g,AR,Ab,rfl,AA,A7,by simp,λm' hm=>FJ AC Y hm⟩
  ·cases h
 ·cases h
theorem adH(AF:kT X A5){AH:Operand}{args:Array Operand}{AW:Array TypeId}(V:o.op=.call {callee:=.value AH,args,argTypes:=AW})(A4:S.gl=X.gl)(I:∀t,o.dst=some t->t<S.n)
 (h:dD S o.dst (cJ X A5 S o args.toList (S.au AH))=some (e,E)):Rw X.P S o e E:=by
 cases Ac:cJ X A5 S o args.toList (S.au AH)with
 |none=>rw[Ac]at h;cases h
 |some res=>
  rw[Ac]at h;obtain⟨out,es,ks⟩:=res;obtain⟨g,AR,Ab,Ap,AA,Aq,_,AX⟩:=pa Ac;have AX:=AX S.mem (λ_ _=>rfl);cases out with
  |ret x=>
   simp only[dD,aa1,acr]at h;obtain⟨rfl,rfl⟩:=h;refine⟨ou ..,nM ..,.inl rfl,λφ G a w H next R A6 _=>?_⟩;refine yp AF V Ap rfl AA Aq A4 H (λAk W φ' w' v AI AJ AO=>?_) (λt Ak W=>by cases W);cases W;rw[AX]at AI AJ AO;exact A6 rfl φ' _ w' (AI.put o.dst I true x v (λ_=>AO)) (by rw[gm];exact AJ)
  |panic t x=>
   simp only[dD,aa1,acr]at h;obtain⟨rfl,rfl⟩:=h;refine⟨rfl,rfl,.inr ⟨t,x,rfl⟩,λφ G a w H next R _ AQ=>?_⟩;refine yp AF V Ap rfl AA Aq A4 H (λAk W=>by cases W) (λBb Ak W φ' w' v AI AJ AO=>?_);cases W;rw[AX]at AI AJ AO;exact AQ t x rfl φ' a w' v AI AJ AO
theorem aai{x:Operand}(V:o.op=.panic x)(h:Gs S (S.au x)=some (e,E)):Rw X.P S o e E:=by
 cases W:S.au x with
 |mk g y=>
  rw[W]at h;unfold Gs at h;split at h
  ·rename_i t d heq;cases heq;simp only[aa1,acr]at h;obtain⟨rfl,rfl⟩:=h;refine⟨rfl,rfl,.inr ⟨t,d,rfl⟩,λφ G a w H next R _ AQ=>?_⟩;have AO:=H.au x (by rw[W]);rw[W]at AO;generalize Bc:a.eval x=u at AO;cases AO with
   |iA _ _ v I=>
    have B9:(execOp a.eval o).run X.P w=.halt (.panic (.iface t v)) w:=by
     simp[execOp,V,Bc,Instr.panic]
    unfold Oper.wp;rw[B9];exact AQ t d rfl φ a w v H (bk.refl ..) I
  ·cases h
theorem C6(AF:kT X A5)(A4:S.gl=X.gl)(I:∀t,o.dst=some t->t<S.n)(h:jc X A5 S o (dy X.P S o)=some (e,E)):Rw X.P S o e E:=by
 generalize AC:dy X.P S o=r at h;cases r with
 |val c x=>
  simp only[jc]at h;split at h
  ·rename_i AA;cases h;exact Et AC AA I
  ·cases h
 |dq c x Af=>
  simp only[jc]at h;split at h
  ·rename_i AA;cases h;exact Rx AC AA I
  ·cases h
 |no=>
  simp only[jc,uA]at h;split at h
  ·rename_i AH args AW V;exact adH AF V A4 I h
  ·rename_i x V;exact aai V h
  ·cases h
def C7(P:Program)(all:List Oper)(S:St)(o:Oper)(e:XE)(E:St):Prop:=
 E.n=S.n/\E.gl=S.gl/\(e=.normal\/∃t x,e=.panic t x)/\∀φ G a w,Rel φ G S a w->∀(next:Act->World->Prop)(R:Exit->Act->World->Prop),
  (e=.normal->∀φ' AE w',Rel φ' G E AE w'->bk φ S.mem w φ' E.mem w'->next AE w')->
  (∀t x,e=.panic t x->∀φ' AE w' v,Rel φ' G E AE w'->bk φ S.mem w φ' E.mem w'->aQ w' (Fo G φ' E.mem) x v->R (.panic [{v:=.iface t v,recovered:=false}]) AE w')->
  if Region.wanted o (yielded all.toArray a.tmps)then o.wp P a w next R else next (a.put o.dst undef) w
theorem Ew{all:List Oper}(h:Rw X.P S o e E)(hw:∀φ G a w,Rel φ G S a w->Region.wanted o (yielded all.toArray a.tmps)=true):C7 X.P all S o e E:=by
 obtain⟨J,M,AK,AS⟩:=h;refine⟨J,M,AK,λφ G a w H next R A6 AQ=>?_⟩;rw[aat (hw φ G a w H)];exact AS φ G a w H next R A6 AQ
theorem C8{φ:bP}{w:World}{F:Nat->Prop}{x:AV}(W:x=.bu\/x=.aY []):aH φ w F x undef:=by
 rcases W with rfl|rfl
 ·exact .bu _
 ·exact .aY [] #[] rfl (λi c v h=>by simp at h)
theorem H5{all:List Oper}{j:Nat}{φ G a w}(h:Rel φ G S a w)(U:rP all S j=some (true,.aY [])):yielded all.toArray a.tmps j=none:=by
 unfold rP at U;split at U
 ·rename_i o V;split at U
  ·rename_i t AG;have J:=h.env t _ U;unfold yielded;simp only[ahL,V,acE,AG];rw[abN]at J;cases AB:a.tmps[t]? with
   |none=>rfl
   |some v=>
    rw[AB]at J;simp only[af7]at J;cases J;rfl
  ·cases U
 ·cases U
theorem NQ{all:List Oper}{gb:Bool}{x:AV}(W:gb=true->x=.bu\/x=.aY [])(I:∀t,o.dst=some t->t<S.n)(hw:∀φ G a w,Rel φ G S a w->Region.wanted o (yielded all.toArray a.tmps)=false):C7 X.P all S o .normal (S.put o.dst gb x):=by
 refine⟨ou ..,nM ..,.inl rfl,λφ G a w H next R A6 _=>?_⟩;rw[aab (by rw[hw φ G a w H];simp)];exact A6 rfl φ _ w (H.put o.dst I gb x undef (λU=>C8 (W U))) (by rw[gm];exact bk.refl ..)
theorem KK{all:List Oper}{j:Nat}{AL t:Bool}(U:o.guard=some (j,AL))(AD:rP all S j=some (true,.d (.bool t))){φ G a w}(H:Rel φ G S a w):Region.wanted o (yielded all.toArray a.tmps)=(t == AL):=by
 have Av:=ZV H AD;simp only[Region.wanted,U,Av];cases t<;>cases AL<;>rfl
theorem GA(S:St)(d b):(S.cz d b).n=S.n:=ou ..
theorem Ey(S:St)(d b):(S.cz d b).gl=S.gl:=nM ..
theorem H6(S:St)(d b):(S.cz d b).mem=S.mem:=gm ..
theorem af5{all:List Oper}{S:St}{j:Nat}{t b:Bool}(AD:rP all S j=some (true,.d (.bool t)))(Z:t=b)(u:Nat):Env.lk (S.cz (nA all j) b).env u=Env.lk S.env u:=by
 subst Z;unfold rP at AD;unfold St.cz nA;split at AD
 ·rename_i Bd AN;split at AD
  ·rename_i d I;simp only[AN,I,St.put,Env.lk];split
   ·rename_i hu;subst hu;exact AD.symm
   ·rfl
  ·cases AD
 ·cases AD
theorem ak5{all:List Oper}{S:St}{j:Nat}{t b:Bool}(AD:rP all S j=some (true,.d (.bool t)))(Z:t=b){φ G a w}(H:Rel φ G S a w):Rel φ G (S.cz (nA all j) b) a w:=
 Rel.eqv H ⟨(GA ..).symm,(Ey ..).symm,(H6 ..).symm,λu=>(af5 AD Z u).symm⟩
theorem xf{all:List Oper}(AF:kT X A5)(A4:S.gl=X.gl)(I:∀t,o.dst=some t->t<S.n){md:Bool}(h:pP X A5 md all S o=some (e,E)):C7 X.P all S o e E:=by
 unfold pP at h;split at h
 ·rename_i U;exact Ew (C6 AF A4 I h) (λ_ _ _ _ _=>by simp[Region.wanted,U])
 ·rename_i j AL U;split at h
  ·rename_i t AD;replace AD:=NC AD;have hw:∀φ G a w,Rel φ G S a w->Region.wanted o (yielded all.toArray a.tmps)=(t == AL):=λφ G a w H=>KK U AD H;have other:∀{r:dO},dy X.P S o=r->(if (t == AL)=true then jc X A5 S o r else some (.normal,S.put o.dst true .bu))=some (e,E)->C7 X.P all S o e E:=by
    intro r AC h;split at h
    ·rename_i Z;exact Ew (C6 AF A4 I (by rw[AC];exact h)) (λφ G a w H=>by rw[hw φ G a w H];exact Z)
    ·rename_i Z;cases h;exact NQ (λ_=>.inl rfl) I (λφ G a w H=>by rw[hw φ G a w H];simpa using Z)
   cases md with
   |true=>
    simp only at h;have BP:∀b,t=b->∀φ G a w,Rel φ G S a w->Rel φ G (S.cz (nA all j) b) a w:=λb Z φ G a w H=>ak5 AD Z H;split at h
    ·rename_i Z;have Al:t=AL:=by simpa using Z
     have:=C6 (S:=S.cz (nA all j) AL) AF (by rw[Ey];exact A4) (λt AG=>by rw[GA];exact I t AG) h;obtain⟨J,M,AK,AS⟩:=this;refine Ew ⟨by rw[J,GA],by rw[M,Ey],AK,λφ G a w H next R A6 AQ=>?_⟩ (λφ G a w H=>by rw[hw φ G a w H];exact Z);have BQ:=AS φ G a w (BP AL Al φ G a w H) next R
     rw[H6]at BQ;exact BQ A6 AQ
    ·rename_i Z;have Al:t=!AL:=by cases t<;>cases AL<;>simp_all
     cases h;refine⟨by rw[ou,GA],by rw[nM,Ey],.inl rfl,λφ G a w H next R A6 _=>?_⟩;rw[aab (by rw[hw φ G a w H];simpa using Z)];exact A6 rfl φ _ w ((BP _ Al φ G a w H).put o.dst (λt AG=>by rw[GA];exact I t AG) true (.aY []) undef (λ_=>C8 (.inr rfl))) (by rw[gm,H6];exact bk.refl ..)
   |false=>
   simp only at h;unfold rA at h;split at h
   ·rename_i c x AC;split at h
    ·rename_i A7;cases h;cases Z:(t == AL)
     ·exact NQ (by simp) I (λφ G a w H=>by rw[hw φ G a w H];exact Z)
     ·exact Ew (Et AC (A7 Z) I) (λφ G a w H=>by rw[hw φ G a w H];exact Z)
    ·cases h
   ·rename_i r H;exact other rfl h
  ·rename_i AD;replace AD:=KC AD;cases h;exact NQ (λ_=>.inr rfl) I (λφ G a w H=>by
    simp only[Region.wanted,U,H5 H AD];cases AL<;>rfl)
  ·cases h
theorem gz{r:Option (XE×St)}{k:St->Option (XE×St)}{y:XE×St}(h:andThen r k=some y):(∃S1,r=some (.normal,S1)/\k S1=some y)\/(r=some y/\y.1≠.normal):=by
 unfold andThen at h;split at h
 ·rename_i S1;exact .inl ⟨S1,rfl,h⟩
 ·rename_i H;refine .inr ⟨h,λhe=>?_⟩;obtain⟨e,S1⟩:=y;simp only at he;subst he;exact H S1 h
theorem bk.post{n:Nat}{φ φ':bP}{G:Fr}{m:Mem}{w w':World}{e:XE}{E:St}{AE:Act}(A6:E.n=n)(H:Rel φ' G E AE w')(Y:bk φ m w φ' E.mem w')(he:e=.normal):qa n φ G m w (Is e E) .normal AE w':=
 ⟨φ',E,A6,⟨he.symm,rfl⟩,H,Y⟩
theorem C9{md:Bool}{all:List Oper}(AF:kT X A5):∀(ops:List Oper)(S:St)(e:XE)(E:St),eW X A5 md all ops S=some (e,E)->S.gl=X.gl->lH S.n ops=true->
 E.n=S.n/\E.gl=S.gl/\∀φ G a w,Rel φ G S a w->∀Q:Exit->Act->World->Prop,(∀e' AE w',qa S.n φ G S.mem w (Is e E) e' AE w'->Q e' AE w')->wpList X.P all.toArray Q ops a w
 |[],S,e,E,h,A4,I=>by
  simp only[eW,aa1,acr]at h;obtain⟨rfl,rfl⟩:=h;exact⟨rfl,rfl,λφ G a w H Q Aw=>Aw _ _ _ (bk.post rfl H (bk.refl ..) rfl)⟩
 |o::rest,S,e,E,h,A4,I=>by
  simp only[lH,aoT,Ds]at I;obtain⟨A_,I⟩:=I;have Aa:∀t,o.dst=some t->t<S.n:=λt AG=>by rw[AG]at A_;simpa using A_
  simp only[eW]at h;rcases gz h with ⟨S1,J,M⟩|⟨J,M⟩
  ·obtain⟨Ar,B4,_,BA⟩:=xf AF A4 Aa J;obtain⟨Be,Bf,Bg⟩:=C9 AF rest S1 e E M (B4.trans A4) (by rw[Ar];exact I);refine⟨Be.trans Ar,Bf.trans B4,λφ G a w H Q Aw=>?_⟩;have:=BA φ G a w H (wpList X.P all.toArray Q rest) Q
    (λ_ φ' AE w' AI AJ=>Bg φ' G AE w' AI Q (λe' a2 Bh AQ=>Aw e' a2 Bh (by rw[<-Ar];exact AQ.weaken AJ))) (λt x he=>by cases he)
   unfold wpList;split
   ·rename_i hw;rw[aat hw]at this;exact .inl this
   ·rename_i hw;rw[aab hw]at this;exact this
  ·obtain⟨Ar,B4,C2,BA⟩:=xf AF A4 Aa J;refine⟨Ar,B4,λφ G a w H Q Aw=>?_⟩;have:=BA φ G a w H (wpList X.P all.toArray Q rest) Q
    (λhe=>absurd he M) (λt x he φ' AE w' v AI AJ AO=>Aw _ _ _ ⟨φ',E,t,x,v,rfl,AO,Ar,⟨he.symm,rfl⟩,AI,AJ⟩)
   unfold wpList;split
   ·rename_i hw;rw[aat hw]at this;exact .inl this
   ·rename_i hw;rw[aab hw]at this;exact this
theorem uD{all:List Oper}{ks:List Nat}{E S:St}(h:mz all o ks E S){x:Operand}(W:x∈o.op.operands.toList):E.au x=S.au x:=by
 cases x with
 |tmp t=>
  simp only[St.au];rw[h.env t (by simp only[looks,aa0,List.mem_filterMap];exact .inl ⟨.tmp t,W,rfl⟩)]
 |global g=>simp only[St.au,h.gl]
 |_=>rfl
theorem KL{all:List Oper}{ks:List Nat}{E S:St}(h:mz all o ks E S){j AL}(U:o.guard=some (j,AL)):Am.rP all E j=Am.rP all S j:=by
 unfold Am.rP;split
 ·rename_i Bd AN;split
  ·rename_i t AG;exact h.env t (by simp only[looks,aa0,U,af1,AN,AG];exact .inr (by simp))
  ·rfl
 ·rfl
theorem yr{E S:St}:∀{l:List Operand},(∀x∈l,E.au x=S.au x)->jV E l=jV S l
 |[],_=>rfl
 |x::r,h=>by simp only[jV,h x (by simp),yr (l:=r) (λy Av=>h y (afT _ Av))]
theorem zr{E S:St}:∀{l:List Operand},(∀x∈l,E.au x=S.au x)->dC E l=dC S l
 |[],_=>rfl
 |x::r,h=>by simp only[dC,h x (by simp),zr (l:=r) (λy Av=>h y (afT _ Av))]
theorem NR{E S:St}(h:∀x∈o.op.operands.toList,E.au x=S.au x):iy E o=iy S o:=by
 unfold iy;split
 ·rfl
 ·exact yr h
theorem KN{all:List Oper}{c:Bool}{x:AV}{gb:Bool}(I:∀t,o.dst=some t->t<S.n)(AC:dy X.P S o=.val c x)(AA:(iy S o&&c)=true)
 (hw:∀E,mz all o (ku S o) E S->∀φ G a w,Rel φ G E a w->Region.wanted o (yielded all.toArray a.tmps)=true):mA X.P all S o ⟨ku S o,[],gb,x⟩:=by
 intro E O φ G a w H next R A6
 rw[aat (hw E O φ G a w H)];have W:∀x∈o.op.operands.toList,E.au x=S.au x:=λx W=>uD O W;have Ax:dy X.P E o=.val c x:=by rw[Kx W O.mem];exact AC
 obtain⟨_,_,_,AS⟩:=Et (gb:=gb) Ax (by rw[NR W];exact AA) (λt AG=>by rw[O.n];exact I t AG);exact AS φ G a w H next R (λ_ φ' AE w' AI AJ=>A6 φ' AE w' AI AJ) (λt x he=>by cases he)
theorem aaj{all:List Oper}{c:Bool}{x:AV}{Af:cq}(I:∀t,o.dst=some t->t<S.n)(AC:dy X.P S o=.dq c x Af)(AA:(iy S o&&c)=true)
 (hw:∀E,mz all o (ku S o) E S->∀φ G a w,Rel φ G E a w->Region.wanted o (yielded all.toArray a.tmps)=true):mA X.P all S o ⟨ku S o,[Af],true,x⟩:=by
 intro E O φ G a w H next R A6
 rw[aat (hw E O φ G a w H)];have W:∀x∈o.op.operands.toList,E.au x=S.au x:=λx W=>uD O W;have Ax:dy X.P E o=.dq c x Af:=by rw[Kx W O.mem];exact AC
 obtain⟨_,_,_,AS⟩:=Rx Ax (by rw[NR W];exact AA) (λt AG=>by rw[O.n];exact I t AG);exact AS φ G a w H next R (λ_ φ' AE w' AI AJ=>A6 φ' AE w' AI AJ) (λt x he=>by cases he)
theorem vN{all:List Oper}{ks:List Nat}{gb:Bool}{x:AV}(I:∀t,o.dst=some t->t<S.n)(W:gb=true->x=.bu\/x=.aY [])
 (hw:∀E,mz all o ks E S->∀φ G a w,Rel φ G E a w->Region.wanted o (yielded all.toArray a.tmps)=false):mA X.P all S o ⟨ks,[],gb,x⟩:=by
 intro E O φ G a w H next R A6
 rw[aab (by rw[hw E O φ G a w H];simp)];exact A6 φ _ w (H.put o.dst (λt AG=>by rw[O.n];exact I t AG) gb x undef (λU=>C8 (W U))) (by simp only[bh.app,gm];exact bk.refl ..)
theorem Wf{all:List Oper}(AF:kT X A5)(A4:S.gl=X.gl)(I:∀t,o.dst=some t->t<S.n){AH:Operand}{args:Array Operand}{AW:Array TypeId}(V:o.op=.call {callee:=.value AH,args,argTypes:=AW})
 {x:AV} {es:List cq} {ks:List Nat} (h:cJ X A5 S o args.toList (S.au AH)=some ⟨.ret x,es,ks⟩)
 (hw:∀E,mz all o ks E S->∀φ G a w,Rel φ G E a w->Region.wanted o (yielded all.toArray a.tmps)=true):mA X.P all S o ⟨ks,es,true,x⟩:=by
 intro E O φ G a w H next R A6
 rw[aat (hw E O φ G a w H)];have W:∀x∈o.op.operands.toList,E.au x=S.au x:=λx W=>uD O W;have Ay:∀x∈args.toList,E.au x=S.au x:=λx BB=>W x (by simp[V,Op.operands,Call.operands];exact .inr (by simpa using BB));obtain⟨g,AR,Ab,Ap,AA,Aq,_,AX⟩:=pa h;have AX:=AX E.mem (λk Y=>O.mem k Y);have BC:E.au AH=(true,.fn g AR):=by rw[W AH (by simp[V,Op.operands,Call.operands])];exact Ap
 have BD:eA A5 E.mem (keyOf o) (qb g) (jC g (dC E args.toList) AR) (X.fp (qb g)).za=some ⟨.ret x,Ab,ks⟩:=by
  rw[zr Ay];exact H4 O.keys Aq (λk Y=>O.mem k Y)
 refine yp AF V BC rfl (by rw[yr Ay];exact AA) BD (O.gl.trans A4) H (λAk An φ' w' v AI AJ AO=>?_) (λt Ak An=>by cases An);cases An;rw[AX]at AI AJ AO;exact A6 φ' _ w' (AI.put o.dst (λt AG=>by show t<E.n;rw[O.n];exact I t AG) true x v (λ_=>AO)) (by simp only[bh.app,gm];exact AJ)
theorem NT{all:List Oper}{S1:St}{p:bh}(AF:kT X A5)(A4:S.gl=X.gl)(I:∀t,o.dst=some t->t<S.n){r:dO}(AC:dy X.P S o=r)(h:eU X A5 S o r=some (S1,p))
 (hw:∀(ks:List Nat) E,mz all o ks E S->∀φ G a w,Rel φ G E a w->Region.wanted o (yielded all.toArray a.tmps)=true):S1=p.app o S/\(∀e∈p.es,e.key∈p.ks)/\mA X.P all S o p:=by
 cases r with
 |val c x=>
  simp only[eU]at h;split at h
  ·rename_i AA;cases h;exact⟨rfl,by simp,KN I AC AA (hw _)⟩
  ·cases h
 |dq c x Af=>
  simp only[eU]at h;split at h
  ·rename_i AA;cases h;simp only[Ds,List.contains_eq_mem,aak]at AA;exact⟨rfl,by simpa using AA.2,aaj I AC (by simpa using AA.1) (hw _)⟩
  ·cases h
 |no=>
  simp only[eU,lg]at h;split at h
  ·rename_i AH args AW V;cases Ac:cJ X A5 S o args.toList (S.au AH)with
   |none=>rw[Ac]at h;cases h
   |some res=>
    rw[Ac]at h;obtain⟨out,es,ks⟩:=res;cases out with
    |panic=>cases h
    |ret x=>
     cases h;refine⟨rfl,?_,Wf AF A4 I V Ac (hw _)⟩;obtain⟨_,_,_,_,_,_,Y,_⟩:=pa Ac;exact Y
  ·cases h
theorem iJ.refl(S:St):iJ S S:=⟨rfl,rfl,rfl,λ_=>rfl⟩
theorem iJ.symm{S E:St}(h:iJ S E):iJ E S:=⟨h.n.symm,h.gl.symm,h.mem.symm,λt=>(h.env t).symm⟩
theorem iJ.trans{S E B1:St}(h:iJ S E)(k:iJ E B1):iJ S B1:=⟨h.n.trans k.n,h.gl.trans k.gl,h.mem.trans k.mem,λt=>(h.env t).trans (k.env t)⟩
theorem iJ.app{S E:St}(h:iJ S E)(p:bh)(o:Oper):iJ (p.app o S) (p.app o E):=
 ⟨by rw[yf,yf,h.n],by rw[uv,uv,h.gl],by simp only[bh.app,gm,h.mem],λt=>by rw[wX,wX,h.env]⟩
theorem mz.eqv{all:List Oper}{ks:List Nat}{E S S0:St}(h:mz all o ks E S)(he:iJ S S0):mz all o ks E S0:=
 ⟨h.n.trans he.n,h.gl.trans he.gl,by rw[h.keys,he.mem],λt AG=>(h.env t AG).trans (he.env t),λk Y=>by rw[h.mem k Y,he.mem]⟩
theorem mA.eqv{P:Program}{all:List Oper}{S S0:St}{p:bh}(h:mA P all S o p)(he:iJ S S0):mA P all S0 o p:=λE O=>h E (O.eqv he.symm)
theorem vL.eqv{P:Program}{Ag:Mem->Prop}{all:List Oper}{S S0:St}{p:bh}(h:vL P Ag all S o p)(he:iJ S S0):vL P Ag all S0 o p:=λE O=>h E (O.eqv he.symm)
theorem GC{P:Program}{Ag:Mem->Prop}{all ops:List Oper}{S S1:St}{ps:List bh}(h:Cert P Ag all ops S ps S1):∀{S0:St},iJ S S0->∃AP,Cert P Ag all ops S0 ps AP/\iJ S1 AP:=by
 induction h with
 |nil S=>exact λhe=>⟨_,.nil _,he⟩
 |cons o rest S p ps S1 Y As h H ih=>
  intro S0 he;obtain⟨AP,M,AK⟩:=ih (he.app p o);exact⟨AP,.cons o rest S0 p ps AP Y As (h.eqv he) M,AK⟩
theorem aal{all:List Oper}{S:St}{j:Nat}{t b:Bool}(AD:rP all S j=some (true,.d (.bool t)))(Z:t=b):iJ (S.cz (nA all j) b) S:=
 ⟨GA ..,Ey ..,H6 ..,λu=>af5 AD Z u⟩
theorem Da{md:Bool}{all:List Oper}{S1:St}{p:bh}(AF:kT X A5)(A4:S.gl=X.gl)(I:∀t,o.dst=some t->t<S.n)(h:ej X A5 md all S o=some (S1,p)):iJ S1 (p.app o S)/\(∀e∈p.es,e.key∈p.ks)/\mA X.P all S o p:=by
 have yes:∀{r:dO},dy X.P S o=r->eU X A5 S o r=some (S1,p)->(∀(ks:List Nat) E,mz all o ks E S->∀φ G a w,Rel φ G E a w->Region.wanted o (yielded all.toArray a.tmps)=true)->iJ S1 (p.app o S)/\(∀e∈p.es,e.key∈p.ks)/\mA X.P all S o p:=by
  intro r AC h hw;obtain⟨J,M,AK⟩:=NT AF A4 I AC h hw;exact⟨by rw[J];exact iJ.refl _,M,AK⟩
 unfold ej at h;split at h
 ·rename_i U;exact yes rfl h (λ_ _ _ _ _ _ _ _=>by simp[Region.wanted,U])
 ·rename_i j AL U;split at h
  ·rename_i t AD;replace AD:=NC AD;have hw:∀(ks:List Nat) E,mz all o ks E S->∀φ G a w,Rel φ G E a w->Region.wanted o (yielded all.toArray a.tmps)=(t == AL):=
    λks E O φ G a w H=>KK U (by rw[KL O U];exact AD) H
   have other:∀{r:dO},dy X.P S o=r->(if (t == AL)=true then eU X A5 S o r else some (S.put o.dst true .bu,⟨[],[],true,.bu⟩))=some (S1,p)->iJ S1 (p.app o S)/\(∀e∈p.es,e.key∈p.ks)/\mA X.P all S o p:=by
    intro r AC h;split at h
    ·rename_i Z;exact yes AC h (λks E O φ G a w H=>by rw[hw ks E O φ G a w H];exact Z)
    ·rename_i Z;cases h;exact⟨iJ.refl _,by simp,vN I (λ_=>.inl rfl) (λE O φ G a w H=>by rw[hw _ E O φ G a w H];simpa using Z)⟩
   cases md with
   |true=>
    simp only at h;split at h
    ·rename_i Z;have Al:t=AL:=by simpa using Z
     have he:=aal AD Al;obtain⟨J,M,AK⟩:=NT (S:=S.cz (nA all j) AL) AF (by rw[Ey];exact A4) (λt AG=>by rw[GA];exact I t AG) rfl h
      (λks E O φ G a w H=>by rw[hw ks E (O.eqv he) φ G a w H];exact Z)
     exact⟨by rw[J];exact he.app p o,M,AK.eqv he⟩
    ·rename_i Z;have Al:t=!AL:=by cases t<;>cases AL<;>simp_all
     cases h;have he:=aal AD Al;exact⟨he.app ⟨[],[],true,.aY []⟩ o,by simp,vN I (λ_=>.inr rfl) (λE O φ G a w H=>by rw[hw _ E O φ G a w H];simpa using Z)⟩
   |false=>
   simp only at h;unfold uB at h;split at h
   ·rename_i c x AC;split at h
    ·rename_i A7;cases h;refine⟨iJ.refl _,by simp,?_⟩;cases Z:(t == AL)
     ·exact vN I (by simp) (λE O φ G a w H=>by rw[hw _ E O φ G a w H];exact Z)
     ·exact KN I AC (A7 Z) (λE O φ G a w H=>by rw[hw _ E O φ G a w H];exact Z)
    ·cases h
   ·exact other rfl h
  ·rename_i AD;replace AD:=KC AD;cases h;exact⟨iJ.refl _,by simp,vN I (λ_=>.inr rfl) (λE O φ G a w H=>by
    have:=H5 H (by rw[KL O U];exact AD);simp only[Region.wanted,U,this];cases AL<;>rfl)⟩
  ·cases h
inductive lM(T:Nat->St->Oper->bh->Prop):Nat->List Oper->St->List bh->Prop
 |nil (i S):lM T i [] S []
 |cons (i o rest S p ps) (h:T i S o p) (H:lM T (i+1) rest (p.app o S) ps):lM T i (o::rest) S (p::ps)
theorem lM.eqv{T:Nat->St->Oper->bh->Prop}(At:∀i S S0 o p,iJ S S0->T i S o p->T i S0 o p){i:Nat}{ops:List Oper}{S:St}{ps:List bh}(h:lM T i ops S ps):∀{S0:St},iJ S S0->lM T i ops S0 ps:=by
 induction h with
 |nil i S=>exact λ_=>.nil _ _
 |cons i o rest S p ps h H ih=>exact λhe=>.cons _ _ _ _ _ _ (At _ _ _ _ _ he h) (ih (he.app p o))
theorem lM.mono{T BR:Nat->St->Oper->bh->Prop}{i:Nat}{ops:List Oper}{S:St}{ps:List bh}(h:lM T i ops S ps):(∀k S o p,i<=k->T k S o p->BR k S o p)->lM BR i ops S ps:=by
 induction h with
 |nil i S=>exact λ_=>.nil _ _
 |cons i o rest S p ps h H ih=>exact λY=>.cons _ _ _ _ _ _ (Y _ _ _ _ (aad _) h) (ih λk S o p hi=>Y k S o p (by omega))
theorem lM.len{T:Nat->St->Oper->bh->Prop}{i:Nat}{ops:List Oper}{S:St}{ps:List bh}(h:lM T i ops S ps):ps.length=ops.length:=by
 induction h with
 |nil i S=>rfl
 |cons i o rest S p ps h H ih=>simp[ih]
theorem lM.at{T:Nat->St->Oper->bh->Prop}{all:List Oper}{ps:List bh}{i:Nat}{rest:List Oper}{S0 S:St}{AZ:List bh}(h:lM T i rest S AZ):∀(pre:List Oper)(pp:List bh),pre.length=i->pre.length=pp.length->all=pre++rest->ps=pp++AZ->aJ all ps S0 (List.range pre.length)=S->
 ∀j o p,pre.length<=j->all[j]?=some o->ps[j]?=some p->T j (aJ all ps S0 (List.range j)) o p:=by
 induction h with
 |nil i S=>
  intro pre pp hi AU O BE BF j o p AN V;simp only[afV]at O;subst O;rw[afX (by omega)]at V;cases V
 |cons i o rest S p AZ At H ih=>
  intro pre pp hi AU O BE BF j BS Bi AN BG BH;have Ah:all[pre.length]?=some o:=by rw[O];simp
  have Ao:ps[pre.length]?=some p:=by rw[BE,AU];simp
  rcases Nat.eq_or_lt_of_le AN with rfl|AN
  ·rw[Ah]at BG;rw[Ao]at BH;cases BG;cases BH;rw[BF,hi];exact At
  ·exact ih (pre++[o]) (pp++[p]) (by simp[hi]) (by simp[AU]) (by rw[O];simp) (by rw[BE];simp) (by
    rw[aam,af4,List.range_succ,qO,BF];simp[aJ,Ah,Ao]) j BS Bi (by simp;omega) BG BH
theorem En.eqv{P:Program}{all:List Oper}{S S0:St}{p:bh}{t:TypeId}{x:D}(h:En P all S o p t x)(he:iJ S S0):En P all S0 o p t x:=λE O=>h E (O.eqv he.symm)
def TT(P:Program)(all:List Oper)(j:Nat)(Ai:List Nat)(t:TypeId)(x:D)(N:Nat)(S1:St)(i:Nat)(S:St)(o:Oper)(p:bh):Prop:=
 (∀e∈p.es,e.key∈p.ks)/\(i≠j->(i<j\/Ai.contains i=true)->mA P all S o p)/\(i=j->En P all S o p t x/\S1.n=S.n/\S1.gl=S.gl/\S1.mem=lL N (bH S.mem p.es))
theorem TT.eqv{P:Program}{all:List Oper}{j:Nat}{Ai:List Nat}{t:TypeId}{x:D}{N:Nat}{S1:St}(i:Nat)(S S0:St)(o:Oper)(p:bh)(he:iJ S S0)(h:TT P all j Ai t x N S1 i S o p):TT P all j Ai t x N S1 i S0 o p:=
 ⟨h.1,λa b=>(h.2.1 a b).eqv he,λa=>⟨(h.2.2 a).1.eqv he,(h.2.2 a).2.1.trans he.n,(h.2.2 a).2.2.1.trans he.gl,by rw[<-he.mem];exact (h.2.2 a).2.2.2⟩⟩
theorem ak6{X:Ctx}:kT X (λ_ _ _=>none):=λg args cs out l h=>by cases h
theorem Db{md:Bool}{all:List Oper}{Ai:List Nat}:∀(ops:List Oper)(i:Nat)(S:St)(A0 AZ:List bh),o7 X md all Ai i ops S A0=some AZ->S.gl=X.gl->lH S.n ops=true->
 ∃ps,AZ=A0.reverse++ps/\lM (λi S o p=>(∀e∈p.es,e.key∈p.ks)/\(Ai.contains i=true->mA X.P all S o p)) i ops S ps
 |[],i,S,A0,AZ,h,A4,I=>by
  simp only[o7,aa1]at h;exact⟨[],by simp[h],.nil _ _⟩
 |o::rest,i,S,A0,AZ,h,A4,I=>by
  simp only[lH,aoT,Ds]at I;obtain⟨A_,I⟩:=I;have Aa:∀t,o.dst=some t->t<S.n:=λt AG=>by rw[AG]at A_;simpa using A_
  simp only[o7]at h;cases AN:Ai.contains i with
  |true=>
   rw[AN]at h;simp only at h;cases U:ej X (λ_ _ _=>none) md all S o with
   |none=>rw[U]at h;cases h
   |some q=>
    obtain⟨AP,p⟩:=q;rw[U]at h;simp only at h;obtain⟨heq,Au,Ad⟩:=Da ak6 A4 Aa U;obtain⟨ps,J,M⟩:=Db rest (i+1) AP (p::A0) AZ h (by rw[heq.gl,uv];exact A4) (by rw[heq.n,yf];exact I);exact⟨p::ps,by rw[J];simp,.cons _ _ _ _ _ _ ⟨Au,λ_=>Ad⟩ (M.eqv (λ_ _ _ _ _ he h=>⟨h.1,λa=>(h.2 a).eqv he⟩) heq)⟩
  |false=>
   rw[AN]at h;simp only at h;obtain⟨ps,J,M⟩:=Db rest (i+1) (S.put o.dst false .bu) _ AZ h (by rw[nM];exact A4) (by rw[ou];exact I);exact⟨⟨[],[],false,.bu⟩::ps,by rw[J];simp,.cons _ _ _ _ _ _ ⟨by simp,λhh=>by rw[AN]at hh;cases hh⟩ M⟩
theorem KO{q:KD}(h:mR X A5 S o=some q):o.guard=none/\dy X.P S o=.no/\∃AH args AW,o.op=.call {callee:=.value AH,args,argTypes:=AW}/\cJ X A5 S o args.toList (S.au AH)=some ⟨.panic q.t q.x,q.es,q.ks⟩/\q.S={S with mem:=bH S.mem q.es}:=by
 unfold mR at h;split at h
 ·rename_i U;unfold Gt at h;split at h
  ·rename_i AC;refine⟨U,AC,?_⟩;unfold ND at h;split at h
   ·rename_i AH args AW V;unfold zc at h;split at h
    ·rename_i t x es ks A7;cases h;exact⟨AH,args,AW,V,A7,rfl⟩
    ·cases h
   ·cases h
  ·cases h
 ·cases h
theorem NU{args:List Operand}{AH:Bool×AV}{out:Out}{es:List cq}{ks:List Nat}(Ac:cJ X A5 S o args AH=some ⟨out,es,ks⟩):∀e∈es,e.key∈ks:=by
 obtain⟨_,_,_,_,_,_,Y,_⟩:=pa Ac;exact Y
theorem Wg{all:List Oper}(AF:kT X A5)(A4:S.gl=X.gl){AH:Operand}{args:Array Operand}{AW:Array TypeId}(U:o.guard=none)(V:o.op=.call {callee:=.value AH,args,argTypes:=AW})
 {t:TypeId} {x:D} {es:List cq} {ks:List Nat} (h:cJ X A5 S o args.toList (S.au AH)=some ⟨.panic t x,es,ks⟩):En X.P all S o ⟨ks,es,true,.bu⟩ t x:=by
 intro E O φ G a w H next R A6
 rw[aat (by simp[Region.wanted,U])];have W:∀x∈o.op.operands.toList,E.au x=S.au x:=λx W=>uD O W;have Ay:∀x∈args.toList,E.au x=S.au x:=λx BB=>W x (by simp[V,Op.operands,Call.operands];exact .inr (by simpa using BB));obtain⟨g,AR,Ab,Ap,AA,Aq,_,AX⟩:=pa h;have AX:=AX E.mem (λk Y=>O.mem k Y);have BC:E.au AH=(true,.fn g AR):=by rw[W AH (by simp[V,Op.operands,Call.operands])];exact Ap
 have BD:eA A5 E.mem (keyOf o) (qb g) (jC g (dC E args.toList) AR) (X.fp (qb g)).za=some ⟨.panic t x,Ab,ks⟩:=by
  rw[zr Ay];exact H4 O.keys Aq (λk Y=>O.mem k Y)
 refine yp AF V BC rfl (by rw[yr Ay];exact AA) BD (O.gl.trans A4) H (λAk An=>by cases An) (λBb Ak An φ' w' v AI AJ AO=>?_);cases An;rw[AX]at AI AJ AO;exact A6 φ' a w' v AI AJ AO
theorem FL{md:Bool}{AM:Nat×List (List Nat)}{all:List Oper}(AF:kT X A5):∀(ops:List Oper)(S:St)(A0:List bh)(e:XE)(S1:St),gw X A5 md AM all ops S A0=some (e,S1)->S.gl=X.gl->lH S.n ops=true->
 (e=.normal/\∃ps AP,Cert X.P (λ_=>True) all ops S ps AP/\iJ S1 AP/\oZ AM.2 (A0.reverse++ps)=true)\/
 (∃t x j ps,e=.panic t x/\A0.length<=j/\j<A0.length+ops.length/\lM (TT X.P all j (AM.2.getD j []) t x (AM.1+hP (A0.reverse++ps)+1) S1) A0.length ops S ps/\oZ AM.2 (A0.reverse++ps)=true/\CU (A0.reverse++ps) (AM.2.getD j [])=true/\S1.env=[])
 |[],S,A0,e,S1,h,A4,I=>by
  simp only[gw]at h;split at h
  ·rename_i AT;cases h;exact .inl ⟨rfl,[],S,.nil S,iJ.refl _,by simpa using AT⟩
  ·cases h
 |o::rest,S,A0,e,S1,h,A4,I=>by
  have Bj:=I;simp only[lH,aoT,Ds]at I;obtain⟨A_,I⟩:=I;have Aa:∀t,o.dst=some t->t<S.n:=λt AG=>by rw[AG]at A_;simpa using A_
  simp only[gw]at h;cases AQ:mR X A5 S o with
  |some q=>
   right;rw[AQ]at h;simp only[oe,Gu]at h;obtain⟨U,AC,AH,args,AW,V,A7,BT⟩:=KO AQ;obtain⟨C3,t,x,es,ks⟩:=q;simp only at A7 BT h;subst BT;cases BI:o7 X md all (AM.2.getD A0.length []) (A0.length+1) rest (({S with mem:=bH S.mem es}:St).put o.dst true .bu) (⟨ks,es,true,.bu⟩::A0)with
   |none=>rw[BI]at h;cases h
   |some AZ=>
    rw[BI]at h;simp only[Wa]at h;split at h
    ·rename_i B5;simp only[Ds]at B5;obtain⟨rfl,rfl⟩:XE.panic t x=e/\St.kill {S with mem:=bH S.mem es} (AM.1+hP AZ+1)=S1:=by simpa using h
     obtain⟨ps,rfl,Bk⟩:=Db rest (A0.length+1) _ _ _ BI (by rw[nM];exact A4) (by rw[ou];exact I);have Ah:(⟨ks,es,true,.bu⟩::A0:List bh).reverse++ps=A0.reverse++(⟨ks,es,true,.bu⟩::ps):=by simp
     rw[Ah]at B5⊢;refine⟨t,x,A0.length,⟨ks,es,true,.bu⟩::ps,rfl,aad _,by simp,.cons _ _ _ _ _ _ ⟨NU A7,λhh=>absurd rfl hh,λ_=>⟨Wg AF A4 U V A7,rfl,rfl,rfl⟩⟩ (Bk.mono λk S o p Y At=>?_),B5.1,B5.2,rfl⟩;exact⟨At.1,λ_ hh=>At.2 (hh.resolve_left (by omega)),λhh=>by omega⟩
    ·cases h
  |none=>
   rw[AQ]at h;simp only[oe]at h;cases U:ej X A5 md all S o with
   |none=>rw[U]at h;cases h
   |some q=>
    obtain⟨AP,p⟩:=q;rw[U]at h;simp only[A2]at h;obtain⟨heq,Au,Ad⟩:=Da AF A4 Aa U;rcases FL AF rest AP (p::A0) e S1 h (by rw[heq.gl,uv];exact A4) (by rw[heq.n,yf];exact I)with ⟨he,ps,BJ,A7,BK,AT⟩|⟨t,x,j,ps,he,Bl,Bm,A7,AT,BU,Bn⟩
    ·left;obtain⟨Aj,Az,B'⟩:=GC A7 heq;exact⟨he,p::ps,Aj,.cons o rest S p ps Aj Au (λ_ _=>trivial) Ad.toI Az,BK.trans B',by simpa using AT⟩
    ·right;have Ah:(p::A0).reverse++ps=A0.reverse++(p::ps):=by simp
     rw[Ah]at AT BU A7;simp only[aan]at Bl Bm A7;exact⟨t,x,j,p::ps,he,by omega,by simp;omega,.cons _ _ _ _ _ _ ⟨Au,λ_ _=>Ad,λhh=>by omega⟩ (A7.eqv TT.eqv heq),AT,BU,Bn⟩
def cellOf:Bool->aD->Nat->Option AV
 |false,.box cs,j=>cs[j]?
 |true,.vv aj (some x),j=>if aj.length=j then some x else none
 |_,_,_=>none
def u4(A':List Cl)(m:Mem):Prop:=∀q∈A',∃c,Mem.get m q.k=some ⟨q.k,q.v,c⟩/\cellOf q.vv c q.j=some q.x
theorem Wh{c:aD}{j:Nat}{x:AV}(h:cellOf false c j=some x):∃cs,c=.box cs/\cs[j]?=some x:=by
 cases c with
 |box cs=>exact⟨cs,rfl,h⟩
 |dead=>cases h
 |vec _ _=>cases h
 |vv _ _=>cases h
theorem aao{c:aD}{j:Nat}{x:AV}(h:cellOf true c j=some x):∃aj,c=.vv aj (some x)/\aj.length=j:=by
 cases c with
 |box cs=>cases h
 |dead=>cases h
 |vec _ _=>cases h
 |vv aj y=>
  cases y with
  |none=>cases h
  |some y=>
   simp only[cellOf]at h;split at h
   ·rename_i AN;cases h;exact⟨aj,rfl,AN⟩
   ·cases h
theorem aap:∀{x y:AV},FH x y=true->x=y:=by
 intro x y h;unfold FH at h;split at h
 ·simp only[Ds,aak]at h;obtain⟨⟨⟨rfl,rfl⟩,rfl⟩,rfl⟩:=h;rfl
 ·simp only[Ds,aak]at h;obtain⟨⟨rfl,rfl⟩,rfl⟩:=h;rfl
 ·simp only[Ds,aak]at h;obtain⟨rfl,rfl⟩:=h;rfl
 ·simp only[aak]at h;subst h;rfl
 ·cases h
theorem A8{m:Mem}:∀{fl:List (Nat×Nat)}{A':List Cl},fB m fl=some A'->u4 A' m
 |[],A',h=>by simp[fB]at h;subst h;exact λq AB=>by simp at AB
 |(k,j)::r,A',h=>by
  unfold fB at h;split at h
  ·rename_i key v cs l U AU;split at h
   ·rename_i x W;cases h;have Y:key=k:=(Mem.get_mem U).2;subst Y;intro q AB;rcases aaC.1 AB with rfl|AB
    ·exact⟨.box cs,U,W⟩
    ·exact A8 AU q AB
   ·cases h
  ·rename_i key v aj x l U AU;cases h;have Y:key=k:=(Mem.get_mem U).2;subst Y;intro q AB;rcases aaC.1 AB with rfl|AB
   ·exact⟨.vv aj (some x),U,by simp[cellOf]⟩
   ·exact A8 AU q AB
  ·cases h
theorem adI{q:Cl}{v:Nat}{c:aD}(h:HZ q v c=true):v=q.v/\cellOf q.vv c q.j=some q.x:=by
 unfold HZ at h;split at h
 ·rename_i cs;simp only[Ds,aak,ahK]at h;obtain⟨⟨J,M⟩,AK⟩:=h;refine⟨M,?_⟩;rw[J];simp only[cellOf];unfold KF at AK;split at AK
  ·rename_i x W;rw[W,aap AK]
  ·cases AK
 ·rename_i aj x;simp only[Ds,aak]at h;obtain⟨⟨⟨J,M⟩,AK⟩,AS⟩:=h;refine⟨M,?_⟩;rw[J];simp only[cellOf,AK,acH,aap AS]
 ·cases h
theorem NW{e:cq}:∀{A':List Cl},ze e A'=true->∀q∈A',e.key=q.k->∃c,e=⟨q.k,q.v,c⟩/\cellOf q.vv c q.j=some q.x
 |[],_,q,AB,_=>by simp at AB
 |p::r,h,q,AB,Y=>by
  simp only[ze,Ds]at h;rcases aaC.1 AB with rfl|AB
  ·have J:=h.1;simp only[Y,decide_true]at J;obtain⟨key,ar,cont⟩:=e;simp only at Y J;subst Y;obtain⟨rfl,M⟩:=adI J;exact⟨cont,rfl,M⟩
  ·exact NW h.2 q AB Y
theorem KR{A':List Cl}:∀{es:List cq},rZ A' es=true->∀m,u4 A' m->u4 A' (bH m es)
 |[],_,m,hm=>hm
 |e::r,h,m,hm=>by
  simp only[rZ,Ds]at h;refine KR h.2 _ (λq AB=>?_);obtain⟨cs,J,M⟩:=hm q AB;by_cases Y:e.key=q.k
  ·obtain⟨Bo,he,W⟩:=NW h.1 q AB Y;refine⟨Bo,?_,W⟩;have Bp:e.key∈m.map (·.key):=by
    obtain⟨AK,AS⟩:=Mem.get_mem J;rw[Y];exact ab0 AK
   rw[<-Y,Mem.rK Bp,he]
  ·exact⟨cs,by rw[Mem.rL Y];exact J,M⟩
theorem Dc{b:Bool}{k v j:Nat}{x:AV}:∀{A':List Cl},qQ b k v j A'=some x->∃q∈A',q.vv=b/\q.k=k/\q.v=v/\q.j=j/\q.x=x
 |[],h=>by simp[qQ]at h
 |q::r,h=>by
  unfold qQ at h;split at h
  ·rename_i Z;simp only[Ds,aak]at Z;cases h;exact⟨q,by simp,Z.1.1.1.symm,Z.1.1.2.symm,Z.1.2.symm,Z.2.symm,rfl⟩
  ·obtain⟨BL,J,M⟩:=Dc h;exact⟨BL,by simp[J],M⟩
theorem A9{b:Bool}{k v:Nat}:∀{A':List Cl},tc b k v A'=true->∃q∈A',q.vv=b/\q.k=k/\q.v=v
 |[],h=>by simp[tc]at h
 |q::r,h=>by
  unfold tc at h;split at h
  ·rename_i Z;simp only[Ds,aak]at Z;exact⟨q,by simp,Z.1.1.symm,Z.1.2.symm,Z.2.symm⟩
  ·obtain⟨BL,J,M⟩:=A9 h;exact⟨BL,by simp[J],M⟩
theorem Jx{A':List Cl}{m:Mem}(hm:u4 A' m){q:Cl}(AB:q∈A')(AO:q.vv=false):∃cs,Mem.get m q.k=some ⟨q.k,q.v,.box cs⟩/\cs[q.j]?=some q.x:=by
 obtain⟨c,J,M⟩:=hm q AB;rw[AO]at M;obtain⟨cs,rfl,AK⟩:=Wh M;exact⟨cs,J,AK⟩
theorem aaq{A':List Cl}{m:Mem}(hm:u4 A' m){q:Cl}(AB:q∈A')(AO:q.vv=true):∃aj,Mem.get m q.k=some ⟨q.k,q.v,.vv aj (some q.x)⟩/\aj.length=q.j:=by
 obtain⟨c,J,M⟩:=hm q AB;rw[AO]at M;obtain⟨cs,rfl,AK⟩:=aao M;exact⟨cs,J,AK⟩
theorem adJ{P:Program}{A':List Cl}{S:St}{x:AV}(h:qR P A' S o.op=some x)(hm:u4 A' S.mem):∃c,dy P S o=.val c x/\(iy S o&&c)=true:=by
 unfold qR at h;split at h
 ·rename_i t y V;unfold yj at h;split at h
  ·rename_i k v off heq;split at h
   ·rename_i BM B0;obtain⟨q,AB,Ae,rfl,rfl,rfl,rfl⟩:=Dc h;obtain⟨cs,J,M⟩:=Jx hm AB Ae;have B3:q.j<cs.length:=(D1.1 M).1;refine⟨true,?_,by simp[iy,V,jV,Op.operands,heq]⟩;unfold dy;rw[V];simp only[heq,oo,J,BM,M,af7];simp only[afP]at B0;simp[B0,B3]
   ·cases h
  ·rename_i k v i j heq;split at h
   ·rename_i BM B0 AN;obtain⟨q,AB,Ae,rfl,rfl,rfl,rfl⟩:=Dc h;obtain⟨aj,J,M⟩:=aaq hm AB Ae;simp only[aak]at AN;subst AN;refine⟨true,?_,by simp[iy,V,jV,Op.operands,heq]⟩;unfold dy;rw[V];simp only[heq,oo,J,BM];simp only[afP]at B0;simp[B0,M]
   ·cases h
  ·cases h
 ·rename_i s y f V;unfold yk at h;split at h
  ·rename_i n k v off A6 heq;split at h
   ·rename_i A7;cases h;obtain⟨q,AB,Ae,rfl,rfl⟩:=A9 A7;obtain⟨cs,J,M⟩:=Jx hm AB Ae;refine⟨true,?_,by simp[iy,V,jV,Op.operands,heq]⟩;unfold dy;rw[V];simp[heq,rn,A6,J]
   ·cases h
  ·cases h
 ·rename_i y V;unfold yl at h;split at h
  ·rename_i k v off heq;split at h
   ·rename_i A7;cases h;obtain⟨q,AB,Ae,rfl,rfl⟩:=A9 A7;obtain⟨cs,J,M⟩:=Jx hm AB Ae;refine⟨true,?_,by simp[iy,V,jV,Op.operands,heq]⟩;unfold dy;rw[V];simp[heq,kC,J]
   ·cases h
  ·cases h
 ·rename_i t y z V;unfold ym at h;split at h
  ·rename_i e k v off len C4 n Bq heq BV;split at h
   ·rename_i BW A7 BX BY;cases h;simp only[aak]at BW BX BY;obtain⟨q,AB,Ae,rfl,rfl⟩:=A9 A7;obtain⟨aj,J,M⟩:=aaq hm AB Ae;refine⟨true,?_,by simp[iy,V,jV,Op.operands,heq,BV]⟩;unfold dy;rw[V];simp[heq,BV,oP,Bq,BW,J,BX,BY]
   ·cases h
  ·cases h
 ·cases h
theorem aar{P:Program}{A':List Cl}{E S:St}(h:∀x∈o.op.operands.toList,E.au x=S.au x):qR P A' E o.op=qR P A' S o.op:=by
 unfold qR;split
 ·rename_i t y V;rw[h y (by simp[V,Op.operands])]
 ·rename_i s y f V;rw[h y (by simp[V,Op.operands])]
 ·rename_i y V;rw[h y (by simp[V,Op.operands])]
 ·rename_i t y z V;rw[h y (by simp[V,Op.operands]),h z (by simp[V,Op.operands])]
 ·rfl
theorem Wi{all:List Oper}{A':List Cl}{x:AV}(I:∀t,o.dst=some t->t<S.n)(h:oz X.P A' S o=some x):vL X.P (u4 A') all S o ⟨[],[],true,x⟩:=by
 intro E O As φ G a w H next R A6
 unfold oz at h;split at h
 ·rename_i U;rw[aat (by simp[Region.wanted,U])];have W:∀x∈o.op.operands.toList,E.au x=S.au x:=λx W=>uD O W;obtain⟨c,Ax,AA⟩:=adJ (by rw[aar W];exact h) As;obtain⟨_,_,_,AS⟩:=Et (gb:=true) Ax AA (λt AG=>by rw[O.n];exact I t AG);exact AS φ G a w H next R (λ_ φ' AE w' AI AJ=>A6 φ' AE w' AI AJ) (λt x he=>by cases he)
 ·cases h
theorem QL{l:List Nat}{r:List Oper}(h:kR l r=true):l=[]/\r=[]:=by
 cases l<;>cases r<;>simp_all [kR]
theorem adK{all:List Oper}{AM:List (List Nat)}{ps:List bh}(AC:Gq all AM=true)(AU:ps.length+1=all.length)(A6:AM.getD (all.length-1) []=[])(I:oZ AM ps=true):pK all (ps++[FG])=true:=by
 have Br:=FE AC A6;unfold pK;refine abX.2 λj AN=>?_;have J:=abX.1 AC j AN;have Bs:j<all.length:=aca.1 AN;unfold CT at J;unfold Me;have Bt:(ps++[FG])[j]?=some ((ps++[FG])[j]'(by simp;omega)):=by simp[AU,Bs]
 rw[Bt];cases V:all[j]? with
 |none=>rw[V]at J;cases J
 |some o=>
  rw[V]at J;simp only[Ds,abX,aak,ahR,aca]at J⊢;refine⟨J.1,λi hi=>?_⟩;by_cases B8:j+1=all.length
  ·left;have:=Br i (by omega);rw[<-B8]at this;simpa using this
  ·rcases J.2 i hi with M|M
   ·exact .inl M
   ·right;have B6:j<ps.length:=by omega
    have Bu:(ps++[FG])[i]?=some (ps[i]'(by omega)):=by rw[aaF (by omega)];simp[show i<ps.length by omega]
    have Bv:(ps++[FG])[j]'(by simp;omega)=ps[j]'B6:=List.getElem_append_left B6
    rw[Bv];cases BZ:all[i]? with
    |none=>rw[BZ]at M;cases M
    |some BS=>
     rw[BZ]at M;rw[Bu];simp only[Ds]at M;simp only[CM];have Ah:=AY (sX I i _ (abJ (show i<ps.length by omega))) j (by simpa using M.2.1) _ (abJ B6);have Ao:=AY (sX I j _ (abJ B6)) i (by simpa using M.2.2) _ (abJ (show i<ps.length by omega));have B_:=M.1;simp only[Gp,Ds]at B_;simp only[Ds];exact⟨⟨B_,Ah⟩,Ao⟩
def aas(P:Program)(Ag:Mem->Prop)(AM:List (List Nat))(all ops:List Oper)(S:St)(A0:List bh)(e:XE)(S1:St):Prop:=
 (e=.normal/\∃ps AP,Cert P Ag all ops S ps AP/\iJ S1 AP/\oZ AM (A0.reverse++ps)=true)\/
  (∃init ol ps AP,ops=init++[ol]/\Cert P Ag all init S ps AP/\AM.getD (all.length-1) []=[]/\oZ AM (A0.reverse++ps)=true/\C7 P all AP ol e S1)
theorem C7.eqv{P:Program}{all:List Oper}{S S0 S1:St}{e:XE}(h:C7 P all S o e S1)(he:iJ S S0):C7 P all S0 o e S1:=by
 obtain⟨J,M,AK,AS⟩:=h;refine⟨J.trans he.n,M.trans he.gl,AK,λφ G a w H next R A6 AQ=>?_⟩;have:=AS φ G a w (H.eqv he.symm) next R
 rw[he.mem]at this;exact this A6 AQ
theorem KS{md:Bool}{AM:List (List Nat)}{A':List Cl}{all:List Oper}(AF:kT X A5):∀(ops:List Oper)(S:St)(A0:List bh)(e:XE)(S1:St),A0.length+ops.length=all.length->mh X A5 md AM A' all ops S A0=some (e,S1)->S.gl=X.gl->lH S.n ops=true->
 aas X.P (u4 A') AM all ops S A0 e S1
 |[],S,A0,e,S1,_,h,A4,I=>by
  simp only[mh]at h;split at h
  ·rename_i AT;cases h;exact .inl ⟨rfl,[],S,.nil S,iJ.refl _,by simpa using AT⟩
  ·cases h
 |o::rest,S,A0,e,S1,Ba,h,A4,I=>by
  have Bj:=I;simp only[lH,aoT,Ds]at I;obtain⟨A_,I⟩:=I;have Aa:∀t,o.dst=some t->t<S.n:=λt AG=>by rw[AG]at A_;simpa using A_
  simp only[aan]at Ba;simp only[mh]at h;cases BN:kR (AM.getD A0.length []) rest with
  |true=>
   rw[BN]at h;simp only[Ju]at h;obtain⟨Bw,rfl⟩:=QL BN;split at h
   ·rename_i AT;right;refine⟨[],o,[],S,rfl,.nil S,?_,by simpa using AT,?_⟩
    ·have:all.length-1=A0.length:=by simp at Ba;omega
     rw[this];exact Bw
    ·simp only[eW]at h;rcases gz h with ⟨BJ,J,M⟩|⟨J,M⟩
     ·cases M;exact xf AF A4 Aa J
     ·exact xf AF A4 Aa J
   ·cases h
  |false=>
  rw[BN]at h;simp only at h;have glue:∀(p:bh)(E:St),(∀e∈p.es,e.key∈p.ks)->(∀m,u4 A' m->u4 A' (bH m p.es))->vL X.P (u4 A') all S o p->iJ E (p.app o S)->mh X A5 md AM A' all rest E (p::A0)=some (e,S1)->aas X.P (u4 A') AM all (o::rest) S A0 e S1:=by
   intro p E Y As Ad heq B9;rcases KS AF rest E (p::A0) e S1 (by simp;omega) B9 (by rw[heq.gl,uv];exact A4) (by rw[heq.n,yf];exact I)with ⟨he,ps,BJ,A7,BK,AT⟩|⟨init,ol,ps,BJ,H,A7,A6,AT,Bx⟩
   ·obtain⟨Aj,Az,B'⟩:=GC A7 heq;exact .inl ⟨he,p::ps,Aj,.cons o rest S p ps Aj Y As Ad Az,BK.trans B',by simpa using AT⟩
   ·obtain⟨Aj,Az,B'⟩:=GC A7 heq;exact .inr ⟨o::init,ol,p::ps,Aj,by rw[H];rfl,.cons o init S p ps Aj Y As Ad Az,A6,by simpa using AT,Bx.eqv B'⟩
  cases AU:oz X.P A' S o with
  |some x=>
   rw[AU]at h;simp only[nB,A2]at h;exact glue ⟨[],[],true,x⟩ _ (by simp) (λ_ h=>h) (Wi (X:=X) (all:=all) Aa AU) (iJ.refl _) h
  |none=>
   rw[AU]at h;simp only[nB]at h;cases U:ej X A5 md all S o with
   |none=>rw[U]at h;cases h
   |some q=>
    obtain⟨AP,p⟩:=q;rw[U]at h;simp only[A3]at h;split at h
    ·rename_i hinv;simp only[A2]at h;obtain⟨heq,Au,Ad⟩:=Da AF A4 Aa U;exact glue p AP Au (KR hinv) Ad.toI heq h
    ·cases h
end
theorem bz.adL{φ:bP}{G:Fr}{m:Mem}{w:World}(h:bz φ G m w){H I e1' e2':cq}(A5:H∈m)(A6:I∈m)(AM:H.key≠I.key){Y Z L1' L2':Loc}(A7:φ H.key=some Y)(A8:φ I.key=some Z)
 (A1:e1'.key=H.key) (A2:e2'.key=I.key) (AN:Y.ar<=L1'.ar) (AO:Z.ar<=L2'.ar) (AP:L1'.ar=Y.ar->L1'={Y with da:=L1'.da}) (AQ:L2'.ar=Z.ar->L2'={Z with da:=L2'.da})
 (AR:L1'.ar=e1'.ar) (AS:L2'.ar=e2'.ar) (A9:∀b,e1'.cont.db L1' b->H.cont.db Y b\/I.cont.db Z b) (AA:∀b,e2'.cont.db L2' b->H.cont.db Y b\/I.cont.db Z b)
 (AH:∀b,e1'.cont.db L1' b->e2'.cont.db L2' b->False)
 (AT:∀(φ':bP)(F':Nat->Prop),φ.le φ'->φ' H.key=some L1'->φ' I.key=some L2'->(∀b,F' b->Fo G φ m b)->eJ φ' w F' L1' e1'.cont/\eJ φ' w F' L2' e2'.cont):
 ∃φ',bz φ' G (Mem.set (Mem.set m e1') e2') w/\bk φ m w φ' (Mem.set (Mem.set m e1') e2') w:=by
 obtain⟨m',AB⟩:∃m',m'=Mem.set (Mem.set m e1') e2':=⟨_,rfl⟩;rw[<-AB];have AU:((Mem.set m e1').map (·.key)).Nodup:=by rw[Mem.iE];exact h.nodup
 have AI:m'.map (·.key)=m.map (·.key):=by rw[AB,Mem.iE,Mem.iE]
 have A3:∀y,y∈m'->y=e2'\/y=e1'\/(y∈m/\y.key≠H.key/\y.key≠I.key):=by
  intro y V;rw[AB]at V;rcases (Mem.mem_set AU).1 V with ⟨D,_⟩|⟨D,J⟩
  ·exact .inl D
  ·rcases (Mem.mem_set h.nodup).1 D with ⟨D,_⟩|⟨D,W⟩
   ·exact .inr (.inl D)
   ·exact .inr (.inr ⟨D,by rw[<-A1];exact W,by rw[<-A2];exact J⟩)
 obtain⟨φ',AC⟩:∃φ':bP,φ'=λj=>if j=H.key then some L1' else if j=I.key then some L2' else φ j:=⟨_,rfl⟩
 have f1:φ' H.key=some L1':=by simp[AC]
 have f2:φ' I.key=some L2':=by simp[AC,show ¬I.key=H.key from λh=>AM h.symm]
 have f3:∀j,j≠H.key->j≠I.key->φ' j=φ j:=λj D J=>by simp[AC,D,J]
 have hle:φ.le φ':=by
  intro j AD A';by_cases D:j=H.key
  ·subst D;rw[A7]at A';cases A';exact⟨_,f1,AN,AP⟩
  ·by_cases J:j=I.key
   ·subst J;rw[A8]at A';cases A';exact⟨_,f2,AO,AQ⟩
   ·exact⟨AD,by rw[f3 j D J];exact A',aad _,λ_=>rfl⟩
 have AJ:∀b,H.cont.db Y b\/I.cont.db Z b->jQ φ m b:=λb M=>M.elim (λM=>⟨H,A5,Y,A7,M⟩) (λM=>⟨I,A6,Z,A8,M⟩);have AE:∀b,jQ φ' m' b->jQ φ m b:=by
  rintro b ⟨y,V,U,E,O⟩;rcases A3 y V with rfl|rfl|⟨D,J,W⟩
  ·rw[A2,f2]at E;cases E;exact AJ b (AA b O)
  ·rw[A1,f1]at E;cases E;exact AJ b (A9 b O)
  ·rw[f3 _ J W]at E;exact⟨y,D,U,E,O⟩
 have AK:∀b,Fo G φ' m' b->Fo G φ m b:=λb=>Or.imp id (AE b);have AL:=AT φ' (Fo G φ' m') hle f1 f2 AK;have A4:∀y∈m,y.key≠H.key->y.key≠I.key->∀U,φ y.key=some U->∀b,y.cont.db U b->H.cont.db Y b\/I.cont.db Z b->False:=by
  intro y V J W U E b O M;rcases M with M|M
  ·exact J (h.apart y V H A5 U Y E A7 ⟨b,O,M⟩)
  ·exact W (h.apart y V I A6 U Z E A8 ⟨b,O,M⟩)
 refine⟨φ',⟨by rw[AI];exact h.nodup,?_,?_,?_,λb M=>h.mC b (AE b M),h.bound⟩,⟨hle,λ_ _ _=>rfl,λb _ M=>AE b M,aad _,rfl,rfl,rfl⟩⟩
 ·intro j AD A';rw[AI];by_cases D:j=H.key
  ·subst D;exact ab0 A5
  ·by_cases J:j=I.key
   ·subst J;exact ab0 A6
   ·rw[f3 j D J]at A';exact h.sA j AD A'
 ·intro y V;rcases A3 y V with rfl|rfl|⟨D,J,W⟩
  ·exact⟨L2',by rw[A2];exact f2,AS,AL.2⟩
  ·exact⟨L1',by rw[A1];exact f1,AR,AL.1⟩
  ·obtain⟨U,E,AV,AW⟩:=h.fB y D;exact⟨U,by rw[f3 _ J W];exact E,AV,AW.mono hle (λ_ _ _=>rfl) (aad _) (λb _=>AK b) (λ_ _=>rfl)⟩
 ·rintro y V z AF U AG E T ⟨b,O,A0⟩;rcases A3 y V with rfl|rfl|⟨D,J,W⟩
  ·rw[A2,f2]at E;cases E;rcases A3 z AF with rfl|rfl|⟨g1,g2,g3⟩
   ·rfl
   ·rw[A1,f1]at T;cases T;exact (AH b A0 O).elim
   ·rw[f3 _ g2 g3]at T;exact (A4 z g1 g2 g3 AG T b A0 (AA b O)).elim
  ·rw[A1,f1]at E;cases E;rcases A3 z AF with rfl|rfl|⟨g1,g2,g3⟩
   ·rw[A2,f2]at T;cases T;exact (AH b O A0).elim
   ·rfl
   ·rw[f3 _ g2 g3]at T;exact (A4 z g1 g2 g3 AG T b A0 (A9 b O)).elim
  ·rw[f3 _ J W]at E;rcases A3 z AF with rfl|rfl|⟨g1,g2,g3⟩
   ·rw[A2,f2]at T;cases T;exact (A4 y D J W U E b O (AA b A0)).elim
   ·rw[A1,f1]at T;cases T;exact (A4 y D J W U E b O (A9 b A0)).elim
   ·rw[f3 _ g2 g3]at T;exact h.apart y D z g1 U AG E T ⟨b,O,A0⟩
theorem Wj(S:St)(Ak j k sz:Nat):eF S (S.jY Ak j k sz):=by
 unfold St.jY;split
 ·rename_i key BC cs U v cont Bd Z;split
  ·rename_i A4;split
   ·exact eF.refl S
   ·rename_i AN;refine⟨rfl,rfl,λφ G a w I=>?_⟩;obtain⟨hm,A',L,A9,AJ,Ab⟩:=I.mem.get Z;simp only at A' AJ;subst A';obtain⟨Be,AW,Cl,Cm,Dh⟩:=I.mem.dq (e':=⟨U,v+1,.vec sz []⟩) hm A9 rfl (L':=⟨v+1,0,sz,0,0,[]⟩) (by simp only;omega) (λhh=>by simp only at hh;omega) rfl
     (w':=w) (λ_ _ _=>rfl) (aad _) (λ_ A2=>absurd A2.1 (by simp)) rfl rfl rfl (λφ' AR Bf=>⟨rfl,by simp,by simp,λM=>by simp at M⟩)
    have Cn:Mem.get (Mem.set S.mem ⟨U,v+1,.vec sz []⟩) Ak=some ⟨key,BC,.box cs⟩:=by
     rw[Mem.rL (by simpa using λh=>AN h.symm)];exact Bd
    obtain⟨BR,BD,BE,BS,BF,Bg⟩:=AW.get Cn;simp only at BD BF;subst BD;obtain⟨AM,Al,AF,Di,Dj⟩:=AW.dq (e':=⟨key,BC,.box (cs.set j (.vec U (v+1) 0 0))⟩) BR BS rfl (L':=BE) (aad _) (λ_=>rfl) BF
     (w':=w) (λ_ _ _=>rfl) (aad _) (λ_ A2=>.inl A2) rfl rfl rfl (λφ' AR Bf=>by
      obtain⟨g0,arr,elem,g1,g2,g3,g4⟩:=Bg;have Co:∀b,Fo G φ' (Mem.set (Mem.set S.mem ⟨U,v+1,.vec sz []⟩) ⟨key,BC,.box (cs.set j (.vec U (v+1) 0 0))⟩) b->Fo G Be (Mem.set S.mem ⟨U,v+1,.vec sz []⟩) b:=by
       rintro b (h|⟨x,AA,Bh,Ac,BG⟩)
       ·exact .inl h
       ·right;rcases (Mem.mem_set AW.nodup).1 AA with ⟨rfl,_⟩|⟨Bi,Bj⟩
        ·simp only[AR,acH]at Ac;cases Ac;exact⟨_,BR,BE,BS,BG⟩
        ·simp only[AR,Bj,acw]at Ac;exact⟨x,Bi,Bh,Ac,BG⟩
      refine⟨by simpa using g0,arr,elem,g1,by simp[g2],g3,λi c u M hu=>?_⟩;rw[List.getElem?_set]at M;split at M
      ·rename_i An;subst An;split at M
       ·cases M;have:=g4 j _ u A4 hu;cases this;refine .vec U (v+1) 0 0 _ ⟨v+1,0,sz,0,0,[]⟩ ?_ (aad _) (λ_=>⟨_,_,rfl,by simp,λh=>by omega⟩) rfl;rw[AR];simp only
        rw[aab (λh=>AN h.symm)];exact Cm
       ·cases M
      ·exact (g4 i c u M hu).mono Bf (λ_ _ _=>rfl) (aad _) (λb _=>Co b))
    have CB:=Cl.trans AF;exact⟨AM,I.Cj Al CB,CB⟩
  ·exact eF.refl S
 ·exact eF.refl S
theorem Dd(AO:AV->AV):∀m:Mem,(xc AO m).map (·.key)=m.map (·.key)
 |[]=>rfl
 |e::r=>by simp[xc,Dd AO r]
theorem NX{AO:AV->AV}:∀{m:Mem}{x:cq},x∈xc AO m↔∃e∈m,x=⟨e.key,e.ar,sQ AO e.cont⟩
 |[],x=>by simp[xc]
 |e::r,x=>by simp[xc,NX (m:=r)]
theorem Wk(S:St)(k AS:Nat):eF S (S.AZ k AS):=by
 unfold St.AZ;split
 ·rename_i key v sz aj U v2 cont Z Ad;split
  ·exact eF.refl S
  ·rename_i AN;refine⟨rfl,rfl,λφ G a w I=>?_⟩;obtain⟨hm,A',L,A9,AJ,Ab⟩:=I.mem.get Z;obtain⟨Al,AF,AX,Av,B2,_⟩:=I.mem.get Ad;simp only at A' AJ AF B2;subst A';subst AF;have Cp:¬U=key:=λh=>AN h.symm;obtain⟨AO,CC⟩:∃AO,AO=Jv key v U (v2+1):=⟨_,rfl⟩;rw[<-CC];obtain⟨BT,AW⟩:∃BT,BT=Mem.set (xc AO S.mem) ⟨key,v+1,.dead⟩:=⟨_,rfl⟩;have CD:((xc AO S.mem).map (·.key)).Nodup:=by rw[Dd];exact I.mem.nodup
   have AK:(BT.map (·.key)).Nodup:=by rw[AW,Mem.iE];exact CD
   obtain⟨m',AU⟩:∃m',m'=Mem.set BT ⟨U,v2+1,.vec sz aj⟩:=⟨_,rfl⟩;rw[<-AW,<-AU];have BH:m'.map (·.key)=S.mem.map (·.key):=by rw[AU,Mem.iE,AW,Mem.iE,Dd]
   have BI:∀y,y∈m'->y=⟨U,v2+1,.vec sz aj⟩\/y=⟨key,v+1,.dead⟩\/(∃z∈S.mem,y=⟨z.key,z.ar,sQ AO z.cont⟩/\z.key≠key/\z.key≠U):=by
    intro y AG;rw[AU]at AG;rcases (Mem.mem_set AK).1 AG with ⟨h,_⟩|⟨h,J⟩
    ·exact .inl h
    ·rw[AW]at h;rcases (Mem.mem_set CD).1 h with ⟨h,_⟩|⟨h,T⟩
     ·exact .inr (.inl h)
     ·obtain⟨z,BU,rfl⟩:=NX.1 h;exact .inr (.inr ⟨z,BU,rfl,T,J⟩)
   obtain⟨φ',AR⟩:∃φ':bP,φ'=λj=>if j=key then some {L with ar:=v+1} else if j=U then some {L with ar:=v2+1} else φ j:=⟨_,rfl⟩
   have f1:φ' key=some {L with ar:=v+1}:=by simp[AR]
   have f2:φ' U=some {L with ar:=v2+1}:=by simp[AR,Cp]
   have f3:∀j,j≠key->j≠U->φ' j=φ j:=λj H J=>by simp[AR,H,J]
   have hle:φ.le φ':=by
    intro j Bk AB;by_cases H:j=key
    ·subst H;rw[A9]at AB;cases AB;exact⟨_,f1,by simp only;omega,λhh=>by simp only at hh;omega⟩
    ·by_cases J:j=U
     ·subst J;rw[Av]at AB;cases AB;exact⟨_,f2,by simp only;omega,λhh=>by simp only at hh;omega⟩
     ·exact⟨Bk,by rw[f3 j H J];exact AB,aad _,λ_=>rfl⟩
   have Bl:∀b,jQ φ' m' b->jQ φ S.mem b:=by
    rintro b ⟨y,AG,B3,AH,Ao⟩;rcases BI y AG with rfl|rfl|⟨Aw,H,rfl,J,T⟩
    ·simp only at AH;rw[f2]at AH;cases AH;exact⟨_,hm,L,A9,Ao⟩
    ·exact Ao.elim
    ·simp only at AH;rw[f3 _ J T]at AH;exact⟨Aw,H,B3,AH,ng.1 Ao⟩
   have A0:∀b,Fo G φ' m' b->Fo G φ S.mem b:=λb=>Or.imp id (Bl b);have Ax:∀x u,aH φ w (Fo G φ S.mem) x u->aH φ' w (Fo G φ' m') (AO x) u:=by
    intro y u AB;have CF:=AB.mono (φ':=φ') (F':=Fo G φ' m') hle (λ_ _ _=>rfl) (aad _) (λb _=>A0 b);rw[CC];unfold Jv;split
    ·rename_i Dk v0 o l;split
     ·rename_i hh;obtain⟨rfl,rfl⟩:=hh;cases AB with
      |vec _ _ _ _ _ L' Ap _ h H=>
       rw[A9]at Ap;cases Ap;exact .vec U (v2+1) o l _ _ f2 (aad _) (λ_=>h AJ.symm) H
     ·exact CF
    ·exact CF
   refine⟨φ',⟨I.size,I.defers,?_,⟨?_,?_,?_,?_,?_,?_⟩,I.mD.mono (λ_ _ _=>rfl) (aad _) (λb _=>A0 b)⟩,Np Bl hle⟩
   ·intro t x AA;obtain⟨y,AG,rfl⟩:=CH _ S.env t true x AA;exact Ax _ _ (I.env t y AG)
   ·show (m'.map (·.key)).Nodup;rw[BH];exact I.mem.nodup
   ·intro j Bk AB;show j∈m'.map (·.key);rw[BH];by_cases H:j=key
    ·subst H;exact ab0 hm
    ·by_cases J:j=U
     ·subst J;exact ab0 Al
     ·rw[f3 j H J]at AB;exact I.mem.sA j Bk AB
   ·intro y AG;rcases BI y AG with rfl|rfl|⟨Aw,H,rfl,J,T⟩
    ·refine⟨_,f2,rfl,?_⟩;have:=Ab.mono (φ':=φ') (F':=Fo G φ' m') hle (λ_ _ _=>rfl) (aad _) (λb _=>A0 b) (λ_ _=>rfl);exact this
    ·exact⟨_,f1,rfl,trivial⟩
    ·obtain⟨B3,AH,Cq,B4⟩:=I.mem.fB Aw H;refine⟨B3,by simp only;rw[f3 _ J T];exact AH,Cq,?_⟩;cases Bm:Aw.cont with
     |dead=>trivial
     |box cs=>
      rw[Bm]at B4;obtain⟨g0,arr,elem,g1,g2,g3,g4⟩:=B4;refine⟨by simpa using g0,arr,elem,g1,by simp[g2],g3,λi c u CG hu=>?_⟩;rw[ab6]at CG;obtain⟨x,AA,rfl⟩:=aax.1 CG;exact Ax x u (g4 i x u AA hu)
     |vec Dl Cr=>
      rw[Bm]at B4;exact B4.mono hle (λ_ _ _=>rfl) (aad _) (λb _=>A0 b) (λ_ _=>rfl)
     |vv Cr Dm=>
      rw[Bm]at B4;exact mB.mono AO B4 (λ_ _ _ _ u hu=>hu.mono (λ_ _ _=>rfl) (aad _) (λb _=>A0 b)) (λx _ v AA=>Ax x v AA) (λ_ _=>rfl)
   ·rintro y AG z BU B3 CI AH Ae ⟨b,Ao,BJ⟩;rcases BI y AG with rfl|rfl|⟨Aw,H,rfl,J,T⟩
    ·rcases BI z BU with rfl|rfl|⟨z0,g1,rfl,g2,g3⟩
     ·rfl
     ·exact BJ.elim
     ·simp only at AH;rw[f2]at AH;cases AH;simp only at Ae;rw[f3 _ g2 g3]at Ae;exact absurd (I.mem.apart _ hm z0 g1 L CI A9 Ae ⟨b,Ao,ng.1 BJ⟩).symm g2
    ·exact Ao.elim
    ·rcases BI z BU with rfl|rfl|⟨z0,g1,rfl,g2,g3⟩
     ·simp only at Ae;rw[f2]at Ae;cases Ae;simp only at AH;rw[f3 _ J T]at AH;exact absurd (I.mem.apart Aw H _ hm B3 L AH A9 ⟨b,ng.1 Ao,BJ⟩) J
     ·exact BJ.elim
     ·simp only at AH Ae;rw[f3 _ J T]at AH;rw[f3 _ g2 g3]at Ae;exact I.mem.apart Aw H z0 g1 B3 CI AH Ae ⟨b,ng.1 Ao,ng.1 BJ⟩
   ·intro b E;exact I.mem.mC b (Bl b E)
   ·exact I.mem.bound
 ·exact eF.refl S
theorem aau{α:Type}{l:List α}{n:Nat}(h:l.length=n+1):∃(r:List α)(o:α),l=r++[o]/\r.length=n:=by
 refine⟨l.dropLast,l.getLast (by intro hh;simp[hh]at h),(List.dropLast_concat_getLast _).symm,by simp[h]⟩
theorem adN(S:St)(k AS:Nat):eF S (S.ef k AS):=by
 unfold St.ef;split
 ·rename_i key v aj U v2 cont Z Ad;split
  ·rename_i xs BK;split
   ·exact eF.refl S
   ·rename_i AN;refine⟨rfl,rfl,λφ G a w I=>?_⟩;obtain⟨hm,A',L,A9,AJ,Ab⟩:=I.mem.get Z;obtain⟨Al,AF,AX,Av,B2,_⟩:=I.mem.get Ad;simp only at A' AJ AF B2;subst A';subst AF;have CJ:aj=aj.dropLast++[xs]:=by
     rcases akT aj with rfl|⟨r,x,rfl⟩
     ·simp at BK
     ·simp at BK;subst BK;simp
    obtain⟨r,Cs⟩:∃r,r=aj.dropLast:=⟨_,rfl⟩;rw[<-Cs]at CJ⊢;subst CJ;obtain⟨⟨AB,H,J⟩,T,AI,Af⟩:mB φ w (Fo G φ S.mem) L (r++[xs]) none:=Ab;simp only[aam,af4,Option.toList_none,aaw,ah0]at H J;obtain⟨arr,elem,g1,g2,g3,g4,_⟩:=Af (by omega);obtain⟨da,o,B5,Bn⟩:=aau J;have CK:=g4 r.length xs o (by simp) (by rw[B5,<-Bn];simp);have B6:∀b,some b∈da->some b∈L.da:=λb E=>by rw[B5];simp[E]
    have AY:∀(i:Nat)(x:Option Nat),da[i]?=some x->L.da[i]?=some x:=λi x AA=>by
     rw[B5,aaF (D1.1 AA).1];exact AA
    have Ct:∀b,o=some b->some b∉da:=λb E hm=>by
     obtain⟨i,hi⟩:=aoU hm;have Ay:=(D1.1 hi).1;have:=T i r.length b (AY i _ hi) (by rw[B5,<-Bn,<-E];simp);omega
    have base:∀(L2':Loc)(x:Value),(L2'.ar=v2+1/\L2'.sz=1)->arr[L.base+r.length]?=some x->(∀(φ':bP)(F':Nat->Prop),φ' U=some L2'->aH φ' w F' (.vec U (v2+1) 0 xs.length) x)->
     (∀b,0<L2'.cap->L2'.dZ=b->o=some b)->
     (∀(φ':bP)(F':Nat->Prop),φ.le φ'->(∀b,F' b->Fo G φ S.mem b)->eJ φ' w F' L2' (.vec 1 xs))->
     ∃φ',Rel φ' G {S with mem:=Mem.set (Mem.set S.mem ⟨key,v,.vv r (some (.vec U (v2+1) 0 xs.length))⟩) ⟨U,v2+1,.vec 1 xs⟩} a w/\bk φ S.mem w φ' (Mem.set (Mem.set S.mem ⟨key,v,.vv r (some (.vec U (v2+1) 0 xs.length))⟩) ⟨U,v2+1,.vec 1 xs⟩) w:=by
     intro L2' x Bo AA Ax CM Cu;have B7:∀(φ':bP)(F':Nat->Prop),φ.le φ'->φ' U=some L2'->(∀b,F' b->Fo G φ S.mem b)->eJ φ' w F' {L with da:=da} (.vv r (some (.vec U (v2+1) 0 xs.length))):=by
      intro φ' F' hle f2 A0;refine⟨⟨AB,by simp;omega,Bn⟩,λi j b hi A4=>T i j b (AY _ _ hi) (AY _ _ A4),λb E=>AI b (B6 b E),λ_=>⟨arr,elem,g1,g2,g3,λi Bp Bq hi A2=>?_,λy AG=>?_⟩⟩
      ·have Az:=(D1.1 hi).1;exact (g4 i Bp Bq (by rw[aaF Az];exact hi) (AY _ _ A2)).mono (λd u _ hu=>hu.mono (λ_ _ _=>rfl) (aad _) (λb _=>A0 b)) (λ_ _=>rfl)
      ·cases AG;exact⟨x,AA,Ax φ' F' f2⟩
     obtain⟨φ',AU,Y⟩:=I.mem.adL (e1':=⟨key,v,.vv r (some (.vec U (v2+1) 0 xs.length))⟩) (e2':=⟨U,v2+1,.vec 1 xs⟩) hm Al AN A9 Av (L1':={L with da:=da}) (L2':=L2') rfl rfl (aad _) (by rw[Bo.1];omega)
      (λ_=>rfl) (λhh=>by rw[Bo.1]at hh;omega) AJ Bo.1 (λb E=>.inl (by
       rcases E with E|E
       ·exact .inl E
       ·exact .inr (B6 b E))) (λb E=>.inl (.inr (by rw[B5,CM b E.1 E.2];simp))) (λb BL BV=>by
       have CN:=CM b BV.1 BV.2;rcases BL with ⟨_,BL⟩|BL
       ·exact (AI b (by rw[B5,CN];simp)).2 BL.symm
       ·exact Ct b CN BL) (λφ' F' hle f1 f2 A0=>⟨B7 φ' F' hle f2 A0,Cu φ' F' hle A0⟩)
     exact⟨φ',I.Cj AU Y,Y⟩
    cases o with
    |none=>
     obtain⟨rfl,b,AD⟩:=CK;exact base ⟨v2+1,0,1,0,0,[]⟩ _ ⟨rfl,rfl⟩ AD (λφ' F' A_=>.vec U _ 0 0 _ _ A_ (aad _) (λ_=>⟨_,_,rfl,by simp,λh=>by omega⟩) rfl) (λb E=>by simp at E) (λφ' F' hle A0=>⟨rfl,by simp,by simp,λM=>by simp at M⟩)
    |some b=>
     obtain⟨row,Cv,off,cap,q1,q2,q3,Dn,Cw,Cx,CO⟩:=CK;refine base ⟨v2+1,b,1,row.size-off,off,[]⟩ _ ⟨rfl,rfl⟩ q1 (λφ' F' A_=>.vec U _ 0 _ _ _ A_ (aad _) (λ_=>⟨_,cap,rfl,q3,λh=>⟨by simp,by simp only;omega⟩⟩) rfl) (λDo _ E=>by simp only at E;rw[E]) (λφ' F' hle A0=>?_);refine⟨rfl,by simp only;omega,λd V=>?_,λM=>⟨row,Cv,Cw,by simp only;omega,Cx,λi d hi=>?_⟩⟩
     ·obtain⟨i,hi⟩:=aoU V;exact (CO i d hi).1
     ·obtain⟨_,u,hu,A4⟩:=CO i d hi;exact⟨u,hu.mono (λ_ _ _=>rfl) (aad _) (λb _=>A0 b),A4⟩
  ·exact eF.refl S
 ·exact eF.refl S
theorem adO(S:St)(k AS:Nat):eF S (S.cls k AS):=by
 unfold St.cls;split
 ·rename_i key v aj Dp v3 len U v2 xs Z Ad;split
  ·exact eF.refl S
  ·rename_i AN;split
   ·rename_i Cy;obtain⟨rfl,rfl,rfl⟩:=Cy;refine⟨rfl,rfl,λφ G a w I=>?_⟩;obtain⟨hm,A',L,A9,AJ,Ab⟩:=I.mem.get Z;obtain⟨Al,AF,AX,Av,B2,Cz⟩:=I.mem.get Ad;simp only at A' AJ AF B2;subst A';subst AF;obtain⟨⟨AB,H,J⟩,T,AI,Af⟩:mB φ w (Fo G φ S.mem) L aj (some (.vec U v3 0 xs.length)):=Ab;simp only[Option.toList_some,af4]at H;obtain⟨arr,elem,g1,g2,g3,g4,g5⟩:=Af (by omega);obtain⟨y,D',D0⟩:=g5 _ rfl;obtain⟨z0,Dq,z2,z3⟩:=Cz;have Br:∀b,0<AX.cap->AX.dZ=b->(L.dZ=b\/some b∈L.da)->False:=by
     intro b M E hh;refine AN (I.mem.apart _ hm _ Al L AX A9 Av ⟨b,?_,⟨M,E⟩⟩);rcases hh with hh|hh
     ·exact .inl ⟨by omega,hh⟩
     ·exact .inr hh
    have base:∀(o:Option Nat),(∀b,o=some b->0<AX.cap/\AX.dZ=b)->(∀F':Nat->Prop,(∀b,F' b->Fo G φ S.mem b)->Cg w F' (some y) xs o)->
     ∃φ',Rel φ' G {S with mem:=Mem.set (Mem.set S.mem ⟨key,v,.vv (aj++[xs]) none⟩) ⟨U,v3+1,.dead⟩} a w/\bk φ S.mem w φ' (Mem.set (Mem.set S.mem ⟨key,v,.vv (aj++[xs]) none⟩) ⟨U,v3+1,.dead⟩) w:=by
     intro o A2 D2;have CP:∀(i b:Nat),(L.da++[o])[i]?=some (some b)->(L.da[i]?=some (some b)/\i<L.da.length)\/(i=L.da.length/\o=some b):=by
      intro i b hi;rcases Nat.lt_trichotomy i L.da.length with Ay|heq|Dr
      ·rw[aaF Ay]at hi;exact .inl ⟨hi,Ay⟩
      ·subst heq;simp at hi;exact .inr ⟨rfl,hi⟩
      ·rw[abI (by omega)]at hi;have:i-L.da.length=(i-L.da.length-1)+1:=by omega
       rw[this]at hi;simp at hi
     have B7:∀(φ':bP)(F':Nat->Prop),(∀b,F' b->Fo G φ S.mem b)->eJ φ' w F' {L with da:=L.da++[o]} (.vv (aj++[xs]) none):=by
      intro φ' F' A0;refine⟨⟨AB,by simp;omega,by simp[J]⟩,λi j b hi A4=>?_,λb E=>?_,λ_=>⟨arr,elem,g1,g2,g3,λi Bp Bq hi BM=>?_,λy AG=>by cases AG⟩⟩
      ·rcases CP i b hi with ⟨AY,Az⟩|⟨D3,AY⟩<;>rcases CP j b A4 with ⟨B8,Aq⟩|⟨D4,B8⟩
       ·exact T i j b AY B8
       ·exact (Br b (A2 b B8).1 (A2 b B8).2 (.inr (aay AY))).elim
       ·exact (Br b (A2 b AY).1 (A2 b AY).2 (.inr (aay B8))).elim
       ·rw[D3,D4]
      ·simp only[aa0,akB]at E;refine⟨by simp only;omega,?_⟩;rcases E with E|E
       ·exact (AI b E).2
       ·exact λhh=>Br b (A2 b E.symm).1 (A2 b E.symm).2 (.inl hh.symm)
      ·rcases Nat.lt_or_ge i aj.length with Ay|Dt
       ·rw[aaF Ay]at hi;rw[aaF (by omega)]at BM;exact (g4 i Bp Bq hi BM).mono (λd u _ hu=>hu.mono (λ_ _ _=>rfl) (aad _) (λb _=>A0 b)) (λ_ _=>rfl)
       ·have D5:i=aj.length:=by have:=(D1.1 hi).1;simp at this;omega
        subst D5;simp at hi;subst hi;rw[<-J]at BM;simp at BM;subst BM;simp only
        rw[D'];exact D2 F' A0
     obtain⟨φ',AU,Y⟩:=I.mem.adL (e1':=⟨key,v,.vv (aj++[xs]) none⟩) (e2':=⟨U,v3+1,.dead⟩) hm Al AN A9 Av (L1':={L with da:=L.da++[o]}) (L2':={AX with ar:=v3+1}) rfl rfl (aad _) (by simp only;omega)
      (λ_=>rfl) (λhh=>by simp only at hh;omega) AJ rfl (λb E=>by
       rcases E with E|E
       ·exact .inl (.inl E)
       ·simp only[aa0,akB]at E;rcases E with E|E
        ·exact .inl (.inr E)
        ·exact .inr (A2 b E.symm)) (λb E=>E.elim) (λb _ BV=>BV) (λφ' F' hle f1 f2 A0=>⟨B7 φ' F' A0,trivial⟩)
     exact⟨φ',I.Cj AU Y,Y⟩
    cases D0 with
    |vec _ _ _ _ _ L' Ap Du AL B7=>
     rw[Av]at Ap;cases Ap;obtain⟨D6,cap,rfl,D7,D8⟩:=AL B2.symm;by_cases CQ:0<cap
     ·obtain⟨rfl,B9⟩:=D8 CQ;obtain⟨D9,DA,t1,t2,t3,t4⟩:=z3 (by omega);refine base (some AX.dZ) (λb E=>by cases E;exact⟨by omega,rfl⟩) (λF' A0=>⟨D9,DA,AX.base,cap,by simp,CQ,D7,by rw[t2,z0];omega,t1,t3,λi d V=>?_⟩);obtain⟨u,hu,A4⟩:=t4 i d V;rw[z0]at A4;exact⟨by rw[z2 d (aay V),z0],u,hu.mono (λ_ _ _=>rfl) (aad _) (λb _=>A0 b),A4⟩
     ·have CS:xs=[]:=List.length_eq_zero_iff.1 (by omega);have DB:cap=0:=by omega
      subst DB;refine base none (λb E=>by cases E) (λF' A0=>⟨CS,D6,by rw[CS];rfl⟩)
   ·exact eF.refl S
 ·exact eF.refl S
theorem aav(S:St)(k:Nat):eF S (S.shut k):=by
 unfold St.shut;split
 ·rename_i key v aj y Z;refine⟨rfl,rfl,λφ G a w I=>?_⟩;obtain⟨hm,A',L,A9,AJ,Ab⟩:=I.mem.get Z;simp only at A' AJ;subst A';obtain⟨φ',AU,Y,_,_⟩:=I.mem.dq (e':=⟨key,v,.vv aj none⟩) hm A9 rfl (L':=L) (aad _) (λ_=>rfl) AJ
   (w':=w) (λ_ _ _=>rfl) (aad _) (λ_ A2=>.inl A2) rfl rfl rfl (λφ' AR Bf=>by
    obtain⟨⟨AB,H,J⟩,T,AI,Af⟩:mB φ w (Fo G φ S.mem) L aj (some y):=Ab;refine⟨⟨AB,by simp at H⊢;omega,J⟩,T,AI,λM=>?_⟩;obtain⟨arr,elem,g1,g2,g3,g4,g5⟩:=Af M;refine⟨arr,elem,g1,g2,g3,λi xs o hi A2=>(g4 i xs o hi A2).mono (λd u _ hu=>hu.mono (λ_ _ _=>rfl) (aad _) (λb _ E=>?_)) (λ_ _=>rfl),λy AG=>by cases AG⟩;rcases E with E|⟨x,AA,Bh,Ac,BG⟩
    ·exact .inl E
    ·right;rcases (Mem.mem_set I.mem.nodup).1 AA with ⟨rfl,_⟩|⟨Bi,Bj⟩
     ·simp only[AR,acH]at Ac;cases Ac;exact⟨_,hm,L,A9,BG⟩
     ·simp only[AR,Bj,acw]at Ac;exact⟨x,Bi,Bh,Ac,BG⟩)
  exact⟨φ',I.Cj AU Y,Y⟩
 ·exact eF.refl S
theorem QM(S:St)(Ak j k:Nat):eF S (S.uz Ak j k):=by
 unfold St.uz;split
 ·rename_i key BC cs U v cont Bd Z;split
  ·rename_i A4;split
   ·exact eF.refl S
   ·rename_i AN;refine⟨rfl,rfl,λφ G a w I=>?_⟩;obtain⟨BR,BD,BE,BS,BF,Bg⟩:=I.mem.get Bd;obtain⟨hm,A',L,A9,AJ,Ab⟩:=I.mem.get Z;simp only at BD BF A' AJ;subst BD;subst A';have B7:∀(φ':bP)(F':Nat->Prop),φ.le φ'->φ' U=some ⟨v+1,0,1,0,0,[]⟩->(∀b,F' b->Fo G φ S.mem b)->eJ φ' w F' BE (.box (cs.set j (.vec U (v+1) 0 0))):=by
     intro φ' F' hle f2 A0;obtain⟨g0,arr,elem,g1,g2,g3,g4⟩:=Bg;refine⟨by simpa using g0,arr,elem,g1,by simp[g2],g3,λi c u M hu=>?_⟩;rw[List.getElem?_set]at M;split at M
     ·rename_i An;subst An;split at M
      ·cases M;have:=g4 j _ u A4 hu;cases this;exact .vec U (v+1) 0 0 _ _ f2 (aad _) (λ_=>⟨_,_,rfl,by simp,λh=>by omega⟩) rfl
      ·cases M
     ·exact (g4 i c u M hu).mono hle (λ_ _ _=>rfl) (aad _) (λb _=>A0 b)
    obtain⟨φ',AU,Y⟩:=I.mem.adL (e1':=⟨key,BC,.box (cs.set j (.vec U (v+1) 0 0))⟩) (e2':=⟨U,v+1,.vv [] none⟩) BR hm AN BS A9 (L1':=BE) (L2':=⟨v+1,0,1,0,0,[]⟩) rfl rfl (aad _) (by simp only;omega)
     (λ_=>rfl) (λhh=>by simp only at hh;omega) BF rfl (λb E=>.inl E) (λb E=>by
      rcases E with ⟨E,_⟩|E
      ·simp at E
      ·simp at E) (λb _ E=>by
      rcases E with ⟨E,_⟩|E
      ·simp at E
      ·simp at E) (λφ' F' hle f1 f2 A0=>⟨B7 φ' F' hle f2 A0,⟨⟨rfl,by simp,rfl⟩,λi j b hi=>by simp at hi,λb E=>by simp at E,λM=>by simp at M⟩⟩)
    exact⟨φ',I.Cj AU Y,Y⟩
  ·exact eF.refl S
 ·exact eF.refl S
theorem ait(S:St)(g:Gh):eF S (g.go S):=by
 cases g with
 |trim k=>exact HL S k
 |freeze k=>exact QE S k
 |jY Ak j k sz=>exact Wj S Ak j k sz
 |AZ k AS=>exact Wk S k AS
 |ef k AS=>exact adN S k AS
 |cls k AS=>exact adO S k AS
 |shut k=>exact aav S k
 |uz Ak j k=>exact QM S Ak j k
theorem Ba:∀(l:List Gh)(S:St),eF S (H0 S l)
 |[],S=>eF.refl S
 |g::r,S=>(ait S g).trans (Ba r _)
theorem vO(X:Ctx)(f:FuncId)(id:Nat)(S:St):eF S (S.leave X f id):=(VT S _).trans (Ba _ _)
def fj(X:Ctx)(f:FuncId)(n:Nat):Code->Bool
 | .region id ops draw=>lH n ops.toList&&(!draw||Gq ops.toList (X.od f id))
 | .seq a b=>fj X f n a&&fj X f n b
 | .cond _ a b=>fj X f n a&&fj X f n b
 | .block _ c=>fj X f n c
 | .loop c=>fj X f n c
 |_=>true
structure lN(X:Ctx):Prop where
 ov:X.ov=none
 names:∀(g:FuncId)(fn:Func),X.P.funcs[g]?=some fn->fn.name≠ "runtime.NumGoroutine"
 adP:∀(g:FuncId)(fn:Func)(c:Code),X.P.funcs[g]?=some fn->fn.body=some c->fj X g fn.ntmps c=true
 mixed:X.P.follows .mixedOrders=true
 BZ:∀(g:FuncId)(h:List AV->Option AV),X.BZ g=some h->iK X.P g=true/\∀(Bs:List AV)(a:AV),h Bs=some a->∀(φ:bP)(F:Nat->Prop)(w:World)(vs:Array Value),fF w F X.gl->(∀b,F b->b<w.heap.size)->Bs.length=vs.size->
  (∀(i:Nat) x v,Bs[i]?=some x->vs[i]?=some v->aH φ w F x v)->Calls X.P g vs w λe w'=>∃v,e=.returned v/\Go.RowKit.Below w.heap.size w w'/\aH φ w' F a v
theorem qa.is{n:Nat}{φ:bP}{G:Fr}{m:Mem}{w:World}{e:XE}{O:St}{e':Exit}{W:Act}{w':World}(h:qa n φ G m w (Is e O) e' W w'):
 ∃φ',O.n=n/\Rel φ' G O W w'/\bk φ m w φ' O.mem w'/\(match e' with
  | .normal=>e=.normal
  | .exit id=>e=.exit id
  | .ret=>e=.ret
  | .panic chain=>∃t x v,e=.panic t x/\chain=[{v:=.iface t v,recovered:=false}]/\aQ w' (Fo G φ' O.mem) x v
  |_=>False):=by
 cases e' with
 |normal=>obtain⟨φ',A3,A1,⟨H,rfl⟩,J,T⟩:=h;exact⟨φ',A1,J,T,H.symm⟩
 |exit id=>obtain⟨φ',A3,A1,⟨H,rfl⟩,J,T⟩:=h;exact⟨φ',A1,J,T,H.symm⟩
 |ret=>obtain⟨φ',A3,A1,⟨H,rfl⟩,J,T⟩:=h;exact⟨φ',A1,J,T,H.symm⟩
 |panic chain=>obtain⟨φ',A3,t,x,v,M,V,A1,⟨H,rfl⟩,J,T⟩:=h;exact⟨φ',A1,J,T,t,x,v,H.symm,M,V⟩
 |_=>exact h.elim
section
variable {X:Ctx} {Ar:bj} {f:FuncId} {n:Nat}
theorem aiu{P:Program}{c:Code}{S S1:St}{Q:XE->St->Prop}(t:eF S S1)(h:oT P c S1 Q):oT P c S Q:=λφ G a w I=>by
 obtain⟨Be,DC,A'⟩:=t.2.2 φ G a w I;exact wp_mono (h Be G a w DC) λe a2 BN AE=>by rw[t.1]at AE;exact AE.weaken A'
theorem NY{P:Program}{S:St}{e:XE}{c:Code}{k:St->St}(A':∀S,eF S (k S)){r:Option (XE×St)}{O:St}(h:zh k r=some (e,O))
 (I:∀A5 S1,r=some (A5,S1)->S1.n=S.n/\S1.gl=S.gl/\oT P c S (Is A5 S1)):O.n=S.n/\O.gl=S.gl/\oT P c S (Is e O):=by
 unfold zh at h;split at h
 ·rename_i S1;cases h;obtain⟨H,J,T⟩:=I _ _ rfl;obtain⟨t1,t2,t3⟩:=A' S1;refine⟨t1.trans H,t2.trans J,λφ G a w Bt=>wp_mono (T φ G a w Bt) λe' W w' AE=>?_⟩;obtain⟨φ',A1,A6,Y,he⟩:=AE.is;cases e' with
  |normal=>
   obtain⟨AM,B',AF⟩:=t3 φ' G W w' A6;exact⟨AM,k S1,t1.trans A1,⟨rfl,rfl⟩,B',Y.trans AF⟩
  |exit id=>cases he
  |ret=>cases he
  |panic chain=>obtain⟨t,x,v,AI,_⟩:=he;cases AI
  |_=>exact he.elim
 ·exact I _ _ h
theorem aiv{P:Program}{B0:Mem->Prop}{all:List Oper}{ops:List Oper}{S:St}{ps:List bh}{S1:St}(h:Cert P B0 all ops S ps S1):S1.n=S.n/\S1.gl=S.gl:=by
 induction h with
 |nil S=>exact⟨rfl,rfl⟩
 |cons o rest S p ps S1 _ _ _ _ ih=>exact⟨ih.1.trans (yf ..),ih.2.trans (uv ..)⟩
theorem NZ{P:Program}{B0:Mem->Prop}{all:List Oper}:∀{ops:List Oper}{S:St}{ps:List bh}{S1:St},Cert P B0 all ops S ps S1->ps.length=ops.length:=by
 intro ops S ps S1 h;induction h with
 |nil S=>rfl
 |cons o rest S p ps S1 _ _ _ _ ih=>simp[ih]
theorem KT:∀{es:List cq},Jq es=true->∀e∈es,100<=e.key
 |_::r,h,e,he=>by
  simp only[Jq,Ds,aak]at h;rcases aaC.1 he with rfl|he
  ·exact h.1
  ·exact KT h.2 e he
theorem KU{ps:List bh}:∀{CV:List Nat},CU ps CV=true->∀i∈CV,∀p,ps[i]?=some p->∀e∈p.es,100<=e.key
 |k::r,h,i,hi,p,AE,e,he=>by
  simp only[CU,Ds]at h;rcases aaC.1 hi with rfl|hi
  ·have:=h.1;rw[AE]at this;exact KT this e he
  ·exact KU h.2 i hi p AE e he
theorem De{all:List Oper}{Ag:List (List Nat)}(h:Gq all Ag=true){i j:Nat}(An:i<j)(A4:j<all.length)(A1:i∉(iI all []).getD j []):(Ag.getD i []).contains j=true/\(Ag.getD j []).contains i=true:=by
 have H:=abX.1 h j (aca.2 A4);unfold CT at H;rw[abJ A4]at H;simp only[Ds,abX,ahR,aca]at H;rcases H.2 i An with J|J
 ·exact absurd (by simpa using J) A1
 ·rw[abJ (by omega)]at J;simp only[Ds]at J;exact J.2
theorem Wl{P:Program}{S S1:St}{id:Nat}{ops:List Oper}{Ag:List (List Nat)}{ps:List bh}{j N:Nat}{t:TypeId}{x:D}(hm:P.follows .mixedOrders=true)(Ah:Gq ops Ag=true)
 (M:lM (TT P ops j (Ag.getD j []) t x N S1) 0 ops S ps) (DD:oZ Ag ps=true) (Bu:CU ps (Ag.getD j [])=true) (Bv:S1.env=[]) (Aq:j<ops.length) (DE:N=hZ S.mem+hP ps+1):
 S1.n=S.n/\S1.gl=S.gl/\∀{φ:bP}{G:Fr}{a:Act}{w:World},Rel φ G S a w->∀{Q:Exit->Act->World->Prop},
 (∀φ' W w' v,Rel φ' G S1 W w'->bk φ S.mem w φ' S1.mem w'->aQ w' (Fo G φ' S1.mem) x v->Q (.panic [{v:=.iface t v,recovered:=false}]) W w')->(Code.region id ops.toArray true).wp P Q a w:=by
 have BW:=M.len;have Bw:=lM.at (ps:=ps) (S0:=S) M [] [] rfl rfl rfl rfl rfl;have AP:=aaa Ah DD BW;obtain⟨Bx,CW⟩:∃Bx,ops[j]?=some Bx:=⟨ops[j],by simp[Aq]⟩;obtain⟨By,CX⟩:∃By,ps[j]?=some By:=⟨ps[j]'(by omega),by simp[show j<ps.length by omega]⟩
 obtain⟨DF,AK,A7,AW⟩:=(Bw j Bx By (by simp) CW CX).2.2 rfl;rw[qZ]at AK;rw[oW]at A7;refine⟨AK,A7,λ{φ G a w} I {Q} Bz=>wp_region_any hm ?_⟩;have DG:∀(i:Nat)(p:bh),ps[i]?=some p->∀e∈p.es,e.key∈p.ks:=λi p AE=>by
  have Az:i<ps.length:=(D1.1 AE).1;exact (Bw i (ops[i]'(by omega)) p (by simp) (by simp[show i<ops.length by omega]) AE).1
 have DH:Rel φ G S a {w with drawn:=w.drawn+1}:=I.grow (λ_ _=>rfl) (aad _);have CY:(jt ops.length λi=>(Array.replicate ops.length false).getD i false)=[]:=by
  rw[jt,akk];intro i hi;simp[abN,aca.1 hi]
 refine aac (S0:=S) (S1:=S1) (φ0:=φ) (w0:=w) (G:=G) (j:=j) BW AP I.mem.nodup DG ?_ CW CX DF ?_ AK A7 Bv (by rw[AW,DE];rfl) (λφ' W w' v A6 Y AD=>Bz φ' W w' v A6 Y AD) _ _ φ a _ (by simp) ?_ ?_ ?_ ?_ ?_
 ·intro i o p A2 AE An C';have Az:i<ops.length:=(D1.1 A2).1;refine (Bw i o p (by simp) A2 AE).2.1 An ?_;rcases Nat.lt_or_ge i j with h|h
  ·exact .inl h
  ·exact .inr (De Ah (by omega) Az C').1
 ·intro i p AE An hi C' e he;have Az:i<ops.length:=by have:=(D1.1 AE).1;omega
  have B6:(Ag.getD j []).contains i=true:=by
   rcases Nat.lt_or_ge i j with h|h
   ·exact (De Ah h Aq hi).2
   ·exact (De Ah (by omega) Az C').1
  exact KU Bu i (by simpa using B6) p AE e he
 ·intro j o _ A4;exfalso;simp only[abN]at A4;by_cases h:j<ops.length
  ·simp[h]at A4
  ·simp[h]at A4
 ·simp only[abN];simp[Aq]
 ·simp only[af2];rw[CY];exact DH
 ·simp only[af2];rw[CY];exact bk.grow (λ_ _=>rfl) (aad _) rfl rfl rfl
 ·simp only[af2];exact akm (List.length_filter_le _ _) (by simp)
theorem N0(As:lN X)(B9:kT X Ar):∀(c:Code)(S:St)(e:XE)(O:St),den X f Ar n c S=some (e,O)->S.gl=X.gl->fj X f S.n c=true->
 O.n=S.n/\O.gl=S.gl/\oT X.P c S (Is e O):=by
 intro c;induction c with
 |skip=>
  intro S e O h AC V;simp only[den,aa1,acr]at h;obtain⟨rfl,rfl⟩:=h;exact⟨rfl,rfl,adt ⟨rfl,rfl⟩⟩
 |region id ops draw=>
  intro S e O h AC V;simp only[den]at h;simp only[fj,Ds]at V;cases draw with
  |false=>
   refine NY (vO X f id) h (λA5 S1 H=>?_);obtain⟨J,T,AI⟩:=C9 B9 ops.toList S A5 S1 H AC V.1;exact⟨J,T,λφ G a w I=>wp_region_lit (AI φ G a w I _ (λ_ _ _ h=>h))⟩
  |true=>
   refine NY (vO X f id) h (λA5 S1 H=>?_);have Ah:Gq ops.toList (X.od f id)=true:=by simpa using V.2
   have key:(∃B0:Mem->Prop,B0 S.mem/\A5=.normal/\∃ps A3,Cert X.P B0 ops.toList ops.toList S ps A3/\iJ S1 A3/\oZ (X.od f id) ps=true)\/
    (S1.n=S.n/\S1.gl=S.gl/\∀φ G a w,Rel φ G S a w->∀Q:Exit->Act->World->Prop,(A5=.normal->∀φ' W w',Rel φ' G S1 W w'->bk φ S.mem w φ' S1.mem w'->Q .normal W w')->
     (∀t x,A5=.panic t x->∀φ' W w' v,Rel φ' G S1 W w'->bk φ S.mem w φ' S1.mem w'->aQ w' (Fo G φ' S1.mem) x v->Q (.panic [{v:=.iface t v,recovered:=false}]) W w')->(Code.region id ops true).wp X.P Q a w)/\(A5=.normal\/∃t x,A5=.panic t x):=by
    cases CZ:X.fl f id with
    |nil=>
     rw[CZ]at H;simp only[r6]at H;rcases FL B9 ops.toList S [] A5 S1 H AC V.1 with ⟨he,ps,A3,M,heq,AP⟩|⟨t,x,j,ps,he,B8,DI,M,AP,Bu,Bv⟩
     ·exact .inl ⟨_,trivial,he,ps,A3,M,heq,by simpa using AP⟩
     ·right;obtain⟨J,T,AI⟩:=Wl (id:=id) As.mixed Ah M (by simpa using AP) (by simpa using Bu) Bv (by simpa using DI) rfl;exact⟨⟨J,T,λφ G a w I Q _ Bz=>AI I (λφ' W w' v Af DJ DK=>Bz t x he φ' W w' v Af DJ DK)⟩,.inr ⟨t,x,he⟩⟩
    |cons q r=>
     rw[CZ]at H;simp only[r6]at H;cases BX:fB S.mem (q::r)with
     |none=>rw[BX]at H;cases H
     |some Dv=>
      rw[BX]at H;simp only[Wb]at H;rcases KS B9 ops.toList S [] A5 S1 (by simp) H AC V.1 with ⟨he,ps,A3,M,heq,AP⟩|⟨init,ol,ps,A3,C_,M,A1,AP,J,T,AI,Af⟩
      ·exact .inl ⟨_,A8 BX,he,ps,A3,M,heq,by simpa using AP⟩
      ·obtain⟨C0,Ad⟩:=aiv M;refine .inr ⟨⟨J.trans C0,T.trans Ad,λφ G a w I Q DL DM=>?_⟩,AI⟩;have BW:ps.length+1=ops.toList.length:=by
        have:=NZ M;rw[C_];simp[this]
       refine QI (ops:=ops.toList) C_ (FE Ah A1) (A8 BX) As.mixed M (adK Ah BW A1 (by simpa using AP)) I (λφ' W w' A6 Y next DN=>?_);exact Af φ' G W w' A6 next Q (λhe AM a2 BN B' AF=>DN a2 BN (DL he AM a2 BN B' (Y.trans AF))) (λt x he AM a2 BN v B' AF AD=>DM t x he AM a2 BN v B' (Y.trans AF) AD)
   rcases key with ⟨B0,DO,rfl,ps,A3,M,heq,AP⟩|⟨⟨AK,A7,DP⟩,_⟩;rotate_left
   ·exact⟨AK,A7,λφ G a w I=>DP φ G a w I _ (λhe φ' W w' A6 Y=>⟨φ',S1,AK,⟨he.symm,rfl⟩,A6,Y⟩) (λt x he φ' W w' v A6 Y AD=>⟨φ',S1,t,x,v,rfl,AD,AK,⟨he.symm,rfl⟩,A6,Y⟩)⟩
   obtain⟨AK,A7⟩:=akU M;have AP:=aaa Ah AP (NZ M);refine⟨heq.n.trans AK,heq.gl.trans A7,λφ G a w I=>?_⟩;exact QH (ops:=ops.toList) DO As.mixed M AP I (λφ' W w' A6 Y=>⟨φ',S1,heq.n.trans AK,⟨rfl,rfl⟩,A6.eqv heq.symm,by rw[heq.mem];exact Y⟩)
 |seq a b BY C1=>
  intro S e O h AC V;simp only[fj,Ds]at V;simp only[den]at h;rcases gz h with ⟨S1,H,J⟩|⟨H,J⟩
  ·obtain⟨AK,A7,C2⟩:=BY S _ S1 H AC V.1;obtain⟨C0,Ad,DQ⟩:=C1 S1 e O J (A7.trans AC) (by rw[AK];exact V.2);refine⟨C0.trans AK,Ad.trans A7,Rn (C2.mono λA5 A3 AL=>?_)⟩;obtain⟨rfl,rfl⟩:=AL;exact DQ
  ·obtain⟨AK,A7,C2⟩:=BY S _ O H AC V.1;refine⟨AK,A7,Rn (C2.mono λA5 A3 AL=>?_)⟩;obtain⟨rfl,rfl⟩:=AL;cases A5 with
   |normal=>exact absurd rfl J
   |_=>exact⟨rfl,rfl⟩
 |cond c a b BY C1=>
  intro S e O h AC V;simp only[fj,Ds]at V;simp only[den]at h;cases M:S.au c with
  |mk g y=>
   rw[M]at h;unfold Es at h;split at h
   ·rename_i t heq;cases heq;cases t with
    |true=>
     obtain⟨H,J,T⟩:=BY S e O (by simpa using h) AC V.1;exact⟨H,J,Nk M (λ_=>T) (λA_=>by cases A_)⟩
    |false=>
     obtain⟨H,J,T⟩:=C1 S e O (by simpa using h) AC V.2;exact⟨H,J,Nk M (λA_=>by cases A_) (λ_=>T)⟩
   ·cases h
 |block id c ih=>
  intro S e O h AC V;simp only[den]at h;have BO:=Ba (X.gh f (id+2000000)) S;have ih:∀e O,den X f Ar n c (S.enter X f id)=some (e,O)->O.n=S.n/\O.gl=S.gl/\oT X.P c S (Is e O):=λe O h=>by
   obtain⟨Ai,a2,a3⟩:=ih (S.enter X f id) e O h (BO.2.1.trans AC) (by simp only[St.enter];rw[BO.1];exact V);exact⟨Ai.trans BO.1,a2.trans BO.2.1,aiu BO a3⟩
  unfold H2 at h;split at h
  ·rename_i C3 S1 H;obtain⟨A1,Z,Aa⟩:=ih _ S1 H;split at h
   ·rename_i hid;cases h;refine⟨A1,Z,CE (Aa.mono λA5 A3 AL=>?_)⟩;obtain⟨rfl,rfl⟩:=AL;simp only[hid,acH];exact⟨rfl,rfl⟩
   ·rename_i hid;cases h;refine⟨A1,Z,CE (Aa.mono λA5 A3 AL=>?_)⟩;obtain⟨rfl,rfl⟩:=AL;simp only[hid,acw];exact⟨rfl,rfl⟩
  ·rename_i AN;obtain⟨A1,Z,Aa⟩:=ih _ O h;refine⟨A1,Z,CE (Aa.mono λA5 A3 AL=>?_)⟩;obtain⟨rfl,rfl⟩:=AL;cases A5 with
   |exit C3=>exact absurd h (AN C3 A3)
   |_=>exact⟨rfl,rfl⟩
 |loop c ih=>
  intro S e O h AC V;simp only[den]at h;simp only[fj]at V;have B6:∀(k:Nat)(S1:St),iter (den X f Ar n c) k S1=some (e,O)->S1.gl=X.gl->fj X f S1.n c=true->O.n=S1.n/\O.gl=S1.gl:=by
   intro k;induction k with
   |zero=>intro S1 H;cases H
   |succ k DR=>
    intro S1 H A7 At;simp only[iter]at H;rcases gz H with ⟨A3,J,T⟩|⟨J,T⟩
    ·obtain⟨Ai,a2,_⟩:=ih S1 _ A3 J A7 At;obtain⟨DS,DT⟩:=DR A3 T (a2.trans A7) (by rw[Ai];exact At);exact⟨DS.trans Ai,DT.trans a2⟩
    ·obtain⟨Ai,a2,_⟩:=ih S1 _ O J A7 At;exact⟨Ai,a2⟩
  obtain⟨A1,Z⟩:=B6 n S h AC V;refine⟨A1,Z,?_⟩;refine adv (α:=Nat×St) (λx=>x.2) (λx=>iter (den X f Ar n c) x.1 x.2=some (e,O)/\x.2.gl=X.gl/\fj X f x.2.n c=true) (λx=>x.1) (n,S) rfl ⟨h,AC,V⟩ ?_;rintro ⟨k,S1⟩ ⟨H,A7,At⟩;simp only at H A7 At⊢;cases k with
  |zero=>cases H
  |succ k=>
   simp only[iter]at H;rcases gz H with ⟨A3,J,T⟩|⟨J,T⟩
   ·obtain⟨Ai,a2,Aa⟩:=ih S1 _ A3 J A7 At;refine Aa.mono λA5 Ca AL=>?_;obtain⟨rfl,rfl⟩:=AL;exact⟨(k,Ca),rfl,⟨T,a2.trans A7,by rw[Ai];exact At⟩,Nat.lt_succ_self k⟩
   ·obtain⟨Ai,a2,Aa⟩:=ih S1 _ O J A7 At;refine Aa.mono λA5 Ca AL=>?_;obtain⟨rfl,rfl⟩:=AL;cases A5 with
    |normal=>exact absurd rfl T
    |_=>exact⟨rfl,rfl⟩
 |exit id=>
  intro S e O h AC V;simp only[den,aa1,acr]at h;obtain⟨rfl,rfl⟩:=h;obtain⟨t1,t2,t3⟩:=Ba (X.gh f (id+1000000)) S;refine⟨t1,t2,λφ G a w Bt=>wp_mono ((adu (Q:=Is (.exit id) S) ⟨rfl,rfl⟩:oT X.P (.exit id) S (Is (.exit id) S)) φ G a w Bt) λe' W w' AE=>?_⟩;obtain⟨φ',A1,A6,Y,he⟩:=AE.is;cases e' with
  |exit C3=>
   cases he;obtain⟨AM,B',AF⟩:=t3 φ' G W w' A6;exact⟨AM,_,t1.trans A1,⟨rfl,rfl⟩,B',Y.trans AF⟩
  |normal=>cases he
  |ret=>cases he
  |panic chain=>obtain⟨t,x,v,AI,_⟩:=he;cases AI
  |_=>exact he.elim
 |ret=>
  intro S e O h AC V;simp only[den,aa1,acr]at h;obtain⟨rfl,rfl⟩:=h;exact⟨rfl,rfl,aio ⟨rfl,rfl⟩⟩
 |rangeFunc _ _ _ _=>intro S e O h;simp[den]at h
 |scope _ _=>intro S e O h;simp[den]at h
 |label _=>intro S e O h;simp[den]at h
 |goto _=>intro S e O h;simp[den]at h
 |refuse _=>intro S e O h;simp[den]at h
theorem GD:∀(cs:List aD)(i:Nat),(ew i cs).map (·.key)=List.range' i cs.length
 |[],i=>rfl
 |c::r,i=>by simp[ew,GD r,akz]
theorem Jy:∀(cs:List aD)(i:Nat)(e:cq),e∈ew i cs->e.ar=0
 |[],i,e,he=>by simp[ew]at he
 |c::r,i,e,he=>by
  simp only[ew,aaC]at he;rcases he with rfl|he
  ·rfl
  ·exact Jy r (i+1) e he
theorem bz.dv{φ:bP}{G:Fr}{m:Mem}{w:World}(h:bz φ G m w)(dv:List Deferred):bz φ ⟨G.g,dv⟩ m w:=
 ⟨h.nodup,h.sA,h.fB,h.apart,h.mC,h.bound⟩
theorem Ev.dv{P:Program}{gl f args m K}(h:∀φ G w (vs:Array Value),G.dv=[]->bz φ G m w->fF w (Fo G φ m) gl->args.length=vs.size->(∀(i:Nat) x v,args[i]?=some x->vs[i]?=some v->aH φ w (Fo G φ m) x v)->
 Calls P f vs w λe w'=>∃φ' m' out,K out m'/\bz φ' G m' w'/\bk φ m w φ' m' w'/\qm φ' w' (Fo G φ' m') out e):Ev P gl f args m K:=by
 intro φ G w vs hm Z Au BA;refine (h φ ⟨G.g,[]⟩ w vs rfl (hm.dv []) Z Au BA).mono ?_;rintro e w' ⟨φ',m',out,H,J,T,AI⟩;exact⟨φ',m',out,H,J.dv G.dv,T,AI⟩
theorem Bb(As:lN X)(B9:kT X Ar){fn:Func}{c:Code}{args:List AV}{cs:List aD}{out:Out}{l:List (Nat×aD)}(A_:X.P.funcs[f]?=some fn)(E:fn.body=some c)
 (h:tP X f Ar n fn c args cs=some (out,l)):Ev X.P X.gl f args (ew 0 cs) λo m=>o=out/\m=dW 0 l:=by
 unfold tP at h;split at h
 ·rename_i M;simp only[Ds,aak,abX]at M;obtain⟨⟨⟨Dw,Dx⟩,DU⟩,DV⟩:=M;refine Ev.dv ?_;intro φ G w vs BP hm DW DX Ax;have BH:∀k,k∈(ew 0 cs).map (·.key)↔k<cs.length:=λk=>by rw[GD];simp
  have C4:∀k∈(X.fp f).sites,k∉(ew 0 cs).map (·.key):=by
   intro k A' DY;have H:=DU k A';have J:=(BH k).1 DY;omega
  have Cb:∀k L,φ k=some L->k<cs.length/\L.ar=0:=λk L A9=>by
   have A':=hm.sA k L A9;obtain⟨e,he,rfl⟩:=abV.1 A';obtain⟨L',Ap,AJ,_⟩:=hm.fB e he;rw[A9]at Ap;cases Ap;exact⟨(BH _).1 A',by rw[AJ];exact Jy cs 0 e he⟩
  have DZ:=hm.add DV C4;have C5:bk φ (ew 0 cs) w (φ.add (X.fp f).sites) (ew 0 cs++(X.fp f).sites.map dead) w:=⟨Nr hm C4,λ_ _ _=>rfl,λb _ A2=>(Ek C4 b).1 A2,aad _,rfl,rfl,rfl⟩;refine calls_of_wp A_ E ?_;obtain⟨S0,BQ⟩:∃S0,S0=entry fn.ntmps X.gl args cs (X.fp f).sites:=⟨_,rfl⟩;have I:Rel (φ.add (X.fp f).sites) G S0 {tmps:=vs++Array.replicate (fn.ntmps-vs.size) undef,defers:=[]} w:=by
   rw[BQ];refine⟨by simp[entry];omega,BP.symm,λt x AA=>?_,DZ,?_⟩
   ·obtain⟨j,rfl,A4⟩:=AT 0 args t _ AA;have Aq:j<vs.size:=by rw[<-DX];exact (D1.1 A4).1
    have e:(vs++Array.replicate (fn.ntmps-vs.size) undef).getD (0+j) undef=vs[j]:=by
     simp only[ahI,abN];rw[ah2 Aq];simp[Aq]
    rw[e];exact C5.av (Ax j x _ A4 (by simp[Aq]))
   ·exact C5.mD DW
  rw[<-BQ]at h;cases C6:den X f Ar n c S0 with
  |none=>rw[C6]at h;cases h
  |some q=>
   obtain⟨e,O⟩:=q;rw[C6]at h;obtain⟨Dy,Dz,Aa⟩:=N0 As B9 c S0 e O C6 (by rw[BQ];rfl) (by rw[BQ];exact As.adP f fn c A_ E);refine wp_mono (Aa _ G _ w I) λe' W w' AE=>?_;obtain⟨φ',_,A6,Y,he⟩:=AE.is;have Cc:bk φ (ew 0 cs) w φ' O.mem w':=by
    have:S0.mem=ew 0 cs++(X.fp f).sites.map dead:=by rw[BQ];rfl
    rw[this]at Y;exact C5.trans Y
   have Cd:finish X.P (X.fp f) cs.length fn.results.toList O=some (out,l)->
    W.defers=[]/\∃v,(results fn W.tmps).run X.P w'=.ok v w'/\∃B_ m' Ce,(Ce=out/\m'=dW 0 l)/\bz B_ G m' w'/\bk φ (ew 0 cs) w B_ m' w'/\qm B_ w' (Fo G B_ m') Ce (.returned v):=by
    intro BB;unfold finish at BB;split at BB
    ·rename_i D_ xs BK;split at BB
     ·rename_i Da;obtain⟨B1,H,J,T⟩:=AQ A6 fn.results.toList D_ xs BK Da;obtain⟨AM,Aj,rfl,g1,g2,g3,g4,_⟩:=vK BB A6.mem A6.mD J T Cc Cb;have Db:(results fn W.tmps).run X.P w'=.ok (if h:B1.toArray.size=1 then B1.toArray[0]else .tuple B1.toArray) w':=by
       have e:results fn W.tmps=(do let vs <-fn.results.mapM (CL W.tmps);pure (if h:vs.size=1 then vs[0]else .tuple vs)):=by
        unfold results;congr 1
       rw[e,Array.mapM_eq_mapM_toList];simp only[Sem.run_bind,Sem.run_map,H,Result.andThen_ok,Sem.run_pure]
      refine⟨A6.defers.trans BP,_,Db,AM,_,_,⟨rfl,rfl⟩,g1,g2,?_⟩;show aH AM w' _ (oneOf Aj) _;by_cases C7:B1.length=1
      ·obtain⟨v,rfl⟩:∃v,B1=[v]:=by
        cases B1 with
        |nil=>simp at C7
        |cons v r=>exact⟨v,by cases r with|nil=>rfl|cons _ _=>simp at C7⟩
       obtain⟨y,rfl⟩:∃y,Aj=[y]:=by
        cases Aj with
        |nil=>simp at g3
        |cons v r=>exact⟨v,by cases r with|nil=>rfl|cons _ _=>simp at g3⟩
       simpa [oneOf]using g4 0 y v (by simp) (by simp)
      ·have e:oneOf Aj=.aY Aj:=by
        cases Aj with
        |nil=>rfl
        |cons y r=>cases r with|nil=>simp at g3;omega|cons _ _=>rfl
       rw[e,dif_neg (by simpa using C7)];exact .aY Aj B1.toArray (by simpa using g3) (λi y v h C8=>g4 i y v h (by simpa using C8))
     ·cases BB
    ·cases BB
   cases e' with
   |normal=>cases he;exact Cd h
   |ret=>cases he;exact Cd h
   |exit id=>cases he;cases h
   |panic chain=>
    obtain⟨t,x,v,rfl,rfl,V⟩:=he;have C8:sS (X.fp f) cs.length O [] (λ_=>.panic t x)=some (out,l):=h;obtain⟨AM,Aj,rfl,g1,g2,_,_,g5⟩:=vK (vs:=[]) C8 A6.mem A6.mD rfl (by simp) Cc Cb;exact⟨A6.defers.trans BP,AM,_,_,⟨rfl,rfl⟩,g1,g2,v,rfl,V.mono (λ_ _ _=>rfl) (aad _) (λb _=>g5 b)⟩
   |_=>exact he.elim
 ·cases h
theorem Ev.split{P:Program}{gl f r m K}(H:Ev P gl f (.lit (.slice none 0 0)::r) m K)(J:Ev P gl f (.nn::r) m K):Ev P gl f (.d (.list [])::r) m K:=by
 intro φ G w vs hm Z Au BA;have go:∀y,(∀v,vs[0]?=some v->aH φ w (Fo G φ m) y v)->∀(i:Nat) x v,(y::r)[i]?=some x->vs[i]?=some v->aH φ w (Fo G φ m) x v:=by
  intro y AG i x v AA AD;cases i with
  |zero=>simp at AA;subst AA;exact AG v AD
  |succ i=>exact BA (i+1) x v (by simpa using AA) AD
 have Ci:0<vs.size:=by rw[<-Au];simp
 have AB:=BA 0 (.d (.list [])) vs[0] (by simp) (by simp[Ci]);generalize Dc:vs[0]=v0 at AB;have CA:vs[0]?=some v0:=by rw[<-Dc];simp[Ci]
 cases AB with
 |d _ _ V=>
  cases V with
  |nil a cap A1=>
   cases a with
   |none=>
    have:=A1 rfl;subst this;exact H φ G w vs hm Z (by simpa using Au) (go _ (λv AD=>by rw[CA]at AD;cases AD;exact .lit _ rfl))
   |some a=>exact J φ G w vs hm Z (by simpa using Au) (go _ (λv AD=>by rw[CA]at AD;cases AD;exact .nn a cap))
  |list _ b off cap sz E'=>exact J φ G w vs hm Z (by simpa using Au) (go _ (λv AD=>by rw[CA]at AD;cases AD;exact .nn _ cap))
theorem gE{r:Option (Out×List (Nat×aD))}{sz:Nat}(h:q0 r=some sz):r=some (.ret (.vec 0 0 0 0),[(0,.vec sz [])]):=by
 unfold q0 at h;split at h
 ·cases h;rfl
 ·cases h
theorem QN{h:List AV->Option AV}{args:List AV}{cs:List aD}{r:Out×List (Nat×aD)}(I:o8 h args cs=some r):cs=[]/\∃d,h args=some d/\r=(.ret d,[]):=by
 unfold o8 at I;split at I
 ·split at I
  ·rename_i d V;cases I;exact⟨rfl,d,V,rfl⟩
  ·cases I
 ·cases I
theorem toDs_eq:∀{args:List AV}{Bc:List D},toDs args=some Bc->args=Bc.map .d
 |[],Bc,h=>by
  simp only[toDs,aa1]at h;subst h;rfl
 |y::r,Bc,h=>by
  cases I:toDs r with
  |none=>unfold toDs at h;rw[I]at h;cases y<;>cases h
  |some Aj=>
   unfold toDs at h;rw[I]at h;cases y<;>cases h;rw[toDs_eq I];rfl
theorem ald(As:lN X){g:FuncId}{h:List AV->Option AV}(Z:X.BZ g=some h){args:List AV}{cs:List aD}{out:Out}{l:List (Nat×aD)}(I:o8 h args cs=some (out,l)):
 iK X.P g=true/\Ev X.P X.gl g args (ew 0 cs) λo m=>o=out/\m=dW 0 l:=by
 obtain⟨M,Df⟩:=As.BZ g h Z;refine⟨M,?_⟩;obtain⟨rfl,d,V,he⟩:=QN I;cases he;intro φ G w vs hm AC Au BA;have Ck:∀b,jQ φ (ew 0 []) b->False:=by
  rintro b ⟨e,he,_⟩;simp[ew]at he
 refine (Df args d V φ (Fo G φ (ew 0 [])) w vs AC (λb E=>E.elim (hm.bound b) λh=>(Ck b h).elim) Au BA).mono ?_;rintro e w' ⟨v,rfl,E,BP⟩;refine⟨φ,ew 0 [],.ret d,⟨rfl,rfl⟩,⟨hm.nodup,hm.sA,λe he=>by simp[ew]at he,λe he=>by simp[ew]at he,λb E=>(Ck b E).elim,λb Dg=>akA (hm.bound b Dg) E.size⟩,⟨bP.le_refl _,λb Ay _=>E.block b Ay,λb _ A2=>A2,E.size,E.os,E.tape,E.output⟩,?_⟩;exact BP
end
def aqu(φ:bP)(w:World)(F:Nat->Prop)(x:DF)(d:Deferred):Prop:=
 ∃A':Array Value,d.target=.fn (.func x.1) A'/\x.2.length=(d.args++A').size/\∀(i:Nat) y v,x.2[i]?=some y->(d.args++A')[i]?=some v->aH φ w F y v
def qu(φ:bP)(w:World)(F:Nat->Prop):List DF->List Deferred->Prop
 |[],[]=>True
 |x::xs,d::E=>aqu φ w F x d/\qu φ w F xs E
 |_,_=>False
theorem qu.keeps{φ m w φ' m' w'}{G:Fr}(h:bk φ m w φ' m' w'):∀{xs:List DF}{E:List Deferred},qu φ w (Fo G φ m) xs E->qu φ' w' (Fo G φ' m') xs E
 |[],[],_=>trivial
 |x::xs,d::E,⟨⟨A',A8,A5,A6⟩,AA⟩=>⟨⟨A',A8,A5,λi y v AB A1=>h.av (A6 i y v AB A1)⟩,qu.keeps h AA⟩
 |[],_::_,AP=>AP.elim
 |_::_,[],AP=>AP.elim
def Bc(n:Nat)(φ:bP)(g:Nat->Prop)(m:Mem)(w:World)(e:XE)(D:St)(H:List DF)(e':Exit)(M:Act)(w':World):Prop:=
 ∃φ' A0,D.n=n/\Rel φ' ⟨g,A0⟩ D M w'/\bk φ m w φ' D.mem w'/\qu φ' w' (Fo ⟨g,A0⟩ φ' D.mem) H A0/\(match e' with
  | .normal=>e=.normal
  | .exit id=>e=.exit id
  | .ret=>e=.ret
  | .panic chain=>∃t x v,e=.panic t x/\chain=[{v:=.iface t v,recovered:=false}]/\aQ w' (Fo ⟨g,A0⟩ φ' D.mem) x v
  |_=>False)
theorem Bc.weaken{n:Nat}{φ AY:bP}{g:Nat->Prop}{m AZ:Mem}{w A_:World}{e D H e' M w'}(h:Bc n AY g AZ A_ e D H e' M w')(Al:bk φ m w AY AZ A_):Bc n φ g m w e D H e' M w':=by
 obtain⟨φ',A0,A8,A5,A6,AA,V⟩:=h;exact⟨φ',A0,A8,A5,Al.trans A6,AA,V⟩
theorem N4{S:St}{o:Oper}{d:DF}(h:jZ S o=some d):o.guard=none/\∃c AC args AK g AF,o.op=.defer c/\c={callee:=.value AC,args,argTypes:=AK}/\S.au AC=(true,.fn g AF)/\g<vi/\jV S args.toList=true/\d=(g,dC S args.toList++AF):=by
 unfold jZ at h;split at h
 ·rename_i AC args AK AQ AR;unfold KI at h;split at h
  ·rename_i g AF AL;split at h
   ·rename_i AG;cases h;simp only[Ds,aak]at AG;exact⟨AQ,_,AC,args,AK,g,AF,AR,rfl,AL,AG.2,AG.1,rfl⟩
   ·cases h
  ·cases h
 ·cases h
section
variable {X:Ctx} {A2:bj} {f:FuncId} {n:Nat}
theorem Bd{md:Bool}{all:List Oper}(A7:kT X A2):∀(ops:List Oper)(S:St)(E:List DF)(e:XE)(D:St)(H:List DF),gI X A2 md all ops S E=some (e,D,H)->S.gl=X.gl->lH S.n ops=true->
 D.n=S.n/\D.gl=S.gl/\∀φ g dv a w,Rel φ ⟨g,dv⟩ S a w->qu φ w (Fo ⟨g,dv⟩ φ S.mem) E dv->∀Q:Exit->Act->World->Prop,(∀e' M w',Bc S.n φ g S.mem w e D H e' M w'->Q e' M w')->wpList X.P all.toArray Q ops a w
 |[],S,E,e,D,H,h,T,J=>by
  simp only[gI,aa1,acr]at h;obtain⟨rfl,rfl,rfl⟩:=h;exact⟨rfl,rfl,λφ g dv a w I O Q AD=>AD .normal _ _ ⟨φ,dv,rfl,I,bk.refl ..,O,rfl⟩⟩
 |o::rest,S,E,e,D,H,h,T,J=>by
  simp only[lH,aoT,Ds]at J;obtain⟨Aa,J⟩:=J;have Ab:∀t,o.dst=some t->t<S.n:=λt An=>by rw[An]at Aa;simpa using Aa
  simp only[gI]at h;cases AS:jZ S o with
  |some d=>
   rw[AS]at h;simp only at h;obtain⟨AQ,c,AC,args,AK,g0,AF,AR,Ao,AL,Ap,AG,rfl⟩:=N4 AS;obtain⟨AH,AI,AT⟩:=Bd A7 rest (S.put o.dst true .bu) _ e D H h ((nM ..).trans T) (by rw[ou];exact J);refine⟨AH.trans (ou ..),AI.trans (nM ..),λφ g dv a w I O Q AD=>?_⟩;have AU:=I.au AC (by rw[AL]);rw[AL]at AU;generalize Aq:a.eval AC=B' at AU;cases AU with
   |vj _ _ A' Ac Ad=>exact absurd Ap (Nat.not_lt.2 (alk _ _))
   |fn _ _ A' B0 Ac Ad=>
    have Ar:(execOp a.eval o).run X.P w=.ok (.defer {target:=.fn (.func g0) A',args:=args.map a.eval}) w:=by
     simp[execOp,AR,Ao,resolve,Aq,Deferred.ofValue]
    have hw:Region.wanted o (yielded all.toArray a.tmps)=true:=by simp[Region.wanted,AQ]
    unfold wpList;rw[aat hw];left;unfold Oper.wp;rw[Ar,Oper.upon_defer];have As:Rel φ ⟨g,{target:=.fn (.func g0) A',args:=args.map a.eval}::dv⟩ S {a with defers:={target:=.fn (.func g0) A',args:=args.map a.eval}::a.defers} w:=
     ⟨I.size,by rw[I.defers],I.env,I.mem.dv _,I.mD⟩
    have AV:=As.put o.dst Ab true .bu undef (λ_=>.bu _);refine AT φ g _ _ w AV ⟨⟨A',rfl,?_,?_⟩,?_⟩ Q (λe' a2 AM W=>AD e' a2 AM ?_)
    ·rw[aam,kH];simp[Ac]
    ·intro i y v AB A1;rw[gm];by_cases hi:i<args.size
     ·rw[aaF (by rw[kH];simpa using hi),zq]at AB;rw[ah2 (by simpa using hi)]at A1;simp only[Array.getElem?_map,aax]at A1;obtain⟨z,Ae,rfl⟩:=A1;obtain⟨B1,Af,rfl⟩:=aax.1 AB;rw[ah1,Ae]at Af;cases Af;exact I.au z (x4 AG z (by simpa using Array.mem_of_getElem? Ae))
     ·rw[abI (by rw[kH];simpa using hi),kH]at AB;rw[Array.getElem?_append_right (by simpa using hi)]at A1;simp only[Array.size_map,ab9]at AB A1;exact Ad _ _ v AB A1
    ·rw[gm];exact O
    ·rw[ou,gm]at W;exact W
  |none=>
   rw[AS]at h;simp only at h;cases AW:pP X A2 md all S o with
   |none=>rw[AW]at h;cases h
   |some p=>
    obtain⟨U,S1⟩:=p;rw[AW]at h;obtain⟨Y,A3,At,Ag⟩:=xf A7 T Ab AW;rcases At with rfl|⟨t0,B2,rfl⟩
    ·simp only[Mg]at h;obtain⟨AH,AI,AT⟩:=Bd A7 rest S1 E e D H h (A3.trans T) (by rw[Y];exact J);refine⟨AH.trans Y,AI.trans A3,λφ g dv a w I O Q AD=>?_⟩;have:=Ag φ ⟨g,dv⟩ a w I (wpList X.P all.toArray Q rest) Q
      (λ_ φ' M w' AJ A9=>AT φ' g dv M w' AJ (O.keeps A9) Q (λe' a2 AM W=>AD e' a2 AM (by rw[<-Y];exact W.weaken A9))) (λt x he=>by cases he)
     unfold wpList;split
     ·rename_i hw;rw[aat hw]at this;exact .inl this
     ·rename_i hw;rw[aab hw]at this;exact this
    ·simp only[Mg,aa1,acr]at h;obtain⟨rfl,rfl,rfl⟩:=h;refine⟨Y,A3,λφ g dv a w I O Q AD=>?_⟩;have:=Ag φ ⟨g,dv⟩ a w I (wpList X.P all.toArray Q rest) Q
      (λhe=>by cases he) (λt x he φ' M w' v AJ A9 A1=>AD (.panic _) M w' ⟨φ',dv,Y,AJ,A9,O.keeps A9,t,x,v,he,rfl,A1⟩)
     unfold wpList;split
     ·rename_i hw;rw[aat hw]at this;exact .inl this
     ·rename_i hw;rw[aab hw]at this;exact this
theorem Ry(AN:lN X)(A7:kT X A2){c:Code}{S:St}{E:List DF}{e:XE}{D:St}{H:List DF}(h:A4 E (den X f A2 n c S)=some (e,D,H))(T:S.gl=X.gl)(J:fj X f S.n c=true):
 D.n=S.n/\D.gl=S.gl/\∀φ g dv a w,Rel φ ⟨g,dv⟩ S a w->qu φ w (Fo ⟨g,dv⟩ φ S.mem) E dv->c.wp X.P (Bc S.n φ g S.mem w e D H) a w:=by
 cases Z:den X f A2 n c S with
 |none=>rw[Z]at h;cases h
 |some p=>
  obtain⟨U,S1⟩:=p;rw[Z]at h;simp only[A4,aa1,acr]at h;obtain⟨rfl,rfl,rfl⟩:=h;obtain⟨A8,A5,A6⟩:=N0 AN A7 c S U S1 Z T J;refine⟨A8,A5,λφ g dv a w I O=>wp_mono (A6 φ ⟨g,dv⟩ a w I) λe' M w' W=>?_⟩;obtain⟨φ',Au,AJ,A9,he⟩:=W.is;exact⟨φ',dv,Au,AJ,A9,O.keeps A9,by cases e'<;>exact he⟩
theorem aiw(AN:lN X)(A7:kT X A2)(c:Code):∀(S:St)(E:List DF)(e:XE)(D:St)(H:List DF),kf X f A2 n c S E=some (e,D,H)->S.gl=X.gl->fj X f S.n c=true->
 D.n=S.n/\D.gl=S.gl/\∀φ g dv a w,Rel φ ⟨g,dv⟩ S a w->qu φ w (Fo ⟨g,dv⟩ φ S.mem) E dv->c.wp X.P (Bc S.n φ g S.mem w e D H) a w:=by
 induction c with
 |seq a b Av Aw=>
  intro S E e D H h T J;simp only[fj,Ds]at J;simp only[kf]at h;cases Z:kf X f A2 n a S E with
  |none=>rw[Z]at h;cases h
  |some p=>
   obtain⟨U,S1,AE⟩:=p;obtain⟨Y,A3,AO⟩:=Av S E U S1 AE Z T J.1;have stop:U≠.normal->e=U/\D=S1/\H=AE:=λhe=>by
    rw[Z]at h;cases U with
    |normal=>exact absurd rfl he
    |_=>simp only[NF,aa1,acr]at h;exact⟨h.1.symm,h.2.1.symm,h.2.2.symm⟩
   by_cases he:U=.normal
   ·subst he;rw[Z]at h;simp only[NF]at h;obtain⟨AH,AI,Ax⟩:=Aw S1 AE e D H h (A3.trans T) (by rw[Y];exact J.2);refine⟨AH.trans Y,AI.trans A3,λφ g dv ac w I O=>wp_seq (wp_mono (AO φ g dv ac w I O) λe' M w' W=>?_)⟩;obtain⟨φ',A0,A8,A5,A6,AA,V⟩:=W;cases e' with
    |normal=>exact wp_mono (Ax φ' g A0 M w' A5 AA) λB3 a2 AM Ah=>by rw[Y]at Ah;exact Ah.weaken A6
    |exit id=>cases V
    |ret=>cases V
    |panic chain=>obtain⟨t,x,v,AX,_⟩:=V;cases AX
    |_=>exact V.elim
   ·obtain⟨rfl,rfl,rfl⟩:=stop he;refine⟨Y,A3,λφ g dv ac w I O=>wp_seq (wp_mono (AO φ g dv ac w I O) λe' M w' W=>?_)⟩;cases e' with
    |normal=>obtain⟨_,_,_,_,_,_,V⟩:=W;exact absurd V he
    |_=>exact W
 |region id ops draw=>
  intro S E e D H h T J;simp only[kf]at h;split at h
  ·rename_i Ai;simp only[Ds,ahK]at Ai;obtain⟨rfl,_⟩:=Ai;simp only[fj,Ds]at J;have Ay:lH S.n ops.toList=true:=J.1;cases Z:gI X A2 (X.md f id) ops.toList ops.toList S E with
   |none=>rw[Z]at h;cases h
   |some p=>
    obtain⟨U,S1,AE⟩:=p;rw[Z]at h;obtain⟨Y,A3,AO⟩:=Bd A7 ops.toList S E U S1 AE Z T Ay;have Aj:∀φ g dv a w,Rel φ ⟨g,dv⟩ S a w->qu φ w (Fo ⟨g,dv⟩ φ S.mem) E dv->(Code.region id ops false).wp X.P (Bc S.n φ g S.mem w U S1 AE) a w:=
     λφ g dv a w I O=>wp_region_lit (AO φ g dv a w I O _ (λ_ _ _ h=>h))
    by_cases he:U=.normal
    ·subst he;simp only[C0,aa1,acr]at h;obtain⟨rfl,rfl,rfl⟩:=h;obtain⟨t1,t2,t3⟩:=vO X f id S1;refine⟨t1.trans Y,t2.trans A3,λφ g dv a w I O=>wp_mono (Aj φ g dv a w I O) λe' M w' W=>?_⟩;obtain⟨φ',A0,A8,A5,A6,AA,V⟩:=W;cases e' with
     |normal=>
      obtain⟨Az,AV,Ak⟩:=t3 φ' ⟨g,A0⟩ M w' A5;exact⟨Az,A0,t1.trans A8,AV,A6.trans Ak,AA.keeps Ak,rfl⟩
     |exit id=>cases V
     |ret=>cases V
     |panic chain=>obtain⟨t,x,v,AX,_⟩:=V;cases AX
     |_=>exact V.elim
    ·have:e=U/\D=S1/\H=AE:=by
      cases U with
      |normal=>exact absurd rfl he
      |_=>simp only[C0,aa1,acr]at h;exact⟨h.1.symm,h.2.1.symm,h.2.2.symm⟩
     obtain⟨rfl,rfl,rfl⟩:=this;exact⟨Y,A3,Aj⟩
  ·exact Ry AN A7 h T J
 |_=>intro S E e D H h T J;exact Ry AN A7 (by simpa only[kf]using h) T J
end
abbrev Ru:=FuncId->Array Value->World->(Ending->World->Prop)->Prop
def N5(C:Ru):Prop:=∀f vs w R A3,C f vs w R->(∀e w',R e w'->A3 e w')->C f vs w A3
def N6(C:Ru)(gl:List (Nat×D))(f:FuncId)(args:List AV)(m:Mem)(K:Out->Mem->Prop):Prop:=
 ∀φ G w (vs:Array Value),bz φ G m w->fF w (Fo G φ m) gl->args.length=vs.size->(∀(i:Nat) x v,args[i]?=some x->vs[i]?=some v->aH φ w (Fo G φ m) x v)->
  C f vs w λe w'=>∃φ' m' out,K out m'/\bz φ' G m' w'/\bk φ m w φ' m' w'/\qm φ' w' (Fo G φ' m') out e
theorem N6.frz{C:Ru}(V:N5 C){gl f args}{cs:List aD}{out:Out}{E:List (Nat×aD)}(h:N6 C gl f args (ew 0 cs) λo m=>o=out/\m=dW 0 E)(A4:cs.length<=E.length):
 N6 C gl f args (ew 0 cs) λo m=>o=Jr cs.length E out/\m=dW 0 (fa (dW 0 E) (List.range cs.length) (λ_=>true) (λ_ v=>v) 0 (List.range cs.length)):=by
 intro φ G w vs hm W AH AI;refine V _ _ _ _ _ (h φ G w vs hm W AH AI) ?_;rintro e w' ⟨φ',m',Y,⟨rfl,rfl⟩,O,H,I⟩;obtain⟨s1,s2,AJ⟩:=Ej (G1:=G) (ρ:=List.range cs.length) (bor:=λ_=>true) (nv:=λ_ v=>v) O List.nodup_range (λk T=>Ab E 0 k (Nat.zero_le _) (by simp at T;omega)) (λb h=>.inl h) (λb h=>O.mC b h.own)
  (λk e L b W _ _ Z A0=>O.mC _ ⟨e,(Mem.get_mem W).1,L,by rw[(Mem.get_mem W).2];exact Z,A0⟩)
 refine⟨_,_,_,⟨rfl,rfl⟩,s1,⟨?_,H.Ch,?_,H.size,H.os,H.tape,H.output⟩,?_⟩
 ·intro k L Z;have T:k<cs.length:=by
   have:=hm.sA k L Z;rw[Ns,sO]at this;simpa using this
  obtain⟨L',A1,AK,AL⟩:=H.le k L Z;exact⟨L',by simp[bP.jq,T,A1],AK,AL⟩
 ·intro b AM A0;exact H.own b AM ((zT (φ:=φ') (nv:=λ_ v=>v) (bor:=λ_=>true) (λk T=>Ab E 0 k (Nat.zero_le _) (by simp at T;omega)) b).1 A0).own
 ·cases Y with
  |ret x=>
   cases e with
   |returned v=>exact (s2 x v I).norm
   |_=>exact I.elim
  |panic t x=>
   cases e with
   |panicked chain=>
    obtain⟨v,A',M⟩:=I;exact⟨v,A',M.mono (λ_ _ _=>rfl) (aad _) (λb _=>AJ b)⟩
   |_=>exact I.elim
theorem QO{C:Ru}(V:N5 C){gl:List (Nat×D)}{A5:bj}(AN:∀g args cs out l,A5 g args cs=some (out,l)->N6 C gl g args (ew 0 cs) λo m=>o=out/\m=dW 0 l)
 {m:Mem} {A8:Nat} {g:FuncId} {J:List AV} {mt:List Nat} {res:gi} (h:eA A5 m A8 g J mt=some res) {φ:bP} {G:Fr} {w:World} (hm:bz φ G m w) (AO:fF w (Fo G φ m) gl)
 {vs:Array Value} (A4:J.length=vs.size) (AP:∀(i:Nat) x v,J[i]?=some x->vs[i]?=some v->aH φ w (Fo G φ m) x v):
 C g vs w λe w'=>∃φ',bz φ' G (bH m res.es) w'/\bk φ m w φ' (bH m res.es) w'/\qm φ' w' (Fo G φ' (bH m res.es)) res.out e:=by
 unfold eA nZ nY at h;obtain⟨ρ,A9⟩:∃ρ,ρ=collect m 64 (mQ mt 0 J) []:=⟨_,rfl⟩;have AA:=rS m 64 (mQ mt 0 J) [] List.nodup_nil (by simp);rw[<-A9]at h AA;generalize (w9 mt 0 J).filter (λk=>!ρ.contains k)=B at h;clear A9;obtain⟨AB,AC⟩:=AA;unfold gv at h;split at h
 ·rename_i out E AQ;split at h
  ·rename_i A';cases h;have AD:N6 C gl g (jb (mt.contains 1000) m ρ B J) (ew 0 (qP (fa m ρ (λk=>B.contains k) ja 0 ρ))) λo m=>o=out/\m=dW 0 E:=by
    obtain⟨Ac,Ad,AR,A1⟩:=C5 AQ;have AE:=AN _ _ _ _ _ AR;rcases A1 with ⟨rfl,rfl⟩|⟨Ae,rfl,rfl⟩
    ·exact AE
    ·have AF:(qP (fa m ρ (λk=>B.contains k) ja 0 ρ)).length=ρ.length:=by rw[xe,tL]
     have:=AE.frz V (by rw[AF];omega);rw[AF]at this;exact this
   simp only[Ds,ahR,aak]at A';obtain⟨⟨Af,AS⟩,AT⟩:=A';rw[C4]at AD;obtain⟨v1,v2,v3⟩:=Kr (B:=B) hm AB AC;have AU:∀(i:Nat) x v,(jb (mt.contains 1000) m ρ B J)[i]?=some x->vs[i]?=some v->aH (φ.jq ρ ja) w (Fo (nu φ G m ρ B) (φ.jq ρ ja) (dW 0 (fa m ρ (λk=>B.contains k) ja 0 ρ))) x v:=by
    intro i x v M AW;rw[A6]at M;obtain⟨y,AX,rfl⟩:=aax.1 M;exact (v2 y v (AP i y v AX AW)).Fz
   have AY:fF w (Fo (nu φ G m ρ B) (φ.jq ρ ja) (dW 0 (fa m ρ (λk=>B.contains k) ja 0 ρ))) gl:=
    AO.mono (λ_ _ _=>rfl) (aad _) (λb _=>v3 b)
   refine V _ _ _ _ _ (AD (φ.jq ρ ja) (nu φ G m ρ B) w _ v1 AY (by rw[u0];exact A4) AU) ?_;rintro e w' ⟨Ag,Ah,Y,⟨rfl,rfl⟩,AZ,A_,I⟩;have A2:B=[]\/(CY Y=true/\qp E=true):=AT.imp (by simp) id;obtain⟨φ',O,H,AG⟩:=Ks (B:=B) hm AB AC (fr:=List.range' (A8+1) (E.length-ρ.length)) List.nodup_range' (Gy AS) AZ A_ (by simp;omega) (A2.imp id λU=>A7 U.2);refine⟨φ',O,H,?_⟩;cases Y with
   |ret x=>
    cases e with
    |returned v=>exact AG x v (A2.imp id λU=>U.1) I
    |_=>exact I.elim
   |panic t x=>
    cases e with
    |panicked chain=>
     obtain⟨v,rfl,M⟩:=I;have:=AG (.d x) v (A2.imp id λU=>U.1) (.d _ _ M);cases this with
     |d _ _ Aa=>exact⟨v,rfl,Aa⟩
    |_=>exact I.elim
  ·cases h
 ·cases h
theorem KV{P:Program}{ops:Array Oper}{Q:Exit->Act->List Frame->World->Prop}{cs:List Frame}(AC:∀a w,¬Q .outgrown a cs w):∀(l:List Nat)(a:Act)(w:World),
 wpOps P ops (λe a w=>Q e a cs w) l a w->wpOpsS P ops Q l a cs w
 |[],a,w,h=>h
 |i::rest,a,w,h=>by
  have ih:=KV (P:=P) (ops:=ops) AC rest;unfold wpOps at h;unfold wpOpsS;split at h
  ·rename_i Z;simp only[Z];exact ih a w h
  ·rename_i o Z;simp only[Z];split at h
   ·rename_i hw;rw[aat hw];rcases h with h|⟨_,a0,w0,h⟩
    ·have W:=Oper.wp_mono (K':=λI w'=>wpOpsS P ops Q rest I cs w') ih h;unfold Oper.wp at W;split
     ·rename_i w' J;rw[J]at W;exact W.elim
     ·exact W
    ·exact absurd h (AC a0 w0)
   ·rename_i hw;rw[aab hw];exact ih _ w h
def Wm(D:Frame)(E:List Frame)(v:Value)(H:FrameMode):Prop:=
 recoverD (D::E)=some (v,{D with mode:=H}::E)\/(recoverD (D::E)=none/\v=.nilIface/\H=D.mode)
theorem Jz{o:Oper}(h:yn o=true):o.guard=none/\∃A5,o.op=.call {callee:=.builtin .recover,args:=#[],argTypes:=A5}:=by
 unfold yn at h;split at h
 ·rename_i args A5 A7 Z;refine⟨A7,A5,?_⟩;rw[Z];have:args=#[]:=by
   cases args with
   |mk l=>cases l with
    |nil=>rfl
    |cons a r=>simp at h
  rw[this]
 ·cases h
abbrev Mh(D:Frame)(E:List Frame)(H:FrameMode)(n:Nat)(φ:bP)(G:Fr)(m:Mem)(w:World)(e:XE)(M:St):Exit->Act->List Frame->World->Prop:=
 λe' I A1 w'=>A1={D with mode:=H}::E/\qa n φ G m w (Is e M) e' I w'
theorem Be{P:Program}{c:Code}{Q AD:Exit->Act->List Frame->World->Prop}{a:Act}{cs:List Frame}{w:World}(h:c.wpS P Q a cs w)(AM:∀e a cs w,Q e a cs w->AD e a cs w):c.wpS P AD a cs w:=
 λb k AN J=>let ⟨e,I,A1,w',q,r⟩:=h b k AN J;⟨e,I,A1,w',AM _ _ _ _ q,r⟩
section
variable {X:Ctx} {A8:bj} {f:FuncId} {n:Nat}
theorem aix(AO:lN X)(AE:kT X A8)(A2:AV)(c:Code):∀(S:St)(e:XE)(M:St),qc X f A8 n A2 c S=some (e,M)->S.gl=X.gl->fj X f S.n c=true->
 M.n=S.n/\M.gl=S.gl/\∀φ G a w D E v H,Wm D E v H->aH φ w (Fo G φ S.mem) A2 v->Rel φ G S a w->c.wpS X.P (Mh D E H S.n φ G S.mem w e M) a (D::E) w:=by
 induction c with
 |seq a b AF Af=>
  intro S e M h A4 y;simp only[fj,Ds]at y;simp only[qc]at h;rcases gz h with ⟨S1,A',W⟩|⟨A',W⟩
  ·obtain⟨T,U,V⟩:=AF S .normal S1 A' A4 y.1;obtain⟨AP,AQ,AR⟩:=N0 AO AE b S1 e M W (U.trans A4) (by rw[T];exact y.2);refine⟨AP.trans T,AQ.trans U,λφ G ac w D E v H O A0 J=>wpS_seq (Be (V φ G ac w D E v H O A0 J) ?_)⟩;rintro e' I A1 w' ⟨rfl,Y⟩;obtain⟨φ',AG,A9,AA,he⟩:=Y.is;cases e' with
   |normal=>
    refine wpS_of_wp (wp_mono (AR φ' G I w' A9) λAg a2 Ah AH=>⟨rfl,?_⟩);rw[T]at AH;exact AH.weaken AA
   |exit id=>cases he
   |ret=>cases he
   |panic chain=>obtain⟨t,x,v,AS,_⟩:=he;cases AS
   |_=>exact he.elim
  ·obtain⟨T,U,V⟩:=AF S e M A' A4 y.1;refine⟨T,U,λφ G ac w D E v H O A0 J=>wpS_seq (Be (V φ G ac w D E v H O A0 J) ?_)⟩;rintro e' I A1 w' ⟨rfl,Y⟩;cases e' with
   |normal=>obtain⟨φ',_,_,_,he⟩:=Y.is;exact absurd he W
   |_=>exact⟨rfl,Y⟩
 |region id ops draw=>
  intro S e M h A4 y;simp only[qc]at h;split at h
  ·rename_i o r AI;split at h
   ·rename_i AT;obtain⟨A7,A5,Z⟩:=Jz AT;simp only[fj,Ds]at y;have AB:lH S.n ops.toList=true:=y.1;rw[AI]at AB;simp only[lH,aoT,Ds]at AB;obtain⟨AJ,AU⟩:=AB;have AW:∀t,o.dst=some t->t<S.n:=λt AX=>by rw[AX]at AJ;simpa using AJ
    have A6:(o::r).toArray=ops:=by rw[<-AI]
    have key:∀A3 S1,eW X A8 (X.md f id) (o::r) r (S.put o.dst true A2)=some (A3,S1)->S1.n=S.n/\S1.gl=S.gl/\∀φ G a w D E v H,Wm D E v H->aH φ w (Fo G φ S.mem) A2 v->Rel φ G S a w->
     (Code.region id ops false).wpS X.P (Mh D E H S.n φ G S.mem w A3 S1) a (D::E) w:=by
     intro A3 S1 A';obtain⟨T,U,V⟩:=C9 AE r (S.put o.dst true A2) A3 S1 A' ((nM ..).trans A4) (by rw[ou];exact AU);rw[ou]at T V;rw[nM]at U;rw[gm]at V;refine⟨T,U,λφ G a w D E v H O A0 J=>wpS_region ?_⟩;have AY:List.range ops.size=0::List.range' 1 r.length:=by
      rw[<-A6];simp[List.range_eq_range',akz]
     have AZ:ops[0]?=some o:=by rw[<-A6];simp
     have A_:(execOp a.eval o).run X.P w=.ok .recover w:=by
      simp[execOp,Z,resolve,Deferred.ofValue,invoke,builtin]
     have Aa:=J.put o.dst AW true A2 v (λ_=>A0);have AK:=V φ G _ w Aa (λe a w'=>Mh D E H S.n φ G S.mem w A3 S1 e a ({D with mode:=H}::E) w') (λe' I w' Y=>⟨rfl,Y⟩);rw[A6,<-wpOps_eq_wpList r 1 (λj=>by rw[<-A6];simp[Nat.add_comm])]at AK;have AL:=KV (Q:=Mh D E H S.n φ G S.mem w A3 S1) (cs:={D with mode:=H}::E) (λ_ _ hh=>hh.2) _ _ _ AK;rw[AY];unfold wpOpsS;simp only[AZ];rw[aat (by simp[Region.wanted,A7])];simp only[A_];rcases O with O|⟨O,rfl,rfl⟩
     ·rw[O];exact AL
     ·rw[O];exact AL
    unfold zh at h;split at h
    ·rename_i S1 A';cases h;obtain⟨T,U,V⟩:=key _ _ A';obtain⟨t1,t2,t3⟩:=vO X f id S1;refine⟨t1.trans T,t2.trans U,λφ G a w D E v H O A0 J=>Be (V φ G a w D E v H O A0 J) ?_⟩;rintro e' I A1 w' ⟨rfl,Y⟩;refine⟨rfl,?_⟩;obtain⟨φ',AG,A9,AA,he⟩:=Y.is;cases e' with
     |normal=>
      obtain⟨Ab,Ac,Ad⟩:=t3 φ' G I w' A9;exact⟨Ab,_,t1.trans AG,⟨rfl,rfl⟩,Ac,AA.trans Ad⟩
     |exit id=>cases he
     |ret=>cases he
     |panic chain=>obtain⟨t,x,v,Ae,_⟩:=he;cases Ae
     |_=>exact he.elim
    ·exact key _ _ h
   ·cases h
  ·cases h
 |_=>intro S e M h;simp[qc]at h
end
section
variable {X:Ctx} {A7:bj} {f:FuncId} {n:Nat}
theorem N7{fn:Func}{args:List AV}{cs:List aD}(AM:args.length<=fn.ntmps)(AN:cs.length<=100)(A8:∀k∈(X.fp f).sites,100<=k)(A9:(X.fp f).sites.Nodup)
 {φ:bP} {G:Fr} {w:World} {vs:Array Value} (AA:G.dv=[]) (hm:bz φ G (ew 0 cs) w) (AB:fF w (Fo G φ (ew 0 cs)) X.gl) (AC:args.length=vs.size)
 (AD:∀(i:Nat) x v,args[i]?=some x->vs[i]?=some v->aH φ w (Fo G φ (ew 0 cs)) x v):
 Rel (φ.add (X.fp f).sites) G (entry fn.ntmps X.gl args cs (X.fp f).sites) {tmps:=vs++Array.replicate (fn.ntmps-vs.size) undef,defers:=[]} w/\
  bk φ (ew 0 cs) w (φ.add (X.fp f).sites) (entry fn.ntmps X.gl args cs (X.fp f).sites).mem w/\(∀k L,φ k=some L->k<cs.length/\L.ar=0):=by
 have AO:∀k,k∈(ew 0 cs).map (·.key)↔k<cs.length:=λk=>by rw[GD];simp
 have AE:∀k∈(X.fp f).sites,k∉(ew 0 cs).map (·.key):=by
  intro k A' Ad;have A0:=A8 k A';have A1:=(AO k).1 Ad;omega
 have V:∀k L,φ k=some L->k<cs.length/\L.ar=0:=λk L AP=>by
  have A':=hm.sA k L AP;obtain⟨e,he,rfl⟩:=abV.1 A';obtain⟨L',AR,Ae,_⟩:=hm.fB e he;rw[AP]at AR;cases AR;exact⟨(AO _).1 A',by rw[Ae];exact Jy cs 0 e he⟩
 have AF:=hm.add A9 AE;have AG:bk φ (ew 0 cs) w (φ.add (X.fp f).sites) (ew 0 cs++(X.fp f).sites.map dead) w:=⟨Nr hm AE,λ_ _ _=>rfl,λb _ Af=>(Ek AE b).1 Af,aad _,rfl,rfl,rfl⟩;refine⟨⟨by simp[entry];omega,AA.symm,λt x W=>?_,AF,AG.mD AB⟩,AG,V⟩;obtain⟨j,rfl,AS⟩:=AT 0 args t _ W;have AH:j<vs.size:=by rw[<-AC];exact (D1.1 AS).1
 have e:(vs++Array.replicate (fn.ntmps-vs.size) undef).getD (0+j) undef=vs[j]:=by
  simp only[ahI,abN];rw[ah2 AH];simp[AH]
 rw[e];exact AG.av (AD j x _ AS (by simp[AH]))
theorem KW{fn:Func}{cs:List aD}{out:Out}{l:List (Nat×aD)}{φ φ':bP}{G:Fr}{T:St}{H:Act}{w w':World}(U:Rel φ' G T H w')(AI:bk φ (ew 0 cs) w φ' T.mem w')
 (V:∀k L,φ k=some L->k<cs.length/\L.ar=0) (I:finish X.P (X.fp f) cs.length fn.results.toList T=some (out,l)):
 ∃v,(results fn H.tmps).run X.P w'=.ok v w'/\∃D m' Y,(Y=out/\m'=dW 0 l)/\bz D G m' w'/\bk φ (ew 0 cs) w D m' w'/\qm D w' (Fo G D m') Y (.returned v):=by
 unfold finish at I;split at I
 ·rename_i Ag xs Ah;split at I
  ·rename_i Ai;obtain⟨M,A0,A1,AJ⟩:=AQ U fn.results.toList Ag xs Ah Ai;obtain⟨A2,O,rfl,g1,g2,g3,g4,_⟩:=vK I U.mem U.mD A1 AJ AI V;have Aj:(results fn H.tmps).run X.P w'=.ok (if h:M.toArray.size=1 then M.toArray[0]else .tuple M.toArray) w':=by
    have e:results fn H.tmps=(do let vs <-fn.results.mapM (CL H.tmps);pure (if h:vs.size=1 then vs[0]else .tuple vs)):=by
     unfold results;congr 1
    rw[e,Array.mapM_eq_mapM_toList];simp only[Sem.run_bind,Sem.run_map,A0,Result.andThen_ok,Sem.run_pure]
   refine⟨_,Aj,A2,_,_,⟨rfl,rfl⟩,g1,g2,?_⟩;show aH A2 w' _ (oneOf O) _;by_cases AK:M.length=1
   ·obtain⟨v,rfl⟩:∃v,M=[v]:=by
     cases M with
     |nil=>simp at AK
     |cons v r=>exact⟨v,by cases r with|nil=>rfl|cons _ _=>simp at AK⟩
    obtain⟨y,rfl⟩:∃y,O=[y]:=by
     cases O with
     |nil=>simp at g3
     |cons v r=>exact⟨v,by cases r with|nil=>rfl|cons _ _=>simp at g3⟩
    simpa [oneOf]using g4 0 y v (by simp) (by simp)
   ·have e:oneOf O=.aY O:=by
     cases O with
     |nil=>rfl
     |cons y r=>cases r with|nil=>simp at g3;omega|cons _ _=>rfl
    rw[e,dif_neg (by simpa using AK)];exact .aY O M.toArray (by simpa using g3) (λi y v h Ak=>g4 i y v h (by simpa using Ak))
  ·cases I
 ·cases I
def aaz(u:FrameMode)(v:Value):Prop:=(v=.nilIface/\u=.returning)\/∃t x,v=.iface t x/\u=.panicking [{v:=.iface t x,recovered:=false}]
def RuR(P:Program):Ru:=λf vs w R=>∀u v,vs.back?=some v->aaz u v->CallsD P f vs.pop u w λe E w'=>settle E=.returning/\R e w'
theorem adR(P:Program):N5 (RuR P):=λf vs w R B2 h Al u v J hm=>(h u v J hm).mono λe E w' hh=>⟨hh.1,Al e w' hh.2⟩
theorem aaA(AU:lN X)(An:kT X A7){fn:Func}{c:Code}{args:List AV}{cs:List aD}{out:Out}{l:List (Nat×aD)}(AW:X.P.funcs[f]?=some fn)(AX:fn.body=some c)
 (h:z6 X f A7 n fn c args cs=some (out,l)):N6 (RuR X.P) X.gl f args (ew 0 cs) λo m=>o=out/\m=dW 0 l:=by
 unfold z6 at h;split at h
 ·rename_i A3 AY;split at h
  ·rename_i AZ;simp only[Ds,aak,abX]at AZ;obtain⟨⟨⟨AM,AN⟩,A8⟩,A9⟩:=AZ;intro φ A4 w vs AF AB AC AD u v J Ao;obtain⟨G,Z⟩:∃G:Fr,G=⟨A4.g,[]⟩:=⟨_,rfl⟩;have AA:G.dv=[]:=by rw[Z]
   have hm:bz φ G (ew 0 cs) w:=by rw[Z];exact AF.dv []
   have Ap:fF w (Fo G φ (ew 0 cs)) X.gl:=by rw[Z];exact AB
   have A_:∀(i:Nat) x v,args[i]?=some x->vs[i]?=some v->aH φ w (Fo G φ (ew 0 cs)) x v:=by rw[Z];exact AD
   have Aq:args≠[]:=by rintro rfl;cases AY
   have B3:0<args.length:=List.length_pos_iff.2 Aq;have Ar:args.dropLast.length=vs.pop.size:=by simp;omega
   obtain⟨As,Aa,V⟩:=N7 (fn:=fn) AM AN A8 A9 AA hm Ap Ar (λi x v W J=>by
    have hi:i<args.length-1:=by have:=(D1.1 W).1;simpa using this
    refine A_ i x v ?_ ?_
    ·rw[List.dropLast_eq_take,List.getElem?_take_of_lt (by omega)]at W;exact W
    ·rw[Array.getElem?_pop]at J;rw[aat (by omega)]at J;exact J)
   have At:aH (φ.add (X.fp f).sites) w (Fo G (φ.add (X.fp f).sites) (entry fn.ntmps X.gl args.dropLast cs (X.fp f).sites).mem) A3 v:=by
    refine Aa.av (A_ (args.length-1) A3 v ?_ ?_)
    ·rw[<-an9];exact AY
    ·rw[Array.back?]at J;rw[AC];exact J
   cases AL:qc X f A7 n A3 c (entry fn.ntmps X.gl args.dropLast cs (X.fp f).sites)with
   |none=>rw[AL]at h;cases h
   |some p=>
    obtain⟨e,T⟩:=p;rw[AL]at h;obtain⟨B4,B5,Au⟩:=aix AU An A3 c _ e T AL rfl (AU.adP f fn c AW AX);refine callsD_of_wpS AW AX λA5 A6 hu=>?_;obtain⟨E,Av,Aw⟩:∃E,Wm A5 A6 v E/\settle E=.returning:=by
     rcases Ao with ⟨rfl,rfl⟩|⟨t,x,rfl,rfl⟩
     ·exact⟨.returning,.inr ⟨by simp[recoverD,hu],rfl,hu.symm⟩,rfl⟩
     ·exact⟨.panicking [{v:=.iface t x,recovered:=true}],.inl (by simp[recoverD,hu]),by simp[settle]⟩
    refine Be (Au _ G _ w A5 A6 v E Av At As) ?_;rintro e' H B6 w' ⟨rfl,Ax⟩;obtain⟨φ',_,U,Ay,he⟩:=Ax.is;have AI:=Aa.trans Ay;have Ab:finish X.P (X.fp f) cs.length fn.results.toList T=some (out,l)->H.defers=[]/\∃Ac,({A5 with mode:=E}::A6)={A5 with mode:=Ac}::A6/\∃v,(results fn H.tmps).run X.P w'=.ok v w'/\(settle Ac=.returning/\
     ∃D m' Y,(Y=out/\m'=dW 0 l)/\bz D A4 m' w'/\bk φ (ew 0 cs) w D m' w'/\qm D w' (Fo A4 D m') Y (.returned v)):=by
     intro I;obtain⟨v,A0,A2,Az,B',A1,AJ,B0,B1⟩:=KW U AI V I;subst Z;exact⟨U.defers,E,rfl,v,A0,Aw,A2,Az,B',A1,AJ.dv A4.dv,B0,B1⟩
    cases e' with
    |normal=>cases he;exact Ab h
    |ret=>cases he;exact Ab h
    |exit id=>cases he;cases h
    |panic chain=>obtain⟨t,x,v,rfl,_⟩:=he;cases h
    |_=>exact he.elim
  ·cases h
 ·cases h
end
def agb(X:Ctx)(Z:bj):Prop:=∀g args cs out l,Z g args cs=some (out,l)->iK X.P g=true/\N6 (RuR X.P) X.gl g args (ew 0 cs) λo m=>o=out/\m=dW 0 l
theorem Ma{O:bj}{m:Mem}{AQ:Nat}{g:FuncId}{AG:List AV}{mt:List Nat}{res:gi}(h:eA O m AQ g AG mt=some res):∃args cs out l,O g args cs=some (out,l):=by
 unfold eA nZ nY gv at h;split at h
 ·rename_i out B4 T;obtain⟨B5,B6,AH,_⟩:=C5 T;exact⟨_,_,_,_,AH⟩
 ·cases h
section
variable {X:Ctx} {O Z:bj} {f:FuncId} {n:Nat}
theorem aaB(D:lN X)(AB:kT X O)(AI:agb X Z){fn:Func}{c:Code}{args:List AV}{cs:List aD}{out:Out}{l:List (Nat×aD)}(E:X.P.funcs[f]?=some fn)(H:fn.body=some c)
 (h:z7 X f O Z n fn c args cs=some (out,l)):Ev X.P X.gl f args (ew 0 cs) λo m=>o=out/\m=dW 0 l:=by
 unfold z7 at h;split at h
 ·rename_i AJ;simp only[Ds,aak,abX]at AJ;obtain⟨⟨⟨AR,AS⟩,AT⟩,AU⟩:=AJ;refine Ev.dv ?_;intro φ G w vs AC hm AW AX AY;obtain⟨A2,y,AK⟩:=N7 (fn:=fn) AR AS AT AU AC hm AW AX AY;obtain⟨g,B7⟩:=G;simp only at AC;subst AC;cases AD:kf X f O n c (entry fn.ntmps X.gl args cs (X.fp f).sites) []with
  |none=>rw[AD]at h;cases h
  |some p=>
   obtain⟨e,A',AL⟩:=p;rw[AD]at h;obtain⟨B8,AZ,A_⟩:=aiw D AB c _ _ e A' AL AD rfl (D.adP f fn c E H);refine calls_of_wp_defers E H (wp_mono (A_ _ g [] _ w A2 trivial) λe' I w' Aa=>?_);obtain⟨φ',AM,_,M,Ab,A3,he⟩:=Aa;have A4:=y.trans Ab;have Ac:A'.gl=X.gl:=AZ;have back:∀{V:bP}{A6:St}{J:World},Rel V ⟨g,AM⟩ A6 I J->bk φ (ew 0 cs) w V A6.mem J->finish X.P (X.fp f) cs.length fn.results.toList A6=some (out,l)->
    ∃v,(results fn I.tmps).run X.P J=.ok v J/\∃A7 m' A0,(A0=out/\m'=dW 0 l)/\bz A7 ⟨g,[]⟩ m' J/\bk φ (ew 0 cs) w A7 m' J/\qm A7 J (Fo ⟨g,[]⟩ A7 m') A0 (.returned v):=by
    intro V A6 J Ad A8 Ae;obtain⟨v,Af,Ag,Ah,Ai,Aj,Ak,Al,An⟩:=KW Ad A8 AK Ae;exact⟨v,Af,Ag,Ah,Ai,Aj,Ak.dv [],Al,An⟩
   match AL,AM,A3 with
   |[],[],_=>
    have U:I.defers=[]:=M.defers;simp only[zi]at h;cases e' with
    |normal=>cases he;show Leaves _ _ _ _ I.defers _ _;rw[U];exact back M A4 h
    |ret=>cases he;show Leaves _ _ _ _ I.defers _ _;rw[U];exact back M A4 h
    |exit id=>cases he;cases h
    |panic chain=>
     obtain⟨t,x,v,rfl,rfl,AE⟩:=he;have Ao:sS (X.fp f) cs.length A' [] (λ_=>.panic t x)=some (out,l):=h;obtain⟨V,AG,rfl,g1,g2,_,_,g5⟩:=vK (vs:=[]) Ao M.mem M.mD rfl (by simp) A4 AK;show Leaves _ _ _ _ I.defers _ _;rw[U];exact⟨V,_,_,⟨rfl,rfl⟩,g1,g2,v,rfl,AE.mono (λ_ _ _=>rfl) (aad _) (λb _=>g5 b)⟩
    |_=>exact he.elim
   |[d],[W],⟨Ap,_⟩=>
    have U:I.defers=[W]:=M.defers;simp only[zi]at h;have one:∀u A9 A1,u≠FrameMode.run->aaz u A1->aH φ' w' (Fo ⟨g,[W]⟩ φ' A'.mem) A9 A1->Gv e=some A9->
     Leaves X.P fn I.tmps (λe w'=>∃φ' m' A0,(A0=out/\m'=dW 0 l)/\bz φ' ⟨g,[]⟩ m' w'/\bk φ (ew 0 cs) w φ' m' w'/\qm φ' w' (Fo ⟨g,[]⟩ φ' m') A0 e) [W] u w':=by
     intro u A9 A1 hu Aq Ar As;rw[As]at h;simp only[vM]at h;cases T:eA Z A'.mem 0 d.1 (d.2++[A9]) (X.fp d.1).za with
     |none=>rw[T]at h;cases h
     |some res=>
      rw[T]at h;obtain⟨AF,AN,AO,At⟩:=Ap;obtain⟨_,_,_,_,Au⟩:=Ma T;have Av:=(AI _ _ _ _ _ Au).1;have Aw:=QO (adR X.P) (gl:=X.gl) (λg args cs out l hh=>(AI g args cs out l hh).2) T (φ:=φ') (G:=⟨g,[W]⟩) (w:=w') (vs:=(W.args++AF).push A1) M.mem (by rw[<-Ac];exact M.mD)
       (by simp[AO];omega) (λi x v Y AA=>by
        by_cases hi:i<d.2.length
        ·rw[aaF hi]at Y;rw[Array.getElem?_push,aab (by omega)]at AA;exact At i x v Y AA
        ·have:i=d.2.length:=by
          have:=(D1.1 Y).1;simp at this;omega
         subst this;rw[abI (aad _)]at Y;simp at Y;subst Y;rw[Array.getElem?_push,aat AO]at AA;cases AA;exact Ar)
      have AP:=Aw u A1 (by simp) Aq;rw[Array.pop_push]at AP;refine⟨hu,.func d.1,AF,d.1,W.args++AF,AN,by rw[AN];simp[invoke,xd Av],AP.mono ?_⟩;rintro y Ax J ⟨Ay,V,Az,A8,B'⟩;unfold C3 at h;split at h
      ·rename_i x es ks heq;cases heq;cases y with
       |returned v2=>
        show Leaves _ _ _ _ [] (settle Ax) J;rw[Ay];exact back (M.Cj Az A8) (A4.trans A8) h
       |_=>exact B'.elim
      ·cases h
    cases e' with
    |normal=>cases he;show Leaves _ _ _ _ I.defers _ _;rw[U];exact one .returning _ .nilIface (by simp) (.inl ⟨rfl,rfl⟩) (.lit _ rfl) rfl
    |ret=>cases he;show Leaves _ _ _ _ I.defers _ _;rw[U];exact one .returning _ .nilIface (by simp) (.inl ⟨rfl,rfl⟩) (.lit _ rfl) rfl
    |exit id=>cases he;cases h
    |panic chain=>
     obtain⟨t,x,v,rfl,rfl,AE⟩:=he;show Leaves _ _ _ _ I.defers _ _;rw[U];exact one (.panicking [{v:=.iface t v,recovered:=false}]) _ (.iface t v) (by simp) (.inr ⟨t,v,rfl,rfl⟩) (.iA _ _ _ AE) rfl
    |_=>exact he.elim
   |_::_::_,_,_=>cases h
 ·cases h
theorem adS(D:lN X)(AB:kT X O):agb X (pR X n O):=by
 intro g args cs out l h;unfold pR at h;split at h
 ·rename_i fn E;split at h
  ·rename_i c H;refine⟨?_,aaA D AB E H h⟩;unfold iK;rw[E];simp[H,D.names g fn E]
  ·cases h
 ·cases h
theorem N8(D:lN X):∀n,kT X (aO X n)
 |0=>λg args cs out l h=>by cases h
 |n+1=>λg args cs out l h=>by
  have ih:=N8 D n;simp only[aO,D.ov]at h;split at h
  ·rename_i AH B0;exact ald D B0 h
  split at h
  ·rename_i fn E;split at h
   ·rename_i c H;have T:iK X.P g=true:=by
     unfold iK;rw[E];simp[H,D.names g fn E]
    refine⟨T,?_⟩;cases A3:A5 c with
    |true=>
     rw[A3]at h;exact aaB D ih (adS D ih) E H h
    |false=>
    rw[A3]at h;simp only[z8]at h;unfold kS at h;split at h
    ·split at h
     ·rename_i r;unfold mi at h;split at h
      ·rename_i a b B1 B2;split at h
       ·rename_i B3;subst B3;have A2:=gE B1;have y:=gE B2;rw[A2]at h;cases h;exact Ev.split (Bb D ih E H A2) (Bb D ih E H y)
       ·cases h
      ·cases h
     ·exact Bb D ih E H h
    ·exact Bb D ih E H h
   ·cases h
  ·cases h
end
def aP{α:Type}(f:Nat->Option α):Prop:=∀n r,f n=some r->f (n+1)=some r
theorem aP.le{α:Type}{f:Nat->Option α}(h:aP f){n m:Nat}(Ad:n<=m){r:α}(Y:f n=some r):f m=some r:=by
 induction Ad with
 |refl=>exact Y
 |step _ ih=>exact h _ _ ih
theorem aP.const{α:Type}(x:Option α):aP λ_=>x:=λ_ _ h=>h
theorem aP.bind{α β:Type}{f:Nat->Option α}{g:α->Nat->Option β}(V:aP f)(Z:∀x,aP (g x)):aP λn=>(f n).bind λx=>g x n:=by
 intro n r h;obtain⟨x,AK,Y⟩:=aib.1 h;simp only[V n x AK,acE];exact Z x n r Y
open Classical in
noncomputable def iC{α:Type}(f:Nat->Option α):Option α:=if h:∃n,(f n).isSome=true then f (Classical.choose h)else none
theorem dV{α:Type}{f:Nat->Option α}(V:aP f){r:α}:iC f=some r↔∃n,f n=some r:=by
 unfold iC;constructor
 ·intro h;split at h
  ·exact⟨_,h⟩
  ·cases h
 ·rintro ⟨n,W⟩;have hex:∃n,(f n).isSome=true:=⟨n,by rw[W];rfl⟩;rw[dif_pos hex];have AP:=Classical.choose_spec hex;obtain⟨As,AQ⟩:=ak7.1 AP;rw[AQ];rcases Nat.le_total n (Classical.choose hex)with J|J
  ·rw[<-AQ];exact V.le J W
  ·have:=V.le J AQ;rw[this]at W;exact W
theorem bf{α:Type}(x:Option α):iC (λ_=>x)=x:=by
 cases x with
 |some r=>exact (dV (aP.const _)).2 ⟨0,rfl⟩
 |none=>unfold iC;rw[dif_neg];rintro ⟨_,h⟩;cases h
theorem eG{α β:Type}{f:Nat->Option α}{g:α->Nat->Option β}(V:aP f)(Z:∀x,aP (g x)):iC (λn=>(f n).bind λx=>g x n)=(iC f).bind λx=>iC (g x):=by
 apply Option.ext;intro r;rw[dV (V.bind Z),aib];constructor
 ·rintro ⟨n,W⟩;obtain⟨x,AK,Y⟩:=aib.1 W;exact⟨x,(dV V).2 ⟨n,AK⟩,(dV (Z x)).2 ⟨n,Y⟩⟩
 ·rintro ⟨x,AK,Y⟩;obtain⟨n,W⟩:=(dV V).1 AK;obtain⟨m,hm⟩:=(dV (Z x)).1 Y;exact⟨max n m,by rw[V.le (Nat.le_max_left n m) W];exact (Z x).le (Nat.le_max_right n m) hm⟩
theorem yw{α:Type}{f:Nat->Option α}(V:aP f):iC (λn=>f (n+1))=iC f:=by
 have Ae:aP λn=>f (n+1):=λn r h=>V (n+1) r h;apply Option.ext;intro r;rw[dV Ae,dV V];exact⟨λ⟨n,h⟩=>⟨n+1,h⟩,λ⟨n,h⟩=>⟨n,V n r h⟩⟩
def aT(k:St->Option (XE×St)):XE×St->Option (XE×St)
 |(.normal,S)=>k S
 |r=>some r
theorem Bf(r:Option (XE×St))(k:St->Option (XE×St)):andThen r k=r.bind (aT k):=by
 rcases r with _|⟨e,S⟩
 ·rfl
 ·cases e<;>rfl
def mT(k:St->St):XE×St->Option (XE×St)
 |(.normal,S)=>some (.normal,k S)
 |r=>some r
theorem tg(k:St->St)(r:Option (XE×St)):zh k r=r.bind (mT k):=by
 rcases r with _|⟨e,S⟩
 ·rfl
 ·cases e<;>rfl
def bT(id:Nat):XE×St->Option (XE×St)
 |(.exit A_,S)=>if A_=id then some (.normal,S)else some (.exit A_,S)
 |r=>some r
theorem N9(id:Nat)(r:Option (XE×St)):H2 id r=r.bind (bT id):=by
 rcases r with _|⟨e,S⟩
 ·rfl
 ·cases e<;>rfl
def cT(m:Mem)(A6:Nat)(ρ B:List Nat)(U:Nat)(b:Bool)(p:Out×List (Nat×aD)):Option gi:=gv m A6 ρ B (sZ U b (some p))
theorem zt(m:Mem)(A6:Nat)(ρ B:List Nat)(U:Nat)(b:Bool)(r:Option (Out×List (Nat×aD))):gv m A6 ρ B (sZ U b r)=r.bind (cT m A6 ρ B U b):=by cases r<;>rfl
theorem JA(S:St)(d:Option Nat)(r:Option gi):dD S d r=r.bind λc=>dD S d (some c):=by cases r<;>rfl
theorem Oa(b:Bool)(m:Mem)(r:Option gi):A1 b m r=r.bind λc=>A1 b m (some c):=by cases r<;>cases b<;>rfl
theorem GG(S:St)(o:Oper)(r:Option gi):pQ S o r=r.bind λc=>pQ S o (some c):=by cases r<;>rfl
theorem pe(E:List bh)(r:Option (St×bh))(k:St->List bh->Option (XE×St)):A2 E r k=r.bind λp=>k p.1 (p.2::E):=by cases r<;>rfl
theorem Ob(P:Program)(p:aA)(U:Nat)(rs:List ResultVar)(r:Option (XE×St)):fin P p U rs r=r.bind λq=>fin P p U rs (some q):=by cases r<;>rfl
def fg(C:Nat->bj):Prop:=∀g a c,aP λk=>C k g a c
section
variable {X:Ctx} {C:Nat->bj} {S:St} {o:Oper} {md:Bool}
theorem qv(D:fg C)(m:Mem)(A6:Nat)(g:FuncId)(AN:List AV)(mt:List Nat):aP (λk=>eA (C k) m A6 g AN mt):=by
 unfold eA nZ nY;simp only[zt];exact (D _ _ _).bind λ_=>aP.const _
theorem mU(D:fg C)(args:List Operand)(M:Bool×AV):aP (λk=>cJ X (C k) S o args M):=by
 unfold cJ;split
 ·split
  ·simp only[Oa _ _ (eA _ _ _ _ _ _)];exact (qv D _ _ _ _ _).bind λ_=>aP.const _
  ·exact aP.const _
 ·exact aP.const _
theorem QP(D:fg C):aP (λk=>uA X (C k) S o):=by
 unfold uA;split
 ·rename_i M args AE AB;have J:(λk=>dD S o.dst (cJ X (C k) S o args.toList (S.au M)))=λk=>(cJ X (C k) S o args.toList (S.au M)).bind λc=>dD S o.dst (some c):=by
   funext k;exact JA ..
  rw[J];exact (mU D args.toList (S.au M)).bind (λ_=>aP.const _)
 ·exact aP.const _
 ·exact aP.const _
theorem zu(D:fg C)(r:dO):aP (λk=>jc X (C k) S o r):=by
 cases r with
 |no=>exact QP D
 |val c x=>exact aP.const _
 |dq c x e=>exact aP.const _
theorem Oc(D:fg C)(b:Bool)(r:dO):aP (λk=>rA X (C k) S o b r):=by
 have other:∀r,aP (λk=>if b=true then jc X (C k) S o r else some (.normal,S.put o.dst true .bu)):=by
  intro r;split
  ·exact zu D r
  ·exact aP.const _
 cases r with
 |no=>exact other .no
 |val c x=>exact aP.const _
 |dq c x e=>exact other (.dq c x e)
theorem vQ(D:fg C)(all:List Oper):aP (λk=>pP X (C k) md all S o):=by
 unfold pP;split
 ·exact zu D _
 ·split
  ·split
   ·exact Oc D _ _
   ·split
    ·exact zu D _
    ·exact aP.const _
  ·exact aP.const _
  ·exact aP.const _
theorem sc{F:Nat->Option (XE×St)}{K:St->Nat->Option (XE×St)}(A8:aP F)(AL:∀S,aP (K S)):aP (λn=>andThen (F n) (λS=>K S n)):=by
 simp only[Bf];refine A8.bind (g:=λx n=>aT (λS=>K S n) x) λx=>?_;obtain⟨e,S⟩:=x;cases e with
 |normal=>exact AL S
 |_=>exact aP.const _
theorem mj(D:fg C)(all:List Oper):∀(ops:List Oper)(S:St),aP (λk=>eW X (C k) md all ops S)
 |[],S=>aP.const _
 |o::r,S=>sc (vQ D all) (λA'=>mj D all r A')
theorem Wo(D:fg C):aP (λk=>lg X (C k) S o):=by
 unfold lg;split
 ·rename_i M args AE AB;have J:(λk=>pQ S o (cJ X (C k) S o args.toList (S.au M)))=λk=>(cJ X (C k) S o args.toList (S.au M)).bind λc=>pQ S o (some c):=by
   funext k;exact GG ..
  rw[J];exact (mU D args.toList (S.au M)).bind (λ_=>aP.const _)
 ·exact aP.const _
theorem Bg(D:fg C)(r:dO):aP (λk=>eU X (C k) S o r):=by
 cases r with
 |no=>exact Wo D
 |val c x=>exact aP.const _
 |dq c x e=>exact aP.const _
theorem QQ(D:fg C)(b:Bool)(r:dO):aP (λk=>uB X (C k) S o b r):=by
 have other:∀r,aP (λk=>if b=true then eU X (C k) S o r else some (S.put o.dst true .bu,⟨[],[],true,.bu⟩)):=by
  intro r;split
  ·exact Bg D r
  ·exact aP.const _
 cases r with
 |no=>exact other .no
 |val c x=>exact aP.const _
 |dq c x e=>exact other (.dq c x e)
theorem n6(D:fg C)(all:List Oper):aP (λk=>ej X (C k) md all S o):=by
 unfold ej;split
 ·exact Bg D _
 ·split
  ·split
   ·exact QQ D _ _
   ·split
    ·exact Bg D _
    ·exact aP.const _
  ·exact aP.const _
  ·exact aP.const _
theorem JB(S:St)(r:Option gi):zc S r=r.bind λc=>zc S (some c):=by cases r<;>rfl
theorem KY(D:fg C):aP (λk=>mR X (C k) S o):=by
 unfold mR;split
 ·unfold Gt;split
  ·unfold ND;split
   ·rename_i M args AE AB;have J:(λk=>zc S (cJ X (C k) S o args.toList (S.au M)))=λk=>(cJ X (C k) S o args.toList (S.au M)).bind λc=>zc S (some c):=by
     funext k;exact JB ..
    rw[J];exact (mU D args.toList (S.au M)).bind (λ_=>aP.const _)
   ·exact aP.const _
  ·exact aP.const _
 ·exact aP.const _
theorem GH{AR:bj}{all:List Oper}{q:St×bh}(h:ej X AR md all S o=some q):mR X AR S o=none:=by
 cases A9:mR X AR S o with
 |none=>rfl
 |some p=>
  obtain⟨Z,Af,M,args,AE,AB,AP,_⟩:=KO A9;unfold ej at h;rw[Z]at h;simp only[eU,lg,Af,AB,AP]at h;cases h
theorem aaD(D:fg C)(H:Nat×List (List Nat))(all r:List Oper)(E:List bh){K:Nat->St->List bh->Option (XE×St)}(AL:∀S E,aP λk=>K k S E):aP (λk=>oe X (C k) md H all r S o E (K k) (mR X (C k) S o)):=by
 intro n y h;simp only at h⊢;cases A9:mR X (C n) S o with
 |some q=>
  rw[A9]at h;have Ag:mR X (C (n+1)) S o=some q:=KY D n q A9;rw[Ag];exact h
 |none=>
  rw[A9]at h;simp only[oe,pe]at h;cases Z:ej X (C n) md all S o with
  |none=>rw[Z]at h;cases h
  |some p=>
   have Aa:ej X (C (n+1)) md all S o=some p:=n6 D all n p Z;rw[GH Aa];simp only[oe,pe];rw[Z]at h;rw[Aa];exact AL _ _ n y h
theorem qw(D:fg C)(H:Nat×List (List Nat))(all:List Oper):∀(ops:List Oper)(S:St)(E:List bh),aP (λk=>gw X (C k) md H all ops S E)
 |[],S,E=>aP.const _
 |o::r,S,E=>aaD D H all r E λS E=>qw D H all r S E
def Wp(T:List Cl)(p:St×bh):Option (St×bh):=if rZ T p.2.es=true then some p else none
theorem RA(T:List Cl)(r:Option (St×bh)):A3 T r=r.bind (Wp T):=by
 rcases r with _|⟨S,p⟩<;>rfl
theorem yx(D:fg C)(H:List (List Nat))(T:List Cl)(all:List Oper):∀(ops:List Oper)(S:St)(E:List bh),aP (λk=>mh X (C k) md H T all ops S E)
 |[],S,E=>aP.const _
 |o::r,S,E=>by
  simp only[mh,pe];cases kR (H.getD E.length []) r with
  |true=>
   simp only[Ju];split
   ·exact mj D all [o] S
   ·exact aP.const _
  |false=>
  simp only
  cases oz X.P T S o with
  |some x=>
   simp only[nB,acE];exact yx D H T all r _ _
  |none=>
   simp only[nB,RA];exact ((n6 D all).bind (g:=λp _=>Wp T p) λp=>aP.const _).bind (g:=λp n=>mh X (C n) md H T all r p.1 (p.2::E)) λp=>yx D H T all r p.1 (p.2::E)
theorem KZ(D:fg C)(H:List (List Nat))(all:List Oper)(S:St)(fl:List (Nat×Nat)):aP (λk=>r6 X (C k) md H all S fl):=by
 cases fl with
 |nil=>exact qw D _ all all S []
 |cons q r=>
  simp only[r6];cases fB S.mem (q::r)with
  |none=>exact aP.const _
  |some T=>exact yx D H T all all S []
theorem K0(f:St->Option (XE×St)):∀(j:Nat)(S:St)(r:XE×St),iter f j S=some r->iter f (j+1) S=some r
 |0,S,r,h=>by cases h
 |j+1,S,r,h=>by
  simp only[iter]at h;rw[iter];rcases gz h with ⟨S1,J,A0⟩|⟨J,A0⟩
  ·rw[J];exact K0 f j S1 r A0
  ·rw[J];obtain⟨e,S1⟩:=r;cases e with
   |normal=>exact absurd rfl A0
   |_=>rfl
theorem xj(f:St->Option (XE×St)){j k:Nat}(h:j<=k){S:St}{r:XE×St}(Y:iter f j S=some r):iter f k S=some r:=by
 induction h with
 |refl=>exact Y
 |step _ ih=>exact K0 f _ S r ih
theorem yy{F:Nat->St->Option (XE×St)}(A8:∀S,aP (λk=>F k S)):∀(j:Nat)(S:St),aP (λk=>iter (F k) j S)
 |0,S=>aP.const _
 |j+1,S=>sc (A8 S) (λA'=>yy A8 j A')
theorem xk(D:fg C)(f:FuncId){m:Nat->Nat}(hm:∀k,m k<=m (k+1)):∀(c:Code)(S:St),aP (λk=>den X f (C k) (m k) c S):=by
 intro c;induction c with
 |region id ops draw=>
  intro S;cases draw with
  |false=>
   simp only[den,tg];exact (mj D _ _ _).bind λ_=>aP.const _
  |true=>
   simp only[den,tg];exact (KZ D _ _ _ _).bind λ_=>aP.const _
 |seq a b AC AF=>intro S;exact sc (AC S) (λA'=>AF A')
 |cond c a b AC AF=>
  intro S;simp only[den];unfold Es;split
  ·split
   ·exact AC S
   ·exact AF S
  ·exact aP.const _
 |block id c ih=>
  intro S;simp only[den,N9];exact (ih _).bind λ_=>aP.const _
 |loop c ih=>
  intro S n r h;simp only[den]at h⊢;have J:=yy (F:=λk=>den X f (C k) (m k) c) ih (m n) S n r h;exact xj _ (hm n) J
 |skip=>intro S;exact aP.const _
 |exit id=>intro S;exact aP.const _
 |ret=>intro S;exact aP.const _
 |rangeFunc _ _ _ _=>intro S;exact aP.const _
 |scope _ _=>intro S;exact aP.const _
 |label _=>intro S;exact aP.const _
 |goto _=>intro S;exact aP.const _
 |refuse _=>intro S;exact aP.const _
theorem Ic(D:fg C)(f:FuncId){m:Nat->Nat}(hm:∀k,m k<=m (k+1))(fn:Func)(c:Code)(args:List AV)(cs:List aD):aP (λk=>tP X f (C k) (m k) fn c args cs):=by
 unfold tP;split
 ·simp only[Ob X.P (X.fp f) cs.length fn.results.toList (den _ _ _ _ _ _)];exact (xk D f hm c _).bind λ_=>aP.const _
 ·exact aP.const _
theorem B1{F G:Nat->Option (Out×List (Nat×aD))}(A8:aP F)(Ah:aP G):aP (λn=>mi (F n) (G n)):=by
 intro n r h;replace h:mi (F n) (G n)=some r:=h;show mi (F (n+1)) (G (n+1))=some r;unfold mi at h;split at h
 ·rename_i a b AD AG;have AH:=gE AD;have Ai:=gE AG;have f1:=A8 n _ AH;have f2:=Ah n _ Ai;rw[AH]at h;rw[f1,f2];simp only[mi,q0];exact h
 ·cases h
theorem Mb{R:Nat->List AV->Option (Out×List (Nat×aD))}(AI:∀a,aP (λn=>R n a))(args:List AV)(b:Bool):aP (λn=>kS (R n) args b):=by
 unfold kS;split
 ·split
  ·exact B1 (AI _) (AI _)
  ·exact AI _
 ·exact AI _
def nT(k:St->XD)(I:List DF):XE×St->XD
 |(.normal,S)=>k S
 |(e,S)=>some (e,S,I)
theorem GI(k:St->XD)(I:List DF)(r:Option (XE×St)):Mg k I r=r.bind (nT k I):=by
 rcases r with _|⟨e,S⟩
 ·rfl
 ·cases e<;>rfl
def lT(k:St->St):XE×St×List DF->XD
 |(.normal,S,I)=>some (.normal,k S,I)
 |r=>some r
theorem Df(k:St->St)(r:XD):C0 k r=r.bind (lT k):=by
 rcases r with _|⟨e,S,I⟩
 ·rfl
 ·cases e<;>rfl
def dT(I:List DF)(p:XE×St):XD:=some (p.1,p.2,I)
theorem JC(I:List DF)(r:Option (XE×St)):A4 I r=r.bind (dT I):=by
 rcases r with _|⟨e,S⟩<;>rfl
def sT(k:St->List DF->XD):XE×St×List DF->XD
 |(.normal,S,I)=>k S I
 |r=>some r
theorem RB(k:St->List DF->XD)(r:XD):NF k r=r.bind (sT k):=by
 rcases r with _|⟨e,S,I⟩
 ·rfl
 ·cases e<;>rfl
theorem pg(D:fg C)(all:List Oper):∀(ops:List Oper)(S:St)(I:List DF),aP (λk=>gI X (C k) md all ops S I)
 |[],S,I=>aP.const _
 |o::r,S,I=>by
  simp only[gI];cases jZ S o with
  |some d=>exact pg D all r _ _
  |none=>
   simp only[GI];refine (vQ D all).bind (g:=λx n=>nT (λS1=>gI X (C n) md all r S1 I) I x) λx=>?_;obtain⟨e,S1⟩:=x;cases e with
   |normal=>exact pg D all r S1 I
   |_=>exact aP.const _
theorem K1(D:fg C)(f:FuncId){m:Nat->Nat}(hm:∀k,m k<=m (k+1)):∀(c:Code)(S:St)(I:List DF),aP (λk=>kf X f (C k) (m k) c S I):=by
 have add:∀(c:Code)(S:St)(I:List DF),aP (λk=>A4 I (den X f (C k) (m k) c S)):=λc S I=>by
  simp only[JC];exact (xk D f hm c S).bind λ_=>aP.const _
 intro c;induction c with
 |seq a b AC AF=>
  intro S I;simp only[kf,RB];refine (AC S I).bind (g:=λx n=>sT (kf X f (C n) (m n) b) x) λx=>?_;obtain⟨e,S1,Aj⟩:=x;cases e with
  |normal=>exact AF S1 Aj
  |_=>exact aP.const _
 |region id ops draw=>
  intro S I;simp only[kf];split
  ·simp only[Df];exact (pg D _ _ _ _).bind λ_=>aP.const _
  ·exact add _ _ _
 |_=>intro S I;simp only[kf];exact add _ _ _
theorem Dg(D:fg C)(f:FuncId){m:Nat->Nat}(hm:∀k,m k<=m (k+1))(AM:AV):∀(c:Code)(S:St),aP (λk=>qc X f (C k) (m k) AM c S):=by
 intro c;induction c with
 |seq a b AC AF=>intro S;exact sc (AC S) (λA'=>xk D f hm b A')
 |region id ops draw=>
  intro S;simp only[qc];split
  ·split
   ·simp only[tg];exact (mj D _ _ _).bind λ_=>aP.const _
   ·exact aP.const _
  ·exact aP.const _
 |_=>intro S;simp only[qc];exact aP.const _
theorem RC(P:Program)(p:aA)(U:Nat)(rs:List ResultVar)(r:Option (XE×St)):Wc P p U rs r=r.bind λq=>Wc P p U rs (some q):=by cases r<;>rfl
theorem QR(D:fg C)(f:FuncId){m:Nat->Nat}(hm:∀k,m k<=m (k+1))(fn:Func)(c:Code)(args:List AV)(cs:List aD):aP (λk=>z6 X f (C k) (m k) fn c args cs):=by
 unfold z6;split
 ·split
  ·simp only[RC X.P (X.fp f) cs.length fn.results.toList (qc _ _ _ _ _ _ _)];exact (Dg D f hm _ c _).bind λ_=>aP.const _
  ·exact aP.const _
 ·exact aP.const _
theorem Ie(D:fg C){m:Nat->Nat}(hm:∀k,m k<=m (k+1)):fg (λk=>pR X (m k) (C k)):=by
 intro g args cs;simp only[pR];split
 ·split
  ·exact QR D g hm _ _ _ _
  ·exact aP.const _
 ·exact aP.const _
theorem RD(S:St)(r:Option gi):C3 S r=r.bind λc=>C3 S (some c):=by cases r<;>rfl
theorem RE(X:Ctx)(p:aA)(U:Nat)(rs:List ResultVar)(r:Option St):Wd X p U rs r=r.bind λS=>finish X.P p U rs S:=by cases r<;>rfl
theorem RG(X:Ctx)(p:aA)(U:Nat)(rs:List ResultVar)(Ab:bj)(r:XD):zi X p U rs Ab r=r.bind λq=>zi X p U rs Ab (some q):=by cases r<;>rfl
theorem Wq{CR:Nat->bj}(D:fg CR)(p:aA)(U:Nat)(rs:List ResultVar)(S:St)(d:DF)(AM:Option AV):aP (λk=>vM X p U rs (CR k) S d AM):=by
 cases AM with
 |none=>exact aP.const _
 |some AM=>
  simp only[vM,RE,RD S (eA _ _ _ _ _ _)];exact ((qv D _ _ _ _ _).bind (g:=λc _=>C3 S (some c)) λ_=>aP.const _).bind (g:=λS _=>finish X.P p U rs S) λ_=>aP.const _
theorem Ig{CR:Nat->bj}(D:fg CR)(p:aA)(U:Nat)(rs:List ResultVar)(q:XE×St×List DF):aP (λk=>zi X p U rs (CR k) (some q)):=by
 obtain⟨e,S,I⟩:=q;match I with
 |[]=>exact aP.const _
 |[d]=>exact Wq D p U rs S d (Gv e)
 |_::_::_=>exact aP.const _
theorem QS(D:fg C){CR:Nat->bj}(AI:fg CR)(f:FuncId){m:Nat->Nat}(hm:∀k,m k<=m (k+1))(fn:Func)(c:Code)(args:List AV)(cs:List aD):aP (λk=>z7 X f (C k) (CR k) (m k) fn c args cs):=by
 unfold z7;split
 ·simp only[RG X (X.fp f) cs.length fn.results.toList _ (kf _ _ _ _ _ _ _)];exact (K1 D f hm c _ _).bind (g:=λq n=>zi X (X.fp f) cs.length fn.results.toList (CR n) (some q)) λq=>Ig AI _ _ _ q
 ·exact aP.const _
theorem Ih(X:Ctx):∀n g a c r,aO X n g a c=some r->aO X (n+1) g a c=some r
 |0,g,a,c,r,h=>by cases h
 |n+1,g,a,c,r,h=>by
  have ih:=Ih X n;have D:fg λk=>if k=0 then aO X n else aO X (n+1):=by
   intro g a c k r h;by_cases O:k=0
   ·subst O;exact ih g a c r h
   ·simp only[O,acw]at h;simpa using h
  have hm:∀k,(if k=0 then n else n+1)<=(if k+1=0 then n else n+1):=by
   intro k;by_cases O:k=0<;>simp[O]
  cases A7:X.ov with
  |some At=>simp only[aO,A7]at h⊢;exact h
  |none=>
  cases AA:X.BZ g with
  |some Au=>simp only[aO,A7,AA]at h⊢;exact h
  |none=>
  cases V:X.P.funcs[g]? with
  |none=>simp only[aO,A7,AA,V]at h;cases h
  |some fn=>
   cases AG:fn.body with
   |none=>simp only[aO,A7,AA,V,AG]at h;cases h
   |some code=>
    have AH:∀k,aO X (k+1) g a c=z8 X g (aO X k) k fn code a c (A5 code):=by
     intro k;simp only[aO,A7,AA,V,AG]
    rw[AH]at h⊢;cases AO:A5 code with
    |true=>
     rw[AO]at h;exact QS (X:=X) (C:=λk=>if k=0 then aO X n else aO X (n+1)) (CR:=λk=>pR X (if k=0 then n else n+1) (if k=0 then aO X n else aO X (n+1))) D (Ie D hm) g hm fn code a c 0 r h
    |false=>
    rw[AO]at h;exact Mb (R:=λk args=>tP X g ((λk=>if k=0 then aO X n else aO X (n+1)) k) ((λk=>if k=0 then n else n+1) k) fn code args c) (λargs=>Ic D g hm fn code args c) a _ 0 r h
theorem bG(X:Ctx):fg (aO X):=λg a c n r h=>Ih X n g a c r h
end
noncomputable def ag(X:Ctx):bj:=λg a c=>iC λk=>aO X k g a c
noncomputable def fW(X:Ctx)(f:FuncId)(c:Code)(S:St):Option (XE×St):=iC λk=>den X f (aO X k) k c S
theorem dc{X:Ctx}{g a c r}(n:Nat)(h:aO X n g a c=some r):ag X g a c=some r:=(dV (bG X g a c)).2 ⟨n,h⟩
theorem adT{X:Ctx}(Ak:lN X):kT X (ag X):=λg args cs out l h=>by
 obtain⟨n,W⟩:=(dV (bG X g args cs)).1 h;exact N8 Ak n g args cs out l W
section
variable {X:Ctx} {S:St} {o:Oper} {f:FuncId} {md:Bool}
theorem dm(c:Code)(S:St):aP (λk=>den X f (aO X k) k c S):=xk (bG X) f (m:=λk=>k) (λk=>alc k) c S
theorem Wr(m:Mem)(A6:Nat)(g:FuncId)(AN:List AV)(mt:List Nat):iC (λk=>eA (aO X k) m A6 g AN mt)=eA (ag X) m A6 g AN mt:=by
 unfold eA nZ nY;simp only[zt];rw[eG (bG X _ _ _) (λ_=>aP.const _)];simp only[bf];rfl
theorem zv(args:List Operand)(M:Bool×AV):iC (λk=>cJ X (aO X k) S o args M)=cJ X (ag X) S o args M:=by
 unfold cJ;split
 ·split
  ·simp only[Oa _ _ (eA _ _ _ _ _ _)];rw[eG (qv (bG X) _ _ _ _ _) (λ_=>aP.const _),Wr];simp only[bf]
  ·exact bf _
 ·exact bf _
theorem Ws:iC (λk=>uA X (aO X k) S o)=uA X (ag X) S o:=by
 unfold uA;split
 ·rename_i M args AE AB;have J:(λk=>dD S o.dst (cJ X (aO X k) S o args.toList (S.au M)))=λk=>(cJ X (aO X k) S o args.toList (S.au M)).bind λc=>dD S o.dst (some c):=by
   funext k;exact JA ..
  rw[J,eG (mU (bG X) _ _) (λ_=>aP.const _),zv,JA];simp only[bf]
 ·exact bf _
 ·exact bf _
theorem Bh(r:dO):iC (λk=>jc X (aO X k) S o r)=jc X (ag X) S o r:=by
 cases r with
 |no=>exact Ws
 |val c x=>exact bf _
 |dq c x e=>exact bf _
theorem QT(b:Bool)(r:dO):iC (λk=>rA X (aO X k) S o b r)=rA X (ag X) S o b r:=by
 have other:∀r,iC (λk=>if b=true then jc X (aO X k) S o r else some (.normal,S.put o.dst true .bu))=if b=true then jc X (ag X) S o r else some (.normal,S.put o.dst true .bu):=by
  intro r;split
  ·exact Bh r
  ·exact bf _
 cases r with
 |no=>exact other .no
 |val c x=>exact bf _
 |dq c x e=>exact other (.dq c x e)
theorem K2(all:List Oper):iC (λk=>pP X (aO X k) md all S o)=pP X (ag X) md all S o:=by
 unfold pP;split
 ·exact Bh _
 ·split
  ·split
   ·exact QT _ _
   ·split
    ·exact Bh _
    ·exact bf _
  ·exact bf _
  ·exact bf _
theorem zw{F:Nat->Option (XE×St)}{K:St->Nat->Option (XE×St)}(A8:aP F)(AL:∀S,aP (K S)):iC (λn=>andThen (F n) (λS=>K S n))=andThen (iC F) (λS=>iC (K S)):=by
 simp only[Bf];rw[eG (g:=λx n=>aT (λS=>K S n) x) A8 (λx=>by
  obtain⟨e,S⟩:=x;cases e with
  |normal=>exact AL S
  |_=>exact aP.const _)]
 congr 1;funext x;obtain⟨e,S⟩:=x;cases e<;>first|rfl|exact bf _
theorem vR(all:List Oper):∀(ops:List Oper)(S:St),iC (λk=>eW X (aO X k) md all ops S)=eW X (ag X) md all ops S
 |[],S=>bf _
 |o::r,S=>by
  simp only[eW];have:=zw (F:=λk=>pP X (aO X k) md all S o) (K:=λA' k=>eW X (aO X k) md all r A') (vQ (bG X) all) (λA'=>mj (bG X) all r A');rw[K2]at this;simp only[vR all r]at this;exact this
theorem aaE:iC (λk=>lg X (aO X k) S o)=lg X (ag X) S o:=by
 unfold lg;split
 ·rename_i M args AE AB;have J:(λk=>pQ S o (cJ X (aO X k) S o args.toList (S.au M)))=λk=>(cJ X (aO X k) S o args.toList (S.au M)).bind λc=>pQ S o (some c):=by
   funext k;exact GG ..
  rw[J,eG (mU (bG X) _ _) (λ_=>aP.const _),zv,GG];simp only[bf]
 ·exact bf _
theorem Dh(r:dO):iC (λk=>eU X (aO X k) S o r)=eU X (ag X) S o r:=by
 cases r with
 |no=>exact aaE
 |val c x=>exact bf _
 |dq c x e=>exact bf _
theorem Wt(b:Bool)(r:dO):iC (λk=>uB X (aO X k) S o b r)=uB X (ag X) S o b r:=by
 have other:∀r,iC (λk=>if b=true then eU X (aO X k) S o r else some (S.put o.dst true .bu,(⟨[],[],true,.bu⟩:bh)))=if b=true then eU X (ag X) S o r else some (S.put o.dst true .bu,⟨[],[],true,.bu⟩):=by
  intro r;split
  ·exact Dh r
  ·exact bf _
 cases r with
 |no=>exact other .no
 |val c x=>exact bf _
 |dq c x e=>exact other (.dq c x e)
theorem Ii(all:List Oper):iC (λk=>ej X (aO X k) md all S o)=ej X (ag X) md all S o:=by
 unfold ej;split
 ·exact Dh _
 ·split
  ·split
   ·exact Wt _ _
   ·split
    ·exact Dh _
    ·exact bf _
  ·exact bf _
  ·exact bf _
theorem adU:iC (λk=>mR X (aO X k) S o)=mR X (ag X) S o:=by
 unfold mR;split
 ·unfold Gt;split
  ·unfold ND;split
   ·rename_i M args AE AB;have J:(λk=>zc S (cJ X (aO X k) S o args.toList (S.au M)))=λk=>(cJ X (aO X k) S o args.toList (S.au M)).bind λc=>zc S (some c):=by
     funext k;exact JB ..
    rw[J,eG (mU (bG X) _ _) (λ_=>aP.const _),zv,JB];simp only[bf]
   ·exact bf _
  ·exact bf _
 ·exact bf _
theorem Ij(H:Nat×List (List Nat))(all:List Oper):∀(ops:List Oper)(S:St)(E:List bh),iC (λk=>gw X (aO X k) md H all ops S E)=gw X (ag X) md H all ops S E
 |[],S,E=>bf _
 |o::r,S,E=>by
  have A9:∀q,mR X (ag X) S o=some q↔∃k,mR X (aO X k) S o=some q:=λq=>by rw[<-adU];exact dV (KY (bG X))
  have Z:∀q,ej X (ag X) md all S o=some q↔∃k,ej X (aO X k) md all S o=some q:=λq=>by rw[<-Ii];exact dV (n6 (bG X) all)
  have Y:∀S E y,gw X (ag X) md H all r S E=some y↔∃k,gw X (aO X k) md H all r S E=some y:=λS E y=>by rw[<-Ij H all r S E];exact dV (qw (bG X) H all r S E)
  apply Option.ext;intro y;rw[dV (qw (bG X) H all (o::r) S E)];simp only[gw];constructor
  ·rintro ⟨k,O⟩;cases AS:mR X (aO X k) S o with
   |some q=>
    rw[AS]at O;rw[(A9 q).2 ⟨k,AS⟩];exact O
   |none=>
    rw[AS]at O;simp only[oe,pe]at O;cases AT:ej X (aO X k) md all S o with
    |none=>rw[AT]at O;cases O
    |some p=>
     rw[AT]at O;have AJ:=(Z p).2 ⟨k,AT⟩;rw[GH AJ];simp only[oe,pe,AJ,acE]at O⊢;exact (Y _ _ y).2 ⟨k,O⟩
  ·intro h;cases AU:mR X (ag X) S o with
   |some q=>
    rw[AU]at h;obtain⟨k,O⟩:=(A9 q).1 AU;exact⟨k,by rw[O];exact h⟩
   |none=>
    rw[AU]at h;simp only[oe,pe]at h;cases AJ:ej X (ag X) md all S o with
    |none=>rw[AJ]at h;cases h
    |some p=>
     rw[AJ]at h;simp only[acE]at h;obtain⟨AW,Al⟩:=(Z p).1 AJ;obtain⟨AX,An⟩:=(Y _ _ y).1 h;refine⟨max AW AX,?_⟩;have Ac:=(n6 (X:=X) (S:=S) (o:=o) (md:=md) (bG X) all).le (Nat.le_max_left AW AX) Al;have Ao:=(qw (X:=X) (md:=md) (bG X) H all r p.1 (p.2::E)).le (Nat.le_max_right AW AX) An;rw[GH Ac];simp only[oe,pe,Ac,acE];exact Ao
theorem GJ(H:List (List Nat))(T:List Cl)(all:List Oper):∀(ops:List Oper)(S:St)(E:List bh),iC (λk=>mh X (aO X k) md H T all ops S E)=mh X (ag X) md H T all ops S E
 |[],S,E=>bf _
 |o::r,S,E=>by
  simp only[mh,pe];cases kR (H.getD E.length []) r with
  |true=>
   simp only[Ju];split
   ·exact vR all [o] S
   ·exact bf _
  |false=>
  simp only
  cases oz X.P T S o with
  |some x=>
   simp only[nB,acE];exact GJ H T all r _ _
  |none=>
   simp only[nB,RA];rw[eG (g:=λp n=>mh X (aO X n) md H T all r p.1 (p.2::E)) ((n6 (bG X) all).bind (g:=λp _=>Wp T p) λp=>aP.const _) (λp=>yx (bG X) H T all r p.1 (p.2::E)),
    eG (g:=λp _=>Wp T p) (n6 (bG X) all) (λp=>aP.const _),Ii]
   simp only[GJ H T all r,bf]
theorem adV(H:List (List Nat))(all:List Oper)(S:St)(fl:List (Nat×Nat)):iC (λk=>r6 X (aO X k) md H all S fl)=r6 X (ag X) md H all S fl:=by
 cases fl with
 |nil=>exact Ij _ all all S []
 |cons q r=>
  simp only[r6];cases fB S.mem (q::r)with
  |none=>exact bf _
  |some T=>exact GJ H T all all S []
theorem K3:fW X f .skip S=some (.normal,S):=bf _
theorem K4{id:Nat}:fW X f (.exit id) S=some (.exit id,H0 S (X.gh f (id+1000000))):=bf _
theorem Od:fW X f .ret S=some (.ret,S):=bf _
theorem Oe{a b:Code}:fW X f (.seq a b) S=andThen (fW X f a S) (fW X f b):=zw (dm a S) (λA'=>dm b A')
theorem K5{c:Operand}{a b:Code}:fW X f (.cond c a b) S=Es (fW X f a S) (fW X f b S) (S.au c):=by
 unfold fW;simp only[den];unfold Es;split
 ·split<;>rfl
 ·exact bf _
theorem Ik{id:Nat}{c:Code}:fW X f (.block id c) S=H2 id (fW X f c (S.enter X f id)):=by
 unfold fW;simp only[den,N9];rw[eG (dm c _) (λ_=>aP.const _)];simp only[bf]
theorem FN{id:Nat}{ops:Array Oper}:fW X f (.region id ops false) S=zh (St.leave X f id) (eW X (ag X) (X.md f id) ops.toList ops.toList S):=by
 unfold fW;simp only[den,tg];rw[eG (mj (bG X) _ _ _) (λ_=>aP.const _),vR];simp only[bf]
theorem K6{id:Nat}{ops:Array Oper}:fW X f (.region id ops true) S=zh (St.leave X f id) (r6 X (ag X) (X.md f id) (X.od f id) ops.toList S (X.fl f id)):=by
 unfold fW;simp only[den,tg];rw[eG (KZ (bG X) _ _ _ _) (λ_=>aP.const _),adV];simp only[bf]
theorem K7{c:Code}:fW X f (.loop c) S=andThen (fW X f c S) (fW X f (.loop c)):=by
 apply Option.ext;intro r;have AY:∀S r,fW X f (.loop c) S=some r↔∃k,iter (den X f (aO X k) k c) k S=some r:=λS r=>dV (dm (.loop c) S);have hi:∀{k j i:Nat}{S r},k<=j->i<=j->iter (den X f (aO X k) k c) i S=some r->iter (den X f (aO X j) j c) j S=some r:=by
  intro k j i S r O Ap h;exact xj _ Ap ((yy (F:=λk=>den X f (aO X k) k c) (λS=>dm c S) i S).le O h)
 rw[AY];constructor
 ·rintro ⟨k,O⟩;cases k with
  |zero=>cases O
  |succ k=>
   simp only[iter]at O;rcases gz O with ⟨S1,J,A0⟩|⟨J,A0⟩
   ·have:fW X f c S=some (.normal,S1):=(dV (dm c S)).2 ⟨k+1,J⟩;rw[this];exact (AY S1 r).2 ⟨k+1,hi (aad _) (alc k) A0⟩
   ·have:fW X f c S=some r:=(dV (dm c S)).2 ⟨k+1,J⟩;rw[this];obtain⟨e,S1⟩:=r;cases e with
    |normal=>exact absurd rfl A0
    |_=>rfl
 ·intro h;rcases gz h with ⟨S1,J,A0⟩|⟨J,A0⟩
  ·obtain⟨k,O⟩:=(dV (dm c S)).1 J;obtain⟨j,Aq⟩:=(AY S1 r).1 A0;refine⟨max k j+1,?_⟩;rw[iter,(dm c S).le (show k<=max k j+1 by omega) O];have:=(yy (F:=λk=>den X f (aO X k) k c) (λS=>dm c S) j S1).le (show j<=max k j+1 by omega) Aq;exact xj _ (show j<=max k j by omega) this
  ·obtain⟨k,O⟩:=(dV (dm c S)).1 J;refine⟨k+1,?_⟩;rw[iter,(dm c S).le (alc k) O];obtain⟨e,S1⟩:=r;cases e with
   |normal=>exact absurd rfl A0
   |_=>rfl
noncomputable def Il(X:Ctx)(f:FuncId)(fn:Func)(c:Code)(cs:List aD)(args:List AV):Option (Out×List (Nat×aD)):=
 if (decide (args.length<=fn.ntmps)&&decide (cs.length<=100)&&(X.fp f).sites.all (λk=>decide (100<=k))&&decide (X.fp f).sites.Nodup)=true then
  fin X.P (X.fp f) cs.length fn.results.toList (fW X f c (entry fn.ntmps X.gl args cs (X.fp f).sites))
 else none
theorem Dj{h:List AV->Option AV}{args:List AV}{cs:List aD}(A7:X.ov=none)(AA:X.BZ f=some h):ag X f args cs=o8 h args cs:=by
 unfold ag;rw[<-yw (bG X f args cs)];have:(λn=>aO X (n+1) f args cs)=λ_=>o8 h args cs:=by funext n;simp only[aO,A7,AA]
 rw[this,bf]
theorem adW{fn:Func}{c:Code}{args:List AV}{cs:List aD}(A7:X.ov=none)(AA:X.BZ f=none)(V:X.P.funcs[f]?=some fn)(AG:fn.body=some c)(AO:A5 c=false):
 ag X f args cs=kS (Il X f fn c cs) args (X.fp f).split:=by
 have hm:∀args,aP (λk=>tP X f (aO X k) k fn c args cs):=λargs=>Ic (bG X) f (m:=λk=>k) (λk=>alc k) fn c args cs;have Y:∀args,iC (λk=>tP X f (aO X k) k fn c args cs)=Il X f fn c cs args:=by
  intro args;unfold tP Il;split
  ·rename_i h;have J:(λk=>fin X.P (X.fp f) cs.length fn.results.toList (den X f (aO X k) k c (entry fn.ntmps X.gl args cs (X.fp f).sites)))=λk=>(den X f (aO X k) k c (entry fn.ntmps X.gl args cs (X.fp f).sites)).bind λq=>fin X.P (X.fp f) cs.length fn.results.toList (some q):=by
    funext k;exact Ob ..
   rw[J,eG (dm c _) (λ_=>aP.const _),Ob];simp only[bf];rfl
  ·exact bf _
 have AH:ag X f args cs=iC (λk=>kS (λargs=>tP X f (aO X k) k fn c args cs) args (X.fp f).split):=by
  unfold ag;rw[<-yw (bG X f args cs)];congr 1;funext k;rw[aO,A7,AA,V];simp only[AG,AO,z8]
 rw[AH];unfold kS;split
 ·split
  ·rename_i r;apply Option.ext;intro y;rw[dV (B1 (hm _) (hm _)),<-Y,<-Y];constructor
   ·rintro ⟨n,W⟩;unfold mi at W⊢;split at W
    ·rename_i a b AD AZ;have f1:=(dV (hm _)).2 ⟨n,gE AD⟩;have f2:=(dV (hm _)).2 ⟨n,gE AZ⟩;rw[f1,f2];rw[gE AD]at W;exact W
    ·cases W
   ·intro h;unfold mi at h;split at h
    ·rename_i a b AD AZ;obtain⟨n,W⟩:=(dV (hm _)).1 (gE AD);obtain⟨m,Ar⟩:=(dV (hm _)).1 (gE AZ);refine⟨max n m,?_⟩;rw[(hm _).le (Nat.le_max_left n m) W,(hm _).le (Nat.le_max_right n m) Ar];rw[gE AD]at h;exact h
    ·cases h
  ·exact Y _
 ·exact Y _
end
abbrev bN:=Option (Out×List (Nat×aD))
abbrev Kt:=XE->St->bN
noncomputable def aZ(X:Ctx)(f:FuncId)(c:Code)(S:St)(k:Kt):bN:=(fW X f c S).bind λp=>k p.1 p.2
noncomputable def runK(X:Ctx)(md:Bool)(all ops:List Oper)(S:St)(k:Kt):bN:=(eW X (ag X) md all ops S).bind λp=>k p.1 p.2
noncomputable def lu(X:Ctx)(md:Bool)(E:Nat×List (List Nat))(all ops:List Oper)(S:St)(H:List bh)(k:Kt):bN:=(gw X (ag X) md E all ops S H).bind λp=>k p.1 p.2
noncomputable def JD(X:Ctx)(f:FuncId)(b:Code)(k:Kt):Kt
 | .normal,S=>aZ X f b S k
 |e,S=>k e S
def GK(id:Nat)(k:Kt):Kt
 | .exit U,S=>if U=id then k .normal S else k (.exit U) S
 |e,S=>k e S
noncomputable def Im(X:Ctx)(f:FuncId)(c:Code)(k:Kt):Kt
 | .normal,S=>aZ X f (.loop c) S k
 |e,S=>k e S
def Dk(X:Ctx)(f:FuncId)(id:Nat)(k:Kt):Kt
 | .normal,S=>k .normal (S.leave X f id)
 |e,S=>k e S
def nC(P:Program)(p:aA)(O:Nat)(rs:List ResultVar):Kt
 | .normal,S=>finish P p O rs S
 | .ret,S=>finish P p O rs S
 | .panic t x,S=>AU p O t x S
 | .exit _,_=>none
def isB:Bool×AV->Bool
 |(true,.d (.bool _))=>true
 |_=>false
def Dl:Bool×AV->Bool
 |(_,.d (.bool b))=>b
 |_=>false
def Env.kn:Env->Nat->Bool->Env
 |[],_,_=>[]
 |(t,x)::r,c,b=>if t=c then (t,true,.d (.bool b))::r else (t,x)::Env.kn r c b
def St.kn(S:St)(c:Nat)(b:Bool):St:={S with env:=Env.kn S.env c b}
section
variable {X:Ctx} {f:FuncId} {S:St} {k:Kt}
theorem xl(r:Option (XE×St))(g:St->Option (XE×St)):(andThen r g).bind (λp=>k p.1 p.2)=r.bind λp=>match p with
 |(.normal,S)=>(g S).bind λp=>k p.1 p.2
 |(e,S)=>k e S:=by
 rcases r with _|⟨e,S⟩
 ·rfl
 ·cases e<;>rfl
theorem aaG:aZ X f .skip S k=k .normal S:=by simp only[aZ,K3,acE]
theorem aaH{id:Nat}:aZ X f (.exit id) S k=k (.exit id) (H0 S (X.gh f (id+1000000))):=by simp only[aZ,K4,acE]
theorem adX:aZ X f .ret S k=k .ret S:=by simp only[aZ,Od,acE]
theorem adY{a b:Code}:aZ X f (.seq a b) S k=aZ X f a S (JD X f b k):=by
 simp only[aZ,Oe,xl];congr 1;funext p;obtain⟨e,S⟩:=p;cases e<;>rfl
theorem ai{c:Code}:aZ X f (.loop c) S k=aZ X f c S (Im X f c k):=by
 rw[aZ,K7,xl,aZ];congr 1;funext p;obtain⟨e,S⟩:=p;cases e<;>rfl
theorem Wu{id:Nat}{c:Code}:aZ X f (.block id c) S k=aZ X f c (S.enter X f id) (GK id k):=by
 simp only[aZ,Ik];rcases fW X f c (S.enter X f id)with _|⟨e,S⟩
 ·rfl
 ·cases e with
  |exit U=>
   simp only[H2,acE,GK];split<;>rfl
  |_=>rfl
theorem K8{c:Operand}{a b:Code}:aZ X f (.cond c a b) S k=if isB (S.au c)=true then (if Dl (S.au c)=true then aZ X f a S k else aZ X f b S k)else none:=by
 simp only[aZ,K5];generalize S.au c=v;obtain⟨g,x⟩:=v;cases g with
 |false=>rfl
 |true=>
  cases x with
  |d x=>
   cases x with
   |bool t=>cases t<;>rfl
   |_=>rfl
  |_=>rfl
theorem agc{b:Bool}:∀{env:Env}{c:Nat},Env.lk env c=some (true,.d (.bool b))->Env.kn env c b=env
 |[],c,h=>by cases h
 |(t,x)::r,c,h=>by
  simp only[Env.lk]at h;simp only[Env.kn];split
  ·rename_i A';rw[aat A']at h;cases h;rfl
  ·rename_i A';rw[aab A']at h;rw[agc h]
theorem alm{c:Tmp}{b:Bool}(h:S.au (.tmp c)=(true,.d (.bool b))):Env.lk S.env c=some (true,.d (.bool b)):=by
 simp only[St.au]at h;cases A3:Env.lk S.env c with
 |none=>rw[A3]at h;simp at h
 |some x=>rw[A3]at h;simp only[af7]at h;rw[h]
theorem Wv{c:Tmp}{a b:Code}:aZ X f (.cond (.tmp c) a b) S k=if isB (S.au (.tmp c))=true then (if Dl (S.au (.tmp c))=true then aZ X f a (S.kn c true) k else aZ X f b (S.kn c false) k)else none:=by
 rw[K8];generalize A7:S.au (.tmp c)=v;obtain⟨g,x⟩:=v;cases g with
 |false=>rfl
 |true=>
  cases x with
  |d x=>
   cases x with
   |bool t=>
    have:S.kn c t=S:=by
     unfold St.kn;rw[agc (alm A7)]
    cases t with
    |true=>rw[this];rfl
    |false=>rw[this];rfl
   |_=>rfl
  |_=>rfl
theorem Ww{v:Value}{a b:Code}:aZ X f (.cond (.const v) a b) S k=if isB (S.au (.const v))=true then (if Dl (S.au (.const v))=true then aZ X f a S k else aZ X f b S k)else none:=K8
theorem QU{id:Nat}{l:List Oper}:aZ X f (.region id ⟨l⟩ false) S k=runK X (X.md f id) l l S (Dk X f id k):=by
 simp only[aZ,FN,runK];rcases eW X (ag X) (X.md f id) l l S with _|⟨e,S⟩
 ·rfl
 ·cases e<;>rfl
noncomputable def EA(X:Ctx)(md:Bool)(E:List (List Nat))(l:List Oper)(S:St)(k:Kt):List (Nat×Nat)->bN
 |[]=>lu X md (hZ S.mem,E) l l S [] k
 |q::r=>(Wb X (ag X) md E l S (fB S.mem (q::r))).bind λp=>k p.1 p.2
theorem aaI{id:Nat}{l:List Oper}:aZ X f (.region id ⟨l⟩ true) S k=EA X (X.md f id) (X.od f id) l S (Dk X f id k) (X.fl f id):=by
 simp only[aZ,K6];cases X.fl f id with
 |nil=>
  simp only[r6,EA,lu];rcases gw X (ag X) (X.md f id) (hZ S.mem,X.od f id) l l S []with _|⟨e,S⟩
  ·rfl
  ·cases e<;>rfl
 |cons q r=>
  simp only[r6,EA];rcases Wb X (ag X) (X.md f id) (X.od f id) l S (fB S.mem (q::r))with _|⟨e,S⟩
  ·rfl
  ·cases e<;>rfl
noncomputable def EB(X:Ctx)(md:Bool)(E:List (List Nat))(I:List Cl)(all ops:List Oper)(S:St)(H:List bh)(k:Kt):bN:=(mh X (ag X) md E I all ops S H).bind λp=>k p.1 p.2
noncomputable def Bi(X:Ctx)(md:Bool)(E:List (List Nat))(I:List Cl)(all r:List Oper)(H:List bh)(k:Kt):Option (St×bh)->bN
 |some (S,p)=>EB X md E I all r S (p::H) k
 |none=>none
theorem aiy{md:Bool}{E:List (List Nat)}{l:List Oper}:EA X md E l S k []=lu X md (hZ S.mem,E) l l S [] k:=rfl
noncomputable def Bj(X:Ctx)(md:Bool)(E:List (List Nat))(l:List Oper)(S:St)(k:Kt):Option (List Cl)->bN
 |some I=>EB X md E I l l S [] k
 |none=>none
theorem wb{md:Bool}{E:List (List Nat)}{l:List Oper}{q:Nat×Nat}{r:List (Nat×Nat)}:EA X md E l S k (q::r)=Bj X md E l S k (fB S.mem (q::r)):=by
 simp only[EA];cases fB S.mem (q::r)<;>rfl
noncomputable def vS(X:Ctx)(md:Bool)(E:List (List Nat))(I:List Cl)(all r:List Oper)(S:St)(o:Oper)(H:List bh)(k:Kt):Bool->bN
 |true=>if oZ E H.reverse=true then runK X md all [o] S k else none
 |false=>Bi X md E I all r H k (nB X (ag X) md I all S o (oz X.P I S o))
theorem pS{md:Bool}{E:List (List Nat)}{I:List Cl}{all r:List Oper}{o:Oper}{H:List bh}:EB X md E I all (o::r) S H k=vS X md E I all r S o H k (kR (E.getD H.length []) r):=by
 simp only[EB,mh];cases kR (E.getD H.length []) r with
 |true=>
  simp only[Ju,vS];split
  ·rfl
  ·rfl
 |false=>
  simp only[vS];rcases nB X (ag X) md I all S o (oz X.P I S o)with _|⟨S1,p⟩<;>rfl
theorem aln{b:Code}:JD X f b k .normal S=aZ X f b S k:=rfl
theorem alo{b:Code}{id:Nat}:JD X f b k (.exit id) S=k (.exit id) S:=rfl
theorem alp{b:Code}:JD X f b k .ret S=k .ret S:=rfl
theorem alq{b:Code}{t:TypeId}{x:D}:JD X f b k (.panic t x) S=k (.panic t x) S:=rfl
theorem alr{id:Nat}:GK id k .normal S=k .normal S:=rfl
theorem als{id U:Nat}:GK id k (.exit U) S=if U=id then k .normal S else k (.exit U) S:=rfl
theorem alu{id:Nat}:GK id k .ret S=k .ret S:=rfl
theorem alv{id:Nat}{t:TypeId}{x:D}:GK id k (.panic t x) S=k (.panic t x) S:=rfl
theorem aiz{c:Code}:Im X f c k .normal S=aZ X f (.loop c) S k:=rfl
theorem aiA{c:Code}{id:Nat}:Im X f c k (.exit id) S=k (.exit id) S:=rfl
theorem aiB{c:Code}:Im X f c k .ret S=k .ret S:=rfl
theorem aiC{c:Code}{t:TypeId}{x:D}:Im X f c k (.panic t x) S=k (.panic t x) S:=rfl
theorem adZ{id:Nat}:Dk X f id k .normal S=k .normal (S.leave X f id):=rfl
theorem ad0{id:Nat}{t:TypeId}{x:D}:Dk X f id k (.panic t x) S=k (.panic t x) S:=rfl
theorem alw{P:Program}{p:aA}{O:Nat}{rs:List ResultVar}:nC P p O rs .normal S=finish P p O rs S:=rfl
theorem alx{P:Program}{p:aA}{O:Nat}{rs:List ResultVar}:nC P p O rs .ret S=finish P p O rs S:=rfl
theorem aly{P:Program}{p:aA}{O:Nat}{rs:List ResultVar}{t:TypeId}{x:D}:nC P p O rs (.panic t x) S=AU p O t x S:=rfl
end
def Bk(all:List Oper)(o:Oper):Option Nat:=
 match o.guard with
 |some (j,_)=>nA all j
 |none=>none
noncomputable def tQ(X:Ctx)(md:Bool)(S:St)(d:Option Nat)(all r:List Oper)(k:Kt):Option gi->bN
 |some ⟨.ret x,es,_⟩=>runK X md all r (({S with mem:=bH S.mem es}:St).put d true x) k
 |some ⟨.panic t x,es,_⟩=>k (.panic t x) {S with mem:=bH S.mem es}
 |none=>none
def Of(S:St)(k:Kt):Bool×AV->bN
 |(true,.iA t d)=>k (.panic t d) S
 |_=>none
noncomputable def yz(X:Ctx)(md:Bool)(S:St)(o:Oper)(all r:List Oper)(k:Kt):Op->bN
 | .call {callee:=.value T,args,..}=>tQ X md S o.dst all r k (cJ X (ag X) S o args.toList (S.au T))
 | .panic x=>Of S k (S.au x)
 |_=>none
noncomputable def tR(X:Ctx)(md:Bool)(S:St)(o:Oper)(all r:List Oper)(k:Kt):dO->bN
 | .val c x=>if (iy S o&&c)=true then runK X md all r (S.put o.dst true x) k else none
 | .dq c x e=>if (iy S o&&c)=true then runK X md all r (({S with mem:=Mem.set S.mem e}:St).put o.dst true x) k else none
 | .no=>yz X md S o all r k o.op
noncomputable def xn(X:Ctx)(md:Bool)(S:St)(o:Oper)(all r:List Oper)(k:Kt)(b:Bool):dO->bN
 | .val c x=>if b=true->(iy S o&&c)=true then runK X md all r (S.put o.dst b x) k else none
 | .dq c x e=>if b=true then tR X md S o all r k (.dq c x e)else runK X md all r (S.put o.dst true .bu) k
 | .no=>if b=true then yz X md S o all r k o.op else runK X md all r (S.put o.dst true .bu) k
noncomputable def Io(X:Ctx)(S:St)(o:Oper)(all r:List Oper)(k:Kt)(J t:Bool):Bool->bN
 |false=>xn X false S o all r k (t == J) (dy X.P S o)
 |true=>if (t == J)=true then tR X true (S.cz (Bk all o) J) o all r k (dy X.P (S.cz (Bk all o) J) o)else runK X true all r ((S.cz (Bk all o) (!J)).put o.dst true (.aY [])) k
noncomputable def Og(X:Ctx)(md:Bool)(S:St)(o:Oper)(all r:List Oper)(k:Kt)(J:Bool):GV->bN
 | .vu t=>Io X S o all r k J t md
 | .skip=>runK X md all r (S.put o.dst true (.aY [])) k
 | .bad=>none
section
variable {X:Ctx} {f:FuncId} {S:St} {k:Kt} {all r:List Oper} {md:Bool}
theorem Bl(o:Oper)(res:dO):(andThen (jc X (ag X) S o res) (eW X (ag X) md all r)).bind (λp=>k p.1 p.2)=tR X md S o all r k res:=by
 cases res with
 |val c x=>simp only[jc,tR];split<;>rfl
 |dq c x e=>simp only[jc,tR];split<;>rfl
 |no=>
  simp only[jc,tR,uA];split
  ·rename_i T args A4 V;rw[V];simp only[yz];rcases cJ X (ag X) S o args.toList (S.au T)with _|⟨out,es,ks⟩
   ·rfl
   ·cases out<;>rfl
  ·rename_i x V;rw[V];simp only[yz];generalize S.au x=v;obtain⟨g,y⟩:=v;cases g<;>cases y<;>rfl
  ·rename_i Y A8;unfold yz;split
   ·rename_i heq;exact absurd heq (Y _ _ _)
   ·rename_i heq;exact absurd heq (A8 _)
   ·rfl
theorem ad1:runK X md all [] S k=k .normal S:=rfl
theorem aaJ{d:Option Tmp}{op:Op}{ty:TypeId}{pos:String}{M:Array Edge}:runK X md all (⟨d,op,ty,pos,M,none⟩::r) S k=tR X md S ⟨d,op,ty,pos,M,none⟩ all r k (dy X.P S ⟨d,op,ty,pos,M,none⟩):=
 Bl _ _
theorem Wx{d:Option Tmp}{op:Op}{ty:TypeId}{pos:String}{M:Array Edge}{j:Nat}{w:Bool}:runK X md all (⟨d,op,ty,pos,M,some (j,w)⟩::r) S k=Og X md S ⟨d,op,ty,pos,M,some (j,w)⟩ all r k w (rY (rP all S j)):=by
 simp only[runK,eW,pP];generalize rY (rP all S j)=g;cases g with
 |skip=>rfl
 |bad=>rfl
 |vu t=>
  simp only[Og];cases md with
  |true=>
   simp only[Io,Bk];split
   ·exact Bl _ _
   ·rfl
  |false=>
  simp only[Io];generalize Z:dy X.P S _=res;cases res with
  |val c x=>simp only[rA,xn];split<;>rfl
  |dq c x e=>
   simp only[rA,xn];split
   ·exact Bl _ (.dq c x e)
   ·rfl
  |no=>
   simp only[rA,xn];split
   ·exact Bl _ .no
   ·rfl
theorem aaK{d:Option Nat}{c:Prop}[Decidable c]{a b:Option gi}:tQ X md S d all r k (if c then a else b)=if c then tQ X md S d all r k a else tQ X md S d all r k b:=by split<;>rfl
end
theorem Oh{m:Mem}{A0:Nat}{ρ B:List Nat}{c:Prop}[Decidable c]{a b:Option (Out×List (Nat×aD))}:gv m A0 ρ B (if c then a else b)=if c then gv m A0 ρ B a else gv m A0 ρ B b:=by split<;>rfl
noncomputable def nN(X:Ctx)(md:Bool)(E:Nat×List (List Nat))(S:St)(d:Option Nat)(all r:List Oper)(H:List bh)(k:Kt):Option gi->bN
 |some ⟨.ret x,es,ks⟩=>lu X md E all r (({S with mem:=bH S.mem es}:St).put d true x) (⟨ks,es,true,x⟩::H) k
 |some ⟨.panic t x,es,ks⟩=>(Gu X md E all r d H ⟨{S with mem:=bH S.mem es},t,x,es,ks⟩).bind λp=>k p.1 p.2
 |none=>none
noncomputable def Dm(X:Ctx)(md:Bool)(E:Nat×List (List Nat))(S:St)(o:Oper)(all r:List Oper)(H:List bh)(k:Kt):Op->bN
 | .call {callee:=.value T,args,..}=>nN X md E S o.dst all r H k (cJ X (ag X) S o args.toList (S.au T))
 |_=>none
noncomputable def xo(X:Ctx)(md:Bool)(E:Nat×List (List Nat))(S:St)(o:Oper)(all r:List Oper)(H:List bh)(k:Kt):dO->bN
 | .val c x=>if (iy S o&&c)=true then lu X md E all r (S.put o.dst true x) (⟨ku S o,[],true,x⟩::H) k else none
 | .dq c x e=>if (iy S o&&c&&(ku S o).contains e.key)=true then lu X md E all r (({S with mem:=Mem.set S.mem e}:St).put o.dst true x) (⟨ku S o,[e],true,x⟩::H) k else none
 | .no=>Dm X md E S o all r H k o.op
noncomputable def Ad(X:Ctx)(md:Bool)(E:Nat×List (List Nat))(S:St)(d:Option Nat)(all r:List Oper)(H:List bh)(k:Kt):Option gi->bN
 |some ⟨.ret x,es,ks⟩=>lu X md E all r (({S with mem:=bH S.mem es}:St).put d true x) (⟨ks,es,true,x⟩::H) k
 |_=>none
noncomputable def Ae(X:Ctx)(md:Bool)(E:Nat×List (List Nat))(S:St)(o:Oper)(all r:List Oper)(H:List bh)(k:Kt):Op->bN
 | .call {callee:=.value T,args,..}=>Ad X md E S o.dst all r H k (cJ X (ag X) S o args.toList (S.au T))
 |_=>none
noncomputable def sd(X:Ctx)(md:Bool)(E:Nat×List (List Nat))(S:St)(o:Oper)(all r:List Oper)(H:List bh)(k:Kt):dO->bN
 | .val c x=>if (iy S o&&c)=true then lu X md E all r (S.put o.dst true x) (⟨ku S o,[],true,x⟩::H) k else none
 | .dq c x e=>if (iy S o&&c&&(ku S o).contains e.key)=true then lu X md E all r (({S with mem:=Mem.set S.mem e}:St).put o.dst true x) (⟨ku S o,[e],true,x⟩::H) k else none
 | .no=>Ae X md E S o all r H k o.op
noncomputable def th(X:Ctx)(md:Bool)(E:Nat×List (List Nat))(S:St)(o:Oper)(all r:List Oper)(H:List bh)(k:Kt)(b:Bool):dO->bN
 | .val c x=>if b=true->(iy S o&&c)=true then lu X md E all r (S.put o.dst b x) (⟨ku S o,[],b,x⟩::H) k else none
 | .dq c x e=>if b=true then sd X md E S o all r H k (.dq c x e)else lu X md E all r (S.put o.dst true .bu) (⟨[],[],true,.bu⟩::H) k
 | .no=>if b=true then Ae X md E S o all r H k o.op else lu X md E all r (S.put o.dst true .bu) (⟨[],[],true,.bu⟩::H) k
noncomputable def Dp(X:Ctx)(E:Nat×List (List Nat))(S:St)(o:Oper)(all r:List Oper)(H:List bh)(k:Kt)(J t:Bool):Bool->bN
 |false=>th X false E S o all r H k (t == J) (dy X.P S o)
 |true=>if (t == J)=true then sd X true E (S.cz (Bk all o) J) o all r H k (dy X.P (S.cz (Bk all o) J) o)else lu X true E all r ((S.cz (Bk all o) (!J)).put o.dst true (.aY [])) (⟨[],[],true,.aY []⟩::H) k
noncomputable def Ip(X:Ctx)(md:Bool)(E:Nat×List (List Nat))(S:St)(o:Oper)(all r:List Oper)(H:List bh)(k:Kt)(J:Bool):GV->bN
 | .vu t=>Dp X E S o all r H k J t md
 | .skip=>lu X md E all r (S.put o.dst true (.aY [])) (⟨[],[],true,.aY []⟩::H) k
 | .bad=>none
section
variable {X:Ctx} {f:FuncId} {S:St} {k:Kt} {all r:List Oper} {md:Bool} {E:Nat×List (List Nat)} {H:List bh}
theorem uE(o:Oper)(res:dO):(A2 H (eU X (ag X) S o res) (gw X (ag X) md E all r)).bind (λp=>k p.1 p.2)=sd X md E S o all r H k res:=by
 cases res with
 |val c x=>simp only[eU,sd];split<;>rfl
 |dq c x e=>simp only[eU,sd];split<;>rfl
 |no=>
  simp only[eU,sd,lg];split
  ·rename_i T args A4 V;rw[V];simp only[Ae];rcases cJ X (ag X) S o args.toList (S.au T)with _|⟨out,es,ks⟩
   ·rfl
   ·cases out<;>rfl
  ·rename_i Y;unfold Ae;split
   ·rename_i heq;exact absurd heq (Y _ _ _)
   ·rfl
theorem tj(h:oZ E.2 H.reverse=true):lu X md E all [] S H k=k .normal S:=by
 simp only[lu,gw,h,acH,acE]
def Dq:List bh->List bh->List bh
 |[],r=>r
 |x::l,r=>Dq l (x::r)
theorem EC:∀(l r:List bh),Dq l r=l.reverse++r
 |[],_=>rfl
 |x::l,r=>by rw[Dq,EC l];simp
theorem rB{E:List (List Nat)}{I:List Cl}:EB X md E I all [] S H k=if oZ E (Dq H [])=true then k .normal S else none:=by
 simp only[EB,mh];rw[EC,afV];split<;>rfl
theorem aq:lu X md E all [] S H k=if oZ E.2 (Dq H [])=true then k .normal S else none:=by
 rw[EC,afV];simp only[lu,gw];split<;>rfl
theorem aaL{d:Option Tmp}{op:Op}{ty:TypeId}{pos:String}{M:Array Edge}:lu X md E all (⟨d,op,ty,pos,M,none⟩::r) S H k=xo X md E S ⟨d,op,ty,pos,M,none⟩ all r H k (dy X.P S ⟨d,op,ty,pos,M,none⟩):=by
 simp only[lu,gw,mR];generalize V:(⟨d,op,ty,pos,M,none⟩:Oper)=o;have A9:o.guard=none:=by subst V;rfl
 have W:ej X (ag X) md all S o=eU X (ag X) S o (dy X.P S o):=by unfold ej;rw[A9]
 generalize Z:dy X.P S o=res;rw[Z]at W;cases res with
 |val c x=>simp only[Gt,oe,W,xo];exact uE _ (.val c x)
 |dq c x e=>simp only[Gt,oe,W,xo];exact uE _ (.dq c x e)
 |no=>
  simp only[Gt,ND,xo];split
  ·rename_i T args A4 A1;rw[A1];simp only[Dm];cases A6:cJ X (ag X) S o args.toList (S.au T)with
   |none=>
    simp only[zc,oe,W,eU,lg,A1,A6,nN];rfl
   |some res=>
    obtain⟨out,es,ks⟩:=res;cases out with
    |ret x=>
     simp only[zc,oe,W,eU,lg,A1,A6,nN];rfl
    |panic t x=>rfl
  ·rename_i Y;simp only[oe,W,eU,lg];unfold Dm;split
   ·rename_i heq;exact absurd heq (Y _ _ _)
   ·rfl
theorem Wy{d:Option Tmp}{op:Op}{ty:TypeId}{pos:String}{M:Array Edge}{j:Nat}{w:Bool}:lu X md E all (⟨d,op,ty,pos,M,some (j,w)⟩::r) S H k=Ip X md E S ⟨d,op,ty,pos,M,some (j,w)⟩ all r H k w (rY (rP all S j)):=by
 simp only[lu,gw,mR,oe,ej];generalize rY (rP all S j)=g;cases g with
 |skip=>rfl
 |bad=>rfl
 |vu t=>
  simp only[Ip];cases md with
  |true=>
   simp only[Dp,Bk];split
   ·exact uE _ _
   ·rfl
  |false=>
  simp only[Dp];generalize Z:dy X.P S _=res;cases res with
  |val c x=>simp only[uB,th];split<;>rfl
  |dq c x e=>
   simp only[uB,th];split
   ·exact uE _ (.dq c x e)
   ·rfl
  |no=>
   simp only[uB,th];split
   ·exact uE _ .no
   ·rfl
theorem Wz{d:Option Nat}{c:Prop}[Decidable c]{a b:Option gi}:nN X md E S d all r H k (if c then a else b)=if c then nN X md E S d all r H k a else nN X md E S d all r H k b:=by split<;>rfl
theorem WA{d:Option Nat}{c:Prop}[Decidable c]{a b:Option gi}:Ad X md E S d all r H k (if c then a else b)=if c then Ad X md E S d all r H k a else Ad X md E S d all r H k b:=by split<;>rfl
end
def ga(n:Nat)(p:aA)(args:List AV)(cs:List aD):Bool:=
 decide (args.length<=n)&&decide (cs.length<=100)&&p.sites.all (λk=>decide (100<=k))&&decide p.sites.Nodup
theorem ak{X:Ctx}{f:FuncId}{fn:Func}{c:Code}{args:List AV}{cs:List aD}{n:Nat}{rs:List ResultVar}{p:aA}(AA:X.ov=none)(AB:X.BZ f=none)(AC:X.P.funcs[f]?=some fn)(AD:fn.body=some c)(AE:A5 c=false)(AF:fn.ntmps=n)(AG:fn.results.toList=rs)
 (AH:X.fp f=p) (Z:p.split=false) (AI:ga n p args cs=true):ag X f args cs=aZ X f c (entry n X.gl args cs p.sites) (nC X.P p cs.length rs):=by
 subst AH;rw[adW AA AB AC AD AE,Z];simp only[kS,Il];subst AF;subst AG;rw[aat (by simpa only[ga]using AI)];simp only[aZ];rcases fW X f c _ with _|⟨e,S⟩
 ·rfl
 ·cases e<;>rfl
noncomputable def se(X:Ctx)(f:FuncId)(c:Code)(S:St)(D:List DF):XD:=iC λk=>kf X f (aO X k) k c S D
noncomputable def Iq(X:Ctx)(f:FuncId)(H:AV)(c:Code)(S:St):Option (XE×St):=iC λk=>qc X f (aO X k) k H c S
noncomputable def zx(X:Ctx):bj:=λg args cs=>iC λk=>pR X k (aO X k) g args cs
abbrev Dr:=XE->St->List DF->bN
noncomputable def lh(X:Ctx)(f:FuncId)(c:Code)(S:St)(D:List DF)(k:Dr):bN:=(se X f c S D).bind λp=>k p.1 p.2.1 p.2.2
noncomputable def Bm(X:Ctx)(md:Bool)(all ops:List Oper)(S:St)(D:List DF)(k:Dr):bN:=(gI X (ag X) md all ops S D).bind λp=>k p.1 p.2.1 p.2.2
noncomputable def Ir(X:Ctx)(f:FuncId)(b:Code)(k:Dr):Dr
 | .normal,S,D=>lh X f b S D k
 |e,S,D=>k e S D
def JE(X:Ctx)(f:FuncId)(id:Nat)(k:Dr):Dr
 | .normal,S,D=>k .normal (S.leave X f id) D
 |e,S,D=>k e S D
noncomputable def Oi(X:Ctx)(md:Bool)(all r:List Oper)(D:List DF)(k:Dr):Kt
 | .normal,S=>Bm X md all r S D k
 |e,S=>k e S D
noncomputable def Mj(X:Ctx)(md:Bool)(all r:List Oper)(o:Oper)(S:St)(D:List DF)(k:Dr):Option DF->bN
 |some d=>Bm X md all r (S.put o.dst true .bu) (d::D) k
 |none=>runK X md all [o] S (Oi X md all r D k)
section
variable {X:Ctx} {f:FuncId} {S:St} {D:List DF} {md:Bool}
theorem zy(all:List Oper):∀(ops:List Oper)(S:St)(D:List DF),iC (λk=>gI X (aO X k) md all ops S D)=gI X (ag X) md all ops S D
 |[],S,D=>bf _
 |o::r,S,D=>by
  simp only[gI];cases jZ S o with
  |some d=>exact zy all r _ _
  |none=>
   simp only[GI];rw[eG (g:=λx n=>nT (λS1=>gI X (aO X n) md all r S1 D) D x) (vQ (bG X) all) (λx=>by
    obtain⟨e,S1⟩:=x;cases e with
    |normal=>exact pg (bG X) all r S1 D
    |_=>exact aP.const _),K2]
   congr 1;funext x;obtain⟨e,S1⟩:=x;cases e with
   |normal=>exact zy all r S1 D
   |_=>exact bf _
theorem dmD(c:Code)(S:St)(D:List DF):aP (λk=>kf X f (aO X k) k c S D):=K1 (bG X) f (m:=λk=>k) (λk=>alc k) c S D
theorem aaM{a b:Code}:se X f (.seq a b) S D=NF (se X f b) (se X f a S D):=by
 unfold se;simp only[kf,RB];rw[eG (g:=λx n=>sT (kf X f (aO X n) n b) x) (dmD a S D) (λx=>by
  obtain⟨e,S1,E⟩:=x;cases e with
  |normal=>exact dmD b S1 E
  |_=>exact aP.const _)]
 congr 1;funext x;obtain⟨e,S1,E⟩:=x;cases e<;>first|rfl|exact bf _
theorem ph{c:Code}(h:∀k,kf X f (aO X k) k c S D=A4 D (den X f (aO X k) k c S)):se X f c S D=A4 D (fW X f c S):=by
 unfold se fW;have:(λk=>kf X f (aO X k) k c S D)=λk=>(den X f (aO X k) k c S).bind λq=>dT D q:=by
  funext k;rw[h,JC]
 rw[this,eG (dm c S) (λ_=>aP.const _),JC];simp only[bf]
theorem aaN{id:Nat}{ops:Array Oper}(h:qq ops.toList=true):se X f (.region id ops false) S D=C0 (St.leave X f id) (gI X (ag X) (X.md f id) ops.toList ops.toList S D):=by
 unfold se;have:(λk=>kf X f (aO X k) k (.region id ops false) S D)=λk=>(gI X (aO X k) (X.md f id) ops.toList ops.toList S D).bind λq=>lT (St.leave X f id) q:=by
  funext k;simp only[kf,h,Bool.not_false,Bool.and_self,Df]
 rw[this,eG (pg (bG X) _ _ _ _) (λ_=>aP.const _),zy,Df];simp only[bf]
variable {k:Dr}
theorem aaO{a b:Code}:lh X f (.seq a b) S D k=lh X f a S D (Ir X f b k):=by
 simp only[lh,aaM];rcases se X f a S D with _|⟨e,S1,E⟩
 ·rfl
 ·cases e<;>rfl
theorem pk{c:Code}(h:se X f c S D=A4 D (fW X f c S)):lh X f c S D k=aZ X f c S λe S=>k e S D:=by
 simp only[lh,aZ,h];rcases fW X f c S with _|⟨e,S1⟩<;>rfl
theorem WB{o:Operand}{a b:Code}:lh X f (.cond o a b) S D k=aZ X f (.cond o a b) S λe S=>k e S D:=pk (ph λ_=>rfl)
theorem aaP:lh X f .ret S D k=aZ X f .ret S λe S=>k e S D:=pk (ph λ_=>rfl)
theorem WC:lh X f .skip S D k=aZ X f .skip S λe S=>k e S D:=pk (ph λ_=>rfl)
theorem WD{c:Code}:lh X f (.loop c) S D k=aZ X f (.loop c) S λe S=>k e S D:=pk (ph λ_=>rfl)
theorem QV{id:Nat}{c:Code}:lh X f (.block id c) S D k=aZ X f (.block id c) S λe S=>k e S D:=pk (ph λ_=>rfl)
theorem WE{id:Nat}{ops:Array Oper}:lh X f (.region id ops true) S D k=aZ X f (.region id ops true) S λe S=>k e S D:=pk (ph λ_=>rfl)
theorem aaQ{id:Nat}{l:List Oper}:lh X f (.region id ⟨l⟩ false) S D k=if qq l=true then Bm X (X.md f id) l l S D (JE X f id k)else aZ X f (.region id ⟨l⟩ false) S λe S=>k e S D:=by
 split
 ·rename_i h;simp only[lh,Bm,aaN (ops:=⟨l⟩) h];rcases gI X (ag X) (X.md f id) l l S D with _|⟨e,S1,E⟩
  ·rfl
  ·cases e<;>rfl
 ·rename_i h;exact pk (ph λ_=>by simp[kf,h])
theorem aaR{all:List Oper}:Bm X md all [] S D k=k .normal S D:=rfl
theorem WG{all r:List Oper}{o:Oper}:Bm X md all (o::r) S D k=Mj X md all r o S D k (jZ S o):=by
 simp only[Bm,gI];cases jZ S o with
 |some d=>rfl
 |none=>
  simp only[Mj,runK,eW,GI,Bf];rcases pP X (ag X) md all S o with _|⟨e,S1⟩
  ·rfl
  ·cases e<;>rfl
end
noncomputable def ED(X:Ctx)(p:aA)(E:Nat)(rs:List ResultVar):Dr
 |e,S,[]=>nC X.P p E rs e S
 |e,S,[d]=>vM X p E rs (zx X) S d (Gv e)
 |_,_,_=>none
noncomputable def vT(X:Ctx)(f:FuncId)(D:AV)(c:Code)(S:St)(k:Kt):bN:=(Iq X f D c S).bind λp=>k p.1 p.2
def It(P:Program)(p:aA)(E:Nat)(rs:List ResultVar):Kt
 | .normal,S=>finish P p E rs S
 | .ret,S=>finish P p E rs S
 |_,_=>none
section
variable {X:Ctx} {f:FuncId} {S:St}
theorem tS(X:Ctx):fg λk=>pR X k (aO X k):=Ie (bG X) (m:=λk=>k) (λk=>alc k)
theorem QW{C:Nat->bj}(Z:fg C)(m:Mem)(Y:Nat)(g:FuncId)(H:List AV)(mt:List Nat):iC (λk=>eA (C k) m Y g H mt)=eA (λg a c=>iC λk=>C k g a c) m Y g H mt:=by
 unfold eA nZ nY;simp only[zt];rw[eG (Z _ _ _) (λ_=>aP.const _)];simp only[bf]
theorem aaS(p:aA)(E:Nat)(rs:List ResultVar)(d:DF)(D:Option AV):iC (λk=>vM X p E rs (pR X k (aO X k)) S d D)=vM X p E rs (zx X) S d D:=by
 cases D with
 |none=>exact bf _
 |some D=>
  simp only[vM,RE,RD S (eA _ _ _ _ _ _)];rw[eG (g:=λS _=>finish X.P p E rs S) ((qv (tS X) _ _ _ _ _).bind (g:=λc _=>C3 S (some c)) λ_=>aP.const _) (λ_=>aP.const _),
   eG (g:=λc _=>C3 S (some c)) (qv (tS X) _ _ _ _ _) (λ_=>aP.const _),QW (tS X)]
  simp only[bf];rfl
theorem K9{fn:Func}{c:Code}{args:List AV}{cs:List aD}{n:Nat}{rs:List ResultVar}{p:aA}(y:X.ov=none)(A':X.BZ f=none)(I:X.P.funcs[f]?=some fn)(J:fn.body=some c)(A0:A5 c=true)(M:fn.ntmps=n)(O:fn.results.toList=rs)
 (T:X.fp f=p) (U:ga n p args cs=true):ag X f args cs=lh X f c (entry n X.gl args cs p.sites) [] (ED X p cs.length rs):=by
 subst T;subst M;subst O;unfold ag;rw[<-yw (bG X f args cs)];have V:(λk=>aO X (k+1) f args cs)=λk=>(kf X f (aO X k) k c (entry fn.ntmps X.gl args cs (X.fp f).sites) []).bind λq=>zi X (X.fp f) cs.length fn.results.toList (pR X k (aO X k)) (some q):=by
  funext k;rw[aO,y,A',I];simp only[J,A0,z8,z7];rw[aat (by simpa only[ga]using U),RG]
 rw[V,eG (g:=λq k=>zi X (X.fp f) cs.length fn.results.toList (pR X k (aO X k)) (some q)) (dmD c _ _) (λq=>Ig (tS X) _ _ _ q)];simp only[lh];congr 1;funext q;obtain⟨e,S1,A1⟩:=q;match A1 with
 |[]=>
  simp only[zi,ED,bf];cases e<;>rfl
 |[d]=>exact aaS _ _ _ _ _
 |_::_::_=>exact bf _
theorem RI{fn:Func}{c:Code}{args H:List AV}{D:AV}{cs:List aD}{n:Nat}{rs:List ResultVar}{p:aA}(I:X.P.funcs[f]?=some fn)(J:fn.body=some c)(M:fn.ntmps=n)(O:fn.results.toList=rs)
 (T:X.fp f=p) (A2:args.getLast?=some D) (A3:args.dropLast=H) (U:ga n p H cs=true):zx X f args cs=vT X f D c (entry n X.gl H cs p.sites) (It X.P p cs.length rs):=by
 subst T;subst M;subst O;subst A3;unfold zx;have V:(λk=>pR X k (aO X k) f args cs)=λk=>(qc X f (aO X k) k D c (entry fn.ntmps X.gl args.dropLast cs (X.fp f).sites)).bind λq=>Wc X.P (X.fp f) cs.length fn.results.toList (some q):=by
  funext k;simp only[pR,I,J,z6,A2];rw[aat (by simpa only[ga]using U),RC]
 rw[V,eG (Dg (bG X) f (m:=λk=>k) (λk=>alc k) D c _) (λ_=>aP.const _)];simp only[vT,bf];congr 1;funext q;obtain⟨e,S1⟩:=q;cases e<;>rfl
variable {k:Kt} {D:AV}
theorem aaT{a b:Code}:vT X f D (.seq a b) S k=vT X f D a S (JD X f b k):=by
 have h:Iq X f D (.seq a b) S=andThen (Iq X f D a S) (fW X f b):=
  zw (F:=λn=>qc X f (aO X n) n D a S) (K:=λW n=>den X f (aO X n) n b W) (Dg (bG X) f (m:=λk=>k) (λk=>alc k) D a S) (λW=>dm b W)
 simp only[vT,h,xl];congr 1;funext q;obtain⟨e,S1⟩:=q;cases e<;>rfl
theorem yA{id:Nat}{o:Oper}{r:List Oper}(h:yn o=true):vT X f D (.region id ⟨o::r⟩ false) S k=runK X (X.md f id) (o::r) r (S.put o.dst true D) (Dk X f id k):=by
 have A4:Iq X f D (.region id ⟨o::r⟩ false) S=zh (St.leave X f id) (eW X (ag X) (X.md f id) (o::r) r (S.put o.dst true D)):=by
  unfold Iq;have:(λk=>qc X f (aO X k) k D (.region id ⟨o::r⟩ false) S)=λk=>(eW X (aO X k) (X.md f id) (o::r) r (S.put o.dst true D)).bind λq=>mT (St.leave X f id) q:=by
   funext k;simp only[qc,h,acH,tg]
  rw[this,eG (mj (bG X) _ _ _) (λ_=>aP.const _),vR,tg];simp only[bf]
 simp only[vT,runK,A4];rcases eW X (ag X) (X.md f id) (o::r) r (S.put o.dst true D)with _|⟨e,S1⟩
 ·rfl
 ·cases e<;>rfl
end
def Ctx.over(X:Ctx)(E:bj):Ctx:={X with ov:=some E}
section
variable {X:Ctx} {E C:bj} {f:FuncId}
@[simp] theorem axR:(X.over E).P=X.P:=rfl
@[simp] theorem awf:(X.over E).gl=X.gl:=rfl
@[simp] theorem asK:(X.over E).sN=X.sN:=rfl
@[simp] theorem awg:(X.over E).gh=X.gh:=rfl
@[simp] theorem awh:(X.over E).md=X.md:=rfl
@[simp] theorem awi:(X.over E).fp=X.fp:=rfl
@[simp] theorem awj:(X.over E).od=X.od:=rfl
@[simp] theorem awk:(X.over E).fl=X.fl:=rfl
@[simp] theorem aqy:ag (X.over E)=E:=by
 funext g a c;unfold ag;rw[<-yw (bG (X.over E) g a c)];have:(λn=>aO (X.over E) (n+1) g a c)=λ_=>E g a c:=rfl;rw[this,bf]
theorem zz(md:Bool)(all:List Oper):∀(ops:List Oper)(S:St),eW (X.over E) C md all ops S=eW X C md all ops S
 |[],S=>rfl
 |o::r,S=>by
  have ih:eW (X.over E) C md all r=eW X C md all r:=funext (zz md all r);simp only[eW,ih];rfl
theorem La(md:Bool)(all:List Oper)(A1:List Nat):∀(ops:List Oper)(i:Nat)(S:St)(J:List bh),o7 (X.over E) md all A1 i ops S J=o7 X md all A1 i ops S J
 |[],i,S,J=>rfl
 |o::r,i,S,J=>by
  have ih:o7 (X.over E) md all A1 (i+1) r=o7 X md all A1 (i+1) r:=funext λS=>funext (La md all A1 r (i+1) S);simp only[o7,ih];rfl
theorem aaU(md:Bool)(I:Nat×List (List Nat))(all r:List Oper)(d:Option Nat)(J:List bh)(q:KD):Gu (X.over E) md I all r d J q=Gu X md I all r d J q:=by
 simp only[Gu,La]
theorem aaV(md:Bool)(I:Nat×List (List Nat))(all r:List Oper)(S:St)(o:Oper)(J:List bh)(k:St->List bh->Option (XE×St)):∀p,oe (X.over E) C md I all r S o J k p=oe X C md I all r S o J k p
 |some q=>aaU md I all r o.dst J q
 |none=>rfl
theorem FO(md:Bool)(I:Nat×List (List Nat))(all:List Oper):∀(ops:List Oper)(S:St)(J:List bh),gw (X.over E) C md I all ops S J=gw X C md I all ops S J
 |[],S,J=>rfl
 |o::r,S,J=>by
  have ih:gw (X.over E) C md I all r=gw X C md I all r:=funext λS=>funext (FO md I all r S);simp only[gw,ih,aaV];rfl
theorem Lc(md:Bool)(I:List (List Nat))(W:List Cl)(all:List Oper):∀(ops:List Oper)(S:St)(J:List bh),mh (X.over E) C md I W all ops S J=mh X C md I W all ops S J
 |[],S,J=>rfl
 |o::r,S,J=>by
  have ih:mh (X.over E) C md I W all r=mh X C md I W all r:=funext λS=>funext (Lc md I W all r S);simp only[mh,ih];cases kR (I.getD J.length []) r with
  |true=>simp only[Ju,zz]
  |false=>rfl
theorem aaW(md:Bool)(I:List (List Nat))(all:List Oper)(S:St)(fl:List (Nat×Nat)):r6 (X.over E) C md I all S fl=r6 X C md I all S fl:=by
 cases fl with
 |nil=>exact FO md _ all all S []
 |cons q r=>
  simp only[r6];cases fB S.mem (q::r)with
  |none=>rfl
  |some W=>exact Lc md I W all all S []
theorem ad2(n:Nat):∀(c:Code)(S:St),den (X.over E) f C n c S=den X f C n c S:=by
 intro c;induction c with
 |region id ops draw=>
  intro S;cases draw with
  |false=>simp only[den,zz];rfl
  |true=>simp only[den,aaW];rfl
 |seq a b V Y=>
  intro S;have h:den (X.over E) f C n b=den X f C n b:=funext Y;simp only[den,V,h]
 |cond c a b V Y=>intro S;simp only[den,V,Y]
 |block id c ih=>intro S;simp only[den,ih];rfl
 |loop c ih=>
  intro S;have h:den (X.over E) f C n c=den X f C n c:=funext ih;simp only[den,h]
 |_=>intro S;rfl
theorem alA{E A2:bj}(h:∀g a c r,E g a c=some r->A2 g a c=some r){n:Nat}{c:Code}{S:St}{r:XE×St}(O:den X f E n c S=some r):den X f A2 n c S=some r:=by
 have AH:fg λk=>if k=0 then E else A2:=by
  intro g a c k r A';by_cases A8:k=0
  ·subst A8;exact h g a c r A'
  ·simp only[A8,acw]at A';simpa using A'
 exact xk (X:=X) AH f (m:=λ_=>n) (λ_=>aad _) c S 0 r O
theorem aqz:∀(c:Code)(n:Nat)(S:St)(r:XE×St),den X f (ag X) n c S=some r->fW X f c S=some r:=by
 intro c;induction c with
 |region id ops draw=>
  intro n S r h;cases draw with
  |false=>rw[FN];exact h
  |true=>rw[K6];exact h
 |seq a b V Y=>
  intro n S r h;rw[Oe];simp only[den]at h;rcases gz h with ⟨S1,M,U⟩|⟨M,U⟩
  ·rw[V n S _ M];exact Y n S1 r U
  ·rw[V n S _ M];obtain⟨e,S1⟩:=r;cases e with
   |normal=>exact absurd rfl U
   |_=>rfl
 |cond c a b V Y=>
  intro n S r h;rw[K5];simp only[den]at h;revert h
  generalize S.au c=v;intro h;unfold Es at h⊢;split at h
  ·split at h
   ·rename_i A3;simp only[A3,acH];exact V n S r h
   ·rename_i A3;simp only[A3,acw];exact Y n S r h
  ·cases h
 |block id c ih=>
  intro n S r h;rw[Ik];simp only[den]at h;rcases Z:den X f (ag X) n c (S.enter X f id)with _|⟨q⟩
  ·rw[Z]at h;cases h
  ·rw[Z]at h;rw[ih n _ q Z];exact h
 |loop c ih=>
  intro n S r h;simp only[den]at h;have key:∀(j:Nat)(S:St)(r:XE×St),iter (den X f (ag X) n c) j S=some r->fW X f (.loop c) S=some r:=by
   intro j;induction j with
   |zero=>intro S r h;cases h
   |succ j AI=>
    intro S r h;rw[K7];simp only[iter]at h;rcases gz h with ⟨S1,M,U⟩|⟨M,U⟩
    ·rw[ih n S _ M];exact AI S1 r U
    ·rw[ih n S _ M];obtain⟨e,S1⟩:=r;cases e with
     |normal=>exact absurd rfl U
     |_=>rfl
  exact key n S r h
 |skip=>intro n S r h;rw[K3];exact h
 |exit id=>intro n S r h;rw[K4];exact h
 |ret=>intro n S r h;rw[Od];exact h
 |_=>intro n S r h;cases h
theorem aaX(h:∀g a c r,E g a c=some r->ag X g a c=some r){c:Code}{S:St}{r:XE×St}(O:fW (X.over E) f c S=some r):fW X f c S=some r:=by
 obtain⟨n,A9⟩:=(dV (dm (X:=X.over E) c S)).1 O;rw[ad2]at A9;refine aqz c n S r (alA ?_ A9);intro g a c r M;cases n with
 |zero=>cases M
 |succ n=>exact h g a c r M
theorem iV(h:∀g a c r,E g a c=some r->ag X g a c=some r){c:Code}{S:St}{k:Kt}{r:Out×List (Nat×aD)}(O:aZ (X.over E) f c S k=some r):aZ X f c S k=some r:=by
 simp only[aZ]at O⊢;cases Z:fW (X.over E) f c S with
 |none=>rw[Z]at O;cases O
 |some q=>rw[Z]at O;rw[aaX h Z];exact O
theorem agd{T:Type}(vz:T->FuncId)(args:T->List AV)(cs:T->List aD)(uF:Nat->T->bN)(A':∀t,uF 0 t=none)
 (AA:∀t A0,vz t=vz A0->args t=args A0->cs t=cs A0->∀f,uF f t=uF f A0)
 (AB:∀(f:Nat)(E:bj),(∀g a c r,E g a c=some r->ag X g a c=some r)->(∀t,E (vz t) (args t) (cs t)=uF f t)->(∀g,(∀t,g≠vz t)->∀a c,E g a c=ag X g a c)->
  ∀t r,uF (f+1) t=some r->ag X (vz t) (args t) (cs t)=some r):∀f t r,uF f t=some r->ag X (vz t) (args t) (cs t)=some r
 |0,t,r,h=>by rw[A']at h;cases h
 |f+1,t,r,h=>by
  have ih:=agd vz args cs uF A' AA AB f;classical
  refine AB f (λg a c=>if ∀t,g=vz t->a=args t->c=cs t->uF f t≠none then ag X g a c else none) ?_ ?_ ?_ t r h
  ·intro g a c r h;split at h
   ·exact h
   ·cases h
  ·intro t;cases A4:uF f t with
   |none=>
    show (if _ then _ else _)=_;rw[aab];intro h;exact h t rfl rfl rfl A4
   |some r=>
    show (if _ then _ else _)=_;rw[aat]
    ·exact ih t r A4
    ·intro A0 M U AJ AC;rw[<-AA t A0 M U AJ f,A4]at AC;cases AC
  ·intro g A5 a c;show (if _ then _ else _)=_;rw[aat];intro t M;exact absurd M (A5 t)
end
inductive PR(H D α:Type) where
 |ok (a:α) (s:D)
 |bad (e:H) (s:D)
 |out
section
variable {H D α β y:Type}
def PR.el(r:PR H D α)(f:α->D->Option β)(g:H->D->Option β):Option β:=
 match r with
 | .ok a s=>f a s
 | .bad e s=>g e s
 | .out=>none
@[simp] theorem EE{a:α}{s:D}{f:α->D->Option β}{g:H->D->Option β}:(PR.ok a s).el f g=f a s:=rfl
@[simp] theorem Dt{e:H}{s:D}{f:α->D->Option β}{g:H->D->Option β}:(PR.bad e s).el f g=g e s:=rfl
@[simp] theorem axT{f:α->D->Option β}{g:H->D->Option β}:(PR.out:PR H D α).el f g=none:=rfl
@[simp] theorem axU{c:Prop}[Decidable c]{a b:PR H D α}{f:α->D->Option β}{g:H->D->Option β}:(if c then a else b).el f g=if c then a.el f g else b.el f g:=by split<;>rfl
def PR.bind(r:PR H D α)(k:α->D->PR H D y):PR H D y:=
 match r with
 | .ok a s=>k a s
 | .bad e s=>.bad e s
 | .out=>.out
@[simp] theorem ir{a:α}{s:D}{k:α->D->PR H D y}:(PR.ok a s).bind k=k a s:=rfl
@[simp] theorem aug{e:H}{s:D}{k:α->D->PR H D y}:(PR.bad e s:PR H D α).bind k=.bad e s:=rfl
@[simp] theorem auh{k:α->D->PR H D y}:(PR.out:PR H D α).bind k=.out:=rfl
@[simp] theorem n7{r:PR H D α}{k:α->D->PR H D y}{f:y->D->Option β}{g:H->D->Option β}:(r.bind k).el f g=r.el (λa s=>(k a s).el f g) g:=by cases r<;>rfl
@[simp] theorem azq{r:PR H D α}{f:α->D->Option β}{g:H->D->Option β}:r.el (λa s=>f a s) (λe s=>g e s)=r.el f g:=rfl
theorem alC{A6:Nat}{b:Bool}{r:PR H D α}{f:α->D->bN}{g:H->D->bN}:sZ A6 b (r.el f g)=r.el (λa s=>sZ A6 b (f a s)) (λe s=>sZ A6 b (g e s)):=by cases r<;>rfl
theorem aiD{m:Mem}{A7:Nat}{ρ B:List Nat}{r:PR H D α}{f:α->D->bN}{g:H->D->bN}:gv m A7 ρ B (r.el f g)=r.el (λa s=>gv m A7 ρ B (f a s)) (λe s=>gv m A7 ρ B (g e s)):=by cases r<;>rfl
theorem ad3{X:Ctx}{md:Bool}{S:St}{d:Option Nat}{all q:List Oper}{k:Kt}{r:PR H D α}{f:α->D->Option gi}{g:H->D->Option gi}:tQ X md S d all q k (r.el f g)=r.el (λa s=>tQ X md S d all q k (f a s)) (λe s=>tQ X md S d all q k (g e s)):=by cases r<;>rfl
theorem aaY{X:Ctx}{md:Bool}{I:Nat×List (List Nat)}{S:St}{d:Option Nat}{all q:List Oper}{J:List bh}{k:Kt}{r:PR H D α}{f:α->D->Option gi}{g:H->D->Option gi}:nN X md I S d all q J k (r.el f g)=r.el (λa s=>nN X md I S d all q J k (f a s)) (λe s=>nN X md I S d all q J k (g e s)):=by cases r<;>rfl
def Le(a b:Option β):Prop:=∀r,a=some r->b=some r
theorem Le.refl(a:Option β):Le a a:=λ_ h=>h
theorem Le.of_eq{a b:Option β}(h:a=b):Le a b:=by subst h;exact Le.refl _
theorem Le.trans{a b c:Option β}(h:Le a b)(k:Le b c):Le a c:=λr O=>k r (h r O)
theorem Le.none{b:Option β}:Le none b:=λ_ h=>by cases h
theorem Le.el{r:PR H D α}{f AD:α->D->Option β}{g AE:H->D->Option β}(AK:∀a s,Le (f a s) (AD a s))(A5:∀e s,Le (g e s) (AE e s)):Le (r.el f g) (r.el AD AE):=by
 cases r with
 |ok a s=>exact AK a s
 |bad e s=>exact A5 e s
 |out=>exact Le.none
theorem Le.ite{c:Prop}[Decidable c]{a b AF AG:Option β}(h:c->Le a AF)(AL:¬c->Le b AG):Le (if c then a else b) (if c then AF else AG):=by
 split
 ·exact h ‹_›
 ·exact AL ‹_›
end
attribute [simp] dy.eq_1
attribute [simp] iy.eq_1
attribute [simp] jV.eq_1 jV.eq_2
attribute [simp] Go.Op.operands.eq_1 Go.Op.operands.eq_2 Go.Op.operands.eq_3 Go.Op.operands.eq_4 Go.Op.operands.eq_5 Go.Op.operands.eq_6 Go.Op.operands.eq_7 Go.Op.operands.eq_8 Go.Op.operands.eq_9 Go.Op.operands.eq_10 Go.Op.operands.eq_11 Go.Op.operands.eq_12 Go.Op.operands.eq_13 Go.Op.operands.eq_14 Go.Op.operands.eq_15 Go.Op.operands.eq_16 Go.Op.operands.eq_17 Go.Op.operands.eq_18 Go.Op.operands.eq_19 Go.Op.operands.eq_20 Go.Op.operands.eq_21 Go.Op.operands.eq_22 Go.Op.operands.eq_23 Go.Op.operands.eq_24 Go.Op.operands.eq_25 Go.Op.operands.eq_26 Go.Op.operands.eq_27 Go.Op.operands.eq_28 Go.Op.operands.eq_29 Go.Op.operands.eq_30 Go.Op.operands.eq_31 Go.Op.operands.eq_32 Go.Op.operands.eq_33 Go.Op.operands.eq_34 Go.Op.operands.eq_35 Go.Op.operands.eq_36 Go.Op.operands.eq_37 Go.Op.operands.eq_38 Go.Op.operands.eq_39 Go.Op.operands.eq_40 Go.Op.operands.eq_41 Go.Op.operands.eq_42 Go.Op.operands.eq_43
attribute [simp] St.au.eq_1 St.au.eq_2 St.au.eq_3 St.au.eq_4
attribute [simp] Env.lk.eq_1 Env.lk.eq_2
attribute [simp] St.put.eq_1 St.put.eq_2
attribute [simp] Mem.get.eq_1 Mem.get.eq_2
attribute [simp] Mem.set.eq_1 Mem.set.eq_2
attribute [simp] AV.nk.eq_1 AV.nk.eq_2 AV.nk.eq_3
attribute [simp] pH.eq_1 pH.eq_2 pH.eq_3 pH.eq_4 pH.eq_5 pH.eq_6
attribute [simp] AV.cells.eq_1 AV.cells.eq_2 AV.cells.eq_3
attribute [simp] oo.eq_1 oo.eq_2 oo.eq_3 oo.eq_4 oo.eq_5
attribute [simp] rN.eq_1 rN.eq_2 rN.eq_3
attribute [simp] rn.eq_1 kC.eq_1 kC.eq_2 kC.eq_3
attribute [simp] oP.eq_1 oP.eq_2
attribute [simp] um.eq_1 um.eq_2 um.eq_3 um.eq_4
attribute [simp] CD.eq_1 CD.eq_2 CD.eq_3 CD.eq_4
attribute [simp] sL.eq_1 sL.eq_2 sL.eq_3 sL.eq_4 sL.eq_5 sL.eq_6 sL.eq_7 sL.eq_8 sL.eq_9
attribute [simp] fZ.eq_1 fZ.eq_2 fZ.eq_3 fZ.eq_4 fZ.eq_5 fZ.eq_6 fZ.eq_7 fZ.eq_8 fZ.eq_9 fZ.eq_10 fZ.eq_11 fZ.eq_12 fZ.eq_13 fZ.eq_14 fZ.eq_15 fZ.eq_16
attribute [simp] oR.eq_1 oR.eq_2 oR.eq_3 oR.eq_4 oR.eq_5 oR.eq_6 oR.eq_7 oR.eq_8
attribute [simp] Md.eq_1
attribute [simp] wP.eq_1 wP.eq_2
attribute [simp] Hv.eq_1 Hv.eq_2
attribute [simp] rP.eq_1
attribute [simp] Eh.eq_1
def WH{α:Type}(y:α):Option (List α)->Option (List α)
 |some E=>some (y::E)
 |none=>none
@[simp] theorem aqA{α:Type}(y:α)(E:List α):WH y (some E)=some (y::E):=rfl
@[simp] theorem aqB{α:Type}(y:α):WH y none=none:=rfl
@[simp] theorem toDs_nil:toDs []=some []:=rfl
@[simp] theorem toDs_d(y r):toDs (.d y::r)=WH y (toDs r):=by
 cases h:toDs r with
 |none=>exact toDs.eq_3 _ _ (λ_ _ _ H=>by rw[h]at H;cases H)
 |some E=>exact toDs.eq_2 _ _ _ h
@[simp] theorem toDs_vec(a b c d r):toDs (.vec a b c d::r)=none:=by rw[toDs.eq_def]
@[simp] theorem toDs_lit(a r):toDs (.lit a::r)=none:=by rw[toDs.eq_def]
attribute [simp] vH.eq_1 vH.eq_2
attribute [simp] MZ.eq_1 MZ.eq_2 MZ.eq_3 MZ.eq_4
attribute [simp] np.eq_1 np.eq_2 np.eq_3 np.eq_4 np.eq_5 np.eq_6 VQ.eq_1
attribute [simp] qK.eq_1 qK.eq_2 qK.eq_3 qK.eq_4 qK.eq_5
attribute [simp] uZ.eq_1
attribute [simp] Cq.eq_1 VD.eq_1 VD.eq_2 adh.eq_1 adh.eq_2
attribute [simp] x5.eq_1 x5.eq_2
attribute [simp] iS.eq_1 iS.eq_2 iS.eq_3 iS.eq_4 iS.eq_5
attribute [simp] AL.eq_1
attribute [simp] AM.eq_1
attribute [simp] Jk.eq_1 Jk.eq_2
attribute [simp] pI.eq_1 pI.eq_2 pI.eq_3 pI.eq_4
attribute [simp] Hw.eq_1
attribute [simp] tJ.eq_1 tJ.eq_2
attribute [simp] me.eq_1
attribute [simp] uj.eq_1 uj.eq_2
attribute [simp] vI.eq_1 vI.eq_2
attribute [simp] ot.eq_1 ot.eq_2 ot.eq_3 ot.eq_4 ot.eq_5 ot.eq_6
attribute [simp] vG.eq_1
attribute [simp] ru.eq_1 ru.eq_2 ru.eq_3
attribute [simp] wQ.eq_1 wQ.eq_2 zS.eq_1 zS.eq_2 Ei.eq_1
attribute [simp] sM.eq_1 sM.eq_2 sM.eq_3 sM.eq_4
attribute [simp] mI.eq_1 mI.eq_2 mI.eq_3 mI.eq_4 mI.eq_5
attribute [simp] bound.eq_1 bound.eq_2 bound.eq_3
attribute [simp] bC.eq_1 bC.eq_2
attribute [simp] lq.eq_1 lq.eq_2 lq.eq_3 lq.eq_4 lq.eq_5 lq.eq_6 lq.eq_7 lq.eq_8 lq.eq_9 lq.eq_10 lq.eq_11 lq.eq_12
attribute [simp] D.cells.eq_1 D.cells.eq_2
attribute [simp] D.size.eq_1 D.size.eq_2
attribute [simp] D.flat.eq_1 D.flat.eq_2
attribute [simp] Jt.eq_1 Jt.eq_2 Jt.eq_3 Ep.eq_1 Ep.eq_2 CZ.eq_1 CZ.eq_2 Mf.eq_1 Mf.eq_2 ta.eq_1 ta.eq_2 V9.eq_1 V9.eq_2 A1.eq_1 A1.eq_2 A1.eq_3
attribute [simp] cJ.eq_1 cJ.eq_2
attribute [simp] dC.eq_1 dC.eq_2 qb.eq_1 jC.eq_1 Eo.eq_1 wa.eq_1 vi.eq_1
attribute [simp] collect.eq_1 collect.eq_2 collect.eq_3
attribute [simp] mQ.eq_1 mQ.eq_2
attribute [simp] w9.eq_1 w9.eq_2
attribute [simp] kq.eq_1 kq.eq_2 kq.eq_3 kq.eq_4 kq.eq_5 kq.eq_6 kq.eq_7 kq.eq_8 kq.eq_9 kq.eq_10 kq.eq_11 kq.eq_12
attribute [simp] pO.eq_1 pO.eq_2 pO.eq_3 pO.eq_4 pO.eq_5 pO.eq_6 pO.eq_7
attribute [simp] v8.eq_1 v8.eq_2 v8.eq_3 v8.eq_4
attribute [simp] ny.eq_1 ny.eq_2
attribute [simp] jb.eq_1 jb.eq_2 Fz.eq_1 Fz.eq_2
attribute [simp] qP.eq_1 qP.eq_2
attribute [simp] y8.eq_1 y8.eq_2 y8.eq_3
attribute [simp] y9.eq_1 y9.eq_2
attribute [simp] my.eq_1 my.eq_2
attribute [simp] gv.eq_1 gv.eq_2
attribute [simp] A0.eq_1 A0.eq_2
attribute [simp] CY.eq_1 CY.eq_2
attribute [simp] qp.eq_1 qp.eq_2 qp.eq_1 qp.eq_2
attribute [simp] nL.eq_1 nL.eq_2 nL.eq_3
attribute [simp] eo.eq_1 eo.eq_2 eo.eq_3 eo.eq_4 eo.eq_5 eo.eq_6 eo.eq_7 eo.eq_8 eo.eq_9 eo.eq_10 eo.eq_11 eo.eq_12
attribute [simp] ko.eq_1 ko.eq_2 ko.eq_3 ko.eq_4 ko.eq_5 ko.eq_6
attribute [simp] upO.eq_1 upO.eq_2
attribute [simp] up.eq_1 up.eq_2 up.eq_3 up.eq_4 up.eq_5 up.eq_6 up.eq_7 up.eq_8 up.eq_9 up.eq_10 up.eq_11 up.eq_12
attribute [simp] HG.eq_1 HG.eq_2 HG.eq_3
attribute [simp] jX.eq_1 jX.eq_2
attribute [simp] base.eq_1 base.eq_2
attribute [simp] bH.eq_1 bH.eq_2
attribute [simp] H0.eq_1 H0.eq_2
attribute [simp] Gh.go.eq_1 Gh.go.eq_2 Gh.go.eq_3 Gh.go.eq_4
attribute [simp] St.AZ.eq_1 Jv.eq_1 Jv.eq_2 xc.eq_1 xc.eq_2 adw.eq_1 adw.eq_2 x7.eq_1 x7.eq_2
attribute [simp] finish.eq_1
attribute [simp] wU.eq_1 wU.eq_2
attribute [simp] CK.eq_1 CK.eq_2
attribute [simp] sR.eq_1
attribute [simp] St.AR.eq_1
attribute [simp] zW.eq_1 zW.eq_2 zW.eq_3
attribute [simp] HK.eq_1 HK.eq_2
attribute [simp] ow.eq_1 ow.eq_2 ow.eq_3 ow.eq_4 ow.eq_5 ow.eq_6 ow.eq_7 ow.eq_8 ow.eq_9 ow.eq_10 ow.eq_11 ow.eq_12
attribute [simp] St.trim.eq_1
attribute [simp] qn.eq_1 qn.eq_2
attribute [simp] mapM.eq_1 mapM.eq_2
attribute [simp] sQ.eq_1 sQ.eq_2 sQ.eq_3
attribute [simp] nw.eq_1 nw.eq_2 nw.eq_3 nw.eq_4 nw.eq_5 nw.eq_6 nw.eq_7 nw.eq_8 nw.eq_9 nw.eq_10 nw.eq_11 nw.eq_12
attribute [simp] nX.eq_1 nX.eq_2
attribute [simp] oneOf.eq_1 oneOf.eq_2
attribute [simp] AV.norm.eq_1 AV.norm.eq_2 AV.norm.eq_3 AV.norm.eq_4
attribute [simp] toD1.eq_1 toD1.eq_2 toD1.eq_3 toD1.eq_4
attribute [simp] toDsN.eq_1 toDsN.eq_2
attribute [simp] vw.eq_1 vw.eq_2 vw.eq_3 vw.eq_4 vw.eq_5 vw.eq_6 vw.eq_7 vw.eq_8 vw.eq_9 vw.eq_10 vw.eq_11 vw.eq_12
attribute [simp] fa.eq_1 fa.eq_2
attribute [simp] TK.agg.eq_1 TK.agg.eq_2 TK.agg.eq_3
attribute [simp] tR.eq_1 tR.eq_2 tR.eq_3
attribute [simp] xn.eq_1 xn.eq_2 xn.eq_3
attribute [simp] Og.eq_1 Og.eq_2 Og.eq_3
attribute [simp] yz.eq_1 yz.eq_2 yz.eq_3
attribute [simp] tQ.eq_1 tQ.eq_2 tQ.eq_3
attribute [simp] Of.eq_1 Of.eq_2
attribute [simp] isB.eq_1 isB.eq_2
attribute [simp] Dl.eq_1 Dl.eq_2
attribute [simp] uX.eq_1
attribute [simp] wR.eq_1 Nh.eq_1 ZQ.eq_1 ZQ.eq_2 zeroOf.eq_1 zeroOf.eq_2 zeroOf.eq_3
attribute [simp] St.AS.eq_1 St.AS.eq_2
attribute [simp] vp.eq_1 vp.eq_2
attribute [simp] nr.eq_1 nr.eq_2
attribute [simp] pJ.eq_1 pJ.eq_2
attribute [simp] zU.eq_1 zU.eq_2
attribute [simp] wV.eq_1 wV.eq_2
attribute [simp] qL.eq_1 qL.eq_2
attribute [simp] nW.eq_1 nW.eq_2
attribute [simp] wY.eq_1 wY.eq_2
attribute [simp] wZ.eq_1 wZ.eq_2
attribute [simp] jh.eq_1 jh.eq_2
attribute [simp] ew.eq_1 ew.eq_2
attribute [simp] kS.eq_1 kS.eq_2 kS.eq_3
attribute [simp] q0.eq_1 q0.eq_2
attribute [simp] mi.eq_1
attribute [simp] ku.eq_1 HQ.eq_1 HQ.eq_2 HQ.eq_3
attribute [simp] v7.eq_1 v7.eq_2
attribute [simp] cg.eq_1 cg.eq_2 cg.eq_3 cg.eq_4
attribute [simp] xo.eq_1 xo.eq_2 xo.eq_3
attribute [simp] th.eq_1 th.eq_2 th.eq_3
attribute [simp] Ip.eq_1 Ip.eq_2 Ip.eq_3
attribute [simp] Dm.eq_1 Dm.eq_2 sd.eq_1 sd.eq_2 sd.eq_3 Ae.eq_1 Ae.eq_2 Ad.eq_1 Ad.eq_2
attribute [simp] nN.eq_1 nN.eq_2 nN.eq_3
attribute [simp] mM.eq_1 mM.eq_2 mM.eq_3 mM.eq_4 mM.eq_5 mM.eq_6 mM.eq_7 mM.eq_8 mM.eq_9 mM.eq_10 mM.eq_11 mM.eq_12
attribute [simp] qM.eq_1 qM.eq_2
attribute [simp] St.freeze.eq_1
attribute [simp] St.jY.eq_1
attribute [simp] Go.Call.operands.eq_1
attribute [simp] D.isByte.eq_1 D.isByte.eq_2
attribute [simp] wL.eq_1 wL.eq_2 wL.eq_3 wL.eq_4
attribute [simp] eT.eq_1 eT.eq_2 eT.eq_3
attribute [simp] Kb.eq_1 Kb.eq_2
attribute [simp] aaG aaH adX adY Wu Wv Ww QU aaI aiy aln alo alp alq alr als alu alv aiz aiA aiB aiC adZ ad0 alw alx aly ad1 aaJ Wx aaK Oh aaL Wy Wz WA
attribute [simp] Jr.eq_1 Jr.eq_2 sZ.eq_1 sZ.eq_2 dW.eq_1 dW.eq_2
attribute [simp] Io.eq_1 Io.eq_2
attribute [simp] Dp.eq_1 Dp.eq_2
attribute [simp] Bk.eq_1
attribute [simp] Env.kn.eq_1 Env.kn.eq_2 St.kn.eq_1
attribute [simp] oZ.eq_1 AX.eq_1 AX.eq_2 AX.eq_3 Jp.eq_1 Jp.eq_2 Jo.eq_1 Jo.eq_2 Dq.eq_1 Dq.eq_2 sV.eq_1
attribute [simp] o8.eq_1 o8.eq_2 qT.eq_1
@[simp] theorem axV(t:Bool):rY (some (true,.d (.bool t)))=.vu t:=rfl
@[simp] theorem axW:rY (some (true,.aY []))=.skip:=rfl
attribute [simp] nA.eq_1
attribute [simp] St.cz St.prune keyOf St.leave St.enter sS El Nt St.CJ HN ja ga entry dead eA nZ nY D.at D.cell D.setCells AU
attribute [simp] List.take_of_length_le
@[simp] def Code.at:Code->List Nat->Code
 |c,[]=>c
 | .seq a b,i::p=>if i=0 then Code.at a p else Code.at b p
 | .cond _ a b,i::p=>if i=0 then Code.at a p else Code.at b p
 | .block _ c,_::p=>Code.at c p
 | .loop c,_::p=>Code.at c p
 |c,_=>c
section
variable {X:Ctx} {T:bj} {md:Bool} {all:List Oper} {S:St}
@[simp] theorem ap9{d:Option Tmp}{op:Op}{ty:TypeId}{pos:String}{M:Array Edge}:ej X T md all S ⟨d,op,ty,pos,M,none⟩=eU X T S ⟨d,op,ty,pos,M,none⟩ (dy X.P S ⟨d,op,ty,pos,M,none⟩):=rfl
@[simp] theorem aui{I:List Nat}{i:Nat}{J:List bh}:o7 X md all I i [] S J=some (Dq J []):=by rw[EC,afV];rfl
theorem aaZ{I:List Nat}{i:Nat}{o:Oper}{r:List Oper}{J:List bh}:o7 X md all I i (o::r) S J=if I.contains i=true then (match ej X (λ_ _ _=>none) md all S o with
 |some (S1,p)=>o7 X md all I (i+1) r S1 (p::J)
 |none=>none)else o7 X md all I (i+1) r (S.put o.dst false .bu) (⟨[],[],false,.bu⟩::J):=by
 simp only[o7];cases I.contains i<;>rfl
end
attribute [simp] aaZ eU.eq_1 eU.eq_2 eU.eq_3 Gu.eq_1 Wa.eq_1 Wa.eq_2 hZ.eq_1 hZ.eq_2 hP.eq_1 hP.eq_2 lL.eq_1 lL.eq_2 St.kill.eq_1 Jq.eq_1 Jq.eq_2 CU.eq_1 CU.eq_2
attribute [simp] alC aiD ad3 aaY
section
variable {U O α:Type} {X:Ctx} {md:Bool} {V:Nat×List (List Nat)} {S:St} {d:Option Nat} {all q:List Oper} {J:List bh} {k:Kt} {r:PR U O α} {f:α->O->Option gi} {g:U->O->Option gi}
end
attribute [simp] aaO WB aaP WC WD QV WE aaQ aaR WG
attribute [simp] Ir.eq_1 JE.eq_1 Oi.eq_1 Mj.eq_1 Mj.eq_2 ED.eq_1 ED.eq_2 Wd.eq_1 Wd.eq_2 C3.eq_1 Gv.eq_1 Gv.eq_2 Gv.eq_3 vM.eq_1 aaT It.eq_1 It.eq_2
section
variable {X:Ctx} {f:FuncId} {S:St} {E:List DF} {H:Dr} {b:Code}
@[simp] theorem awl:Ir X f b H .ret S E=H .ret S E:=rfl
@[simp] theorem awm{t:TypeId}{x:D}:Ir X f b H (.panic t x) S E=H (.panic t x) S E:=rfl
@[simp] theorem awn{i:Nat}:Ir X f b H (.exit i) S E=H (.exit i) S E:=rfl
@[simp] theorem asL{id:Nat}{t:TypeId}{x:D}:JE X f id H (.panic t x) S E=H (.panic t x) S E:=rfl
@[simp] theorem auj{md:Bool}{all r:List Oper}{t:TypeId}{x:D}:Oi X md all r E H (.panic t x) S=H (.panic t x) S E:=rfl
end
@[simp] theorem aj8:ny none=[]:=rfl
@[simp] theorem aj9(k v:Nat):ny (some ⟨k,v,.dead⟩)=[]:=rfl
@[simp] theorem alD(k v:Nat)(cs:List AV):ny (some ⟨k,v,.box cs⟩)=nW cs:=rfl
@[simp] theorem alE(k v sz:Nat)(aj:List D):ny (some ⟨k,v,.vec sz aj⟩)=[]:=rfl
@[simp] theorem alF(k v:Nat)(aj:List (List D)):ny (some ⟨k,v,.vv aj none⟩)=[]:=rfl
@[simp] theorem aqa(k v:Nat)(aj:List (List D))(x:AV):ny (some ⟨k,v,.vv aj (some x)⟩)=kq x:=rfl
@[simp] theorem awo(m ρ bor nv aj y):y8 m ρ bor nv (.vv aj y)=.vv aj (y.map (vw m ρ bor nv)):=rfl
@[simp] theorem asM(aj y):nL (.vv aj y)=(aj.all pJ&&(match y with|none=>true|some x=>eo x)):=rfl
@[simp] theorem axX(ρ bs aj y):HG ρ bs (.vv aj y)=.vv aj (y.map (up ρ bs)):=rfl
@[simp] theorem awp(I aj y):sQ I (.vv aj y)=.vv aj (y.map I):=rfl
@[simp] theorem auk{H:Nat}{b:Bool}{c:Prop}[Decidable c]{x y:Option (Out×List (Nat×aD))}:sZ H b (if c then x else y)=if c then sZ H b x else sZ H b y:=by split<;>rfl
@[simp] theorem aka(P t E len ps):oS P t E len ps none=none:=by
 unfold oS;split<;>simp_all
@[simp] theorem alG(P t E len p q r o):oS P t E len (p::q::r) o=none:=by
 unfold oS;split<;>simp_all
@[simp] theorem alH(P t E len k v c):oS P t E len [(0,.lit (.slice none 0 0))] (some ⟨k,v,c⟩)=(match tk P t with
 | .slice e=>match gr P e,oM P e with
  |some sz,some _=>some (.dq (sz=1/\len=1) (.vec E (v+1) 0 1) ⟨E,v+1,.box [.lit (.slice none 0 0)]⟩)
  |_,_=>none
 |_=>none):=rfl
attribute [simp] tK.eq_1
attribute [simp] Ho.eq_1 AI.eq_1
attribute [simp] Gh.go St.ef.eq_1 St.cls.eq_1 St.shut.eq_1 St.uz.eq_1
end Go.Am
end
section
namespace Go.Am
open Go
open Go.Proofs
abbrev T2(t:Nat)(k:TK)(s:Nat):Prop:=tk Tryz.prog t=k/\gr Tryz.prog t=some s
abbrev T3(t:Nat)(k:TK)(s:Nat)(z:List AV):Prop:=T2 t k s/\xY Tryz.prog t=some z
abbrev T5(t:Nat)(k:TK)(s:Nat)(z:List AV)(b:Nat)(d:D):Prop:=T3 t k s z/\Cn Tryz.prog t=some b/\oM Tryz.prog t=some d
abbrev FF(t i o y:Nat):Prop:=AF Tryz.prog t i=some o/\Ni Tryz.prog t i=some y
@[simp] theorem az0:T5 2 (.int .i64) 1 ([.d (.int .i64 0)]) 8 (.int .i64 0):=by and_intros<;>kernel_rfl
@[simp] theorem az1:T5 3 (.int .i64) 1 ([.d (.int .i64 0)]) 8 (.int .i64 0):=by and_intros<;>kernel_rfl
@[simp] theorem az2:T5 4 (.bool) 1 ([.d (.bool false)]) 1 (.bool false):=by and_intros<;>kernel_rfl
@[simp] theorem az3:T5 5 (.int .u8) 1 ([.d (.int .u8 0)]) 1 (.int .u8 0):=by and_intros<;>kernel_rfl
@[simp] theorem az4:T5 9 (.str) 1 ([.d (.str [])]) 16 (.str []):=by and_intros<;>kernel_rfl
@[simp] theorem azr:T2 20 (.iface) 1:=by and_intros<;>kernel_rfl
@[simp] theorem azs:T5 22 (.slice 64) 1 ([.lit (.slice none 0 0)]) 24 (.list []):=by and_intros<;>kernel_rfl
@[simp] theorem aul:lD Tryz.prog 22=true:=by kernel_rfl
@[simp] theorem azt:T5 23 (.slice 119) 1 ([.lit (.slice none 0 0)]) 24 (.list []):=by and_intros<;>kernel_rfl
@[simp] theorem aum:lD Tryz.prog 23=true:=by kernel_rfl
@[simp] theorem azu:T5 25 (.struct) 3 ([.d (.str []),.lit (.slice none 0 0),.lit (.slice none 0 0)]) 64 (.agg ([.str [],.list [],.list []])):=by and_intros<;>kernel_rfl
@[simp] theorem awq:FF 25 0 0 9:=by and_intros<;>kernel_rfl
@[simp] theorem awr:FF 25 1 1 22:=by and_intros<;>kernel_rfl
@[simp] theorem aws:FF 25 2 2 23:=by and_intros<;>kernel_rfl
@[simp] theorem asN:im Tryz.prog 25=some [(0,1),(1,1),(2,1)]:=by kernel_rfl
@[simp] theorem azv:T5 26 (.slice 2) 1 ([.lit (.slice none 0 0)]) 24 (.list []):=by and_intros<;>kernel_rfl
@[simp] theorem aun:lD Tryz.prog 26=true:=by kernel_rfl
@[simp] theorem azw:T5 32 (.slice 49) 1 ([.lit (.slice none 0 0)]) 24 (.list []):=by and_intros<;>kernel_rfl
@[simp] theorem auo:lD Tryz.prog 32=true:=by kernel_rfl
@[simp] theorem azx:T5 34 (.struct) 3 ([.lit (.slice none 0 0),.d (.int .i64 0),.d (.int .i64 0)]) 40 (.agg ([.list [],.int .i64 0,.int .i64 0])):=by and_intros<;>kernel_rfl
@[simp] theorem awt:FF 34 0 0 32:=by and_intros<;>kernel_rfl
@[simp] theorem awu:FF 34 1 1 3:=by and_intros<;>kernel_rfl
@[simp] theorem awv:FF 34 2 2 3:=by and_intros<;>kernel_rfl
@[simp] theorem asO:im Tryz.prog 34=some [(0,1),(1,1),(2,1)]:=by kernel_rfl
@[simp] theorem azy:T5 35 (.int .i64) 1 ([.d (.int .i64 0)]) 8 (.int .i64 0):=by and_intros<;>kernel_rfl
@[simp] theorem azz:T5 49 (.struct) 5 ([.d (.int .i64 0),.d (.int .i64 0),.d (.int .i64 0),.d (.int .i64 0),.d (.int .i64 0)]) 40 (.agg ([.int .i64 0,.int .i64 0,.int .i64 0,.int .i64 0,.int .i64 0])):=by and_intros<;>kernel_rfl
@[simp] theorem aww:FF 49 0 0 3:=by and_intros<;>kernel_rfl
@[simp] theorem awx:FF 49 1 1 3:=by and_intros<;>kernel_rfl
@[simp] theorem awy:FF 49 2 2 3:=by and_intros<;>kernel_rfl
@[simp] theorem awz:FF 49 3 3 2:=by and_intros<;>kernel_rfl
@[simp] theorem awA:FF 49 4 4 2:=by and_intros<;>kernel_rfl
@[simp] theorem asP:im Tryz.prog 49=some [(0,1),(1,1),(2,1),(3,1),(4,1)]:=by kernel_rfl
@[simp] theorem azA:T5 55 (.struct) 5 ([.d (.int .i64 0),.d (.str []),.d (.int .i64 0),.d (.int .i64 0),.d (.int .i64 0)]) 48 (.agg ([.int .i64 0,.str [],.int .i64 0,.int .i64 0,.int .i64 0])):=by and_intros<;>kernel_rfl
@[simp] theorem awB:FF 55 0 0 3:=by and_intros<;>kernel_rfl
@[simp] theorem awC:FF 55 1 1 9:=by and_intros<;>kernel_rfl
@[simp] theorem awD:FF 55 2 2 2:=by and_intros<;>kernel_rfl
@[simp] theorem awE:FF 55 3 3 3:=by and_intros<;>kernel_rfl
@[simp] theorem awF:FF 55 4 4 3:=by and_intros<;>kernel_rfl
@[simp] theorem asQ:im Tryz.prog 55=some [(0,1),(1,1),(2,1),(3,1),(4,1)]:=by kernel_rfl
@[simp] theorem azB:T5 64 (.struct) 8 ([.d (.str []),.d (.int .i64 0),.d (.int .i64 0),.d (.bool false),.d (.int .i64 0),.d (.int .i64 0),.d (.int .i64 0),.d (.int .i64 0)]) 72 (.agg ([.str [],.int .i64 0,.int .i64 0,.bool false,.int .i64 0,.int .i64 0,.int .i64 0,.int .i64 0])):=by and_intros<;>kernel_rfl
@[simp] theorem awG:FF 64 0 0 9:=by and_intros<;>kernel_rfl
@[simp] theorem awH:FF 64 1 1 3:=by and_intros<;>kernel_rfl
@[simp] theorem awI:FF 64 2 2 3:=by and_intros<;>kernel_rfl
@[simp] theorem awJ:FF 64 3 3 4:=by and_intros<;>kernel_rfl
@[simp] theorem awK:FF 64 4 4 2:=by and_intros<;>kernel_rfl
@[simp] theorem awL:FF 64 5 5 2:=by and_intros<;>kernel_rfl
@[simp] theorem awM:FF 64 6 6 2:=by and_intros<;>kernel_rfl
@[simp] theorem awN:FF 64 7 7 3:=by and_intros<;>kernel_rfl
@[simp] theorem asR:im Tryz.prog 64=some [(0,1),(1,1),(2,1),(3,1),(4,1),(5,1),(6,1),(7,1)]:=by kernel_rfl
@[simp] theorem azC:T5 70 (.slice 3) 1 ([.lit (.slice none 0 0)]) 24 (.list []):=by and_intros<;>kernel_rfl
@[simp] theorem aup:lD Tryz.prog 70=true:=by kernel_rfl
@[simp] theorem azD:T5 72 (.struct) 3 ([.lit (.slice none 0 0),.d (.int .i64 0),.lit (.slice none 0 0)]) 56 (.agg ([.list [],.int .i64 0,.list []])):=by and_intros<;>kernel_rfl
@[simp] theorem awO:FF 72 0 0 70:=by and_intros<;>kernel_rfl
@[simp] theorem awP:FF 72 1 1 3:=by and_intros<;>kernel_rfl
@[simp] theorem awQ:FF 72 2 2 26:=by and_intros<;>kernel_rfl
@[simp] theorem azE:T2 74 (.ptr 77) 1:=by and_intros<;>kernel_rfl
@[simp] theorem azF:T5 75 (.slice 70) 1 ([.lit (.slice none 0 0)]) 24 (.list []):=by and_intros<;>kernel_rfl
@[simp] theorem auq:lD Tryz.prog 75=true:=by kernel_rfl
@[simp] theorem azG:T5 77 (.struct) 9 ([.d (.str []),.lit (.slice none 0 0),.lit (.slice none 0 0),.lit (.slice none 0 0),.d (.int .i64 0),.d (.int .i64 0),.d (.int .i64 0),.lit (.slice none 0 0),.lit (.slice none 0 0)]) 160 (.agg ([.str [],.list [],.list [],.list [],.int .i64 0,.int .i64 0,.int .i64 0,.list [],.list []])):=by and_intros<;>kernel_rfl
@[simp] theorem awR:FF 77 0 0 25:=by and_intros<;>kernel_rfl
@[simp] theorem awS:FF 77 1 3 32:=by and_intros<;>kernel_rfl
@[simp] theorem awT:FF 77 2 4 3:=by and_intros<;>kernel_rfl
@[simp] theorem awU:FF 77 3 5 3:=by and_intros<;>kernel_rfl
@[simp] theorem awV:FF 77 4 6 3:=by and_intros<;>kernel_rfl
@[simp] theorem awW:FF 77 5 7 75:=by and_intros<;>kernel_rfl
@[simp] theorem awX:FF 77 6 8 70:=by and_intros<;>kernel_rfl
@[simp] theorem asS:im Tryz.prog 77=some [(0,3),(3,1),(4,1),(5,1),(6,1),(7,1),(8,1)]:=by kernel_rfl
@[simp] theorem azH:T5 96 (.slice 150) 1 ([.lit (.slice none 0 0)]) 24 (.list []):=by and_intros<;>kernel_rfl
@[simp] theorem axY:T5 112 (.slice 114) 1 ([.lit (.slice none 0 0)]) 24 (.list []):=by and_intros<;>kernel_rfl
@[simp] theorem asT:lD Tryz.prog 112=true:=by kernel_rfl
@[simp] theorem axZ:T5 114 (.struct) 6 ([.d (.int .i64 0),.d (.int .i64 0),.d (.str []),.d (.str []),.lit (.slice none 0 0),.d (.int .i64 0)]) 80 (.agg ([.int .i64 0,.int .i64 0,.str [],.str [],.list [],.int .i64 0])):=by and_intros<;>kernel_rfl
@[simp] theorem aur:FF 114 0 0 3:=by and_intros<;>kernel_rfl
@[simp] theorem aus:FF 114 1 1 2:=by and_intros<;>kernel_rfl
@[simp] theorem aut:FF 114 2 2 9:=by and_intros<;>kernel_rfl
@[simp] theorem auu:FF 114 3 3 9:=by and_intros<;>kernel_rfl
@[simp] theorem auv:FF 114 4 4 112:=by and_intros<;>kernel_rfl
@[simp] theorem auw:FF 114 5 5 3:=by and_intros<;>kernel_rfl
@[simp] theorem aqC:im Tryz.prog 114=some [(0,1),(1,1),(2,1),(3,1),(4,1),(5,1)]:=by kernel_rfl
@[simp] theorem ax0:T5 115 (.slice 26) 1 ([.lit (.slice none 0 0)]) 24 (.list []):=by and_intros<;>kernel_rfl
@[simp] theorem asU:lD Tryz.prog 115=true:=by kernel_rfl
@[simp] theorem ax1:T5 116 (.slice 9) 1 ([.lit (.slice none 0 0)]) 24 (.list []):=by and_intros<;>kernel_rfl
@[simp] theorem asV:lD Tryz.prog 116=true:=by kernel_rfl
@[simp] theorem ax2:T5 117 (.slice 23) 1 ([.lit (.slice none 0 0)]) 24 (.list []):=by and_intros<;>kernel_rfl
@[simp] theorem asW:lD Tryz.prog 117=true:=by kernel_rfl
@[simp] theorem ax3:T5 119 (.struct) 19 ([.d (.int .i64 0),.d (.str []),.d (.int .i64 0),.d (.int .i64 0),.d (.str []),.d (.str []),.lit (.slice none 0 0),.d (.int .i64 0),.d (.int .i64 0),.d (.int .i64 0),.d (.str []),.d (.str []),.lit (.slice none 0 0),.d (.int .i64 0),.lit (.slice none 0 0),.lit (.slice none 0 0),.lit (.slice none 0 0),.lit (.slice none 0 0),.d (.int .i64 0)]) 288 (.agg ([.int .i64 0,.str [],.int .i64 0,.int .i64 0,.str [],.str [],.list [],.int .i64 0,.int .i64 0,.int .i64 0,.str [],.str [],.list [],.int .i64 0,.list [],.list [],.list [],.list [],.int .i64 0])):=by and_intros<;>kernel_rfl
@[simp] theorem auy:FF 119 0 0 3:=by and_intros<;>kernel_rfl
@[simp] theorem auz:FF 119 1 1 9:=by and_intros<;>kernel_rfl
@[simp] theorem auA:FF 119 2 2 114:=by and_intros<;>kernel_rfl
@[simp] theorem auB:FF 119 3 8 114:=by and_intros<;>kernel_rfl
@[simp] theorem auC:FF 119 4 14 112:=by and_intros<;>kernel_rfl
@[simp] theorem auD:FF 119 5 15 115:=by and_intros<;>kernel_rfl
@[simp] theorem auE:FF 119 6 16 116:=by and_intros<;>kernel_rfl
@[simp] theorem auF:FF 119 7 17 117:=by and_intros<;>kernel_rfl
@[simp] theorem auG:FF 119 8 18 3:=by and_intros<;>kernel_rfl
@[simp] theorem aqD:im Tryz.prog 119=some [(0,1),(1,1),(2,6),(8,6),(14,1),(15,1),(16,1),(17,1),(18,1)]:=by kernel_rfl
@[simp] theorem ax4:T5 123 (.slice 4) 1 ([.lit (.slice none 0 0)]) 24 (.list []):=by and_intros<;>kernel_rfl
@[simp] theorem asX:lD Tryz.prog 123=true:=by kernel_rfl
@[simp] theorem ax5:T5 125 (.struct) 5 ([.lit (.slice none 0 0),.d (.int .i64 0),.d (.int .i64 0),.lit (.slice none 0 0),.lit (.slice none 0 0)]) 88 (.agg ([.list [],.int .i64 0,.int .i64 0,.list [],.list []])):=by and_intros<;>kernel_rfl
@[simp] theorem auH:FF 125 0 0 34:=by and_intros<;>kernel_rfl
@[simp] theorem auI:FF 125 1 3 123:=by and_intros<;>kernel_rfl
@[simp] theorem auJ:FF 125 2 4 123:=by and_intros<;>kernel_rfl
@[simp] theorem aqE:im Tryz.prog 125=some [(0,3),(3,1),(4,1)]:=by kernel_rfl
@[simp] theorem ax6:T5 150 (.struct) 3 ([.d (.str []),.d (.int .i64 0),.d (.bool false)]) 32 (.agg ([.str [],.int .i64 0,.bool false])):=by and_intros<;>kernel_rfl
@[simp] theorem auK:FF 150 0 0 9:=by and_intros<;>kernel_rfl
@[simp] theorem auL:FF 150 1 1 3:=by and_intros<;>kernel_rfl
@[simp] theorem auM:FF 150 2 2 4:=by and_intros<;>kernel_rfl
@[simp] theorem aqF:im Tryz.prog 150=some [(0,1),(1,1),(2,1)]:=by kernel_rfl
@[simp] theorem ax7:T5 153 (.struct) 5 ([.d (.int .i64 0),.d (.str []),.d (.str []),.d (.str []),.d (.int .i64 0)]) 64 (.agg ([.int .i64 0,.str [],.str [],.str [],.int .i64 0])):=by and_intros<;>kernel_rfl
@[simp] theorem auN:FF 153 0 0 3:=by and_intros<;>kernel_rfl
@[simp] theorem auO:FF 153 1 1 9:=by and_intros<;>kernel_rfl
@[simp] theorem auP:FF 153 2 2 9:=by and_intros<;>kernel_rfl
@[simp] theorem auQ:FF 153 3 3 9:=by and_intros<;>kernel_rfl
@[simp] theorem auR:FF 153 4 4 3:=by and_intros<;>kernel_rfl
@[simp] theorem aqG:im Tryz.prog 153=some [(0,1),(1,1),(2,1),(3,1),(4,1)]:=by kernel_rfl
@[simp] theorem ax8:T5 157 (.slice 55) 1 ([.lit (.slice none 0 0)]) 24 (.list []):=by and_intros<;>kernel_rfl
@[simp] theorem asY:lD Tryz.prog 157=true:=by kernel_rfl
@[simp] theorem ax9:T5 161 (.struct) 6 ([.d (.int .i64 0),.d (.int .i64 0),.d (.str []),.d (.int .i64 0),.d (.int .i64 0),.d (.int .i64 0)]) 56 (.agg ([.int .i64 0,.int .i64 0,.str [],.int .i64 0,.int .i64 0,.int .i64 0])):=by and_intros<;>kernel_rfl
@[simp] theorem auS:FF 161 0 0 35:=by and_intros<;>kernel_rfl
@[simp] theorem auT:FF 161 1 1 55:=by and_intros<;>kernel_rfl
@[simp] theorem aqH:im Tryz.prog 161=some [(0,1),(1,5)]:=by kernel_rfl
@[simp] theorem aya:T5 165 (.struct) 4 ([.lit (.slice none 0 0),.d (.int .i64 0),.d (.int .i64 0),.lit (.slice none 0 0)]) 64 (.agg ([.list [],.int .i64 0,.int .i64 0,.list []])):=by and_intros<;>kernel_rfl
@[simp] theorem auU:FF 165 0 0 157:=by and_intros<;>kernel_rfl
@[simp] theorem auV:FF 165 1 1 3:=by and_intros<;>kernel_rfl
@[simp] theorem auW:FF 165 2 2 3:=by and_intros<;>kernel_rfl
@[simp] theorem auX:FF 165 3 3 22:=by and_intros<;>kernel_rfl
@[simp] theorem aqI:im Tryz.prog 165=some [(0,1),(1,1),(2,1),(3,1)]:=by kernel_rfl
@[simp] theorem ayb:T5 177 (.struct) 2 ([.lit (.slice none 0 0),.d (.int .i64 0)]) 32 (.agg ([.list [],.int .i64 0])):=by and_intros<;>kernel_rfl
@[simp] theorem auY:FF 177 0 0 22:=by and_intros<;>kernel_rfl
@[simp] theorem auZ:FF 177 1 1 3:=by and_intros<;>kernel_rfl
@[simp] theorem aqJ:im Tryz.prog 177=some [(0,1),(1,1)]:=by kernel_rfl
@[simp] theorem ayc:T5 202 (.slice 153) 1 ([.lit (.slice none 0 0)]) 24 (.list []):=by and_intros<;>kernel_rfl
@[simp] theorem ayd:T5 211 (.struct) 4 ([.d (.str []),.d (.int .i64 0),.d (.int .i64 0),.d (.int .i64 0)]) 40 (.agg ([.str [],.int .i64 0,.int .i64 0,.int .i64 0])):=by and_intros<;>kernel_rfl
@[simp] theorem au0:FF 211 0 0 9:=by and_intros<;>kernel_rfl
@[simp] theorem au1:FF 211 1 1 3:=by and_intros<;>kernel_rfl
@[simp] theorem au2:FF 211 2 2 3:=by and_intros<;>kernel_rfl
@[simp] theorem au3:FF 211 3 3 3:=by and_intros<;>kernel_rfl
@[simp] theorem aqK:im Tryz.prog 211=some [(0,1),(1,1),(2,1),(3,1)]:=by kernel_rfl
@[simp] theorem aye:T5 233 (.struct) 2 ([.d (.int .i64 0),.d (.int .i64 0)]) 16 (.agg ([.int .i64 0,.int .i64 0])):=by and_intros<;>kernel_rfl
@[simp] theorem au4:FF 233 0 0 35:=by and_intros<;>kernel_rfl
@[simp] theorem au5:FF 233 1 1 3:=by and_intros<;>kernel_rfl
@[simp] theorem aqL:im Tryz.prog 233=some [(0,1),(1,1)]:=by kernel_rfl
@[simp] theorem ayf:T5 289 (.struct) 2 ([.d (.str []),.d (.int .i64 0)]) 24 (.agg ([.str [],.int .i64 0])):=by and_intros<;>kernel_rfl
@[simp] theorem au6:FF 289 0 0 9:=by and_intros<;>kernel_rfl
@[simp] theorem au7:FF 289 1 1 2:=by and_intros<;>kernel_rfl
@[simp] theorem aqM:im Tryz.prog 289=some [(0,1),(1,1)]:=by kernel_rfl
@[simp] theorem ayg:T5 290 (.slice 289) 1 ([.lit (.slice none 0 0)]) 24 (.list []):=by and_intros<;>kernel_rfl
@[simp] theorem ayh:T5 293 (.struct) 9 ([.d (.int .i64 0),.d (.str []),.d (.int .i64 0),.d (.int .i64 0),.d (.int .i64 0),.d (.int .i64 0),.d (.bool false),.d (.int .i64 0),.d (.int .i64 0)]) 80 (.agg ([.int .i64 0,.str [],.int .i64 0,.int .i64 0,.int .i64 0,.int .i64 0,.bool false,.int .i64 0,.int .i64 0])):=by and_intros<;>kernel_rfl
@[simp] theorem au8:FF 293 0 0 55:=by and_intros<;>kernel_rfl
@[simp] theorem au9:FF 293 1 5 3:=by and_intros<;>kernel_rfl
@[simp] theorem ava:FF 293 2 6 4:=by and_intros<;>kernel_rfl
@[simp] theorem avb:FF 293 3 7 2:=by and_intros<;>kernel_rfl
@[simp] theorem avc:FF 293 4 8 2:=by and_intros<;>kernel_rfl
@[simp] theorem aqN:im Tryz.prog 293=some [(0,5),(5,1),(6,1),(7,1),(8,1)]:=by kernel_rfl
@[simp] theorem ayi:T5 298 (.int .u64) 1 ([.d (.int .u64 0)]) 8 (.int .u64 0):=by and_intros<;>kernel_rfl
@[simp] theorem ayj:T5 344 (.slice 116) 1 ([.lit (.slice none 0 0)]) 24 (.list []):=by and_intros<;>kernel_rfl
end Go.Am
end
section
namespace Go.Am
open Go
def Oj:List D->Option D
 |[.str s,.str t]=>if s.length<4294967281 then some (.int .i64 (Go.Lib.index s t))else none
 |_=>none
def ibO:List D->Option D
 |[.str s,.int .u8 c]=>some (.int .i64 (Go.Lib.indexByte s c.toNat.toUInt8))
 |_=>none
def hpO:List D->Option D
 |[.str s,.str p]=>some (.bool (Go.Lib.hasPrefix s p))
 |_=>none
attribute [simp] Oj.eq_1 ibO.eq_1 hpO.eq_1
end Go.Am
end
